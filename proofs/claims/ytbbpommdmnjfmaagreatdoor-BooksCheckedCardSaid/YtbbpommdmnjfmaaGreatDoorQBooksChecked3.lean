/- Part 3 of the proof: a program logic, contracts of functions and plain facts; no conditions. -/
import Derived.Test.YtbbpommdmnjfmaaGreatDoorQBooksChecked2
import Derived.Ground.Names2Prog
import Derived.Lib.AppendStr
import Derived.Lib.Join
import Derived.Lib.SplitLaws
import Derived.Lib.UnsafeStr
import Derived.Shelf.SlMaps.Clone
import Derived.Shelf.Slices.CompactS
import Derived.Shelf.Slices.Delete
import Derived.Shelf.Small.Wraps
import Derived.Shelf.Sort.Plain
import Derived.Shelf.Strconv.Atoi
import Derived.Shelf.Strconv.Itoa3
import Derived.Shelf.Strings.Builder1
import Derived.Shelf.Strings.Cut
import Derived.Shelf.Strings.FieldsFuncAny
import Derived.Shelf.Strings.OnBuilder
import Derived.Shelf.Strings.Prefix
import Derived.Shelf.Strings.Search3
import Derived.Shelf.Strings.Split
import Derived.Shelf.Unicode.ValidAny
import Derived.Test.YtbbpommdmnjfmaaGreatDoorProg
set_option linter.unusedVariables false
set_option linter.unusedSimpArgs false
set_option maxHeartbeats 16000000
namespace Go.HL
section
open Op
structure BookS where
 League:LeagueS
 Moves:List MoveS
 Plays:List Play
 Mends:List MendS
 Health:List HealthS
 Choices:List ChoiceS
abbrev zsS (b:BookS):List HVal:=[zbd b.League.Players,zbZ b.League.Stints,zeo b.League.Fixtures,zdk b.League.Rules,zgq b.League.Slots,.int .i64 b.League.Bounds.Most,.int .i64 b.League.Bounds.Hurt,.int .i64 b.League.Bounds.Adds,.int .i64 b.League.Bounds.Hold,
 eSs b.League.Teams,zdN b.League.Games,eIs b.League.Breaks,eSs b.League.Trust,.int .i64 b.League.Start,zbB b.Moves,zbk b.Plays,zbj b.Mends,za1 b.Health,zdM b.Choices]
abbrev zan (b:BookS):HVal:= .agg (zsS b)
def zaQ (a b:ChoiceS):Int:=orI [zai a.Team b.Team,zam a.Week b.Week,zam a.At b.At]
def zb2 (s:Str):Bool:=s==[]||key s
def zb0 (T:List Str) (n:Nat) (k:Nat) (x p:ChoiceS):Int:=
 if T.contains x.Team=false then 8 else if zef x.Week=false\/zau x.At=false then 1 else if x.Players.length≠n then 3
 else if ((x.Players++[x.Captain]).all zb2)=false then 5 else if 0<k/\zaQ x p<=0 then 7 else 0
def zrm (T:List Str) (n:Nat) (l:List ChoiceS):Int:=zdY 1000 (zb0 T n) zf1 l
def zis (g:LeagueS):Int:=orI [zpM g.Players g.Stints,zjo g.Fixtures,zjv g.Rules,zeX g.Slots,zgz g.Bounds,zhi g.Teams g.Games]
def zkv (g:LeagueS):Int:=orI [zio g.Breaks,ze6 g.Trust]
def zdA (l:List GameS):Bool:=l.any (·.Played)
def zbe (g:LeagueS):Int:=
 if zis g≠0 then zis g else if zdA g.Games=true then 11 else if zkv g≠0 then zkv g
 else if zau g.Start=false\/345686400000<g.Start+36288000000 then 1 else 0
def zbS (b:BookS):Int:=if zbe b.League≠0 then zbe b.League else orI [zkw b.Moves,zbJ b.Plays,zb9 b.Mends,zcd b.League.Players b.Health,zrm b.League.Teams b.League.Slots.length b.Choices]
theorem zcA: ∀{a b:List Int},orI (a++b)=if orI a≠0 then orI a else orI b
 |[],b=>by simp [orI]
 |x::a,b=>by
   rw [A3,orI,orI,zcA]
   by_cases h:x≠0
   rw [if_pos h,if_pos h,if_pos h];rw [if_neg h,if_neg h]
theorem zvl {a r:List Int}:orI (orI a::r)=orI (a++r):=by rw [zcA,orI]
theorem zpz (g:LeagueS):zis g=orI ([zc4 g.Players]++([zix g.Players g.Stints,zjo g.Fixtures,zjv g.Rules,zeX g.Slots,zgz g.Bounds,zdT g.Teams]++[zeg g.Teams g.Games])):=by
 have e1:zpM g.Players g.Stints=orI [zc4 g.Players,zix g.Players g.Stints]:=by rw [zcz];rfl
 have e2:zhi g.Teams g.Games=orI [zdT g.Teams,zeg g.Teams g.Games]:=by rw [zcz];rfl
 unfold zis;rw [e1,zvl]
 show orI [zc4 g.Players,zix g.Players g.Stints,zjo g.Fixtures,zjv g.Rules,zeX g.Slots,zgz g.Bounds,zhi g.Teams g.Games]=orI [zc4 g.Players,zix g.Players g.Stints,zjo g.Fixtures,zjv g.Rules,zeX g.Slots,zgz g.Bounds,zdT g.Teams,zeg g.Teams g.Games]
 have e3: ∀l:List Int,orI (l++[zhi g.Teams g.Games])=orI (l++[zdT g.Teams,zeg g.Teams g.Games]):=fun l=>by
  rw [zcA,zcA,e2]
  congr 1
  rw [orI]
  split
  rfl
  rename_i h;have h0:orI [zdT g.Teams,zeg g.Teams g.Games]=0:=by simpa using h
  rw [h0];rfl
 exact e3 [zc4 g.Players,zix g.Players g.Stints,zjo g.Fixtures,zjv g.Rules,zeX g.Slots,zgz g.Bounds]
theorem zrC {g:LeagueS} (h:zc4 g.Players≠0):zc4 g.Players=zbe g:=by
 have e:zis g=zc4 g.Players:=by rw [zpz,zcA,zwZ,if_pos h]
 rw [zbe,e,if_pos h]
def zit (g:LeagueS):Int:=orI [zix g.Players g.Stints,zjo g.Fixtures,zjv g.Rules,zeX g.Slots,zgz g.Bounds,zdT g.Teams]
theorem zxn {g:LeagueS} (h:zc4 g.Players=0) (h2:zit g≠0):zit g=zbe g:=by
 have e:zis g=zit g:=by
  rw [zpz,zcA,if_neg (by simp [orI,h]),zcA];exact if_pos h2
 rw [zbe,e,if_pos h2]
theorem zqS {g:LeagueS} (h:zc4 g.Players=0) (h2:zit g=0):zis g=zeg g.Teams g.Games:=by
 rw [zpz,zcA,if_neg (by simp [orI,h]),zcA,if_neg (by rw [show orI [zix g.Players g.Stints,zjo g.Fixtures,zjv g.Rules,zeX g.Slots,zgz g.Bounds,zdT g.Teams]=zit g from rfl,h2];simp)];rw [orI]
 split
 rfl
 rename_i h;simp at h;rw [h];rfl
theorem zvg {g:LeagueS} (h2:zit g=0):zdT g.Teams=0:=by
 unfold zit at h2;have e:([zix g.Players g.Stints,zjo g.Fixtures,zjv g.Rules,zeX g.Slots,zgz g.Bounds,zdT g.Teams]:List Int)=[zix g.Players g.Stints,zjo g.Fixtures,zjv g.Rules,zeX g.Slots,zgz g.Bounds]++[zdT g.Teams]:=rfl;rw [e,zcA] at h2
 split at h2
 contradiction
 rw [orI] at h2
 split at h2
 contradiction
 rename_i h;simpa using h
theorem zwE {T:List Str} {l:List GameS} (h:zdT T=0):zhi T l=zeg T l:=by rw [zhi,if_neg (by simp [h])]
theorem zxo {g:LeagueS} (h:zc4 g.Players=0) (h2:zit g=0) (h3:zeg g.Teams g.Games≠0):zeg g.Teams g.Games=zbe g:=by
 rw [zbe,zqS h h2,if_pos h3]
theorem zxp {g:LeagueS} (h:zc4 g.Players=0) (h2:zit g=0) (h3:zeg g.Teams g.Games=0) (h4:zdA g.Games=true):11=zbe g:=by
 rw [zbe,zqS h h2,if_neg (by simp [h3]),if_pos h4]
def zrB (g:LeagueS):Int:=orI [zio g.Breaks,ze6 g.Trust,if zau g.Start then 0 else 1]
theorem zsy (g:LeagueS):zrB g=if zkv g≠0 then zkv g else if zau g.Start=false then 1 else 0:=by
 unfold zrB zkv;rw [show ([zio g.Breaks,ze6 g.Trust,if zau g.Start then 0 else 1]:List Int)=[zio g.Breaks,ze6 g.Trust]++[if zau g.Start then 0 else 1] from rfl,zcA]
 congr 1
 rw [orI]
 cases zau g.Start<;>rfl
theorem zxq {g:LeagueS} (h:zc4 g.Players=0) (h2:zit g=0) (h3:zeg g.Teams g.Games=0) (h4:zdA g.Games=false) (h5:zrB g≠0):zrB g=zbe g:=by
 rw [zbe,zqS h h2,if_neg (by simp [h3]),if_neg (by rw [h4];simp)];rw [zsy] at h5⊢
 split
 rfl
 rename_i h6
 rw [if_neg h6] at h5
 cases h7:zau g.Start with
 |false=>simp
 |true=>rw [h7] at h5;simp at h5
theorem zuf {g:LeagueS} (h:zc4 g.Players=0) (h2:zit g=0) (h3:zeg g.Teams g.Games=0) (h4:zdA g.Games=false) (h5:zrB g=0):zbe g=if 345686400000<g.Start+36288000000 then 1 else 0:=by
 rw [zbe,zqS h h2,if_neg (by simp [h3]),if_neg (by rw [h4];simp)];rw [zsy] at h5
 split at h5
 contradiction
 rename_i h6
 rw [if_neg h6]
 cases h7:zau g.Start with
 |false=>rw [h7] at h5;simp at h5
 |true=>simp
def zcP:List Str:=[[77,97,114,121,32,74,111,32,83,109,105,116,104],[77,97,120,32,77,97,114,116,105,110],[74,111],[65,110,97,32,77,97,114,105,97,32,77,97],[79,39,78,101,105,108,32,109],[90,111,195,171,32,77,97]]
/-! what generated leagues and books are-/
end
section
open Op
def zlo (N:List Str) (s:Str):Int:=if N.contains s=true then ((zty N s:Nat):Int) else-1
theorem zp5 {N:List Str} {s:Str}:zlo N s<0↔N.contains s=false:=by
 unfold zlo
 cases N.contains s with
 |true=>simp
 |false=>simp
theorem ztQ {l:List PlayerS} {s:Str} {i:Nat}:(bif decide ((i:Int)<(l.length:Int)) then zai (l.getD i zd0).Key s==0 else false)=((l.map (·.Key))[i]? ==some s):=by
 by_cases h:i<l.length
 obtain ⟨x,hx⟩: ∃x,l[i]? =some x:=⟨_,Aa h⟩
 have e:l.getD i zd0=x:=by rw [Ai,hx];rfl
 rw [Av,hx,e];have h2:(i:Int)<(l.length:Int):=by omega
 simp only [h2,decide_true,cond_true,AT];rw [AS]
 simp [zbA]
 have h2: ¬(i:Int)<(l.length:Int):=by omega
 rw [AR (by simpa using Nat.le_of_not_lt h)]
 simp [h2]
theorem zoV {L:List PlayerS} {s:Str}:zap (fun x:PlayerS=>x.Key==s) L 0<0↔zfm L s=false:=by
 have h:=zcu (fun x:PlayerS=>x.Key==s) L 0 (by omega);have e:L.any (fun x:PlayerS=>x.Key==s)=zfm L s:=by
  unfold zfm;rw [AS,B4,List.contains_iff_mem,List.mem_map]
  constructor
  rintro ⟨x,h1,h2⟩;exact ⟨x,h1,by simpa using h2⟩;rintro ⟨x,h1,h2⟩;exact ⟨x,h1,by simpa using h2⟩
 rw [e] at h
 constructor
 intro q;rw [<-h];simp;omega
 intro q;rw [q] at h;simp at h;omega
theorem zoW {l:List PlayerS} (h:zc4 l=0):SortedS (l.map (·.Key)):=by
 obtain ⟨_,h2⟩:=zpA h;have nx: ∀(j:Nat) (x y:Str),(l.map (·.Key))[j]? =some x->(l.map (·.Key))[j+1]? =some y->bytesLess x y=true:=by
  intro j x y hx hy
  rw [Av] at hx hy;obtain ⟨a,ha,rfl⟩:=Option.map_eq_some_iff.1 hx;obtain ⟨b,hb,rfl⟩:=Option.map_eq_some_iff.1 hy;have:=h2 (j+1) b hb;have ed:l.getD (j+1-1) zd0=a:=by rw [AU,Ai,ha];rfl
  rw [ed] at this;unfold zc9 at this
  split at this
  omega
  split at this
  omega
  rename_i h3
  have h4:leB b.Key a.Key=false:=by
   cases e:leB b.Key a.Key with
   |false=>rfl
   |true=>exact absurd ⟨by omega,e⟩ h3
  unfold leB at h4;rw [Bool.or_eq_false_iff] at h4
  rcases zd9 a.Key b.Key with q|q|q
  exact q;rw [q] at h4;simp at h4;rw [q] at h4;cases h4.1
 exact zpL nx
/-! games-/
def ziU (l:List GameS):List ((Str×Int)×Bool):=l.foldl (fun L x=>zab (x.Away,x.Week) true (zab (x.Home,x.Week) true L)) []
def ofG (t:Str) (w:Int) (y:GameS):Bool:=y.Week==w&&(y.Home==t||y.Away==t)
theorem zux {l:List GameS} {x:GameS}:ziU (l++[x])=zab (x.Away,x.Week) true (zab (x.Home,x.Week) true (ziU l)):=by unfold ziU;rw [List.foldl_append];rfl
theorem zqn {t:Str} {w:Int}: ∀{l:List GameS} {L:List ((Str×Int)×Bool)},(alk (t,w) (l.foldl (fun L x=>zab (x.Away,x.Week) true (zab (x.Home,x.Week) true L)) L)).getD false=((alk (t,w) L).getD false||l.any (ofG t w))
 |[],L=>by simp
 |x::l,L=>by
   rw [Cc,zqn,Bx,<-B3]
   congr 1
   rw [zgY,zgY];unfold ofG
   by_cases h1:(t,w)=(x.Away,x.Week)
   rw [if_pos h1]
   cases h1
   simp
   rw [if_neg h1]
   by_cases h2:(t,w)=(x.Home,x.Week)
   rw [if_pos h2]
   cases h2
   simp
   rw [if_neg h2];have e:(x.Week==w&&(x.Home==t||x.Away==t))=false:=by
    rw [Bz]
    intro h
    simp at h
    rcases h.2 with q|q
    exact h2 (by rw [h.1,q]);exact h1 (by rw [h.1,q])
   rw [e,Bj]
theorem zsG {t:Str} {w:Int} {l:List GameS}:(alk (t,w) (ziU l)).getD false=l.any (ofG t w):=by
 unfold ziU;rw [zqn];rfl
theorem ztV {l:List GameS} {x:GameS}:l.any (zif x)=(l.any (ofG x.Home x.Week)||l.any (ofG x.Away x.Week)):=by
 induction l with
 |nil=>rfl
 |cons y l ih=>
   rw [Bx,Bx,Bx,ih];unfold zif ofG
   cases y.Week==x.Week<;>cases y.Home==x.Home<;>cases y.Home==x.Away<;>cases y.Away==x.Home<;>cases y.Away==x.Away<;>simp
def zjn (l:List GameS) (k:Nat):Bool:=(List.range k).any fun i=>(l.take i).any (zif (l.getD i zeq))
theorem zrp {l:List GameS} {k:Nat} {x:GameS} (h:l[k]? =some x):zjn l (k+1)=(zjn l k||(l.take k).any (zif x)):=by
 unfold zjn;rw [List.range_succ,Cb,Bx,List.any_nil,Bj,Ai,h];rfl
theorem zro {l:List GameS}: ∀{r:List GameS} {k:Nat},l.drop k=r->k<=l.length->(zjn l k||zdL l k r)=zjn l l.length
 |[],k,hd,hk=>by
   have:l.length<=k:=by simpa using hd
   have e:k=l.length:=by omega
   subst e;rw [zdL,Bj]
 |x::r,k,hd,hk=>by
   have hx:l[k]? =some x:=by have:=congrArg (fun q:List GameS=>q[0]?) hd;simpa using this
   have hkl:=zo hx;rw [zdL,<-B3,<-zrp hx];exact zro (by rw [<-AN (i:=1),hd];rfl) (by omega)
theorem zwA {l:List GameS}:zdL l 0 l=zjn l l.length:=by
 have:=zro (l:=l) (r:=l) (k:=0) rfl (Ad _);rw [<-this];rfl
end
section
open Op
theorem zp7 {a b:Nat}:Nat.gcd b (a%b)=Nat.gcd a b:=by rw [Nat.gcd_comm b,<-Nat.gcd_rec,Nat.gcd_comm]
theorem zmJ {s:Str} (h:s∈zcP):out (s.length:Int) 1 60=false:=by
 revert h;revert s;decide
structure LeaB (g:LeagueS):Prop where
 pl:g.Players.length<=1000000
 nm: ∀p∈g.Players,p.Name∈zcP
 po: ∀p∈g.Players,p.Positions.length<=1000000
 st:g.Stints.length<=1000000
 fx:g.Fixtures.length<=1000000
 ru:g.Rules.length<=1000000
 rw': ∀x∈g.Rules,(-1000000000<=x.Num/\x.Num<=1000000000)/\ -1000000000<=x.Den/\x.Den<=1000000000
 sl:g.Slots.length<=1000000
 sp: ∀x∈g.Slots,x.Positions.length<=1000000
 tm:g.Teams.length<=1000000
 ga:g.Games.length<=1000000
 gb: ∀x∈g.Games,((-1000000000<=x.FNum/\x.FNum<=1000000000)/\ -1000000000<=x.FDen/\x.FDen<=1000000000)/\(-1000000000<=x.ONum/\x.ONum<=1000000000)/\ -1000000000<=x.ODen/\x.ODen<=1000000000
 br:g.Breaks.length<=1000000
 tr:g.Trust.length<=1000000
 sta: -1000000000000000<=g.Start/\g.Start<=1000000000000000
structure BookB (b:BookS):Prop where
 lea:LeaB b.League
 mv:b.Moves.length<=1000000
 pl:b.Plays.length<=1000000
 me:b.Mends.length<=1000000
 he:b.Health.length<=1000000
 ch:b.Choices.length<=1000000
 cp: ∀x∈b.Choices,x.Players.length<=1000000
/-! slots,breaks-/
theorem zrU {l:List SlotS} (h0:l.length≠0) (h1: ¬12<l.length) (hg:zcC l 0 l=zcC l l.length []):0=zeX l:=by
 rw [zeX,if_neg h0,if_neg h1,hg];rfl
theorem zhP {l r:List SlotS} {k:Nat} {x:SlotS} {e:Int} (h0:l.length≠0) (h1: ¬12<l.length) (hg:zcC l 0 l=zcC l k (x::r)) (he:zcC l k (x::r)=e):e=zeX l:=by
 rw [zeX,if_neg h0,if_neg h1,hg,he]
theorem zsl {l:List Int} (h1: ¬5<l.length) (hg:zd5 l 0 l=zd5 l l.length []):0=zio l:=by rw [zio,if_neg h1,hg];rfl
theorem zmW {l r:List Int} {k:Nat} {x:Int} {e:Int} (h1: ¬5<l.length) (hg:zd5 l 0 l=zd5 l k (x::r)) (he:zd5 l k (x::r)=e):e=zio l:=by rw [zio,if_neg h1,hg,he]
/-! names of a choice-/
theorem zwW {s:Str} (h1:s≠[]) (h2:key s=false):zb2 s=false:=by
 unfold zb2;rw [h2,Bj,beq_eq_false_iff_ne];exact h1
theorem zwX {s:Str} (h:s≠[]->key s=true):zb2 s=true:=by
 unfold zb2
 by_cases e:s=[]
 rw [e];rfl;rw [h e,Bool.or_true]
theorem zuo {l:List Str} {s:Str} (hs:s∈l) (h:zb2 s=false):l.all zb2=false:=by
 rw [List.all_eq_false];exact ⟨s,hs,by rw [h];simp⟩
/-! games-/
def inC (l:List GameS) (x:GameS) (k j:Nat):Bool:=zjn l k||([x.Home,x.Away].take j).any fun t=>(l.take k).any (ofG t x.Week)
def inM (l:List GameS) (x:GameS) (k j:Nat):List ((Str×Int)×Bool):=([x.Home,x.Away].take j).foldl (fun L t=>zab (t,x.Week) true L) (ziU (l.take k))
theorem zwK {l:List GameS} {x:GameS} {k j:Nat} {s:Str} (hne:x.Home≠x.Away) (hs:[x.Home,x.Away][j]? =some s):
 (inC l x k j||(alk (s,x.Week) (inM l x k j)).getD false)=inC l x k (j+1)/\zab (s,x.Week) true (inM l x k j)=inM l x k (j+1):=by
 match j,hs with
 |0,hs=>
   simp at hs;subst hs
   refine ⟨?_,rfl⟩
   unfold inC inM;simp only [List.take_zero,List.any_nil,Bj,List.foldl_nil,BR,Bx];rw [zsG]
 |1,hs=>
   simp at hs;subst hs
   refine ⟨?_,rfl⟩
   unfold inC inM;simp only [List.take_zero,List.any_nil,Bj,List.foldl_nil,BR,Bx,Cc];rw [zgY,if_neg (fun e=>by have e9:=congrArg Prod.fst e;first|exact hne e9|exact hne e9.symm),zsG,B3]
theorem zst {l:List GameS} {x:GameS} {k:Nat}:inC l x k 0=zjn l k/\inM l x k 0=ziU (l.take k):=by
 unfold inC inM;simp
theorem zxk {l:List GameS} {x:GameS} {k:Nat} (hx:l[k]? =some x):inC l x k 2=zjn l (k+1)/\inM l x k 2=ziU (l.take (k+1)):=by
 refine ⟨?_,?_⟩
 rw [zrp hx,ztV];unfold inC
 simp
 rw [zV hx,zux];unfold inM
 simp
theorem zsp {T:List Str} {l:List GameS} (hn: ¬1000<l.length) (hg:zbc (zcy T) zeq l 0 l=zbc (zcy T) zeq l l.length []):zeg T l=if zjn l l.length=true then 13 else 0:=by
 have h0:zdY 1000 (zcy T) zeq l=0:=(zcq hn hg).symm;rw [zeg,h0,if_neg (by simp),zwA]
theorem zdZ {T:List Str} {l:List GameS} {e:Int} (h:e=zdY 1000 (zcy T) zeq l) (h0:e≠0):e=zeg T l:=by
 rw [zeg,<-h,if_pos h0]
theorem zxH {m:Int} (h1: -18446744073709551616<=m) (h2:m<0):IntKind.wrap .u64 m=m+18446744073709551616:=by
 unfold IntKind.wrap
 simp [IntKind.bits,IntKind.signed]
 omega
theorem zxj {b:BookS} (h: ¬zbe b.League≠0):zmz b.League.Players b.Health=zcd b.League.Players b.Health:=by
 have h0:zbe b.League=0:=by simpa using h
 have h1:zc4 b.League.Players=0:=by
  refine Classical.byContradiction fun hq=> ?_
  have:=zrC hq;rw [h0] at this;exact hq this
 rw [zmz,if_neg (by simp [h1])]
end
section
open Op
theorem zg4 (x y:MoveS):zbl [.int .i64 x.At,.int .i64 x.Kind,.str x.Team,.str x.Player] [.int .i64 y.At,.int .i64 y.Kind,.str y.Team,.str y.Player]=true↔x=y:=by
 obtain ⟨a1,a2,a3,a4⟩:=x;obtain ⟨b1,b2,b3,b4⟩:=y
 show (_&&(_&&(_&&(_&&true))))=true↔_
 simp [eqH]
instance decMoveS:DecidableEq MoveS:=fun x y=>decidable_of_iff _ (zg4 x y)
theorem zdt (x y:HealthS):zbl [.str x.Player,.int .i64 x.From,.int .i64 x.To,.int .i64 x.Kind] [.str y.Player,.int .i64 y.From,.int .i64 y.To,.int .i64 y.Kind]=true↔x=y:=by
 obtain ⟨a1,a2,a3,a4⟩:=x;obtain ⟨b1,b2,b3,b4⟩:=y
 show (_&&(_&&(_&&(_&&true))))=true↔_
 simp [eqH]
instance decHealthS:DecidableEq HealthS:=fun x y=>decidable_of_iff _ (zdt x y)
def zfo (x y:ChoiceS):Bool:=zaQ x y==0&&x.Players==y.Players&&x.Captain==y.Captain
theorem zsQ {x y:ChoiceS}:zaQ x y=0↔x.Team=y.Team/\x.Week=y.Week/\x.At=y.At:=by
 unfold zaQ;rw [za3,zcz]
 constructor
 intro h
 obtain ⟨h1,h2⟩:=zb3 h;obtain ⟨h3,h4⟩:=zb3 h2;exact ⟨zbA.1 h1,zbf.1 h3,zbf.1 h4⟩;rintro ⟨h1,h2,h3⟩;rw [zbA.2 h1,zbf.2 h2,zbf.2 h3];rfl
theorem zfR (x y:ChoiceS):zfo x y=true↔x=y:=by
 unfold zfo;rw [A9,A9,beq_iff_eq,beq_iff_eq,beq_iff_eq,zsQ];obtain ⟨a1,a2,a3,a4,a5⟩:=x;obtain ⟨b1,b2,b3,b4,b5⟩:=y
 simp [and_assoc]
instance decChoiceS:DecidableEq ChoiceS:=fun x y=>decidable_of_iff _ (zfR x y)
def zbv (x y:HealthS):Int:=orI [zai x.Player y.Player,zam x.From y.From]
def zel (x y:HealthS):Int:=orI [zai x.Player y.Player,zam x.From y.From,zam x.To y.To,zam x.Kind y.Kind]
theorem zd7:Cmp zbv fun _=>True:=by
 have h:=zcD (ze9 HealthS.Player) (zdy HealthS.From);have e:zbv=fun a b=>if zai a.Player b.Player≠0 then zai a.Player b.Player else zam a.From b.From:=by
  funext a b;unfold zbv;rw [zcz]
 rw [e];exact h
theorem zh0:Cmp zel fun _=>True:=by
 have h:=zcD (ze9 HealthS.Player) (zcD (zdy HealthS.From) (zcD (zdy HealthS.To) (zdy HealthS.Kind)));have e:zel=fun a b=>if zai a.Player b.Player≠0 then zai a.Player b.Player else if zam a.From b.From≠0 then zam a.From b.From else if zam a.To b.To≠0 then zam a.To b.To else zam a.Kind b.Kind:=by
  funext a b;unfold zel;rw [za3,za3,zcz]
 rw [e];exact h
theorem zfq:Cmp zdl fun _=>True:=by
 have h:=zcD (zdy MoveS.At) (zcD (ze9 MoveS.Team) (zcD (ze9 MoveS.Player) (zdy MoveS.Kind)));have e:zdl=fun a b=>if zam a.At b.At≠0 then zam a.At b.At else if zai a.Team b.Team≠0 then zai a.Team b.Team else if zai a.Player b.Player≠0 then zai a.Player b.Player else zam a.Kind b.Kind:=by
  funext a b;unfold zdl;rw [za3,za3,zcz]
 rw [e];exact h
theorem zd6:Cmp zaQ fun _=>True:=by
 have h:=zcD (ze9 ChoiceS.Team) (zcD (zdy ChoiceS.Week) (zdy ChoiceS.At));have e:zaQ=fun a b=>if zai a.Team b.Team≠0 then zai a.Team b.Team else if zam a.Week b.Week≠0 then zam a.Week b.Week else zam a.At b.At:=by
  funext a b;unfold zaQ;rw [za3,zcz]
 rw [e];exact h
theorem zjL:Cmp zfY fun _=>True:=by
 have h:=zcD (zdy GameS.Week) (zcD (ze9 GameS.Home) (ze9 GameS.Away));have e:zfY=fun a b=>if zam a.Week b.Week≠0 then zam a.Week b.Week else if zai a.Home b.Home≠0 then zai a.Home b.Home else zai a.Away b.Away:=by
  funext a b;unfold zfY;rw [za3,zcz]
 rw [e];exact h
theorem zou {x y:MoveS}:zdl x y=0->x=y:=by
 unfold zdl;rw [za3,za3,zcz]
 intro h
 obtain ⟨h1,h2⟩:=zb3 h;obtain ⟨h3,h4⟩:=zb3 h2;obtain ⟨h5,h6⟩:=zb3 h4;have e1:=zbf.1 h1;have e2:=zbA.1 h3;have e3:=zbA.1 h5;have e4:=zbf.1 h6;obtain ⟨a1,a2,a3,a4⟩:=x;obtain ⟨b1,b2,b3,b4⟩:=y
 simp_all
theorem zos {x y:HealthS}:zel x y=0->x=y:=by
 unfold zel;rw [za3,za3,zcz]
 intro h
 obtain ⟨h1,h2⟩:=zb3 h;obtain ⟨h3,h4⟩:=zb3 h2;obtain ⟨h5,h6⟩:=zb3 h4;have e1:=zbA.1 h1;have e2:=zbf.1 h3;have e3:=zbf.1 h5;have e4:=zbf.1 h6;obtain ⟨a1,a2,a3,a4⟩:=x;obtain ⟨b1,b2,b3,b4⟩:=y
 simp_all
theorem zk1 {x y:HealthS}:zbv x y=0↔x.Player=y.Player/\x.From=y.From:=by
 unfold zbv;rw [zcz]
 constructor
 intro h;obtain ⟨h1,h2⟩:=zb3 h;exact ⟨zbA.1 h1,zbf.1 h2⟩
 rintro ⟨h1,h2⟩;rw [zbA.2 h1,zbf.2 h2];rfl
theorem zob {α:Type} {c:α->α->Int} (hc:Cmp c fun _=>True) (h0: ∀x y,c x y=0->x=y) {l l':List α} (hp:l'.Perm l) (hw:l'.Pairwise fun a b=> ¬c b a<0):l'=zX c l:=
 zfn hc (fun x y _ _ e=>h0 x y e) hp hw
/-! moves-/
def zlx (a b:List MoveS):List MoveS:=zv none (zX zdl (a++b))
def zkx (a b:List MoveS):List MoveS:=if 2000<(zlx a b).length then [] else zlx a b
def ziv (a b:List MoveS):Int:=if 2000<(zlx a b).length then 2 else 0
/-! choices-/
def zex (a b:List ChoiceS):List ChoiceS:=if zbC zaQ a b=true then [] else if 1000<(zcK zaQ a b).length then [] else zcK zaQ a b
def zgO (a b:List ChoiceS):Int:=if zbC zaQ a b=true then 13 else if 1000<(zcK zaQ a b).length then 2 else 0
theorem zsk {α:Type} {c:α->α->Int} (hc:Cmp c fun _=>True) {l:List α} (h: ∀(i:Nat) (x y:α),l[i]? =some x->l[i+1]? =some y->0<c y x):l.Pairwise fun x y=>c x y<0:=by
 have key: ∀(d i:Nat) (x y:α),l[i]? =some x->l[i+d+1]? =some y->0<c y x:=by
  intro d
  induction d with
  |zero=>intro i x y hx hy;exact h i x y hx hy
  |succ d ih=>
    intro i x y hx hy
    have hlt:=zo hy;obtain ⟨z,hz⟩: ∃z,l[i+d+1]? =some z:=⟨_,Aa (by omega)⟩
    have h1:=ih i x z hx hz;have h2:=h (i+d+1) z y hz hy;have f1:=hc.flip z y trivial trivial;have f2:=hc.flip x z trivial trivial;have f3:=hc.flip y x trivial trivial;have f4:=hc.flip x y trivial trivial;have f5:=hc.flip z x trivial trivial;have f6:=hc.flip y z trivial trivial;have t1:=hc.trans x z y trivial trivial trivial (by omega) (by omega)
    by_cases h0:c x y=0
    have t2:=hc.trans y x z trivial trivial trivial (by omega) (by omega)
    omega
    omega
 refine List.pairwise_iff_getElem.2 fun i j hi hj hij=> ?_
 have h1:=key (j-i-1) i l[i] l[j] (Aa hi) (by rw [show i+(j-i-1)+1=j by omega];exact Aa hj);exact (hc.flip _ _ trivial trivial).2 h1
theorem zrD {α:Type} {g:Nat->α->α->Int} {c:α->α->Int} {d:α} {l:List α} {n:Nat} (hc:Cmp c fun _=>True) (hg: ∀(k:Nat) (x p:α),0<k->g k x p=0->0<c x p) (h:zdY n g d l=0):l.Pairwise fun x y=>c x y<0:=by
 obtain ⟨_,h2⟩:=zpA h;refine zsk hc fun i x y hx hy=> ?_
 have h3:=h2 (i+1) y hy;rw [AU,Ai,hx] at h3;exact hg (i+1) y x (Nat.succ_pos i) h3
theorem ziK {T:List Str} {n:Nat} {l:List ChoiceS} (h:zrm T n l=0):l.Pairwise fun x y=>zaQ x y<0:=
 zrD zd6 (fun k x p hk h0=>by
  unfold zb0 at h0
  (repeat' split at h0)<;>first|omega|(rename_i h9;omega)) h
theorem zoK {L:List PlayerS} {l:List HealthS} (h:zcd L l=0):l.Pairwise fun x y=>zbv x y<0:=
 zrD zd7 (fun k x p hk h0=>by
  unfold zbt at h0;unfold zbv
  (repeat' split at h0)<;>omega) h
def zhm (x p:HealthS):Int:=if zbv x p<=0 then 7 else if x.Player=p.Player/\x.From<p.To then 13 else 0
def zhq:Option HealthS->List HealthS->Int
 |_,[]=>0
 |none,x::r=>zhq (some x) r
 |some q,x::r=>if zhm x q≠0 then zhm x q else zhq (some x) r
theorem ztu {x y q:HealthS} (h:zbv x y=0):zhm x q=zhm y q:=by
 obtain ⟨h1,h2⟩:=zk1.1 h;unfold zhm zbv;rw [h1,h2]
theorem zqm {x y:HealthS} {r:List HealthS} (hs:Srt zbv (x::r)) (hy:y∈r) (h:zbv x y=0):zhq (some x) r=7:=by
 cases r with
 |nil=>cases hy
 |cons z t=>
   have hzx:zbv z x<=0:=by
    have hyx:zbv y x<=0:=by
     obtain ⟨h1,h2⟩:=zk1.1 h;have:=zk1.2 ⟨h1.symm,h2.symm⟩
     omega
    rcases List.mem_cons.1 hy with e|e
    rw [<-e];exact hyx;have hzy:zbv z y<=0:=BU (List.pairwise_cons.1 hs).2 e;exact zd7.trans z y x trivial trivial trivial hzy hyx
   have e7:zhm z x=7:=by unfold zhm;rw [if_pos hzx]
   rw [zhq,e7];rfl
theorem zn8: ∀{l m:List HealthS} {p:Option HealthS},Srt zbv l->Srt zbv m->l.Perm m->zhq p l=zhq p m/\(zhq p l=0->l=m)
 |[],m,p,_,_,hp=>by
   have:=hp.nil_eq;subst this;exact ⟨rfl,fun _=>rfl⟩
 |x::l,m,p,hl,hm,hp=>by
   cases m with
   |nil=>exact absurd hp.length_eq (by simp)
   |cons y m=>
     by_cases e:x=y
     subst e;obtain ⟨i1,i2⟩:=zn8 (p:=some x) (List.pairwise_cons.1 hl).2 (List.pairwise_cons.1 hm).2 (List.perm_cons x|>.1 hp)
     cases p with
     |none=>exact ⟨i1,fun h=>by rw [i2 h]⟩
     |some q=>
       rw [zhq,zhq]
       by_cases h0:zhm x q≠0
       rw [if_pos h0,if_pos h0];exact ⟨rfl,fun h=>absurd h h0⟩;rw [if_neg h0,if_neg h0];exact ⟨i1,fun h=>by rw [i2 h]⟩
     have hy:y∈l:=by
      rcases List.mem_cons.1 (hp.mem_iff.2 (AE)) with q|q
      exact absurd q.symm e;exact q
     have hx:x∈m:=by
      rcases List.mem_cons.1 (hp.mem_iff.1 (AE)) with q|q
      exact absurd q e;exact q
     have h1:zbv x y<=0:=BU hl hy;have h2:zbv y x<=0:=BU hm hx;have f1:=zd7.flip x y trivial trivial;have f2:=zd7.flip y x trivial trivial;have h3:zbv x y=0:=by omega
     have h4:zbv y x=0:=by omega
     have s1:=zqm hl hy h3;have s2:=zqm hm hx h4
     cases p with
     |none=>rw [zhq,zhq,s1,s2];exact ⟨rfl,fun h=>by cases h⟩
     |some q=>
       rw [zhq,zhq,ztu (q:=q) h3,s1,s2]
       by_cases h0:zhm y q≠0
       rw [if_pos h0];exact ⟨rfl,fun h=>absurd h h0⟩;rw [if_neg h0];exact ⟨rfl,fun h=>by cases h⟩
def znR (L:List PlayerS) (x:HealthS):Prop:=zfm L x.Player=true/\¬(out x.To 2 61=true\/out x.From 1 (x.To-1)=true)/\out x.Kind 1 2=false
theorem zsb {L:List PlayerS} {k:Nat} {x p:HealthS} (h:znR L x):zbt L k x p=if 0<k then zhm x p else 0:=by
 obtain ⟨h1,h2,h3⟩:=h;unfold zbt zhm zbv;rw [if_neg (by rw [h1];simp),if_neg h2,if_neg (by rw [h3];simp)]
 by_cases hk:0<k
 simp only [hk,true_and,if_true]
 simp [hk]
theorem zoN {L:List PlayerS} {l:List HealthS} (h:zcd L l=0) {x:HealthS} (hx:x∈l):znR L x:=by
 obtain ⟨_,h2⟩:=zpA h;obtain ⟨i,hi⟩:=AO hx;have h3:=h2 i x hi;unfold zbt at h3
 split at h3
 omega
 rename_i a1
 split at h3
 omega
 rename_i a2
 split at h3
 omega
 rename_i a3
 exact ⟨by simpa using a1,a2,by simpa using a3⟩
theorem zkQ {L:List PlayerS} {l:List HealthS} (hl: ∀x∈l,znR L x): ∀{r:List HealthS} {k:Nat},l.drop k=r->zbc (zbt L) zfa l k r=zhq (if 0<k then l[k-1]? else none) r
 |[],k,_=>by
   rw [zbc]
   cases (if 0<k then l[k-1]? else none)<;>rfl
 |x::r,k,hd=>by
   have hx:l[k]? =some x:=by have:=congrArg (fun q:List HealthS=>q[0]?) hd;simpa using this
   have hlt:=zo hx;have hn:l.drop (k+1)=r:=by rw [<-AN (i:=1),hd];rfl
   have ih:=zkQ hl hn;rw [if_pos (Nat.succ_pos k),AU,hx] at ih;rw [zbc,zsb (hl x (Ac hx)),ih]
   by_cases hk:0<k
   obtain ⟨q,hq⟩: ∃q,l[k-1]? =some q:=⟨_,Aa (by omega)⟩
   rw [if_pos hk,if_pos hk,hq,Ai,hq]
   rfl
   rw [if_neg hk,if_neg hk];rfl
def zcm (a b:List HealthS):List HealthS:=zv none (zX zel (a++b))
def zfM (a b:List HealthS):List HealthS:=zX zbv (a++b.filter fun x=> !(a.contains x))
def zjr (L:List PlayerS) (a b:List HealthS):Int:=zmz L (zcm a b)
def zhJ (L:List PlayerS) (a b:List HealthS):List HealthS:=if zjr L a b≠0 then [] else zcm a b
theorem zjz {α:Type} {c:α->α->Int} (hc:Cmp c fun _=>True) {l:List α} (h:l.Pairwise fun x y=>c x y<0):l.Nodup:=h.imp fun {x y} hxy e=>by
 subst e;have:=hc.flip x x trivial trivial;omega
theorem zva {L:List PlayerS} {a b:List HealthS} (ha:zcd L a=0) (hb:zcd L b=0):zcd L (zcm a b)=zcd L (zfM a b)/\(zcd L (zcm a b)=0->zcm a b=zfM a b):=by
 have hs4:Srt zel (zX zel (a++b)):=zbW zh0 _;have hU4:=zlH (zX zel (a++b)) none hs4 (fun q e=>by cases e);have hU:(zcm a b).Pairwise fun x y=>zel x y<0:=zo7 zh0 hU4.1 fun i x y hx hy e=>zj6 (zX zel (a++b)) none hs4 (fun q e=>by cases e) i x y hx hy (zos e)
 have hU2:Srt zbv (zcm a b):=hU.imp fun {x y} h=>by
  unfold zel at h;unfold zbv;rw [za3,za3] at h;rw [zcz]
  split at h
  rename_i h1;rw [if_pos h1];omega
  rename_i h1;rw [if_neg h1]
  split at h<;>omega
 have hV2:Srt zbv (zfM a b):=zbW zd7 _;have mU: ∀z,z∈zcm a b↔z∈a\/z∈b:=fun z=>by
  rw [<-Cd,<-zg5 (c:=zel) (l:=a++b)]
  constructor
  exact zea _ _ _
  intro hz
  rcases zlv _ none z hz with q|q
  exact q
  cases q
 have mV: ∀z,z∈zfM a b↔z∈a\/z∈b:=fun z=>by
  unfold zfM;rw [zg5,Cd,List.mem_filter]
  constructor
  rintro (h|⟨h,_⟩);exact .inl h;exact .inr h;rintro (h|h);exact .inl h
  by_cases hz:z∈a
  exact .inl hz;exact .inr ⟨h,by simpa using hz⟩
 have nU:(zcm a b).Nodup:=zjz zh0 hU;have na:=zjz zd7 (zoK ha);have nb:=zjz zd7 (zoK hb);have nV:(zfM a b).Nodup:=by
  refine (zaU zbv _).nodup_iff.2 (List.nodup_append.2 ⟨na,nb.filter _,fun x hx y hy e=> ?_⟩)
  subst e;have:=(List.mem_filter.1 hy).2
  simp at this
  exact this hx
 have hp:(zcm a b).Perm (zfM a b):=(List.perm_ext_iff_of_nodup nU nV).2 fun z=>by rw [mU,mV]
 have lU: ∀x∈zcm a b,znR L x:=fun x hx=>by
  rcases (mU x).1 hx with q|q
  exact zoN ha q;exact zoN hb q
 have lV: ∀x∈zfM a b,znR L x:=fun x hx=>lU x (hp.mem_iff.2 hx)
 have r:=zn8 (p:=none) hU2 hV2 hp;have eU:=zkQ lU (r:=zcm a b) (k:=0) rfl;have eV:=zkQ lV (r:=zfM a b) (k:=0) rfl;simp only [A1,if_false] at eU eV;unfold zcd zdY;rw [eU,eV,hp.length_eq]
 by_cases hn:1000<(zfM a b).length
 rw [if_pos hn,if_pos hn];exact ⟨rfl,fun h=>by cases h⟩;rw [if_neg hn,if_neg hn];exact r
end
section
open Op
def zhl (s l:Str):Bool:=s.all fun c=>decide (0<=Lib.indexByte l c)
theorem zt0 (c:UInt8):decide (0<=Lib.indexByte zgv c)=zgw c:=by
 have:=zq9 (p:=fun c=>decide (0<=Lib.indexByte zgv c)==zgw c) (by kernel_rfl) c
 simpa using this
theorem zve (s:Str):key s=((!(out s.length 1 40)&&zhl (s.take 1) zi1)&&zhl s zgv):=by
 unfold zhl;have:(fun c=>decide (0<=Lib.indexByte zgv c))=zgw:=funext zt0;rw [this];unfold key zjX
 cases s with
 |nil=>simp [out]
 |cons x r=>
   simp only [BR,List.take_zero,BO,List.all_nil,Bool.and_true,List.headD_cons];rw [zo5];have h1:(!(out ((x::r).length:Int) 1 40))=decide ((x::r).length<=40):=by
    simp only [out,Ao];rw [AS];simp;omega
   rw [h1];have h2:((x::r) !=[])=true:=rfl;rw [h2];have hb: ∀a c d b:Bool,(true&&a&&c&&d&&b)=(a&&(c&&d)&&b):=by decide
   exact hb _ _ _ _
theorem zpF (l:List Str):zhN l=if l.length=0 then 8 else if 10<l.length then 2 else zhO l:=rfl
def zmZ {α:Type} (f:α->Str) (d:α) (l:List α) (k:Nat):Str:=if k=0 then [] else f (l.getD (k-1) d)
theorem zsx {α:Type} {f:α->Str} {d:α} {l:List α} {k:Nat} {x:α} (hx:key (f x)=true):(leB (f x) (zmZ f d l k)=true)↔(0<k/\leB (f x) (f (l.getD (k-1) d))=true):=by
 unfold zmZ
 by_cases h:k=0
 subst h;rw [if_pos rfl,zwS hx];simp;rw [if_neg h]
 constructor
 intro q;exact ⟨by omega,q⟩
 intro q;exact q.2
theorem zqf {α:Type} {f:α->Str} {d:α} {l:List α} {k:Nat} {x:α} (hx:l[k]? =some x):zmZ f d l (k+1)=f x:=by
 unfold zmZ;rw [if_neg (by omega),AU,Ai,hx];rfl
theorem zgV {a b:Int}:zlC (a-b)=zam a b:=zvw
theorem zk2 {a b:MoveS}:zdl a b=if a.At≠b.At then zam a.At b.At else if a.Team≠b.Team then zai a.Team b.Team else if a.Player≠b.Player then zai a.Player b.Player else zam a.Kind b.Kind:=by
 unfold zdl;rw [za3,za3,zcz];have e1:zam a.At b.At≠0↔a.At≠b.At:=not_congr zbf;have e2:zai a.Team b.Team≠0↔a.Team≠b.Team:=not_congr zbA;have e3:zai a.Player b.Player≠0↔a.Player≠b.Player:=not_congr zbA;simp only [e1,e2,e3]
theorem znD {a b:GameS}:zfY a b=if a.Week≠b.Week then zam a.Week b.Week else if a.Home≠b.Home then zai a.Home b.Home else zai a.Away b.Away:=by
 unfold zfY;rw [za3,zcz];have e1:zam a.Week b.Week≠0↔a.Week≠b.Week:=not_congr zbf;have e2:zai a.Home b.Home≠0↔a.Home≠b.Home:=not_congr zbA;simp only [e1,e2]
theorem zvi {x p:MoveS}:(0<=zdl p x)↔zdl x p<=0:=by
 have f1:=zfq.flip p x trivial trivial;have f2:=zfq.flip x p trivial trivial
 omega
theorem zu3 {x p:GameS}:(0<=zfY p x)↔zfY x p<=0:=by
 have f1:=zjL.flip p x trivial trivial;have f2:=zjL.flip x p trivial trivial
 omega
theorem zuV {x p:ChoiceS}:(0<=zaQ p x)↔zaQ x p<=0:=by
 have f1:=zd6.flip p x trivial trivial;have f2:=zd6.flip x p trivial trivial
 omega
def zmS (a b:Int):List Int->Int
 |[]=>0
 |e::r=>if a=e\/b=e then e else zmS a b r
def zvA (a b:Int):Int:=zmS a b [3,1]
theorem zra {n d m:Int}:zdb n d m=0\/zdb n d m=1\/zdb n d m=3:=by
 unfold zdb;split
 omega
 split<;>omega
theorem zu2 {x:GameS} (h:x.Played=true):zhj x=zvA (zdb x.FNum x.FDen 1000000) (zdb x.ONum x.ODen 1000000):=by
 unfold zhj zvA;rw [if_neg (by rw [h];simp),zmS,zmS,zmS];have h1:=zra (n:=x.FNum) (d:=x.FDen) (m:=1000000);have h2:=zra (n:=x.ONum) (d:=x.ODen) (m:=1000000)
 split
 rfl
 rename_i h3
 rw [zcz]
 (repeat' split)<;>omega
theorem zvy {a b:Int}:Nat.gcd b.natAbs (a.tmod b).natAbs=Nat.gcd a.natAbs b.natAbs:=by
 rw [Int.natAbs_tmod];exact zp7
theorem zrW {a b:Int} (hb:b≠0): -b.natAbs<a.tmod b/\a.tmod b<b.natAbs/\(a.tmod b).natAbs<b.natAbs:=by
 have h:=BN a.natAbs (show 0<b.natAbs by omega);rw [<-Int.natAbs_tmod] at h
 omega
theorem zxv {l:Str} {x:UInt8} {r:Str} (h:Lib.indexByte l x<0):zhl (x::r) l=false:=by
 unfold zhl;rw [BO];have:decide (0<=Lib.indexByte l x)=false:=by simpa using h
 rw [this];rfl
theorem zxw {l:Str} {x:UInt8} {r:Str} (h:0<=Lib.indexByte l x):zhl (x::r) l=zhl r l:=by
 unfold zhl;rw [BO];have:decide (0<=Lib.indexByte l x)=true:=by simpa using h
 rw [this];rfl
theorem pts3 {n d:Int} (h:d<1\/¬((Nat.gcd n.natAbs d.natAbs:Nat):Int)=1):d<1\/znT n d=false:=by
 rcases h with h|h
 exact .inl h;refine .inr ?_;unfold znT;rw [beq_eq_false_iff_ne]
 intro e;rw [e] at h;exact h rfl
theorem pts0 {n d:Int} (h:((Nat.gcd n.natAbs d.natAbs:Nat):Int)=1):znT n d=true:=by
 unfold znT;rw [beq_iff_eq];omega
theorem pts1 {n d m:Int} (h:(¬Int.tmod 100 d=0\/n< -m*d)\/m*d<n):Int.tmod 100 d≠0\/out n (-m*d) (m*d)=true:=by
 have e: -m*d= -(m*d):=Int.neg_mul _ _;rw [e] at h⊢
 rcases h with (h|h)|h
 exact .inl h;refine .inr ?_;simp [out];omega
 refine .inr ?_;simp [out];omega
theorem pts2 {n d m:Int} (h:(Int.tmod 100 d=0/\ -m*d<=n)/\n<=m*d): ¬(Int.tmod 100 d≠0\/out n (-m*d) (m*d)=true):=by
 have e: -m*d= -(m*d):=Int.neg_mul _ _;rw [e] at h⊢;obtain ⟨⟨h1,h2⟩,h3⟩:=h;rintro (q|q);exact q h1
 simp [out] at q;omega
theorem zu9 {f t:Int} (h:out f 1 (t-1)=true\/61<t):out t 2 61=true\/out f 1 (t-1)=true:=by
 rcases h with h|h
 exact .inr h;refine .inl ?_;simp [out];omega
theorem zu8 {f t:Int} (h:out f 1 (t-1)=false/\t<=61): ¬(out t 2 61=true\/out f 1 (t-1)=true):=by
 rintro (q|q);have h1:=h.1
 simp [out] at q h1;omega
 rw [h.1] at q;cases q
theorem zxm {k:Int} (h: ¬k=1/\¬k=2):out k 1 2=true:=by simp [out];omega
theorem zxl {k:Int} (h: ¬k=1->k=2):out k 1 2=false:=by simp [out];omega
structure MovB (x:MoveS):Prop where
 at': -1000000000000000<=x.At/\x.At<=1000000000000000
 kind: -1000000000000000<=x.Kind/\x.Kind<=1000000000000000
structure GamB (x:GameS):Prop where
 week: -1000000000000000<=x.Week/\x.Week<=1000000000000000
 fr:(-1000000000<=x.FNum/\x.FNum<=1000000000)/\ -1000000000<=x.FDen/\x.FDen<=1000000000
 ot:(-1000000000<=x.ONum/\x.ONum<=1000000000)/\ -1000000000<=x.ODen/\x.ODen<=1000000000
end
section
section
variable {κ:Type} [DecidableEq κ] {β:Type}
end
section
variable {P:Program} {e:Env} {κ:Type} [DecidableEq κ] {β:Type} {eb:β->HVal}
end
end
section
/-! lines by their places,with mends-/
abbrev GrS:=List (Plc×List StatS)
def zto (x:MendS) (l:List StatS):List StatS:=l.filter fun s=> !(s.Name==x.Stat)
def zjZ (x:MendS) (l:List StatS):List StatS:=zto x l++if x.Count≠0 then [⟨x.Stat,x.Count⟩] else []
def zig (n:Int) (G:GrS) (x:MendS):GrS:=if n<x.At then G else zab (x.Player,x.Week) (zjZ x ((alk (x.Player,x.Week) G).getD [])) G
def GLen (b:Nat) (G:GrS):Prop:= ∀q∈G,q.2.length<=b
theorem GLen.put {b:Nat} {G:GrS} {p:Plc} {l:List StatS} (h:GLen b G) (hl:l.length<=b):GLen b (zab p l G):=fun q hq=>by
 rcases zdP hq with rfl|hq
 exact hl;exact h q hq
theorem GLen.get {b:Nat} {G:GrS} (h:GLen b G) (p:Plc):((alk p G).getD []).length<=b:=by
 cases hq:alk p G with
 |none=>simp
 |some l=>exact h _ (zcv hq)
theorem GLen.up {b c:Nat} {G:GrS} (h:GLen b G) (hb:b<=c):GLen c G:=fun q hq=>AA (h q hq) hb
theorem zui (x:MendS) (l:List StatS):(zto x l).length<=l.length:=Bu _ _
theorem zuj (x:MendS) (l:List StatS):(zjZ x l).length<=l.length+1:=by
 have:=zui x l;unfold zjZ;rw [Af];split;simp only [Ao,Aq];omega;simp only [Aq];omega
theorem GLen.step {b:Nat} {n:Int} {G:GrS} {x:MendS} (h:GLen b G):GLen (b+1) (zig n G x):=by
 unfold zig;split;exact h.up (by omega);refine (h.up (by omega)).put ?_;have h1:=zuj x ((alk (x.Player,x.Week) G).getD []);have h2:=h.get (x.Player,x.Week)
 omega
def GNm (G:GrS):Prop:= ∀q∈G,(q.2.map (·.Name)).Nodup
theorem GNm.put {G:GrS} {p:Plc} {l:List StatS} (h:GNm G) (hl:(l.map (·.Name)).Nodup):GNm (zab p l G):=fun q hq=>by
 rcases zdP hq with rfl|hq
 exact hl;exact h q hq
theorem GNm.get {G:GrS} (h:GNm G) (p:Plc):(((alk p G).getD []).map (·.Name)).Nodup:=by
 cases hq:alk p G with
 |none=>exact BL
 |some l=>exact h _ (zcv hq)
theorem znr {x:MendS} {l:List StatS} (h:(l.map (·.Name)).Nodup):((zjZ x l).map (·.Name)).Nodup:=by
 have h1:((zto x l).map (·.Name)).Nodup:=h.sublist ((List.filter_sublist).map _);unfold zjZ
 split
 rw [Ap];refine List.nodup_append.2 ⟨h1,by simp,fun a ha b hb=> ?_⟩
 simp at hb;subst hb
 obtain ⟨s,hs,rfl⟩:=List.mem_map.1 ha;have:=(List.mem_filter.1 hs).2
 simpa using this
 rw [AW];exact h1
theorem GNm.step {n:Int} {G:GrS} {x:MendS} (h:GNm G):GNm (zig n G x):=by
 unfold zig;split;exact h;exact h.put (znr (h.get _))
theorem zwY {l:List StatS} (h:(l.map (·.Name)).Nodup) {x y:StatS} (hx:x∈l) (hy:y∈l) (e:x.Name=y.Name):x=y:=by
 obtain ⟨i,hi⟩:=AO hx;obtain ⟨j,hj⟩:=AO hy;have:=zvk h (a:=x.Name) (i:=i) (j:=j) (by rw [Av,hi];rfl) (by rw [Av,hj,e];rfl);rw [this,hj] at hi;exact (Ak hi).symm
theorem zrJ {a b:Int} (h:orI [a,b]=0):a=0/\b=0:=by rw [zcz] at h;exact zb3 h
def zpB {κ α:Type} [DecidableEq κ] (D S:List (κ×α)):List (κ×α):=S.foldl (fun C p=>zab p.1 p.2 C) D
theorem zoP {κ α:Type} [DecidableEq κ]: ∀{S D:List (κ×α)},ANodup D->ANodup (zpB D S)
 |[],_,h=>h
 |p::r,D,h=>zoP (S:=r) (D:=zab p.1 p.2 D) h.put
end
section
/-! one list of statistics by name-/
abbrev stA (l:List StatS):List (Str×Int):=l.map fun s=>(s.Name,s.Count)
def sv (l:List StatS) (s:Str):Int:=(alk s (stA l)).getD 0
structure StOk (l:List StatS):Prop where
 nd:(l.map (·.Name)).Nodup
 nz: ∀x∈l,x.Count≠0
theorem zqr {l:List StatS} (h:(l.map (·.Name)).Nodup):ANodup (stA l):=by
 unfold ANodup;rw [Bg];exact h
theorem StOk.nodup {l:List StatS} (h:StOk l):l.Nodup:=(List.pairwise_map.1 h.nd).imp fun h e=>h (congrArg _ e)
theorem zxb {l l':List StatS} (h:(l'.map (·.Name)).Nodup) (hp:l.Perm l') (s:Str):sv l s=sv l' s:=by
 unfold sv;rw [zuG (hp.map _) (zqr h)]
theorem StOk.sort {l:List StatS} (h:StOk l):StOk (zX zhD l) where
 nd:=((zaU zhD l).map _).nodup_iff.2 h.nd
 nz x hx:=h.nz x ((zg5 _).1 hx)
theorem StOk.put {x:MendS} {l:List StatS} (h:StOk l):StOk (zjZ x l) where
 nd:=znr h.nd
 nz y hy:=by
  unfold zjZ at hy
  rcases List.mem_append.1 hy with hy|hy
  exact h.nz y (List.mem_filter.1 hy).1
  split at hy
  rename_i hc;rw [List.mem_singleton.1 hy];exact hc
  cases hy
theorem StOk.nil:StOk []:=⟨BL,fun x h=>by cases h⟩
/-! all lists by place-/
structure GSOk (G:GrS):Prop where
 nd:ANodup G
 ok: ∀q∈G,StOk q.2
theorem GSOk.get {G:GrS} (h:GSOk G) (p:Plc):StOk ((alk p G).getD []):=by
 cases hq:alk p G with
 |none=>exact StOk.nil
 |some l=>exact h.ok _ (zcv hq)
theorem GSOk.step {n:Int} {G:GrS} {x:MendS} (h:GSOk G):GSOk (zig n G x):=by
 unfold zig;split;exact h;refine ⟨h.nd.put,fun q hq=> ?_⟩
 rcases zdP hq with rfl|hq
 exact (h.get _).put;exact h.ok q hq
structure GVal (G:GrS):Prop where
 pl: ∀q∈G,key q.1.1=true/\zef q.1.2=true
 st: ∀q∈G,∀s∈q.2,key s.Name=true/\(-100000<=s.Count/\s.Count<=100000)
theorem GVal.step {n:Int} {G:GrS} {x:MendS} (h:GVal G) (hx:za6 x=0):GVal (zig n G x):=by
 obtain ⟨k1,k2,k3,k4,_⟩:=zrE hx;unfold zig;split;exact h;refine ⟨fun q hq=> ?_,fun q hq s hs=> ?_⟩
 rcases zdP hq with rfl|hq
 exact ⟨k1,k3⟩;exact h.pl q hq
 rcases zdP hq with rfl|hq
 unfold zjZ at hs
 rcases List.mem_append.1 hs with hs|hs
 have h1:=(List.mem_filter.1 hs).1
 cases ha:alk (x.Player,x.Week) G with
 |none=>rw [ha] at h1;cases h1
 |some l=>rw [ha] at h1;exact h.st _ (zcv ha) s h1
 split at hs
 rw [List.mem_singleton.1 hs];exact ⟨k2,k4⟩
 cases hs
 exact h.st q hq s hs
end
section
/-! mends as they are made up-/
def zg7 (x:MendS):Prop:=Sh x.Player/\Sh x.Stat/\Sh x.By
structure GoodMds (k:List MendS):Prop where
 len:k.length<=24
 all: ∀x∈k,zg7 x
def mp3:List Str:=[[97,110,110],[98,101,97],[122,111,101]]
def ms2:List Str:=[[103,111,97,108],[112,97,115,115]]
theorem zxr: ∀s∈mp3,Sh s:=fun s hs=>by
 simp [mp3] at hs;rcases hs with rfl|rfl|rfl<;>(unfold Sh;simp)
theorem zxs: ∀s∈ms2,Sh s:=fun s hs=>by
 simp [ms2] at hs;rcases hs with rfl|rfl<;>(unfold Sh;simp)
theorem GLok.mono {α:Type} {P:α->Prop} {n n' m m':Nat} {q:GL α} (h:GLok P n m q) (hn:n<=n') (hm:m<=m'):GLok P n' m' q:=⟨AA h.len hn,h.all,AA h.a hm⟩
/-! the lines of plays,with mends-/
end
section
open Op
structure BookC (b:BookS):Prop where
 bb:BookB b
 gw: ∀x∈b.League.Games,GamB x
 mb: ∀x∈b.Moves,MovB x
 hw: ∀x∈b.Health,-1000000000000000<=x.To/\x.To<=1000000000000000
 tr: ∀s∈b.League.Trust,Sh s
 pg: ∀x∈b.Plays,zcE x
 mg: ∀x∈b.Mends,zg7 x
 cs: ∀x∈b.Choices,(∀s∈x.Players,Sh s)/\Sh x.Captain
 l1:b.Moves.length<=100
 l2:b.Plays.length<=50
 l3:b.Mends.length<=50
 l4:b.Health.length<=10
 l5:b.Choices.length<=100
theorem zum {s:Str}:(!(zb2 s))=(s !=[]&& !(key s)):=by
 unfold zb2
 cases s with
 |nil=>rfl
 |cons x r=>cases key (x::r)<;>rfl
theorem zun {l:List Str} {s:Str}:((l++[s]).all zb2)= !((l.any fun x=> !(zb2 x))|| !(zb2 s)):=by
 rw [List.all_append,BO,List.all_nil,Bool.and_true,Bool.not_or,Bool.not_not,List.all_eq_not_any_not]
theorem zse {l:List Str} {c:Str} (h:(∃s,s∈l/\zb2 s=false)\/zb2 c=false):((l++[c]).all zb2)=false:=by
 rcases h with ⟨s,hs,e⟩|e
 exact List.all_eq_false.2 ⟨s,Ar _ hs,by rw [e];simp⟩;exact List.all_eq_false.2 ⟨c,Bd _ (List.mem_singleton.2 rfl),by rw [e];simp⟩
def zcj (g:LeagueS) (w:Int):Int:=g.Start+(w-1)*604800000
def zbK (g:LeagueS) (at':Int):Int:=if at'<g.Start\/zcj g 61<=at' then 0 else (at'-g.Start)/604800000+1
theorem zxd {g:LeagueS} {a:Int} {w:Int} (h1:1<=w) (h2:w<=60) (h3:zcj g w<=a) (h4:a<zcj g (w+1)):zbK g a=w:=by
 unfold zcj at h3 h4;have h5: ¬(a<g.Start\/zcj g 61<=a):=by
  unfold zcj;omega
 rw [zbK,if_neg h5]
 omega
theorem zuD {g:LeagueS} {a:Int} (h: ∀w:Int,1<=w->w<=60->¬(zcj g w<=a/\a<zcj g (w+1))):zbK g a=0:=by
 unfold zbK
 by_cases h5:a<g.Start\/zcj g 61<=a
 rw [if_pos h5]
 exfalso
 unfold zcj at h5;refine h ((a-g.Start)/604800000+1) (by omega) (by omega) ?_;unfold zcj
 omega
end
section
open Op
def MvE (a b:List MoveS):Int:=if orI [zkw a,zkw b]≠0 then orI [zkw a,zkw b] else ziv a b
def MvL (a b:List MoveS):List MoveS:=if orI [zkw a,zkw b]≠0 then [] else zkx a b
theorem ztl {L:List PlayerS} {a b Z:List HealthS} (ha:zcd L a=0) (hb:zcd L b=0) (hp:Z.Perm (a++b.filter fun x=> !(a.contains x))) (hs:Srt zbv Z):zcd L (zcm a b)=zcd L Z/\(zcd L (zcm a b)=0->zcm a b=Z):=by
 have h1:=zva ha hb;have hV2:Srt zbv (zfM a b):=zbW zd7 _;have hpv:(zfM a b).Perm Z:=(zaU zbv _).trans hp.symm;have lV: ∀x∈zfM a b,znR L x:=fun x hx=>by
  have h2:=(zaU zbv _).mem_iff.1 hx
  rcases List.mem_append.1 h2 with q|q
  exact zoN ha q;exact zoN hb (List.mem_filter.1 q).1
 have lZ: ∀x∈Z,znR L x:=fun x hx=>lV x (hpv.mem_iff.2 hx)
 have r:=zn8 (p:=none) hV2 hs hpv;have eV:=zkQ lV (r:=zfM a b) (k:=0) rfl;have eZ:=zkQ lZ (r:=Z) (k:=0) rfl;simp only [A1,if_false] at eV eZ;have h3:zcd L (zfM a b)=zcd L Z/\(zcd L (zfM a b)=0->zfM a b=Z):=by
  unfold zcd zdY;rw [eV,eZ,hpv.length_eq]
  by_cases hn:1000<Z.length
  rw [if_pos hn,if_pos hn];exact ⟨rfl,fun h=>by cases h⟩;rw [if_neg hn,if_neg hn];exact r
 exact ⟨h1.1.trans h3.1,fun h=>(h1.2 h).trans (h3.2 (by rw [<-h1.1];exact h))⟩
theorem ztm (t:HealthS) (l:List HealthS):(l.any fun y=>zbI zD t y)=decide (t∈l):=by
 rw [AS,B4,decide_eq_true_iff]
 constructor
 rintro ⟨y,hy,h⟩;have:=(zdt t y).1 h;rw [this];exact hy
 intro h;exact ⟨t,h,(zdt t t).2 rfl⟩
def zi5 (a b:List HealthS):List HealthS:=a++b.filter fun x=> !(a.contains x)
theorem zuF {a b:List HealthS} {k:Nat} {x:HealthS} (h:b[k]? =some x) (hn:x∉a):zi5 a (b.take (k+1))=zi5 a (b.take k)++[x]:=by
 unfold zi5;rw [zV h,Bt,<-An];simp [hn]
theorem zwv {a b:List HealthS} {k:Nat} {x:HealthS} (h:b[k]? =some x) (hn:x∈a):zi5 a (b.take (k+1))=zi5 a (b.take k):=by
 unfold zi5;rw [zV h,Bt];simp [hn]
theorem zq8 (a b:List HealthS):(zi5 a b).length<=a.length+b.length:=by
 unfold zi5;rw [Af];have:=Bu (fun x=> !(a.contains x)) b
 omega
theorem zrz (a b:List HealthS):(zcm a b).length<=a.length+b.length:=by
 unfold zcm;have h:=zdw (zX zel (a++b)) none;rw [zay,Af] at h;exact h
theorem znZ (a b:List MoveS):(zlx a b).length<=a.length+b.length:=by
 unfold zlx;have h:=zdw (zX zdl (a++b)) none;rw [zay,Af] at h;exact h
theorem zu7 {a b:List HealthS} {x:HealthS} (h:x∈zcm a b):x∈a\/x∈b:=by
 have:=zea _ _ _ h;rw [zg5,Cd] at this;exact this
theorem zot:Cmp (fun x y:{m:MoveS//MovB m}=>zdl x.1 y.1) fun _=>True where
 flip x y _ _:=zfq.flip x.1 y.1 trivial trivial
 trans x y z _ _ _ h1 h2:=zfq.trans x.1 y.1 z.1 trivial trivial trivial h1 h2
theorem zsR:Cmp (fun x y:{m:GameS//GamB m}=>zfY x.1 y.1) fun _=>True where
 flip x y _ _:=zjL.flip x.1 y.1 trivial trivial
 trans x y z _ _ _ h1 h2:=zjL.trans x.1 y.1 z.1 trivial trivial trivial h1 h2
theorem ziC {α:Type} {p:α->Prop} {l:List α} (h: ∀x∈l,p x):(l.attachWith p h).map Subtype.val=l:=by simp
theorem zk0 {α β:Type} {p:α->Prop} {l:List α} (h: ∀x∈l,p x) (f:α->β):(l.attachWith p h).map (fun x=>f x.1)=l.map f:=by
 have e:(l.attachWith p h).map (fun x=>f x.1)=((l.attachWith p h).map Subtype.val).map f:=by rw [Bg];rfl
 rw [e,ziC]
end
section
theorem zfJ (x y:Play):zbl [.str x.Source,.int .i64 x.No,.int .i64 x.At,.int .i64 x.Week,.str x.Match,.str x.Player,.str x.Stat,.int .i64 x.Count,.int .i64 x.Undo] [.str y.Source,.int .i64 y.No,.int .i64 y.At,.int .i64 y.Week,.str y.Match,.str y.Player,.str y.Stat,.int .i64 y.Count,.int .i64 y.Undo]=true↔x=y:=by
 obtain ⟨a1,a2,a3,a4,a5,a6,a7,a8,a9⟩:=x;obtain ⟨b1,b2,b3,b4,b5,b6,b7,b8,b9⟩:=y
 show (_&&(_&&(_&&(_&&(_&&(_&&(_&&(_&&(_&&true)))))))))=true↔_
 simp [eqH,and_assoc]
instance decPlay:DecidableEq Play:=fun x y=>decidable_of_iff _ (zfJ x y)
def ze7 (a b:List Play):Int:=if orI [zbJ a,zbJ b]≠0 then orI [zbJ a,zbJ b] else if zbC byNo a b then 13 else zbJ (zcK byNo a b)
def zcR (a b:List Play):List Play:=if orI [zbJ a,zbJ b]≠0 then [] else if zbC byNo a b then [] else if zbJ (zcK byNo a b)≠0 then [] else zcK byNo a b
theorem zvh {c:Play->Play->Int} {a b:List Play} {x:Play} (h:x∈zcK c a b):x∈a\/x∈b:=znW ((zg5 _).1 h)
theorem ztq (a b:List Play):(zcR a b).length<=a.length+b.length:=by
 unfold zcR
 split
 exact Ad _
 split
 exact Ad _
 split
 exact Ad _;exact zgQ byNo a b
def mpL (a b:List Play):List Play:=if zbC byNo a b then [] else if zbJ (zcK byNo a b)≠0 then [] else zcK byNo a b
def mpE (a b:List Play):Int:=if zbC byNo a b then 13 else zbJ (zcK byNo a b)
end
section

end
section
def zxe (x:LineS):Prop:=Sh x.Player/\∀s∈x.Stats,Sh s.Name
abbrev LnV:=LineS×Value
structure LG where
 u:Value
 out:List LnV
 a:Nat
def ztG (p:LnV):Prop:=zxe p.1/\p.1.Stats.length<=3
structure LGok (n m:Nat) (q:LG):Prop where
 len:q.out.length<=n
 all: ∀p∈q.out,ztG p
 a:q.a<=m
theorem LGok.mono {n n' m m':Nat} {q:LG} (h:LGok n m q) (hn:n<=n') (hm:m<=m'):LGok n' m' q:=⟨AA h.len hn,h.all,AA h.a hm⟩
theorem LGok.same {n m m':Nat} {u:Value} {out:List LnV} {a1 a2:Nat} (h:LGok n m ⟨u,out,a1⟩) (ha:a2<=m'):LGok (n+1) m' ⟨u,out,a2⟩:=⟨Nat.le_succ_of_le h.len,h.all,ha⟩
theorem LGok.add {n m m':Nat} {u u':Value} {out:List LnV} {a1 a2:Nat} {p:LnV} (h:LGok n m ⟨u,out,a1⟩) (hp:ztG p) (ha:a2<=m'):LGok (n+1) m' ⟨u',out++[p],a2⟩:=
 ⟨by have:=h.len;simp only [Af,Ao,Aq] at*;omega,fun y hy=>by
  rcases List.mem_append.1 hy with hy|hy
  exact h.all y hy;rw [List.mem_singleton.1 hy];exact hp,ha⟩
end
section
/-! sums-/
def zo4 (p:Str) (c:List (Of2×Int)) (s:StatS):List (Of2×Int):=zab (p,s.Name) ((alk (p,s.Name) c).getD 0+s.Count) c
def zwp (p:Str) (c:List (Of2×Int)) (l:List StatS):List (Of2×Int):=l.foldl (zo4 p) c
theorem LnOk.addC {q:LnS} {n:Nat} (h:LnOk q n) (p:Str) {s:StatS} (hb: -100000<=s.Count/\s.Count<=100000):LnOk ⟨q.S,zo4 p q.c s⟩ (n+1):=by
 have hv:=h.val (p,s.Name);refine ⟨h.c.put,h.S,h.k,AA (zpi _ _ _) (by have:=h.cl;omega),by have:=h.Sl;dsimp only;omega,fun e he=> ?_⟩
 rcases zdP he with rfl|he
 dsimp only;omega
 have:=h.bd e he;omega
theorem LnOk.row (p:Str): ∀(l:List StatS) {q:LnS} {n:Nat},LnOk q n->(∀s∈l,-100000<=s.Count/\s.Count<=100000)->LnOk ⟨q.S,zwp p q.c l⟩ (n+l.length)
 |[],q,n,h,_=>h
 |s::r,q,n,h,hb=>by
   have h1:=LnOk.row p r (h.addC p (hb s AE)) fun y hy=>hb y (AK _ hy)
   rw [Ao,show n+(r.length+1)=n+1+r.length by omega];exact h1
theorem zrF {κ α:Type} [DecidableEq κ]: ∀{S D:List (κ×α)},ANodup (D++S)->zpB D S=D++S
 |[],D,_=>by simp [zpB]
 |p::r,D,h=>by
   have hn:alk p.1 D=none:=by
    rw [zi6];intro hm;unfold ANodup at h;rw [Ap] at h;exact (List.nodup_append.1 h).2.2 _ hm _ AE rfl
   have e:zab p.1 p.2 D=D++[p]:=zrc hn
   show zpB (zab p.1 p.2 D) r=_
   rw [e,zrF (by simpa using h)]
   simp
end
section
def stP (l:List StatS):List (Str×Int):=l.foldl (fun c s=>zab s.Name s.Count c) []
theorem zsI (l:List StatS):stP l=zpB [] (stA l):=by
 unfold stP zpB stA;rw [List.foldl_map]
theorem zuz (l:List StatS):ANodup (stP l):=by rw [zsI];exact zoP ANodup.nil
theorem zxC {l:List StatS} (h:(l.map (·.Name)).Nodup):stP l=stA l:=by
 rw [zsI,zrF (by simpa using zqr h)];rfl
def zqV (l:List StatS) (s:Str) (n:Int):List StatS:=zo6 (zab s n (stP l))
theorem zuH {κ:Type} [DecidableEq κ] {c:List (κ×Int)} (hn:ANodup c) (k:κ):(alk k (c.filter fun e=>e.2 !=0)).getD 0=(alk k c).getD 0:=by
 have hn2:ANodup (c.filter fun e=>e.2 !=0):=by
  unfold ANodup at*;exact hn.sublist (List.filter_sublist.map _)
 cases hq:alk k (c.filter fun e=>e.2 !=0) with
 |some v=>
   have h1:=(List.mem_filter.1 (zcv hq)).1;rw [(zkB hn).1 h1]
 |none=>
   cases hr:alk k c with
   |none=>rfl
   |some v=>
     by_cases hv:v=0
     rw [hv];rfl;have h1:(k,v)∈c.filter fun e=>e.2 !=0:=List.mem_filter.2 ⟨zcv hr,by simpa using hv⟩
     rw [(zkB hn2).1 h1] at hq
     cases hq
theorem zpH {c:List (Str×Int)} (hn:ANodup c):StOk (zpG c) where
 nd:=by
  unfold zpG;rw [Bg];unfold ANodup at hn;exact hn.sublist (List.filter_sublist.map _)
 nz x hx:=by
  unfold zpG at hx;obtain ⟨e,he,rfl⟩:=List.mem_map.1 hx;have:=(List.mem_filter.1 he).2
  simpa using this
theorem zuB {c:List (Str×Int)} (hn:ANodup c):StOk (zo6 c):=(zpH hn).sort
theorem ztB {c:List (Str×Int)} (hn:ANodup c) (s:Str):sv (zo6 c) s=(alk s c).getD 0:=by
 have h1:sv (zo6 c) s=sv (zpG c) s:=zxb (zpH hn).nd (zaU zhD _) s;have h2:stA (zpG c)=c.filter fun e=>e.2 !=0:=by
  unfold stA zpG;rw [Bg];exact List.map_id _
 rw [h1];unfold sv;rw [h2];exact zuH hn s
theorem zuA {l:List StatS} (h:(l.map (·.Name)).Nodup) (hw:l.Pairwise fun a b=> ¬zhD b a<0):zX zhD l=l:=
 (zfn zk3 (fun _ _ hx hy e=>zwY h hx hy (zbA.1 e)) (Ab _) hw).symm
theorem zsd {l:List StatS} (h:(l.map (·.Name)).Nodup):zX zhD (zX zhD l)=zX zhD l:=by
 have h1:=zjs zk3 (l:=l) (fun _ _=>trivial);refine zuA (((zaU zhD l).map _).nodup_iff.2 h) (h1.imp fun {a b} hab=> ?_)
 have:=zk3.flip a b trivial trivial;have:=zk3.flip b a trivial trivial
 omega
structure RfSt (l:List StatS):Prop where
 ok:StOk l
 so:zX zhD l=l
theorem RfSt.nil:RfSt []:=⟨StOk.nil,rfl⟩
theorem RfSt.put {l:List StatS} (h:RfSt l) (s:Str) (n:Int):RfSt (zqV l s n)/\∀t,sv (zqV l s n) t=if t=s then n else sv l t:=by
 have hn:ANodup (zab s n (stP l)):=(zuz l).put;refine ⟨⟨zuB hn,zsd (zpH hn).nd⟩,fun t=> ?_⟩
 unfold zqV;rw [ztB hn,zgY,zxC h.ok.nd]
 by_cases e:t=s
 rw [if_pos e,if_pos e];rfl;rw [if_neg e,if_neg e];rfl
structure RfOk (G:GrS):Prop where
 nd:ANodup G
 st: ∀q∈G,RfSt q.2
theorem RfOk.get {G:GrS} (h:RfOk G) (p:Plc):RfSt ((alk p G).getD []):=by
 cases hq:alk p G with
 |none=>exact RfSt.nil
 |some l=>exact h.st _ (zcv hq)
theorem zzM {G:GrS} (h:RfOk G):GSOk G:=⟨h.nd,fun q hq=>(h.st q hq).ok⟩
theorem RfOk.put {G:GrS} (h:RfOk G) (p:Plc) (s:Str) (n:Int):RfOk (zab p (zqV ((alk p G).getD []) s n) G):=
 ⟨h.nd.put,fun q hq=>by
  rcases zdP hq with rfl|hq
  exact ((h.get p).put s n).1;exact h.st q hq⟩
end
section
theorem zpW {κ α:Type} [DecidableEq κ] (s:κ) (v v':α): ∀G:List (κ×α),zab s v' (zab s v G)=zab s v' G
 |[]=>by simp [zab]
 |p::r=>by
   have ih:=zpW s v v' r
   by_cases h:s=p.1
   simp [zab,h]
   simp [zab,h,ih]
theorem zpX {κ α:Type} [DecidableEq κ] {s:κ} {v:α}: ∀{G:List (κ×α)},alk s G=some v->zab s v G=G
 |[],h=>by simp [alk] at h
 |p::r,h=>by
   by_cases e:s=p.1
   simp only [alk,if_pos e] at h;have:=Ak h;subst this;unfold zab;rw [if_pos e,e];simp only [alk,if_neg e] at h;have ih:=zpX h;simp only [zab,if_neg e,ih]
def rowI (L:List (Str×Int)) (l:List StatS):List (Str×Int):=l.foldl (fun L s=>zab s.Name ((alk s.Name L).getD 0+s.Count) L) L
theorem GrOk.row {S:List Str} {p:Str} {b:Nat}: ∀(l:List StatS) {c:List (Of2×Int)} {G:GrM Str} {L:List (Str×Int)},GrOk S c G->alk p G=some (b,L)->GrOk S (zwp p c l) (zab p (b,rowI L l) G)
 |[],c,G,L,h,hq=>by
   show GrOk S c (zab p (b,L) G)
   rw [zpX hq];exact h
 |s::r,c,G,L,h,hq=>by
   have hL:=h.get hq;have h1:=h.put hq s.Name ((alk s.Name L).getD 0+s.Count);have e:zab (p,s.Name) ((alk s.Name L).getD 0+s.Count) c=zo4 p c s:=by unfold zo4;rw [hL,zqb]
   rw [e] at h1;have h2:=GrOk.row r h1 (L:=zab s.Name ((alk s.Name L).getD 0+s.Count) L) (by rw [zgY,if_pos rfl]);rw [zpW] at h2;exact h2
end
section
theorem ziZ {α:Type} {c:Prop} [Decidable c] {l:List α} {n:Nat} (h:l.length<=n):(if c then [] else l).length<=n:=by
 split
 exact Ad _;exact h
theorem zsL (m n:List MendS):(zd3 m n).length<=m.length+n.length:=by
 unfold zd3
 split
 exact Ad _;exact ziZ (zgQ zaI m n)
end
section
open Op
def zcx {α:Type} (p:α->α->Bool):List α->List α->Bool
 |[],[]=>true
 |a::l,b::m=>p a b&&zcx p l m
 |_,_=>false
theorem zlm {α:Type} {p:α->α->Bool}: ∀{l m:List α},l.length≠m.length->zcx p l m=false
 |[],[],h=>absurd rfl h
 |[],_::_,_=>rfl
 |_::_,[],_=>rfl
 |a::l,b::m,h=>by
   rw [zcx,zlm (by intro q;apply h;simp [q])];simp
theorem zjT {α:Type} {p:α->α->Bool} (h: ∀x,p x x=true): ∀l:List α,zcx p l l=true
 |[]=>rfl
 |a::r=>by rw [zcx,h,zjT h r];rfl
theorem zcU {α:Type} {e:α->HVal} (h: ∀x,zbI e x x=true): ∀l:List α,zah e l l=true
 |[]=>rfl
 |a::r=>by rw [zah,h,zcU h r];rfl
def zdS (x y:PlayerS):Bool:=x.Key==y.Key&&x.Name==y.Name&&x.Positions==y.Positions
def zec (x y:SlotS):Bool:=x.Key==y.Key&&x.Positions==y.Positions
abbrev zir (x:Int):HVal:= .int .i64 x
def zkV (a b:BoundS):Bool:=zbI zgp a b
def zdV (a b:LeagueS):Bool:=
 zcx zdS a.Players b.Players&&zcx zec a.Slots b.Slots&&(zah zbx a.Stints b.Stints&&zah zaV a.Fixtures b.Fixtures&&zah zfl a.Rules b.Rules&&zah zaO a.Games b.Games)
  &&(a.Teams==b.Teams&&zah zir a.Breaks b.Breaks&&a.Trust==b.Trust)&&zkV a.Bounds b.Bounds&&(a.Start==b.Start)
theorem zuv (a b:LeagueS):(zah zfl a.Rules b.Rules&&zcx zec a.Slots b.Slots&&zcx zdS a.Players b.Players&&zah zbx a.Stints b.Stints&&zah zaV a.Fixtures b.Fixtures&&zkV a.Bounds b.Bounds&&(a.Teams==b.Teams)
 &&zah zaO a.Games b.Games&&zah zir a.Breaks b.Breaks&&(a.Trust==b.Trust)&&(a.Start==b.Start))=zdV a b:=by
 unfold zdV
 generalize zah zfl a.Rules b.Rules=p1
 generalize zcx zec a.Slots b.Slots=p2
 generalize zcx zdS a.Players b.Players=p3
 generalize zah zbx a.Stints b.Stints=p4
 generalize zah zaV a.Fixtures b.Fixtures=p5
 generalize zkV a.Bounds b.Bounds=p6
 generalize (a.Teams==b.Teams)=p7
 generalize zah zaO a.Games b.Games=p8
 generalize zah zir a.Breaks b.Breaks=p9
 generalize (a.Trust==b.Trust)=p10
 generalize (a.Start==b.Start)=p11
 cases p1<;>cases p2<;>cases p3<;>simp
 cases p4<;>cases p5<;>cases p6<;>simp
 cases p7<;>cases p8<;>cases p9<;>simp
theorem ztz (a:LeagueS):zdV a a=true:=by
 unfold zdV;rw [zjT (by intro x;simp [zdS]),zjT (by intro x;simp [zec]),zcU (by intro x;simp [zbI,zd,zbl,eqH]),zcU (by intro x;simp [zbI,zd,zbl,eqH]),zcU (by intro x;simp [zbI,zd,zbl,eqH]),
  zcU (by intro x;simp [zbI,zd,zbl,eqH]),zcU (by intro x;simp [zbI,zd,zbl,eqH])]
 simp [zkV,zbI,zd,zbl,eqH]
def zqW (a b:BookS):Bool:=
 zdV a.League b.League&&zah zaS a.Moves b.Moves&&zah zu a.Plays b.Plays&&zah zB a.Mends b.Mends&&zah zD a.Health b.Health&&zcx zfo a.Choices b.Choices
theorem zo2 (a:BookS):zqW a a=true:=by
 unfold zqW;rw [ztz,zcU (by intro x;exact (zg4 x x).2 rfl),zcU (by intro x;simp [zbI,zd,zbl,eqH]),zcU (by intro x;exact (zeI x x).2 rfl),zcU (by intro x;exact (zdt x x).2 rfl),zjT (by intro x;exact (zfR x x).2 rfl)]
 rfl
def zwT:LeagueS:=⟨[],[],[],[],[],⟨0,0,0,0⟩,[],[],[],[],0⟩
def zfW:BookS:=⟨zwT,[],[],[],[],[]⟩
def zgx (a b:BookS):Int:=orI [ziv a.Moves b.Moves,mpE a.Plays b.Plays,if zbC zaI a.Mends b.Mends=true then 13 else 0,zcd a.League.Players (zcm a.Health b.Health),zgO a.Choices b.Choices]
def zgR (a b:BookS):Int:=if zdV a.League b.League=false then 13 else zgx a b
def zfj (a b:BookS):BookS:=if zgR a b≠0 then zfW else ⟨a.League,zkx a.Moves b.Moves,mpL a.Plays b.Plays,if zbC zaI a.Mends b.Mends=true then [] else zcK zaI a.Mends b.Mends,zcm a.Health b.Health,zex a.Choices b.Choices⟩
def zq2 (a b:BookS):Int:=if orI [zbS a,zbS b]≠0 then orI [zbS a,zbS b] else zgR a b
def zpg (a b:BookS):BookS:=if orI [zbS a,zbS b]≠0 then zfW else zfj a b
structure BookR (b:BookS):Prop where
 ply:zc4 b.League.Players=0
 mov:zkw b.Moves=0
 pla:zbJ b.Plays=0
 men:zb9 b.Mends=0
 hea:zcd b.League.Players b.Health=0
 cho:zrm b.League.Teams b.League.Slots.length b.Choices=0
theorem zfX {b:BookS} (h:zbS b=0):BookR b:=by
 unfold zbS at h
 split at h
 contradiction
 rename_i h1
 have h1:zbe b.League=0:=by simpa using h1
 have hp:zc4 b.League.Players=0:=by
  refine Classical.byContradiction fun hq=> ?_
  have:=zrC hq;rw [h1] at this;exact hq this
 rw [za3,za3,za3,zcz] at h;obtain ⟨a1,h⟩:=zb3 h;obtain ⟨a2,h⟩:=zb3 h;obtain ⟨a3,h⟩:=zb3 h;obtain ⟨a4,a5⟩:=zb3 h;exact ⟨hp,a1,a2,a3,a4,a5⟩
theorem zrH {a b:BookS} (ha:BookR a) (hb:BookR b):orI [MvE a.Moves b.Moves,ze7 a.Plays b.Plays,zg9 a.Mends b.Mends,zjr a.League.Players a.Health b.Health,zgO a.Choices b.Choices]=zgx a b:=by
 have e1:MvE a.Moves b.Moves=ziv a.Moves b.Moves:=by unfold MvE;rw [ha.mov,hb.mov];rfl
 have e2:ze7 a.Plays b.Plays=mpE a.Plays b.Plays:=by unfold ze7 mpE;rw [ha.pla,hb.pla];rfl
 have e3:zg9 a.Mends b.Mends=if zbC zaI a.Mends b.Mends=true then 13 else 0:=by unfold zg9;rw [ha.men,hb.men];rfl
 have e4:zjr a.League.Players a.Health b.Health=zcd a.League.Players (zcm a.Health b.Health):=by unfold zjr zmz;rw [ha.ply];rfl
 rw [e1,e2,e3,e4];rfl
theorem zrG {a b:BookS} (ha:BookR a) (hb:BookR b) (hs:zdV a.League b.League=true) (h:zgx a b=0):
 (⟨a.League,MvL a.Moves b.Moves,zcR a.Plays b.Plays,zd3 a.Mends b.Mends,zhJ a.League.Players a.Health b.Health,zex a.Choices b.Choices⟩:BookS)=zfj a b:=by
 have e0: ¬zgR a b≠0:=by unfold zgR;rw [if_neg (by rw [hs];simp),h];simp
 have h5:=zrH ha hb;rw [h,za3,za3,za3,zcz] at h5;obtain ⟨a1,h5⟩:=zb3 h5;obtain ⟨a2,h5⟩:=zb3 h5;obtain ⟨a3,h5⟩:=zb3 h5;obtain ⟨a4,a5⟩:=zb3 h5;have e1:MvL a.Moves b.Moves=zkx a.Moves b.Moves:=by unfold MvL;rw [ha.mov,hb.mov];rfl
 have e2:zcR a.Plays b.Plays=mpL a.Plays b.Plays:=by unfold zcR mpL;rw [ha.pla,hb.pla];rfl
 have e3:zd3 a.Mends b.Mends=if zbC zaI a.Mends b.Mends=true then [] else zcK zaI a.Mends b.Mends:=by unfold zd3;rw [ha.men,hb.men];rfl
 have e4:zhJ a.League.Players a.Health b.Health=zcm a.Health b.Health:=by unfold zhJ;rw [if_neg (by rw [a4];simp)]
 unfold zfj;rw [if_neg e0,e1,e2,e3,e4]
end
end Go.HL
section
namespace Go.HL
section
variable {P:Program} {e:Env} {dst:Option Tmp} {ty:TypeId} {pos:String} {af:Array Edge} {g:Option (Nat×Bool)}
end
end Go.HL
namespace Go.HL
end Go.HL
end
namespace Go.HL
section
open Op
theorem zsm {α:Type} {p:α->α->Bool} (h: ∀x y,p x y=true->x=y): ∀{l m:List α},zcx p l m=true->l=m
 |[],[],_=>rfl
 |[],_::_,q=>by cases q
 |_::_,[],q=>by cases q
 |a::l,b::m,q=>by
   rw [zcx,A9] at q;rw [h a b q.1,zsm h q.2]
theorem zuu {a b:LeagueS} (h:zdV a b=true):a.Players=b.Players:=by
 unfold zdV at h;simp only [A9] at h;refine zsm (fun x y q=> ?_) h.1.1.1.1.1
 obtain ⟨a1,a2,a3⟩:=x;obtain ⟨b1,b2,b3⟩:=y
 simp [zdS] at q
 simp [q]
theorem zcX:Weak (.agg [.raw (.slice none 0 0),.raw (.slice none 0 0),.raw (.slice none 0 0),.raw (.slice none 0 0),.raw (.slice none 0 0),.int .i64 0,.int .i64 0,.int .i64 0,.int .i64 0,.raw (.slice none 0 0),.raw (.slice none 0 0),.raw (.slice none 0 0),.raw (.slice none 0 0),.int .i64 0,
 .raw (.slice none 0 0),.raw (.slice none 0 0),.raw (.slice none 0 0),.raw (.slice none 0 0),.raw (.slice none 0 0)]) (zan zfW):=by
 refine zrZ rfl fun j h h' h1 h2=> ?_
 match j,h1,h2 with
 |0,h1,h2|1,h1,h2|2,h1,h2|3,h1,h2|4,h1,h2|9,h1,h2|10,h1,h2|11,h1,h2|12,h1,h2|14,h1,h2|15,h1,h2|16,h1,h2|17,h1,h2|18,h1,h2=>cases h1;cases h2;exact zbY _
 |5,h1,h2|6,h1,h2|7,h1,h2|8,h1,h2|13,h1,h2=>cases h1;cases h2;exact Weak.refl _
 |n+19,h1,h2=>cases h1
theorem zn9 {α:Type} {l:List α} {j:Nat} {x:α} (h:l[j]? =some x):l.set j x=l:=by
 have hj:=zo h;rw [Aa hj] at h;rw [<-Ak h,List.set_getElem_self]
theorem zm0 {a b:BookS} (h:orI [zbS a,zbS b]≠0):zq2 a b=orI [zbS a,zbS b]/\zpg a b=zfW:=by
 unfold zq2 zpg;rw [if_pos h,if_pos h];exact ⟨rfl,rfl⟩
theorem zii {a b:BookS} (h:orI [zbS a,zbS b]=0):zq2 a b=zgR a b/\zpg a b=zfj a b:=by
 unfold zq2 zpg;rw [if_neg (by rw [h];simp),if_neg (by rw [h];simp)];exact ⟨rfl,rfl⟩
theorem zih {a b:BookS} (h:zdV a.League b.League=false):zgR a b=13/\zfj a b=zfW:=by
 have e:zgR a b=13:=by unfold zgR;rw [if_pos h]
 exact ⟨e,by unfold zfj;rw [e];rfl⟩
theorem zm1 {a b:BookS} (h:zdV a.League b.League=true) (h2:zgx a b≠0):zgR a b=zgx a b/\zfj a b=zfW:=by
 have e:zgR a b=zgx a b:=by unfold zgR;rw [if_neg (by rw [h];simp)]
 exact ⟨e,by unfold zfj;rw [e,if_pos h2]⟩
theorem zn0 {a b:BookS} (h:zdV a.League b.League=true) (h2:zgx a b=0):zgR a b=0:=by
 unfold zgR;rw [if_neg (by rw [h];simp),h2]
end
section
open Op
theorem znq {α:Type} {c:Prop} [Decidable c] {l:List α} {x:α} (h:x∈(if c then [] else l)):x∈l:=by
 split at h
 cases h
 exact h
theorem zwu (a b:List MoveS):(MvL a b).length<=a.length+b.length:=by
 unfold MvL zkx;exact ziZ (ziZ (znZ a b))
theorem zu6 (L:List PlayerS) (a b:List HealthS):(zhJ L a b).length<=a.length+b.length:=by
 unfold zhJ;exact ziZ (zrz a b)
theorem zuT (a b:List ChoiceS):(zex a b).length<=a.length+b.length:=by
 unfold zex;exact ziZ (ziZ (zgQ zaQ a b))
theorem zuU {a b:List ChoiceS} {x:ChoiceS} (h:x∈zex a b):x∈a\/x∈b:=by
 unfold zex at h;exact znW ((zg5 _).1 (znq (znq h)))
theorem zuk {a b:BookS} (ha:BookC a) (hb:BookC b):BookB ⟨a.League,MvL a.Moves b.Moves,zcR a.Plays b.Plays,zd3 a.Mends b.Mends,zhJ a.League.Players a.Health b.Health,zex a.Choices b.Choices⟩:=by
 have a1:=ha.l1;have a2:=ha.l2;have a3:=ha.l3;have a4:=ha.l4;have a5:=ha.l5;have b1:=hb.l1;have b2:=hb.l2;have b3:=hb.l3;have b4:=hb.l4;have b5:=hb.l5;have c1:=zwu a.Moves b.Moves;have c2:=ztq a.Plays b.Plays;have c3:=zsL a.Mends b.Mends;have c4:=zu6 a.League.Players a.Health b.Health;have c5:=zuT a.Choices b.Choices;refine ⟨ha.bb.lea,?_,?_,?_,?_,?_,fun x hx=> ?_⟩
 show (MvL a.Moves b.Moves).length<=1000000;omega
 show (zcR a.Plays b.Plays).length<=1000000;omega
 show (zd3 a.Mends b.Mends).length<=1000000;omega
 show (zhJ a.League.Players a.Health b.Health).length<=1000000;omega
 show (zex a.Choices b.Choices).length<=1000000;omega
 rcases zuU hx with h|h
 exact ha.bb.cp x h;exact hb.bb.cp x h
end
section
open Op
theorem zoO {l:List MendS} (h:zb9 l=0):l.Pairwise fun a b=>zaI a b<0:=by
 unfold zb9 at h
 split at h
 contradiction
 exact zoG zcG h
theorem zeh {a b:BookS} {f:Int} (h:zdV a.League b.League=true) (hf:f≠0) (he:zgx a b=f):zgR a b=f/\zfj a b=zfW:=by
 obtain ⟨h1,h2⟩:=zm1 h (by rw [he];exact hf);exact ⟨by rw [h1,he],h2⟩
theorem zdf (a b:BookS):zgx a b=if ziv a.Moves b.Moves≠0 then ziv a.Moves b.Moves else if mpE a.Plays b.Plays≠0 then mpE a.Plays b.Plays else
 if (if zbC zaI a.Mends b.Mends=true then (13:Int) else 0)≠0 then (if zbC zaI a.Mends b.Mends=true then 13 else 0) else if zcd a.League.Players (zcm a.Health b.Health)≠0 then zcd a.League.Players (zcm a.Health b.Health) else zgO a.Choices b.Choices:=by
 unfold zgx;rw [za3,za3,za3,zcz]
theorem zvj {a b:BookS} (h:zdV a.League b.League=true) (he:zgx a b=0):
 zfj a b=⟨a.League,zkx a.Moves b.Moves,mpL a.Plays b.Plays,if zbC zaI a.Mends b.Mends=true then [] else zcK zaI a.Mends b.Mends,zcm a.Health b.Health,zex a.Choices b.Choices⟩:=by
 unfold zfj;rw [if_neg (by rw [zn0 h he];simp)]
end
section
open Op
def sp4:List Str:=[[100,102],[102,119],[103,107],[109,102]]
def nm5:List Str:=[[97,110,110],[98,101,97],[99,105,100],[100,97,110],[101,118,101]]
def sl4:List Str:=[[115,98],[115,97],[115,99],[115,100]]
def ru5:List Str:=[[114,97],[114,98],[114,99],[114,100],[114,101]]
structure GoodPy (p:PlayerS):Prop where
 name:p.Name∈zcP
 pos:p.Positions.length<=4
structure GoodPys (l:List PlayerS):Prop where
 len:l.length<=5
 all: ∀p∈l,GoodPy p
def zmV (x:SlotS):Prop:=x.Positions.length<=10
structure GoodSlos (l:List SlotS):Prop where
 len:l.length<=4
 all: ∀x∈l,zmV x
def zkz (x:SlotS):Prop:=x.Positions.length<=4
structure GoodS4s (l:List SlotS):Prop where
 len:l.length<=4
 all: ∀x∈l,zkz x
theorem GoodS4s.up {l:List SlotS} (h:GoodS4s l):GoodSlos l:=⟨h.len,fun x hx=>by have:=h.all x hx;dsimp only [zkz] at this;show x.Positions.length<=10;omega⟩
def zqZ (x:HealthS):Prop:= -1000000000000000<=x.To/\x.To<=1000000000000000
structure GoodHes (l:List HealthS):Prop where
 len:l.length<=10
 all: ∀x∈l,zqZ x
def ofB (L:List PlayerS) (s:Str):Bool:=decide (zap (fun x:PlayerS=>x.Key==s) L 0<0)&&(s !=[122,101,100])
theorem GoodHes.filter {l:List HealthS} {p:HealthS->Bool} (h1:l.length<=10) (h2: ∀x∈l,zqZ x):GoodHes (l.filter p):=
 ⟨AA (Bu _ _) h1,fun x hx=>h2 x (List.mem_filter.1 hx).1⟩
def zuE (x:RuleS):Prop:=(-1000000000<=x.Num/\x.Num<=1000000000)/\ -1000000000<=x.Den/\x.Den<=1000000000
structure GoodRus (l:List RuleS):Prop where
 len:l.length<=5
 all: ∀x∈l,zuE x
theorem zsn {n g:Int} (h: -1000<=n/\n<=1000): -1000000000<=n.tdiv g/\n.tdiv g<=1000000000:=by
 have h1:(n.tdiv g).natAbs<=n.natAbs:=by
  rw [Int.natAbs_tdiv];exact Nat.div_le_self _ _
 omega
def zhk (n d:Int):Int:=((Nat.gcd n.natAbs d.natAbs:Nat):Int)
theorem zwU {n d:Int} (h:1<=d):1<=zhk n d:=by
 unfold zhk;have:=Nat.gcd_pos_of_pos_right n.natAbs (show 0<d.natAbs by omega)
 omega
end
end Go.HL
namespace Go.Proofs.YtbbpommdmnjfmaaGreatDoor
set_option maxRecDepth 100000
set_option linter.unusedVariables false
set_option linter.unusedSimpArgs false
section
open Go.Proofs.Tryz
open Go.HL
theorem zdF [Tracks] {b:Nat} {l:List Int} {a:Nat} (ha:a<=800000):Con prog 201 [pAt b] [St b l a] (fun x M'=> ∃t a',x=eSs t/\t.length<=4/\a'<=a+5/\M'=[St b l a']):=by
 refine uOb func201 ntmps201 ?_;refine gz6 ?_;refine zf (zG 1) ?_;refine gz2 ?_;refine dq (zb (hs:=[_,_,_,_]) zH ty9 rfl rfl (by decide) (by decide) rfl) ?_;refine dq (zaq (f:=HVal.str) (l:=sp4) zH rfl) ?_;refine gz3 ?_;refine uV2 [3,1,5,1,8,11] (fun (k:Nat) (q:GL Str)=>[(8,.int .i64 k),(3,.raw q.u)]) (fun (k:Nat) (q:GL Str)=>[St b l q.a,.arr q.u 1 (q.out.map HVal.str)]) (fun (k:Nat) (q:GL Str)=>k<=sp4.length/\(GLok (fun _=>True) (k) (a+k) q)) (fun (k:Nat) (q:GL Str)=>sp4.length-k) (0) (⟨.slice none 0 0,[],a⟩) ?_ ?_ ?_ ?_
 ·exact ⟨Ad _,⟨by simp,by simp,uD⟩⟩
 ·exact ⟨rfl,rfl,trivial⟩
 ·exact uP
 ·intro k q hinv
  obtain ⟨hk,hq⟩:=hinv;have hlen:sp4.length=4:=rfl;obtain ⟨u,out,a2⟩:=q;obtain ⟨g1,g2,g3⟩:=id hq;dsimp only at g1 g2 g3;refine gz4 ?_;refine uCo (fun h1=> ?_) fun h2=> ?_
  ·obtain ⟨x,hx⟩: ∃x,sp4[k]? =some x:=⟨_,Aa h1⟩
   have hdx:=zi hx;refine gz5 ?_;refine dq (zl (f:=HVal.str) (l:=sp4) (j:=k) (a:=x) zH ty9 rfl rfl rfl hx) ?_;refine gz5 ?_;refine de rfl (za (i:=0) zdK rfl (WeakL.refl _) rfl (zK uS uS) ?_)
   rintro _ _ ⟨y13,rfl,rfl⟩;refine gz1 ?_;refine uCo (fun h3=> ?_) fun h4=> ?_
   ·refine gz3 ?_;refine dq (zb (hs:=[_]) zH ty9 rfl rfl (by decide) (by decide) rfl) ?_;refine de rfl (zC (i:=1) zH ty9 rfl rfl rfl rfl rfl (by simp [zal,zd,zce,zbp]) (by simp;omega) fun v17=> ?_)
    refine gz8 ?_;exact ⟨k+1,⟨v17,out++[x],a2+1⟩,⟨by omega,hq.add (x:=x) trivial uO⟩,uD,⟨rfl,rfl,trivial⟩,uK,zm (by dsimp only;first|rfl|(rw [Ap];rfl))⟩
   ·refine gz7 ?_;exact ⟨k+1,⟨u,out,a2+1⟩,⟨by omega,hq.same uO⟩,uD,⟨rfl,rfl,trivial⟩,uK,zm (by dsimp only;first|rfl|(rw [Ap];rfl))⟩
  ·have hnk:sp4.length<=k:=by omega
   obtain rfl:k=sp4.length:=by omega
   refine gz2 ?_;refine zM ?_;refine gz5 ?_;refine de rfl (zaT (i:=1) zH rfl rfl ?_)
   refine gz2 ?_;refine uCo (fun h5=> ?_) fun h6=> ?_
   ·refine gz2 ?_;refine dq (zb (hs:=[_,_,_]) zH ty9 rfl rfl (by decide) (by decide) rfl) ?_;refine de rfl (za (i:=0) zck rfl (WeakL.refl _) rfl (zt (L:=[_,_,_]) uS uS uS) ?_)
    rintro _ _ ⟨y24,rfl,hy24,rfl⟩;refine dq (zb (hs:=[_]) zH ty9 rfl rfl (by decide) (by decide) rfl) ?_;refine gz3 ?_;exact zag ((zP (M':=[St b l (a2+1),.arr u 1 (out.map HVal.str)]) rfl).trans ((Ghost.perm (List.Perm.swap _ _ _)).trans Ghost.drop)) rfl ⟨[y24],_,rfl,by simp,by omega,rfl⟩
   ·refine gz7 ?_;exact zag (zaP 2 (i:=1) rfl rfl) rfl ⟨out,a2,rfl,by omega,by omega,rfl⟩
theorem zdW [Tracks] {b:Nat} {l:List Int} {a:Nat} (ha:a<=700000):Con prog 93 [pAt b] [St b l a] (fun x M'=> ∃k a',x=zbd k/\GoodPys k/\a'<=a+40/\M'=[St b l a']):=by
 refine uOb func93 ntmps93 ?_;refine gz6 ?_;refine zf (zG 3) ?_;refine gz2 ?_;refine dq (zb (hs:=[_,_,_,_,_]) zH ty9 rfl rfl (by decide) (by decide) rfl) ?_;refine dq (zaq (f:=HVal.str) (l:=nm5) zH rfl) ?_;refine gz3 ?_;refine uV2 [3,1,5,1,8,17] (fun (k:Nat) (q:GL PlayerS)=>[(8,.int .i64 k),(3,.raw q.u)]) (fun (k:Nat) (q:GL PlayerS)=>[St b l q.a,.arr q.u 3 (q.out.map zbs)]) (fun (k:Nat) (q:GL PlayerS)=>k<=nm5.length/\(GLok (GoodPy) (k) (a+8*k) q)) (fun (k:Nat) (q:GL PlayerS)=>nm5.length-k) (0) (⟨.slice none 0 0,[],a⟩) ?_ ?_ ?_ ?_;exact ⟨Ad _,⟨by simp,by simp,uD⟩⟩;exact ⟨rfl,rfl,trivial⟩;exact uP
 intro k q hinv
 obtain ⟨hk,hq⟩:=hinv;have hlen:nm5.length=5:=rfl;obtain ⟨u,out,a2⟩:=q;obtain ⟨g1,g2,g3⟩:=id hq;dsimp only at g1 g2 g3;refine gz4 ?_;refine uCo (fun h1=> ?_) fun h2=> ?_
 obtain ⟨x,hx⟩: ∃x,nm5[k]? =some x:=⟨_,Aa h1⟩
 have hdx:=zi hx;refine gz5 ?_;refine dq (zl (f:=HVal.str) (l:=nm5) (j:=k) (a:=x) zH ty9 rfl rfl rfl hx) ?_;refine gz6 ?_;refine de rfl (za (i:=0) zdK rfl (WeakL.refl _) rfl (zK uS uS) ?_)
 rintro _ _ ⟨y13,rfl,rfl⟩;refine gz1 ?_;refine uCo (fun h3=> ?_) fun h4=> ?_
 refine gz8 ?_;exact ⟨k+1,⟨u,out,a2+1⟩,⟨by omega,hq.same uO⟩,uD,⟨rfl,rfl,trivial⟩,uK,zm (by dsimp only;first|rfl|(rw [Ap];rfl))⟩;refine gz6 ?_;refine dq (zb (hs:=[_,_,_,_,_,_]) zH ty9 rfl rfl (by decide) (by decide) rfl) ?_;refine de rfl (za (i:=0) zck rfl (WeakL.refl _) rfl (zt (L:=[_,_,_,_,_,_]) uS uS uS) ?_)
 rintro _ _ ⟨y18,rfl,hy18,rfl⟩;refine gz1 ?_;refine de rfl (za (i:=0) zs3 rfl (WeakL.refl _) rfl (zdF uS) ?_)
 rintro _ _ ⟨t20,a20,rfl,ht20,ha20,rfl⟩;refine dq (zas (cs:=[_,_,_]) zcg zzz rfl) ?_;refine dq (zb (hs:=[_]) zdi zcg rfl rfl (by decide) (by decide) rfl) ?_;refine de rfl (zC (i:=1) zdi zcg rfl rfl rfl rfl rfl (by simp [zal,zd,zce,zbp]) (by simp;omega) fun v23=> ?_)
 refine gz8 ?_;exact ⟨k+1,⟨v23,out++[(⟨x,y18,t20⟩:PlayerS)],a20⟩,⟨by omega,hq.add (x:=(⟨x,y18,t20⟩:PlayerS)) ⟨by exact hy18,ht20⟩ (by dsimp only at ha20;omega)⟩,uD,⟨rfl,rfl,trivial⟩,uK,zm (by dsimp only;first|rfl|(rw [Ap];rfl))⟩;have hnk:nm5.length<=k:=by omega
 obtain rfl:k=nm5.length:=by omega
 refine gz2 ?_;refine zM ?_;refine gz7 ?_;exact zag (zaP 2 (i:=1) rfl rfl) rfl ⟨out,a2,rfl,⟨by omega,g2⟩,by omega,rfl⟩
theorem zbb [Tracks] {b:Nat} {l:List Int} {a:Nat} (ha:a<=800000):Con prog 97 [pAt b] [St b l a] (fun x M'=> ∃y:BoundS,x=zgp y/\M'=[St b l (a+4)]):=by
 refine zbU func97 rfl ntmps97 rfl rfl ?_;refine gz1 ?_;refine de rfl (zq zgj rfl fun b2=> ?_)
 refine gz3 ?_;refine dq (zb (hs:=[_,_,_,_]) zac ty3 rfl rfl (by decide) (by decide) rfl) ?_;refine de rfl (za (i:=1) za8 rfl (WeakL.refl _) rfl (zh (L:=[_,_,_,_]) uS uS uS) ?_)
 rintro _ _ ⟨y5,rfl,hy5,rfl⟩;refine gz1 ?_;refine dq (zb (hs:=[_,_,_]) zac ty3 rfl rfl (by decide) (by decide) rfl) ?_;refine de rfl (za (i:=0) za8 rfl (WeakL.refl _) rfl (zh (L:=[_,_,_]) uS uS uS) ?_)
 rintro _ _ ⟨y8,rfl,hy8,rfl⟩;refine gz1 ?_;refine dq (zb (hs:=[_,_,_,_]) zac ty3 rfl rfl (by decide) (by decide) rfl) ?_;refine de rfl (za (i:=0) za8 rfl (WeakL.refl _) rfl (zh (L:=[_,_,_,_]) uS uS uS) ?_)
 rintro _ _ ⟨y11,rfl,hy11,rfl⟩;refine gz1 ?_;refine dq (zb (hs:=[_,_,_,_]) zac ty3 rfl rfl (by decide) (by decide) rfl) ?_;refine de rfl (za (i:=0) za8 rfl (WeakL.refl _) rfl (zh (L:=[_,_,_,_]) uS uS uS) ?_)
 rintro _ _ ⟨y14,rfl,hy14,rfl⟩;refine dq (zas (cs:=[_,_,_,_]) zgj pl32 rfl) ?_;refine de0 (uY 1 ?_)
 refine gz2 ?_;exact ⟨_,_,zca 2 (i:=1) rfl rfl,[_],_,⟨⟨_,_,_,_,_,rfl,zgj,.inr ⟨rfl,rfl,rfl⟩⟩,trivial⟩,Weak.refl _,⟨y5,y8,y11,y14⟩,rfl,rfl⟩
theorem zbu [Tracks] {b:Nat} {l:List Int} {a:Nat} (ha:a<=700000):Con prog 96 [pAt b] [St b l a] (fun x M'=> ∃k a',x=zgq k/\GoodS4s k/\0<k.length/\a'<=a+25/\M'=[St b l a']):=by
 refine uOb func96 ntmps96 ?_;refine gz6 ?_;refine zf (zG 2) ?_;refine gz2 ?_;refine dq (zb (hs:=[_,_,_,_]) zH ty9 rfl rfl (by decide) (by decide) rfl) ?_;refine gz1 ?_;refine de rfl (za (i:=1) zgh rfl (WeakL.refl _) rfl (zY uS uS uS uS) ?_)
 rintro _ _ ⟨y8,rfl,hy8,rfl⟩;refine dq (zbq (es:=sl4) (f:=HVal.str) (h:=y8.toNat) zH ty9 rfl rfl ⟨_,_,rfl,by omega⟩ uO (by simp [sl4];omega)) ?_;refine dq (zaq (f:=HVal.str) (l:=(sl4.take y8.toNat)) zH rfl) ?_;refine gz2 ?_;have hlen:(sl4.take y8.toNat).length=y8.toNat:=by simp [sl4];omega
 refine gz1 ?_;refine uV2 [3,1,5,1,11,12] (fun (k:Nat) (q:GL SlotS)=>[(11,.int .i64 k),(3,.raw q.u)]) (fun (k:Nat) (q:GL SlotS)=>[St b l q.a,.arr q.u 2 (q.out.map za4)]) (fun (k:Nat) (q:GL SlotS)=>k<=(sl4.take y8.toNat).length/\(q.out.length=k/\GLok zkz k (a+1+5*k) q)) (fun (k:Nat) (q:GL SlotS)=>(sl4.take y8.toNat).length-k) (0) (⟨.slice none 0 0,[],a+1⟩) ?_ ?_ ?_ ?_;exact ⟨Ad _,rfl,⟨by simp,by simp,uD⟩⟩;exact ⟨rfl,rfl,trivial⟩;exact uP
 intro k q hinv
 obtain ⟨hk,⟨hn,hq⟩⟩:=hinv;obtain ⟨u,out,a2⟩:=q;obtain ⟨g1,g2,g3⟩:=id hq;dsimp only at g1 g2 g3;dsimp only at hn;refine gz4 ?_;refine uCo (fun h1=> ?_) fun h2=> ?_
 obtain ⟨x,hx⟩: ∃x,(sl4.take y8.toNat)[k]? =some x:=⟨_,Aa (by simpa using h1)⟩
 have hdx:=zi hx;refine gz5 ?_;refine dq (zl (f:=HVal.str) (l:=(sl4.take y8.toNat)) (j:=k) (a:=x) zH ty9 rfl rfl rfl hx) ?_;refine gz7 ?_;refine de rfl (za (i:=0) zs3 rfl (WeakL.refl _) rfl (zdF uS) ?_)
 rintro _ _ ⟨t18,a18,rfl,ht18,ha18,rfl⟩;refine dq (zas (cs:=[_,_]) zbE ztv rfl) ?_;refine dq (zb (hs:=[_]) zcn zbE rfl rfl (by decide) (by decide) rfl) ?_;refine de rfl (zC (i:=1) zcn zbE rfl rfl rfl rfl rfl (by simp [zal,zd,zce,zbp]) (by simp;omega) fun v21=> ?_)
 refine gz8 ?_;exact ⟨k+1,⟨v21,out++[(⟨x,t18⟩:SlotS)],a18⟩,⟨by omega,by simp;omega,hq.add (x:=(⟨x,t18⟩:SlotS)) (by show t18.length<=4;omega) (by dsimp only at ha18;omega)⟩,uD,⟨rfl,rfl,trivial⟩,uK,zm (by dsimp only;first|rfl|(rw [Ap];rfl))⟩;have hnk:(sl4.take y8.toNat).length<=k:=by simpa using h2
 obtain rfl:k=(sl4.take y8.toNat).length:=by omega
 refine gz2 ?_;refine zM ?_;refine gz7 ?_;exact zag (zaP 2 (i:=1) rfl rfl) rfl ⟨out,a2,rfl,⟨by omega,g2⟩,by omega,by omega,rfl⟩
end
end Go.Proofs.YtbbpommdmnjfmaaGreatDoor
namespace Go.HL
section
open Go
def spl (c:UInt8):Str->List Str
 |[]=>[[]]
 |b::l=>if b=c then []::spl c l else match spl c l with
   |[]=>[[b]]
   |x::r=>(b::x)::r
def jn (c:UInt8):List Str->Str
 |[]=>[]
 |[x]=>x
 |x::r=>x++c::jn c r
theorem zwM {c:UInt8} {x:Str} {r:List Str} (h:r≠[]):jn c (x::r)=x++c::jn c r:=by
 cases r with
 |nil=>exact absurd rfl h
 |cons y r=>rfl
theorem zpw (c:UInt8): ∀l:List Str,Lib.join l [c]=jn c l
 |[]=>rfl
 |[x]=>Lib.join_one x [c]
 |x::y::r=>by
   rw [zwM (by simp),<-zpw c (y::r),Lib.join_cons,Lib.join_cons]
   simp [Lib.joinTail]
end
section
open Go.Proofs Go.RowKit Go.Sort Go.Shelf
variable {P:Program}
theorem Sat.below [Tracks] (hT:Tracks.on=false) {I:Imm} {M:List MObj} {w w':World} (hs:Sat P I M w) (hb:Below w.heap.size w w'):Sat P I M w':=by
 obtain ⟨h1,h2⟩:=hs.lt;exact hs.of_same (fun b hb'=>hb.block b (h1 b hb')) (fun b hb'=>hb.block b (h2 b hb')) hb.os hb.output hb.tape (fun h=>by rw [hT] at h;cases h)
theorem ztY [Tracks] (hT:Tracks.on=false) {ρ:Ren} (L:Lays.n196 P ρ) (h3:P.globalNamed "unicode/utf8.first" =some (ρ.g 3)) (h4:P.globalNamed "unicode/utf8.acceptRanges" =some (ρ.g 4)) {s:Str} (hs:s.length<=1000000):
 ConP P (ρ.f 196) [.str s] (.bool (Lib.validD s)):=by
 intro I F w args ha hsat
 obtain ⟨u,rfl,hu⟩:=ha.one;obtain rfl:=hu.str_inv;refine (Any.utf8_ValidString L ⟨s.toArray⟩ w (by show s.toArray.size<=_;simp;omega) (hsat.utf8 h3 h4)).mono ?_;rintro e w' ⟨rfl,hb⟩;exact ⟨_,.bool _,[],I,rfl,.refl I,⟨by simp,rfl⟩,.bool _,hsat.below hT hb⟩
theorem zsO {I:Imm} {w':World} {B:Nat} {t:TypeId} {v:Value} {l:List Str} (hl:l.length<=1000000) (hrow:w'.ownsRow B t 1 v l.length (l.map encStr)):MSat I w' (.arr v 1 (l.map .str)):=by
 rcases hrow.2 with ⟨rfl,hz⟩|⟨gb,cap,cur,rfl,hbase,hgb,r1,r2,r3,r4⟩
 refine .inl ⟨rfl,?_⟩
 rw [List.length_eq_zero_iff.1 hz];rfl;refine .inr ⟨gb,0,cap,cur,_,_,by rw [Aj],hgb,Free.zero _,fun e he=> ?_,⟨by rw [Aj];omega,AA r2 (by decide)⟩,by omega,fun i j e c y h1 h2 h3=> ?_⟩
 obtain ⟨s,_,rfl⟩:=List.mem_map.1 he;rfl;rw [Av] at h1
 cases hq:l[i]? with
 |none=>rw [hq] at h1;cases h1
 |some s=>
   rw [hq] at h1;simp only [AT,AC] at h1;subst h1;have hj:j=0:=by
    cases j with
    |zero=>rfl
    |succ j=>simp [zd] at h2
   subst hj;simp only [zd,A8,AC] at h2;subst h2;have hi:=zo hq;have h4:(cur.toList.take (l.length*1))[i]? =some (encStr s):=by rw [r4,Av,hq];rfl
   rw [AD (by omega),A4] at h4;have e0:0+i*1+0=i:=by omega
   rw [e0,h4] at h3
   cases h3
   exact .str s
theorem ztf [Tracks] (hT:Tracks.on=false) {ρ:Ren} (L:Lays.n229 P ρ) (g:Nat) (eg: ∀args w,(callFunc g args).run P w= .ok (.enter g args) w) (p:Nat->Bool) {s:Str} (hs:s.length<=1000000) (hp: ∀w,PredAt P g #[] encR p w)
 (hi154:(P.info? (ρ.t 154)).map (fun i=>(i.zero,i.size,i.bytes))=some (some (.agg #[.int .i64 0,.int .i64 0]),2,16))
 (hi9:(P.info? (ρ.t 9)).map (fun i=>(i.zero,i.size,i.bytes))=some (some (.string ⟨#[]⟩),1,16))
 {l:List Str} (hl:l.length<=1000000) (hf:Lib.goFieldsP p ⟨s.toArray⟩=l.map fun x=>⟨x.toArray⟩):
 Con P (ρ.f 229) [.str s,.fn (.func g) [] []] [] fun x M'=> ∃v,x= .raw v/\M'=[.arr v 1 (l.map .str)]:=by
 intro I F w args ha hsat
 obtain ⟨u1,u2,rfl,hu1,hu2⟩: ∃u1 u2,args=[u1,u2]/\V I (.str s) u1/\V I (.fn (.func g) [] []) u2:=by
  match args,ha with
  |[u1,u2],h=>exact ⟨u1,u2,rfl,h.2 0 _ _ rfl rfl,h.2 1 _ _ rfl rfl⟩
  |[],h=>exact absurd h.1 (by simp)
  |[_],h=>exact absurd h.1 (by simp)
  |_::_::_::_,h=>exact absurd h.1 (by simp)
 obtain rfl:=hu1.str_inv;obtain ⟨v1,v2,rfl,hv1,hv2⟩: ∃v1 v2,u2= .func (.func g) v1 v2/\v1= #[]/\v2= #[]:=by
  cases hu2 with
  |fn h1 h2 h3 h4=>exact ⟨_,_,rfl,BH (by simpa using h1),BH (by simpa using h2)⟩
 subst hv1 hv2;refine (Any.strings_FieldsFunc L g #[] eg p ⟨s.toArray⟩ w (by show s.toArray.size<=_;simp;omega) (hp w) hi154 hi9).mono ?_;rintro e w' ⟨A,rfl,hA,hrow,hb⟩;have e1:(Lib.goFieldsP p ⟨s.toArray⟩).length=l.length:=by rw [hf,Aj]
 have e2:(Lib.goFieldsP p ⟨s.toArray⟩).map Value.string=l.map encStr:=by rw [hf,Bg];rfl
 rw [e1,e2] at hrow;rw [e1];have hmem:=zsO (I:=I) hl hrow;refine ⟨_,.raw _,_,I,rfl,.refl I,⟨_,rfl,rfl⟩,.raw _ rfl,?_⟩
 refine (zsj 1 hsat).change (m':= .arr _ 1 _) (fun k hk _=>hb.block k hk) (fun k hk=> .inr ?_) ?_ hmem hb.os hb.output hb.tape (fun ht=>by rw [hT] at ht;cases ht)
 simp [MObj.blocks] at hk;omega
 simp [MObj.blocks]
end
section
open Go.Proofs Go.RowKit Go.Sort Go.Shelf
variable {P:Program}
theorem zqB [Tracks] {ρ:Ren} (L:Lays.n144 P ρ) (hg:P.globalNamed "internal/bytealg.MaxLen" =some (ρ.g 1)) {s t:Str} (hs:s.length<4294967281):
 ConP P (ρ.f 144) [.str s,.str t] (.bool (Lib.contains s t)):=by
 intro I F w args ha hs0
 obtain ⟨u,v,rfl,hu,hv⟩: ∃u v,args=[u,v]/\V I (.str s) u/\V I (.str t) v:=by
  match args,ha with
  |[u,v],h=>exact ⟨u,v,rfl,h.2 0 _ _ rfl rfl,h.2 1 _ _ rfl rfl⟩
  |[],h=>exact absurd h.1 (by simp)
  |[_],h=>exact absurd h.1 (by simp)
  |_::_::_::_,h=>exact absurd h.1 (by simp)
 obtain rfl:=hu.str_inv;obtain rfl:=hv.str_inv;obtain ⟨m,hm⟩:=hs0.maxLen hg;refine (Any.strings_Contains L ⟨s.toArray⟩ ⟨t.toArray⟩ m w (by show s.toArray.size<_;simpa using hs) hm).mono ?_;rintro _ w' ⟨rfl,rfl⟩;exact ⟨_,.bool _,[],I,rfl,.refl I,⟨rfl,rfl⟩,.bool _,hs0⟩
theorem zr7 [Tracks] (hT:Tracks.on=false) {ρ:Ren} (L:Lays.n229 P ρ) (g:Nat) (eg: ∀args w,(callFunc g args).run P w= .ok (.enter g args) w) (p:Nat->Bool) {s:Str} (hs:s.length<=1000000) (hp: ∀w,PredAt P g #[] encR p w)
 (hi154:(P.info? (ρ.t 154)).map (fun i=>(i.zero,i.size,i.bytes))=some (some (.agg #[.int .i64 0,.int .i64 0]),2,16))
 (hi9:(P.info? (ρ.t 9)).map (fun i=>(i.zero,i.size,i.bytes))=some (some (.string ⟨#[]⟩),1,16))
 {l:List Str} (hl:l.length<=1000000) (hf:Lib.goFieldsP p ⟨s.toArray⟩=l.map fun x=>⟨x.toArray⟩):
 ConP P (ρ.f 229) [.str s,.fn (.func g) [] []] (.slice 1 (l.map .str)):=by
 intro I F w args ha hsat
 refine (ztf hT L g eg p hs hp hi154 hi9 hl hf I F w args ha hsat).mono ?_;rintro e w' ⟨u,x,M',K,rfl,hk,⟨v,rfl,rfl⟩,h3,h4⟩;obtain ⟨J,hl',hs',hv⟩:=h4.freeze_arr;have:=h3.raw_inv;subst this;exact ⟨_,_,[],J,rfl,hk.trans hl',⟨rfl,rfl⟩,hv,hs'⟩
end
section
open Op
theorem zqY {x c:UInt8}:((x.toNat:Nat):Int)=((c.toNat:Nat):Int)↔x=c:=by
 constructor
 intro h;exact UInt8.toNat_inj.1 (by omega)
 intro h;rw [h]
theorem zoR {s:Str} (h:s∈zcP):s.length<=60:=by
 have:=zmJ h
 simp [out] at this
 omega
theorem zoQ {s:Str} (h:s∈zcP) {c:UInt8} (hc:c∈s): ¬c.toNat<32/\c.toNat≠127:=by
 revert c;revert h;revert s;decide
theorem zns {s:Str} (h:s∈zcP):Lib.validD s=true:=by
 revert h;revert s
 have:(zcP.all fun s=>Lib.validD s)=true:=by kernel_rfl
 intro s h;exact List.all_eq_true.1 this s h
theorem ztt {s:Str} (h:s∈zcP):(zdp (· ==32) s).dropWhile (· ==32)=s:=by
 have:(zcP.all fun s=>(zdp (· ==32) s).dropWhile (· ==32)==s)=true:=by kernel_rfl
 simpa using List.all_eq_true.1 this s h
theorem zts {s:Str} (h:s∈zcP):Lib.contains s [32,32]=false:=by
 have:(zcP.all fun s=> !Lib.contains s [32,32])=true:=by kernel_rfl
 simpa using List.all_eq_true.1 this s h
theorem zrI {s:Str} (h:s∈zcP):(spl 32 s).length<=60/\Lib.goFieldsP (fun r=>decide ((r:Int)=32)) ⟨s.toArray⟩=(spl 32 s).map (fun x=>⟨x.toArray⟩)/\jn 32 (spl 32 s)=s:=by
 have h1:(zcP.all fun s=>decide ((spl 32 s).length<=60))=true:=by kernel_rfl
 have h2:(zcP.all fun s=>(Lib.goFieldsP (fun r=>decide ((r:Int)=32)) ⟨s.toArray⟩).map (fun x=>x.data.toList)==spl 32 s)=true:=by kernel_rfl
 have h3:(zcP.all fun s=>jn 32 (spl 32 s)==s)=true:=by kernel_rfl
 refine ⟨by simpa using List.all_eq_true.1 h1 s h,?_,by simpa using List.all_eq_true.1 h3 s h⟩
 have h4:(Lib.goFieldsP (fun r=>decide ((r:Int)=32)) ⟨s.toArray⟩).map (fun x=>x.data.toList)=spl 32 s:=by simpa using List.all_eq_true.1 h2 s h
 rw [<-h4,Bg]
 conv=>lhs;rw [<-List.map_id (Lib.goFieldsP (fun r=>decide ((r:Int)=32)) ⟨s.toArray⟩)]
 exact List.map_congr_left fun x _=>by cases x;simp
end
end Go.HL
namespace Go.Proofs
section
open Go.Shelf
def Tryz.lays144_ren:Go.Shelf.Ren:=⟨fun|144=>292|143=>353|219=>380|217=>291|225=>393|224=>392|267=>394|266=>352|314=>395|n=>n,fun|9=>9|4=>4|3=>3|5=>5|46=>235|146=>383|51=>294|n=>n,fun|1=>0|n=>n⟩
theorem zq4:Go.Proofs.Lays.n144 Tryz.prog Tryz.lays144_ren:={
 mixed:=by kernel_rfl
 f143:=Tryz.func353.trans (congrArg some (by kernel_rfl))
 f144:=Tryz.func292.trans (congrArg some (by kernel_rfl))
 f217:=Tryz.func291.trans (congrArg some (by kernel_rfl))
 f219:=Tryz.func380.trans (congrArg some (by kernel_rfl))
 f224:=Tryz.func392.trans (congrArg some (by kernel_rfl))
 f225:=Tryz.func393.trans (congrArg some (by kernel_rfl))
 f266:=Tryz.func352.trans (congrArg some (by kernel_rfl))
 f267:=Tryz.func394.trans (congrArg some (by kernel_rfl))
 f314:=Tryz.func395.trans (congrArg some (by kernel_rfl))
 t3:=Tryz.underlying3
 a3:=Tryz.isAgg3
 z3:=Tryz.sizeOf3
 v3:=Tryz.zeroValue3
 t4:=Tryz.underlying4
 a4:=Tryz.isAgg4
 z4:=Tryz.sizeOf4
 v4:=Tryz.zeroValue4
 t5:=Tryz.underlying5
 a5:=Tryz.isAgg5
 z5:=Tryz.sizeOf5
 v5:=Tryz.zeroValue5
 t9:=Tryz.underlying9
 a9:=Tryz.isAgg9
 z9:=Tryz.sizeOf9
 v9:=Tryz.zeroValue9
 t46:=Tryz.underlying235
 a46:=Tryz.isAgg235
 z46:=Tryz.sizeOf235
 v46:=Tryz.zeroValue235
 t51:=Tryz.underlying294
 a51:=Tryz.isAgg294
 z51:=Tryz.sizeOf294
 v51:=Tryz.zeroValue294
 t146:=Tryz.underlying383
 a146:=Tryz.isAgg383
 z146:=Tryz.sizeOf383
 v146:=Tryz.zeroValue383
 g1:=by kernel_rfl}
def Tryz.lays196_ren:Go.Shelf.Ren:=⟨fun|196=>221|259=>280|n=>n,fun|9=>9|4=>4|3=>3|5=>5|12=>12|119=>299|0=>0|46=>235|139=>302|138=>301|53=>296|n=>n,fun|3=>1|4=>2|n=>n⟩
theorem zq6:Go.Proofs.Lays.n196 Tryz.prog Tryz.lays196_ren:={
 mixed:=by kernel_rfl
 f196:=Tryz.func221.trans (congrArg some (by kernel_rfl))
 f259:=Tryz.func280.trans (congrArg some (by kernel_rfl))
 t0:=Tryz.underlying0
 a0:=Tryz.isAgg0
 z0:=Tryz.sizeOf0
 v0:=Tryz.zeroValue0
 t3:=Tryz.underlying3
 a3:=Tryz.isAgg3
 z3:=Tryz.sizeOf3
 v3:=Tryz.zeroValue3
 t4:=Tryz.underlying4
 a4:=Tryz.isAgg4
 z4:=Tryz.sizeOf4
 v4:=Tryz.zeroValue4
 t5:=Tryz.underlying5
 a5:=Tryz.isAgg5
 z5:=Tryz.sizeOf5
 v5:=Tryz.zeroValue5
 t9:=Tryz.underlying9
 a9:=Tryz.isAgg9
 z9:=Tryz.sizeOf9
 v9:=Tryz.zeroValue9
 t12:=Tryz.underlying12
 a12:=Tryz.isAgg12
 z12:=Tryz.sizeOf12
 v12:=Tryz.zeroValue12
 t46:=Tryz.underlying235
 a46:=Tryz.isAgg235
 z46:=Tryz.sizeOf235
 v46:=Tryz.zeroValue235
 t53:=Tryz.underlying296
 a53:=Tryz.isAgg296
 z53:=Tryz.sizeOf296
 v53:=Tryz.zeroValue296
 t119:=Tryz.underlying299
 a119:=Tryz.isAgg299
 z119:=Tryz.sizeOf299
 t138:=Tryz.underlying301
 a138:=Tryz.isAgg301
 z138:=Tryz.sizeOf301
 v138:=Tryz.zeroValue301
 t139:=Tryz.underlying302
 a139:=Tryz.isAgg302
 z139:=Tryz.sizeOf302
 v139:=Tryz.zeroValue302
 g3:=by kernel_rfl
 g4:=by kernel_rfl}
def Tryz.lays229_ren:Go.Shelf.Ren:=⟨fun|229=>223|n=>n,fun|9=>9|40=>244|31=>33|152=>313|3=>3|0=>0|4=>4|21=>21|154=>315|n=>n,fun|n=>n⟩
theorem zq7:Go.Proofs.Lays.n229 Tryz.prog Tryz.lays229_ren:={
 mixed:=by kernel_rfl
 f229:=Tryz.func223.trans (congrArg some (by kernel_rfl))
 t0:=Tryz.underlying0
 a0:=Tryz.isAgg0
 z0:=Tryz.sizeOf0
 v0:=Tryz.zeroValue0
 t3:=Tryz.underlying3
 a3:=Tryz.isAgg3
 z3:=Tryz.sizeOf3
 v3:=Tryz.zeroValue3
 t4:=Tryz.underlying4
 a4:=Tryz.isAgg4
 z4:=Tryz.sizeOf4
 v4:=Tryz.zeroValue4
 t9:=Tryz.underlying9
 a9:=Tryz.isAgg9
 z9:=Tryz.sizeOf9
 v9:=Tryz.zeroValue9
 t21:=Tryz.underlying21
 a21:=Tryz.isAgg21
 z21:=Tryz.sizeOf21
 v21:=Tryz.zeroValue21
 t31:=Tryz.underlying33
 a31:=Tryz.isAgg33
 z31:=Tryz.sizeOf33
 v31:=Tryz.zeroValue33
 t40:=Tryz.underlying244
 a40:=Tryz.isAgg244
 z40:=Tryz.sizeOf244
 v40:=Tryz.zeroValue244
 t152:=Tryz.underlying313
 a152:=Tryz.isAgg313
 z152:=Tryz.sizeOf313
 v152:=Tryz.zeroValue313
 t154:=Tryz.underlying315
 a154:=Tryz.isAgg315
 z154:=Tryz.sizeOf315
 v154:=Tryz.zeroValue315}
def Tryz.lays156_ren:Go.Shelf.Ren:=⟨fun|156=>222|165=>281|166=>282|169=>283|240=>346|241=>347|276=>375|277=>376|n=>n,fun|31=>33|9=>9|3=>3|4=>4|0=>0|20=>20|72=>306|76=>310|70=>303|37=>304|75=>309|127=>356|164=>374|5=>5|80=>312|n=>n,fun|n=>n⟩
theorem zq5:Go.Proofs.Lays.n156 Tryz.prog Tryz.lays156_ren:={
 mixed:=by kernel_rfl
 f156:=Tryz.func222.trans (congrArg some (by kernel_rfl))
 f165:=Tryz.func281.trans (congrArg some (by kernel_rfl))
 f166:=Tryz.func282.trans (congrArg some (by kernel_rfl))
 f169:=Tryz.func283.trans (congrArg some (by kernel_rfl))
 f240:=Tryz.func346.trans (congrArg some (by kernel_rfl))
 f241:=Tryz.func347.trans (congrArg some (by kernel_rfl))
 f276:=Tryz.func375.trans (congrArg some (by kernel_rfl))
 f277:=Tryz.func376.trans (congrArg some (by kernel_rfl))
 t0:=Tryz.underlying0
 a0:=Tryz.isAgg0
 z0:=Tryz.sizeOf0
 v0:=Tryz.zeroValue0
 t3:=Tryz.underlying3
 a3:=Tryz.isAgg3
 z3:=Tryz.sizeOf3
 v3:=Tryz.zeroValue3
 t4:=Tryz.underlying4
 a4:=Tryz.isAgg4
 z4:=Tryz.sizeOf4
 v4:=Tryz.zeroValue4
 t9:=Tryz.underlying9
 a9:=Tryz.isAgg9
 z9:=Tryz.sizeOf9
 v9:=Tryz.zeroValue9
 t20:=Tryz.underlying20
 a20:=Tryz.isAgg20
 z20:=Tryz.sizeOf20
 v20:=Tryz.zeroValue20
 t31:=Tryz.underlying33
 a31:=Tryz.isAgg33
 z31:=Tryz.sizeOf33
 v31:=Tryz.zeroValue33
 t37:=Tryz.underlying304
 a37:=Tryz.isAgg304
 z37:=Tryz.sizeOf304
 v37:=Tryz.zeroValue304
 t70:=Tryz.underlying303
 a70:=Tryz.isAgg303
 z70:=Tryz.sizeOf303
 v70:=Tryz.zeroValue303
 t72:=Tryz.underlying306
 a72:=Tryz.isAgg306
 z72:=Tryz.sizeOf306
 v72:=Tryz.zeroValue306
 t75:=Tryz.underlying309
 a75:=Tryz.isAgg309
 z75:=Tryz.sizeOf309
 v75:=Tryz.zeroValue309
 t76:=Tryz.underlying310
 a76:=Tryz.isAgg310
 z76:=Tryz.sizeOf310
 v76:=Tryz.zeroValue310
 t127:=Tryz.underlying356
 a127:=Tryz.isAgg356
 z127:=Tryz.sizeOf356
 v127:=Tryz.zeroValue356
 t164:=Tryz.underlying374
 a164:=Tryz.isAgg374
 z164:=Tryz.sizeOf374
 v164:=Tryz.zeroValue374}
end
end Go.Proofs
namespace Go.HL
section
variable {P:Program}
section
variable {e:Env} {dst:Option Tmp} {ty:TypeId} {pos:String} {af:Array Edge} {g:Option (Nat×Bool)} {M:List MObj} {K:HVal->List MObj->Prop}
end
end
section
open Go.Proofs Go.Shelf
variable {P:Program}
section
variable {e:Env} {dst:Option Tmp} {ty:TypeId} {pos:String} {af:Array Edge} {g:Option (Nat×Bool)} {M:List MObj} {K:HVal->List MObj->Prop}
end
end
section
open Go.Proofs Go.Shelf Go.RowKit
variable {P:Program}
theorem VL.two {I:Imm} {c d:HVal} {vs:List Value} (h:VL I [c,d] vs): ∃u v,vs=[u,v]/\V I c u/\V I d v:=by
 match vs,h with
 |[u,v],h=>exact ⟨u,v,rfl,h.head,h.tail.head⟩
 |[],h=>have:=h.1;simp at this
 |[_],h=>have:=h.1;simp at this
 |_::_::_::_,h=>have:=h.1;simp at this
theorem ztZ [Tracks] {ρ:Ren} (hT:Tracks.on=false) (L:Lays.n156 P ρ) (X:Builder.Extra P ρ) {l:List Str} {c:UInt8} (hl:(jn c l).length<=1000000000) (hn:l.length<=1000000000):ConP P (ρ.f 156) [.slice 1 (l.map .str),.str [c]] (.str (jn c l)):=by
 intro I F w args ha hs0
 obtain ⟨u,v,rfl,hu,hv⟩:=ha.two;obtain rfl:=hv.str_inv
 rcases hu.slice_inv with ⟨h0,a,cap,rfl⟩|⟨b,off,cap,rc,el,fr,rfl,h3,h4,h5,h6,h7⟩
 have:l=[]:=by simpa using h0
 subst this;refine (Any.strings_Join_none L X a cap ⟨[c].toArray⟩ w).mono ?_;rintro _ w' ⟨rfl,rfl⟩;exact ⟨_,_,[],I,rfl,.refl I,⟨rfl,rfl⟩,.str [],hs0⟩;have hb:=hs0.imm _ _ h3
 let xs:List ByteArray:=l.map fun s=>⟨s.toArray⟩
 have hx:xs.map (·.data.toList)=l:=by simp [xs,Bg,Function.comp_def]
 have hxl:xs.length=l.length:=by simp [xs]
 have hlt:b<w.heap.size:=by
  rcases Az b w.heap.size with h'|h'
  exact h'
  simp [AB h'] at hb
 have hsz:(l.map HVal.str).length=xs.length:=by simp [xs]
 rw [hsz] at h5 h6⊢;refine (Any.strings_Join L X b off cap xs ⟨[c].toArray⟩ w (fun j x hj=> ?_) hlt (by omega) h5 (by rw [hx];show (Lib.join l [c]).length<=_;rw [zpw];omega)).mono ?_;have hq:l[j]? =some x.data.toList:=by rw [<-hx,Av,hj];rfl
 have hj':=zo hj;have hr:off+j<rc.size:=by omega
 have h8:=h7 j 0 (.str x.data.toList) (.str x.data.toList) rc[off+j] (by rw [Av,hq];rfl) rfl (by rw [Bm,BE];exact A0 hr);rw [zc8 hb,A0 hr,h8.str_inv];rintro _ w' ⟨rfl,hbw⟩;refine ⟨_,_,[],I,rfl,.refl I,⟨rfl,rfl⟩,?_,?_⟩
 rw [hx,show ((⟨[c].toArray⟩:ByteArray).data.toList:Str)=[c] from rfl,zpw];exact .str _;obtain ⟨h1,h2⟩:=hs0.lt;exact hs0.of_same (fun k hk=>hbw.block k (h1 k hk)) (fun k hk=>hbw.block k (h2 k hk)) hbw.os hbw.output hbw.tape (fun h=>by rw [hT] at h;cases h)
end
end Go.HL
namespace Go.Proofs.YtbbpommdmnjfmaaGreatDoor
set_option maxRecDepth 100000
set_option linter.unusedVariables false
set_option linter.unusedSimpArgs false
section
open Go.Proofs.Tryz
open Go.HL
theorem zie [Tracks] (hT:Tracks.on=false) {s:Str} (hs:s.length<=1000000):ConP prog 221 [.str s] (.bool (Lib.validD s)):=
 ztY hT zq6 (by kernel_rfl) (by kernel_rfl) hs
theorem zl6 [Tracks] {s t:Str} (hs:s.length<4294967281):ConP prog 292 [.str s,.str t] (.bool (Lib.contains s t)):=
 zqB zq4 (by kernel_rfl) hs
theorem zwL [Tracks] (w:World):PredAt prog 224 #[] encR (fun r=>decide ((r:Int)=32)) w:=fun W r _=>by
 unfold FnGives
 go_enter func224,ntmps224
 go_wp2
 go_ret
 exact ⟨rfl,0,rfl⟩
theorem zkN [Tracks] (hT:Tracks.on=false) {s:Str} (hs:s.length<=1000000) {l:List Str} (hl:l.length<=1000000) (hf:Lib.goFieldsP (fun r=>decide ((r:Int)=32)) ⟨s.toArray⟩=l.map fun x=>⟨x.toArray⟩):ConP prog 223 [.str s,.fn (.func 224) [] []] (.slice 1 (l.map .str)):=
 zr7 hT zq7 _ (enters_of func224 (by kernel_rfl) rfl) _ hs zwL (by kernel_rfl) (by kernel_rfl) hl hf
theorem zpp [Tracks] (hT:Tracks.on=false) {l:List Str} {c:UInt8} (hl:(jn c l).length<=1000000000) (hn:l.length<=1000000000):ConP prog 222 [.slice 1 (l.map .str),.str [c]] (.str (jn c l)):=
 ztZ hT zq5 {t5:=underlying5,a5:=fun w=>by kernel_rfl,z5:=fun w=>by kernel_rfl,v5:=fun w=>by kernel_rfl,infoByte:=by kernel_rfl,cellsByte:=by kernel_rfl,sizeByte:=by kernel_rfl,neB5:=by decide,sizeBuilder:=by kernel_rfl,liesBuilder:=by kernel_rfl} hl hn
theorem zkq [Tracks] {s:Str} {c:UInt8} (hl:s.length<=1000000):ConP prog 284 [.str s,.int .u8 c.toNat] (.str (s.dropWhile (· ==c))):=by
 refine uOb func284 ntmps284 ?_;refine gz5 ?_;refine uV1 [0,1,5,11] (fun (t:Str)=>[(0,.str t)]) (fun (t:Str)=>[]) (fun (t:Str)=>t.length<=s.length/\s.dropWhile (· ==c)=t.dropWhile (· ==c)) (fun (t:Str)=>t.length) (s) ?_ ?_ ?_ ?_;exact ⟨Ae _,rfl⟩;exact ⟨rfl,trivial⟩;exact Ab _
 intro t hinv
 obtain ⟨ht,hg⟩:=hinv;refine gz3 ?_;refine dq (zby ty9 rfl) ?_;refine gz3 ?_;refine dg rfl rfl (fun hc=>by
  have hc0:t≠[]:=by (rintro rfl;simp at hc)
  exact ⟨_,OpenTo.upd (t:=9) rfl (hc) (OpenTo.refl _),zbh (j:=0) (b:=t.headD 0) ty9 rfl rfl rfl (hd0 hc0)⟩) ?_
 refine gz4 ?_;refine uCo (fun h1=> ?_) fun h2=> ?_
 obtain ⟨x,u,rfl⟩: ∃x u,t=x::u:=by cases t with|nil=>simp at h1|cons x u=>exact ⟨x,u,rfl⟩
 have hlen:(x::u).length=u.length+1:=rfl;refine gz5 ?_;refine dq (zho (l:=1) ty9 rfl ⟨_,_,rfl,rfl⟩ rfl uO uO) ?_;refine gz3 ?_;refine ⟨_,?_,?_,⟨rfl,trivial⟩,uK,Ab _⟩
 refine ⟨by simp at ht⊢;omega,?_⟩
 rw [hg];simp_all [Bb,zqY]
 dsimp only;simp
 refine gz2 ?_;refine zp ?_;refine gz7 ?_;refine zx rfl ?_
 show HVal.str _=_
 rw [hg]
 cases t with
 |nil=>rfl
 |cons x u=>simp_all [Bb,zqY]
theorem zjK [Tracks] {s:Str} {c:UInt8} (hl:s.length<=1000000):ConP prog 285 [.str s,.int .u8 c.toNat] (.str (zdp (· ==c) s)):=by
 refine uOb func285 ntmps285 ?_;refine gz5 ?_;refine uV1 [0,1,5,17] (fun (t:Str)=>[(0,.str t)]) (fun (t:Str)=>[]) (fun (t:Str)=>t.length<=s.length/\zdp (· ==c) s=zdp (· ==c) t) (fun (t:Str)=>t.length) (s) ?_ ?_ ?_ ?_;exact ⟨Ae _,rfl⟩;exact ⟨rfl,trivial⟩;exact Ab _
 intro t hinv
 obtain ⟨ht,hg⟩:=hinv;refine gz3 ?_;refine dq (zby ty9 rfl) ?_;refine gz4 ?_;refine dg rfl rfl (fun hc=>⟨_,OpenTo.upd (t:=10) rfl (hc) (OpenTo.refl _),zby ty9 rfl⟩) ?_;refine gz1 ?_;refine dg rfl rfl (fun hc=>by
  have hc0:0<t.length:=by (simp at hc;omega)
  exact ⟨_,OpenTo.upd (t:=12) rfl (hc) (OpenTo.upd (t:=9) rfl (hc) (OpenTo.refl _)),zbh (j:=t.length-1) (b:=t.getD (t.length-1) 0) ty9 rfl rfl uO (getD_some uO)⟩) ?_
 refine gz4 ?_;refine uCo (fun h1=> ?_) fun h2=> ?_
 obtain ⟨u,x,rfl⟩: ∃u x,t=u++[x]:=⟨_,_,(Br (by intro h0;subst h0;simp at h1)).symm⟩
 have hlen:(u++[x]).length=u.length+1:=by simp
 refine gz6 ?_;refine dq (zby ty9 rfl) ?_;refine gz1 ?_;refine dq (zho (l:=0) (h:=u.length) ty9 rfl rfl ⟨_,_,rfl,by omega⟩ uO uO) ?_;refine gz3 ?_;refine ⟨_,?_,?_,⟨rfl,trivial⟩,uK,Ab _⟩
 refine ⟨by simp at ht⊢;omega,?_⟩
 rw [hg,zf6,if_pos (by simp_all [zqY])];simp
 dsimp only;simp
 refine gz2 ?_;refine zp ?_;refine gz7 ?_;refine zx rfl ?_
 show HVal.str _=_
 rw [hg]
 rcases List.eq_nil_or_concat t with rfl|⟨u,x,rfl⟩
 rfl
 rw [List.concat_eq_append] at*;rw [zf6,if_neg (by simp_all [zqY])]
theorem zoD [Tracks] {s:Str} {c:UInt8} (hs:s.length<=1000000) (hc7:c.toNat<128):ConP prog 231 [.str s,.str [c]] (.str ((zdp (· ==c) s).dropWhile (· ==c))):=by
 refine uOb func231 ntmps231 ?_;refine zcc ?_;refine uCo (fun h1=> ?_) fun h2=> ?_
 refine gz5 ?_;refine zx rfl ?_
 show HVal.str _=_
 (simp_all [zdp])
 refine gz5 ?_;refine dq (zby ty9 rfl) ?_;refine gz3 ?_;refine dg rfl rfl (fun hc=>⟨_,OpenTo.upd (t:=18) rfl (hc) (OpenTo.refl _),zbh (j:=0) (b:=c) ty9 rfl rfl rfl rfl⟩) ?_;refine gz3 ?_;refine zaf rfl (fun h3=> ?_) (fun h3=> ?_)
 try simp at h3
 refine zw (fun _=>True) [] mixed ?_;refine gz2 ?_;refine uB 2 rfl (zbh (j:=0) (b:=c) ty9 rfl rfl rfl rfl) ?_;refine uB 3 rfl (uCl zzg rfl (zjK (c:=c) hs)) ?_;refine gz1 ?_;refine uB 5 rfl (zbh (j:=0) (b:=c) ty9 rfl rfl rfl rfl) ?_;refine uB 6 rfl (uCl zzf rfl (zkq (c:=c) (AA (zql _ _) hs))) ?_;refine gz3 ?_;refine zx rfl ?_
 show HVal.str _=_
 rfl
 exfalso
 try simp at h3
 omega
theorem zrf [Tracks] {s:Str} (hT:Tracks.on=false) (hs:s∈zcP):ConP prog 233 [.str s] (.bool true):=by
 have hsl:=zoR hs;have hv:=zns hs;have ht6:=ztt hs;have hc6:=zts hs;refine uOb func233 ntmps233 ?_;refine gz6 ?_;refine dq (zby ty9 rfl) ?_;refine gz3 ?_;refine uV1 [2,2,6,14] (fun (k:Nat)=>[(6,.int .i64 (k:Int))]) (fun (k:Nat)=>[]) (fun (k:Nat)=>k<=s.length) (fun (k:Nat)=>s.length-k) (0) ?_ ?_ ?_ ?_;exact Ad _;exact ⟨rfl,trivial⟩;exact Ab _
 intro k hk
 refine gz4 ?_;refine uCo (fun h1=> ?_) fun h2=> ?_
 obtain ⟨x,hx⟩: ∃x,s[k]? =some x:=⟨_,Aa uO⟩
 obtain ⟨hx1,hx2⟩:=zoQ hs (Ac hx);refine zbo ?_;refine dq (zbh (j:=k) (b:=x) ty9 rfl rfl rfl hx) ?_;refine gz4 ?_;refine dg rfl rfl (fun hc=>⟨_,OpenTo.upd (t:=15) rfl (hc) (OpenTo.upd (t:=14) rfl (hc) (OpenTo.refl _)),zbh (j:=k) (b:=x) ty9 rfl rfl rfl hx⟩) ?_;refine gz3 ?_;refine zaf rfl (fun h3=> ?_) (fun h3=> ?_)
 exfalso
 try simp at h3
 omega
 try simp at h3
 refine gz7 ?_;refine ⟨k+1,?_,?_,⟨rfl,trivial⟩,uK,Ab _⟩
 omega
 dsimp only;omega
 refine gz2 ?_;refine zp ?_;refine gz4 ?_;refine dq (uCl zwb rfl (zie hT uO)) ?_;refine gz2 ?_;refine dg rfl rfl (fun hc=>by have hq:=hc;(try simp at hq);exact ⟨_,OpenTo.upd (t:=23) rfl (hc) (OpenTo.refl _),uCl zwd rfl (zoD (s:=s) (c:=32) uO (by decide))⟩) ?_;refine gz5 ?_;refine dg rfl rfl (fun hc=>by have hq:=hc;(try simp at hq);exact ⟨_,OpenTo.upd (t:=29) rfl (hc) (OpenTo.refl _),uCl zzl rfl (zl6 (s:=s) (t:=[32,32]) uO)⟩) ?_;refine gz5 ?_;refine zx rfl ?_
 show HVal.bool _=_
 simp_all
theorem zm4 [Tracks] {s:Str} (hT:Tracks.on=false) (hs:s∈zcP):ConP prog 113 [.str s] (.bool true):=by
 have hsl:=zoR hs;have hv:=zns hs;obtain ⟨hf1,hf2,hf3⟩:=zrI hs;refine uOb func113 ntmps113 ?_;refine gz6 ?_;refine dq (uCl zwb rfl (zie hT uO)) ?_;refine gz4 ?_;refine dg rfl rfl (fun hc=>by have hq:=hc;(try simp at hq);exact ⟨_,OpenTo.upd (t:=9) rfl (hc) (OpenTo.refl _),uCl zyM rfl (zkN hT (s:=s) uO (l:=spl 32 s) uO hf2)⟩) ?_;refine dg rfl rfl (fun hc=>by have hq:=hc;(try simp at hq);exact ⟨_,OpenTo.upd (t:=10) rfl (hc) (OpenTo.refl _),uCl zyL rfl (zpp hT (l:=spl 32 s) (c:=32) (by rw [hf3];omega) uO)⟩) ?_;refine gz3 ?_;refine zaf rfl (fun h1=> ?_) (fun h1=> ?_)
 exfalso
 try simp at h1
 (clear hf1 hf2 hs;simp_all)
 try simp at h1
 refine gz3 ?_
 clear hf1 hf2 hf3
 try clear h1
 try clear h2
 refine gz2 ?_;refine dq (zby ty9 rfl) ?_;refine gz3 ?_;refine uV1 [2,2,16,14] (fun (k:Nat)=>[(16,.int .i64 (k:Int))]) (fun (k:Nat)=>[]) (fun (k:Nat)=>k<=s.length) (fun (k:Nat)=>s.length-k) (0) ?_ ?_ ?_ ?_;exact Ad _;exact ⟨rfl,trivial⟩;exact Ab _
 intro k hk
 refine gz4 ?_;refine uCo (fun h2=> ?_) fun h3=> ?_
 obtain ⟨x,hx⟩: ∃x,s[k]? =some x:=⟨_,Aa uO⟩
 obtain ⟨hx1,hx2⟩:=zoQ hs (Ac hx);refine zbo ?_;refine dq (zbh (j:=k) (b:=x) ty9 rfl rfl rfl hx) ?_;refine gz4 ?_;refine dg rfl rfl (fun hc=>⟨_,OpenTo.upd (t:=25) rfl (hc) (OpenTo.upd (t:=24) rfl (hc) (OpenTo.refl _)),zbh (j:=k) (b:=x) ty9 rfl rfl rfl hx⟩) ?_;refine gz3 ?_;refine zaf rfl (fun h4=> ?_) (fun h4=> ?_)
 exfalso
 try simp at h4
 omega
 try simp at h4
 refine gz7 ?_;refine ⟨k+1,?_,?_,⟨rfl,trivial⟩,uK,Ab _⟩
 omega
 dsimp only;omega
 refine gz2 ?_;refine zp ?_;refine gz6 ?_;refine zx rfl ?_
 show HVal.bool _=_
 rfl
end
end Go.Proofs.YtbbpommdmnjfmaaGreatDoor
namespace Go.HL
section
open Go
variable {P:Program} {e:Env} {dst:Option Tmp} {ty:TypeId} {pos:String} {af:Array Edge} {g:Option (Nat×Bool)}
theorem zvs [Tracks] {x:Operand} {t:TypeId} {m:Int} (hx:zn e x=some (.int .u64 m)):POp P e ⟨dst,.unOp .neg t x,ty,pos,af,g⟩ (.int .u64 (IntKind.wrap .u64 (-m))):=
 zL fun I a w ho=>⟨.int .u64 (IntKind.wrap .u64 (-m)),by
  have h1:=(ho.one (x:=x) (by simp [Op.operands]) hx).int_inv;simp only [execOp,h1,Op.unary,Op.intArith,Sem.run_bind,Sem.run_pure,Result.andThen_ok];rw [Int.zero_sub],.int _ _⟩
theorem zwt {n:Int} (h1: -9223372036854775808<=n) (h2:n<=9223372036854775807):IntKind.wrap .u64 n=if n<0 then n+18446744073709551616 else n:=by
 unfold IntKind.wrap
 split<;>simp [IntKind.bits,IntKind.signed]<;>omega
end
end Go.HL
namespace Go.Proofs.YtbbpommdmnjfmaaGreatDoor
set_option maxRecDepth 100000
set_option linter.unusedVariables false
set_option linter.unusedSimpArgs false
section
open Go.Proofs.Tryz
open Go.HL
theorem zi8 [Tracks] {l:List Str} (hl:l.length<=1000000):ConP prog 139 [eSs l] (.int .i64 (zhN l)):=by
 refine uOb func139 ntmps139 ?_;refine zbo ?_;refine uCo (fun h1=> ?_) fun h2=> ?_
 refine gz4 ?_;refine uRp ?_;unfold zhN
 (try clear hdx hg);(try simp only [Ai]);focus first|rfl|(simp_all;done)|((repeat' split)<;>focus first|rfl|(exfalso;omega)|(simp_all;done)|(exfalso;rcases ‹_\/_› with q|q<;>simp_all;done)|(exfalso;simp_all;omega))
 refine gz6 ?_;refine uCo (fun h3=> ?_) fun h4=> ?_
 refine gz4 ?_;refine uRp ?_;unfold zhN
 (try clear hdx hg);(try simp only [Ai]);focus first|rfl|(simp_all;done)|((repeat' split)<;>focus first|rfl|(exfalso;omega)|(simp_all;done)|(exfalso;rcases ‹_\/_› with q|q<;>simp_all;done)|(exfalso;simp_all;omega))
 refine gz5 ?_;refine dq (uCl zwg rfl (zlL (by assumption))) ?_;refine gz3 ?_;refine uRp ?_;unfold zhN
 (try clear hdx hg);(try simp only [Ai]);focus first|rfl|(simp_all;done)|((repeat' split)<;>focus first|rfl|(exfalso;omega)|(simp_all;done)|(exfalso;rcases ‹_\/_› with q|q<;>simp_all;done)|(exfalso;simp_all;omega))
theorem zqu [Tracks] {n d:Int} (hn: -1000000000000<=n/\n<=1000000000000) (hd:1<=d/\d<=1000000000000):ConP prog 237 [.agg [.int .i64 n,.int .i64 d]] (.bool (znT n d)):=by
 refine uOb func237 ntmps237 ?_;refine gz4 ?_;refine zw (fun _=>True) [] mixed ?_;refine gz2 ?_;refine uB 2 rfl (zae (zaY ty3 zws rfl) (congrArg (HVal.int .u64) (zwt uO uO))) ?_;refine gz2 ?_;refine uB 5 rfl (zae (zaY ty3 zws rfl) (congrArg (HVal.int .u64) (show IntKind.wrap .u64 d=((d.natAbs:Nat):Int) by rw [zwt uO uO,if_neg uO];omega))) ?_;refine gz3 ?_;refine uVj [3,1,11,5] (fun (z0:Unit)=>[(3,.int .u64 ((n.natAbs:Nat):Int))]) (fun (z0:Unit)=>[]) (fun (z0:Unit)=>True) ?_ ?_
 skip
 refine gz5 ?_;refine uCo (fun h1=> ?_) fun h2=> ?_
 refine gz2 ?_;refine dq (zae (zvs rfl) (congrArg (HVal.int .u64) (show IntKind.wrap .u64 (-(if n<0 then n+18446744073709551616 else n))=((n.natAbs:Nat):Int) by rw [if_pos (by assumption),zxH uO uO];omega))) ?_;refine gz2 ?_;exact ⟨(),trivial,⟨rfl,trivial⟩,uK,Ab _⟩;refine gz1 ?_;exact ⟨(),trivial,⟨congrArg (fun q=>some (HVal.int .u64 q)) (show (if n<0 then n+18446744073709551616 else n)=((n.natAbs:Nat):Int) by rw [if_neg uO];omega),trivial⟩,uK,Ab _⟩
 intro z0 _
 refine gz2 ?_;refine uV2 [3,2,16,6] (fun (a:Nat) (b:Nat)=>[(3,.int .u64 ((a:Nat):Int)),(4,.int .u64 ((b:Nat):Int))]) (fun (a:Nat) (b:Nat)=>[]) (fun (a:Nat) (b:Nat)=>Nat.gcd a b=Nat.gcd n.natAbs d.natAbs) (fun (a:Nat) (b:Nat)=>b) (n.natAbs) (d.natAbs) ?_ ?_ ?_ ?_
 rfl
 exact ⟨rfl,rfl,trivial⟩;exact Ab _
 intro a b hg
 refine gz5 ?_;refine uCo (fun h3=> ?_) fun h4=> ?_
 have hb0:0<b:=by omega
 refine gz3 ?_;refine zaC (fun _=>True) [] mixed ?_;refine gz3 ?_;refine uB 3 rfl (zae (zeB rfl rfl uO) (congrArg (HVal.int .u64) (zrX a b))) ?_;refine gz4 ?_;refine ⟨b,a%b,?_,?_,⟨rfl,rfl,trivial⟩,uK,Ab _⟩
 exact zp7.trans hg
 dsimp only;exact BN _ hb0
 obtain rfl:b=0:=by omega
 rw [Nat.gcd_zero_right] at hg;refine gz2 ?_;refine zM ?_;refine gz8 ?_;refine zx rfl ?_
 show HVal.bool _=_
 unfold znT;rw [<-hg]
 congr 1
 rw [AS]
 simp
 try omega
theorem ziq [Tracks] {n d most:Int} (hn: -1000000000<=n/\n<=1000000000) (hd: -1000000000<=d/\d<=1000000000) (hm:0<=most/\most<=1000000):ConP prog 137 [.agg [.int .i64 n,.int .i64 d],.int .i64 most] (.int .i64 (zdb n d most)):=by
 refine uOb func137 ntmps137 ?_;refine zcc ?_;refine dg rfl rfl (fun hc=>by
  have hd1:1<=d:=by (have q:=hc;simp at q;omega)
  exact ⟨_,OpenTo.upd (t:=10) rfl (hc) (OpenTo.refl _),uCl zyV rfl (zqu (n:=n) (d:=d) uO uO)⟩) ?_
 refine gz4 ?_;refine uCo (fun h1=> ?_) fun h2=> ?_
 refine gz4 ?_;refine uRp ?_;unfold zdb
 (rw [if_pos (by simp_all)])
 have hd1:1<=d:=by (first|omega|(simp_all;omega))
 have hmd:=zul (a:=most) (b:=d) (A:=1000000) (B:=1000000000) uO uO uO uO;have hmn: -most*d= -(most*d):=Int.neg_mul _ _;refine gz3 ?_;refine dq (zeB rfl rfl uO) ?_;refine gz5 ?_;refine dg rfl rfl (fun hc=>by have hq:=hc;(try simp at hq);exact ⟨_,OpenTo.upd (t:=22) rfl (hc) (OpenTo.refl _),zmL rfl uO uO⟩) ?_;refine gz2 ?_;refine dg rfl rfl (fun hc=>by have hq:=hc;(try simp at hq);exact ⟨_,OpenTo.upd (t:=25) rfl (hc) (OpenTo.upd (t:=23) rfl (hc) (OpenTo.refl _)),zbP rfl rfl uO uO⟩) ?_;refine gz3 ?_;refine dg rfl rfl (fun hc=>by have hq:=hc;(try simp at hq);exact ⟨_,OpenTo.upd (t:=29) rfl (hc) (OpenTo.upd (t:=27) rfl (hc) (OpenTo.refl _)),zbP rfl rfl uO uO⟩) ?_;refine dg rfl rfl (fun hc=>⟨_,OpenTo.upd (t:=30) rfl (hc) (OpenTo.upd (t:=26) rfl (hc) (OpenTo.upd (t:=21) rfl (hc) (OpenTo.refl _))),uCl zc7 rfl zba⟩) ?_;refine gz3 ?_;refine uCo (fun h3=> ?_) fun h4=> ?_
 refine gz4 ?_;refine uRp ?_;unfold zdb
 (rw [if_neg (by simp_all),if_pos (by simp_all)])
 refine gz7 ?_;refine uRp ?_;unfold zdb
 (rw [if_neg (by simp_all),if_neg (by simp_all)])
theorem zgG [Tracks] {l:List PlayerS} {s:Str} {fid:FuncId} (hca:Callable prog fid) (hp: ∀x:PlayerS,ConP prog fid [zbs x,.str s] (.int .i64 (zai x.Key s))) (hl:l.length<=1000000) (hs:SortedS (l.map (·.Key))):ConP prog 234 [zbd l,.str s,.fn (.func fid) [] []] (.tup [.int .i64 (zty (l.map (·.Key)) s),.bool ((l.map (·.Key)).contains s)]):=by
 have hLl:(l.map (·.Key)).length=l.length:=Aj _;refine uOb func234 ntmps234 ?_;refine zry ?_;refine uV2 [9,3,15,20] (fun (i:Nat) (j:Nat)=>[(9,.int .i64 i),(10,.int .i64 j)]) (fun (i:Nat) (j:Nat)=>[]) (fun (i:Nat) (j:Nat)=>i<=j/\j<=(l.map (·.Key)).length/\(∀(k:Nat) (x:Str),k<i->(l.map (·.Key))[k]? =some x->Op.bytesLess x s=true)/\(∀(k:Nat) (x:Str),j<=k->(l.map (·.Key))[k]? =some x->Op.bytesLess x s=false)) (fun (i:Nat) (j:Nat)=>j-i) (0) (l.length) ?_ ?_ ?_ ?_;exact ⟨Ad _,by rw [hLl];exact Ae _,fun k x h=>by omega,fun k x h1 h2=>by have:=zo h2;omega⟩;exact ⟨rfl,rfl,trivial⟩;exact Ab _
 intro i j hinv
 obtain ⟨hij,hjl,ha,hb⟩:=hinv;rw [hLl] at hjl;refine gz6 ?_;refine uCo (fun h1=> ?_) fun h2=> ?_
 obtain ⟨x,hx⟩: ∃x,l[(i+j)/2]? =some x:=⟨_,Aa uO⟩
 have hxL:(l.map (·.Key))[(i+j)/2]? =some x.Key:=by rw [Av,hx];rfl
 have hm:(i+j)/2<j/\i<=(i+j)/2:=by omega
 refine gz7 ?_;refine dq (zaY ty3 zch rfl) ?_;refine dq (zdB rfl rfl uO) ?_;refine dq (zae (zaY zch ty3 rfl) (zey (i:=i) (j:=j) uO)) ?_;refine gz6 ?_;refine dq (zl (j:=(i+j)/2) (a:=x) zdi zcg rfl rfl rfl hx) ?_;refine gz2 ?_;refine dq (z7 hca rfl rfl (WeakL.refl _) (hp _)) ?_;refine gz2 ?_;refine uCo (fun h3=> ?_) fun h4=> ?_
 refine gz6 ?_;exact ⟨(i+j)/2+1,j,⟨by omega,by rw [hLl];exact hjl,zxM hs hxL (zpu.1 h3),hb⟩,uD,⟨rfl,rfl,trivial⟩,uK,Ab _⟩;refine gz5 ?_;exact ⟨i,(i+j)/2,⟨by omega,by omega,ha,zxL hs hxL (by have q:=fun e=>(show ¬zai x.Key s<0 by omega) (zpu.2 e);simpa using q)⟩,uD,⟨rfl,rfl,trivial⟩,uK,Ab _⟩;obtain rfl:i=j:=by omega
 have hjl2:i<=(l.map (·.Key)).length:=by rw [hLl];exact hjl
 refine gz2 ?_;refine zM ?_;refine zbo ?_;refine dg rfl rfl (fun hc=>by have hq:=hc;(try simp at hq);exact ⟨_,OpenTo.upd (t:=42) rfl (hc) (OpenTo.upd (t:=41) rfl (hc) (OpenTo.refl _)),zl (j:=i) (a:=l.getD i zd0) zdi zcg rfl rfl rfl (getD_some uO)⟩) ?_;refine gz2 ?_;refine dg rfl rfl (fun hc=>⟨_,OpenTo.upd (t:=45) rfl (hc) (OpenTo.upd (t:=44) rfl (hc) (OpenTo.upd (t:=40) rfl (hc) (OpenTo.refl _))),z7 hca rfl rfl (WeakL.refl _) (hp _)⟩) ?_;refine gz6 ?_;refine zx rfl ?_;rw [zw9 hjl2 ha hb,<-zu1 hs hjl2 ha hb,<-ztQ]
theorem zoB [Tracks] {x:PlayerS} {s:Str}:ConP prog 235 [zbs x,.str s] (.int .i64 (zai x.Key s)):=by
 refine uOb func235 ntmps235 ?_;refine gz8 ?_;refine dq (uCl zcM rfl z6) ?_;refine gz3 ?_;refine zx rfl ?_
 rfl
theorem zlN [Tracks] {l:List PlayerS} {s:Str} (hl:l.length<=1000000) (hs:SortedS (l.map (·.Key))):ConP prog 131 [zbd l,.str s] (.int .i64 (zlo (l.map (·.Key)) s)):=by
 refine uOb func131 ntmps131 ?_;refine gz6 ?_;refine dq (uCl zyT rfl (zgG (l:=l) zyU (fun _=>zoB) hl hs)) ?_;refine zbo ?_;refine uCo (fun h1=> ?_) fun h2=> ?_
 refine gz4 ?_;refine uRp ?_;unfold zlo
 simp_all
 refine gz7 ?_;refine uRp ?_;unfold zlo
 simp_all
theorem zg2 [Tracks] {l:List PlayerS} (hT:Tracks.on=false) (hl:l.length<=1000000) (hn: ∀p∈l,p.Name∈zcP) (hp: ∀p∈l,p.Positions.length<=1000000):ConP prog 130 [zbd l] (.int .i64 (zc4 l)):=by
 refine uOb func130 ntmps130 ?_;refine gz9 ?_;refine uCo (fun h1=> ?_) fun h2=> ?_
 refine gz4 ?_;refine uRp ?_
 (refine congrArg _ (zcF ?_)
  omega)
 refine gz9 ?_;refine uV1 [2,4,11,42] (fun (k:Nat)=>[(11,.int .i64 k)]) (fun (k:Nat)=>[]) (fun (k:Nat)=>k<=l.length/\(zbc zc9 zd0 l 0 l=zbc zc9 zd0 l k (l.drop k))) (fun (k:Nat)=>l.length-k) (0) ?_ ?_ ?_ ?_;exact ⟨Ad _,rfl⟩;exact ⟨rfl,trivial⟩;exact Ab _
 intro k hinv
 obtain ⟨hk,hg⟩:=hinv;refine gz4 ?_;refine uCo (fun h3=> ?_) fun h4=> ?_
 obtain ⟨x,hx⟩: ∃x,l[k]? =some x:=⟨_,Aa h3⟩
 have hdx:=zi hx;rw [hdx] at hg;refine gz6 ?_;refine dq (zl zdi zcg rfl rfl rfl (by assumption)) ?_;refine gz1 ?_;refine de rfl (zq zcg rfl fun b4=> ?_)
 refine gz1 ?_;refine de0 (zJ zcg rfl rfl rfl rfl rfl ?_)
 refine gz1 ?_;refine zf (zA 4 rfl) ?_;refine gz5 ?_;refine dq (uCl zc6 rfl za9) ?_;refine gz3 ?_;refine uCo (fun h5=> ?_) fun h6=> ?_
 refine gz4 ?_;refine uRp ?_
 (refine congrArg _ (zQ (e:=5) ?_ hg ?_ ?_)
  omega
  unfold zc9;exact uT
  first|decide|assumption)
 refine zw (fun _=>True) [] mixed ?_;refine gz8 ?_;refine ahg 8 rfl rfl (by kernel_rfl) (by kernel_rfl) rfl (fun hc=>by have hq:=hc;(try simp at hq);exact ⟨_,OpenTo.upd (t:=29) rfl (hc) (OpenTo.upd (t:=27) rfl (hc) (OpenTo.refl _)),zl (j:=k-1) (a:=l.getD (k-1) zd0) zdi zcg rfl rfl uO (getD_some uO)⟩) ?_;refine gz6 ?_;refine uCo (fun h7=> ?_) fun h8=> ?_
 refine gz4 ?_;refine uRp ?_
 (refine congrArg _ (zQ (e:=7) ?_ hg ?_ ?_)
  omega
  unfold zc9;exact uT
  first|decide|assumption)
 have hn6:=zmJ (hn x (Ac hx));refine gz3 ?_;refine dq (uCl zyS rfl (zrf hT (hn x (Ac hx)))) ?_;refine gz4 ?_;refine dg rfl rfl (fun hc=>⟨_,OpenTo.upd (t:=42) rfl (hc) (OpenTo.refl _),zby ty9 rfl⟩) ?_;refine dg rfl rfl (fun hc=>⟨_,OpenTo.upd (t:=43) rfl (hc) (OpenTo.refl _),uCl zc7 rfl zba⟩) ?_;refine gz3 ?_;refine zaf rfl (fun h9=> ?_) (fun h9=> ?_)
 exfalso
 try simp at h9
 simp_all
 try simp at h9
 refine gz6 ?_;refine dq (uCl zvS rfl (zi8 (hp x (Ac hx)))) ?_;refine gz6 ?_;refine uCo (fun h10=> ?_) fun h11=> ?_
 refine gz5 ?_;refine uRp ?_
 (refine congrArg _ (zQ (e:=(zhN x.Positions)) ?_ hg ?_ ?_)
  omega
  unfold zc9;exact uT
  first|decide|assumption)
 refine gz7 ?_;refine ⟨k+1,?_,?_,⟨rfl,trivial⟩,uK,Ab _⟩
 refine ⟨by omega,?_⟩
 rw [hg,zbi (by unfold zc9;(try clear hdx hg);(try simp only [Ai]);focus first|(simp_all;done)|((repeat' split)<;>focus first|rfl|(exfalso;omega)|(simp_all;done)|(exfalso;rcases ‹_\/_› with q|q<;>simp_all;done)|(exfalso;simp_all;omega)))]
 dsimp only;omega
 have hnk:l.length<=k:=by omega
 obtain rfl:k=l.length:=by omega
 rw [zz (Ae _)] at hg;refine gz2 ?_;refine zp ?_;refine gz6 ?_;refine uRp ?_
 (refine congrArg _ (zcq ?_ hg)
  omega)
theorem zk8 [Tracks] {L:List PlayerS} {l:List StintS} (hT:Tracks.on=false) (hL:L.length<=1000000) (hn: ∀p∈L,p.Name∈zcP) (hp: ∀p∈L,p.Positions.length<=1000000) (hl:l.length<=1000000):ConP prog 46 [zbd L,zbZ l] (.int .i64 (zpM L l)):=by
 refine uOb func46 ntmps46 ?_;refine gz6 ?_;refine dq (uCl zvQ rfl (zg2 (l:=L) hT hL hn hp)) ?_;refine gz6 ?_;refine uCo (fun h1=> ?_) fun h2=> ?_
 refine gz5 ?_;refine uRp ?_
 try rw [hE]
 (rw [zpM,if_pos (by assumption)])
 refine gz3 ?_;have hz:zc4 L=0:=by first|assumption|simp_all
 have hE:zpM L l=zix L l:=by rw [zpM,if_neg (by simp [hz])]
 refine gz5 ?_;refine uCo (fun h3=> ?_) fun h4=> ?_
 refine gz4 ?_;refine uRp ?_
 try rw [hE]
 (refine congrArg _ (zcF ?_)
  omega)
 refine gz9 ?_;refine uV1 [4,1,6,2,18,53] (fun (k:Nat)=>[(18,.int .i64 k)]) (fun (k:Nat)=>[]) (fun (k:Nat)=>k<=l.length/\(zbc (zdO L) ze5 l 0 l=zbc (zdO L) ze5 l k (l.drop k))) (fun (k:Nat)=>l.length-k) (0) ?_ ?_ ?_ ?_;exact ⟨Ad _,rfl⟩;exact ⟨rfl,trivial⟩;exact Ab _
 intro k hinv
 obtain ⟨hk,hg⟩:=hinv;refine gz4 ?_;refine uCo (fun h5=> ?_) fun h6=> ?_
 obtain ⟨x,hx⟩: ∃x,l[k]? =some x:=⟨_,Aa h5⟩
 have hdx:=zi hx;rw [hdx] at hg;refine gz6 ?_;refine dq (zl zcL zbF rfl rfl rfl (by assumption)) ?_;refine gz1 ?_;refine de rfl (zq zbF rfl fun b7=> ?_)
 refine gz1 ?_;refine de0 (zJ zbF rfl rfl rfl rfl rfl ?_)
 refine gz1 ?_;refine zf (zA 7 rfl) ?_;refine gz1 ?_;have hfn:zlo (L.map (·.Key)) x.Player<0↔zfm L x.Player=false:=zp5;refine gz4 ?_;refine dq (uCl zvR rfl (zlN (l:=L) hL (zoW hz))) ?_;refine gz3 ?_;refine uCo (fun h7=> ?_) fun h8=> ?_
 refine gz4 ?_;refine uRp ?_
 try rw [hE]
 (refine congrArg _ (zQ (e:=8) ?_ hg ?_ ?_)
  omega
  unfold zdO;exact uT
  first|decide|assumption)
 refine gz7 ?_;refine dg rfl rfl (fun hc=>⟨_,OpenTo.upd (t:=35) rfl (hc) (OpenTo.refl _),uCl zc6 rfl za9⟩) ?_;refine gz4 ?_;refine uCo (fun h9=> ?_) fun h10=> ?_
 refine gz4 ?_;refine uRp ?_
 try rw [hE]
 (refine congrArg _ (zQ (e:=5) ?_ hg ?_ ?_)
  omega
  unfold zdO;exact uT
  first|decide|assumption)
 refine gz3 ?_;refine dq (uCl zmX rfl ze8) ?_;refine gz3 ?_;refine uCo (fun h11=> ?_) fun h12=> ?_
 refine gz4 ?_;refine uRp ?_
 try rw [hE]
 (refine congrArg _ (zQ (e:=1) ?_ hg ?_ ?_)
  omega
  unfold zdO;exact uT
  first|decide|assumption)
 refine zw (fun _=>True) [] mixed ?_;refine gz8 ?_;refine ahg 8 rfl rfl (by kernel_rfl) (by kernel_rfl) rfl (fun hc=>by have hq:=hc;(try simp at hq);exact ⟨_,OpenTo.upd (t:=52) rfl (hc) (OpenTo.upd (t:=50) rfl (hc) (OpenTo.refl _)),zl (j:=k-1) (a:=l.getD (k-1) ze5) zcL zbF rfl rfl uO (getD_some uO)⟩) ?_;refine gz2 ?_;refine ahg 11 rfl rfl (by kernel_rfl) (by kernel_rfl) rfl (fun hc=>⟨_,OpenTo.upd (t:=55) rfl (hc) (OpenTo.upd (t:=49) rfl (hc) (OpenTo.refl _)),uCl zcM rfl z6⟩) ?_;refine gz5 ?_;refine ahg 17 rfl rfl (by kernel_rfl) (by kernel_rfl) rfl (fun hc=>by have hq:=hc;(try simp at hq);exact ⟨_,OpenTo.upd (t:=61) rfl (hc) (OpenTo.upd (t:=59) rfl (hc) (OpenTo.refl _)),zl (j:=k-1) (a:=l.getD (k-1) ze5) zcL zbF rfl rfl uO (getD_some uO)⟩) ?_;refine gz2 ?_;refine ahg 20 rfl rfl (by kernel_rfl) (by kernel_rfl) rfl (fun hc=>⟨_,OpenTo.upd (t:=64) rfl (hc) (OpenTo.upd (t:=58) rfl (hc) (OpenTo.refl _)),uCl zcN rfl zZ⟩) ?_;refine ahg 21 rfl rfl (by kernel_rfl) (by kernel_rfl) rfl (fun hc=>⟨_,OpenTo.upd (t:=65) rfl (hc) (OpenTo.upd (t:=56) rfl (hc) (OpenTo.refl _)),zb (hs:=[_,_]) zac ty3 rfl rfl (by decide) (by decide) rfl⟩) ?_;refine ahg 22 rfl rfl (by kernel_rfl) (by kernel_rfl) rfl (fun hc=>⟨_,OpenTo.upd (t:=66) rfl (hc) (OpenTo.refl _),uCl zf0 rfl (zbw (l:=[_,_]) (by simp))⟩) ?_;refine gz4 ?_;refine uCo (fun h13=> ?_) fun h14=> ?_
 refine gz4 ?_;refine uRp ?_
 try rw [hE]
 (refine congrArg _ (zQ (e:=7) ?_ hg ?_ ?_)
  omega
  unfold zdO;exact uT
  first|decide|assumption)
 refine gz8 ?_;refine ⟨k+1,?_,?_,⟨rfl,trivial⟩,uK,Ab _⟩
 refine ⟨by omega,?_⟩
 rw [hg,zbi (by unfold zdO;(try clear hdx hg);(try simp only [Ai]);focus first|(simp_all;done)|((repeat' split)<;>focus first|rfl|(exfalso;omega)|(simp_all;done)|(exfalso;rcases ‹_\/_› with q|q<;>simp_all;done)|(exfalso;simp_all;omega)))]
 dsimp only;omega
 have hnk:l.length<=k:=by omega
 obtain rfl:k=l.length:=by omega
 rw [zz (Ae _)] at hg;refine gz2 ?_;refine zp ?_;refine gz6 ?_;refine uRp ?_
 try rw [hE]
 (refine congrArg _ (zcq ?_ hg)
  omega)
theorem zkk [Tracks] {l:List FixS} (hl:l.length<=1000000):ConP prog 47 [zeo l] (.int .i64 (zjo l)):=by
 refine uOb func47 ntmps47 ?_;refine gz9 ?_;refine uCo (fun h1=> ?_) fun h2=> ?_
 refine gz4 ?_;refine uRp ?_
 (refine congrArg _ (zcF ?_)
  omega)
 refine gz9 ?_;refine uV1 [2,4,11,59] (fun (k:Nat)=>[(11,.int .i64 k)]) (fun (k:Nat)=>[]) (fun (k:Nat)=>k<=l.length/\(zbc zfK zkt l 0 l=zbc zfK zkt l k (l.drop k))) (fun (k:Nat)=>l.length-k) (0) ?_ ?_ ?_ ?_;exact ⟨Ad _,rfl⟩;exact ⟨rfl,trivial⟩;exact Ab _
 intro k hinv
 obtain ⟨hk,hg⟩:=hinv;refine gz4 ?_;refine uCo (fun h3=> ?_) fun h4=> ?_
 obtain ⟨x,hx⟩: ∃x,l[k]? =some x:=⟨_,Aa h3⟩
 have hdx:=zi hx;rw [hdx] at hg;refine gz6 ?_;refine dq (zl zbG zaM rfl rfl rfl (by assumption)) ?_;refine gz1 ?_;refine de rfl (zq zaM rfl fun b4=> ?_)
 refine gz1 ?_;refine de0 (zJ zaM rfl rfl rfl rfl rfl ?_)
 refine gz1 ?_;refine zf (zA 4 rfl) ?_;refine gz5 ?_;refine dq (uCl zmX rfl ze8) ?_;refine gz4 ?_;refine dg rfl rfl (fun hc=>⟨_,OpenTo.upd (t:=23) rfl (hc) (OpenTo.refl _),uCl znI rfl zdc⟩) ?_;refine gz4 ?_;refine uCo (fun h5=> ?_) fun h6=> ?_
 refine gz4 ?_;refine uRp ?_
 (refine congrArg _ (zQ (e:=1) ?_ hg ?_ ?_)
  omega
  unfold zfK;exact uT
  first|decide|assumption)
 refine gz3 ?_;refine dq (uCl zc6 rfl za9) ?_;refine gz4 ?_;refine dg rfl rfl (fun hc=>⟨_,OpenTo.upd (t:=34) rfl (hc) (OpenTo.refl _),uCl zc6 rfl za9⟩) ?_;refine gz4 ?_;refine uCo (fun h7=> ?_) fun h8=> ?_
 refine gz4 ?_;refine uRp ?_
 (refine congrArg _ (zQ (e:=5) ?_ hg ?_ ?_)
  omega
  unfold zfK;exact uT
  first|decide|assumption)
 refine gz8 ?_;refine uCo (fun h9=> ?_) fun h10=> ?_
 refine gz4 ?_;refine uRp ?_
 (refine congrArg _ (zQ (e:=6) ?_ hg ?_ ?_)
  omega
  unfold zfK;exact uT
  first|decide|assumption)
 refine gz8 ?_;refine uCo (fun h11=> ?_) fun h12=> ?_
 refine gz8 ?_;refine ⟨k+1,?_,?_,⟨rfl,trivial⟩,uK,Ab _⟩
 refine ⟨by omega,?_⟩
 rw [hg,zbi (by unfold zfK;(try clear hdx hg);(try simp only [Ai]);focus first|(simp_all;done)|((repeat' split)<;>focus first|rfl|(exfalso;omega)|(simp_all;done)|(exfalso;rcases ‹_\/_› with q|q<;>simp_all;done)|(exfalso;simp_all;omega)))]
 dsimp only;omega
 refine gz6 ?_;refine dq (zl (j:=k-1) (a:=l.getD (k-1) zkt) zbG zaM rfl rfl uO (getD_some uO)) ?_;refine gz1 ?_;refine de rfl (zq zaM rfl fun b5=> ?_)
 refine de0 (zJ zaM rfl rfl rfl rfl rfl ?_)
 refine gz1 ?_;refine zf (zA 5 rfl) ?_;refine zw (fun _=>True) [] mixed ?_;refine gz4 ?_;refine uB 4 rfl (uCl zcN rfl zZ) ?_;refine gz4 ?_;refine uB 9 rfl (uCl zcN rfl zZ) ?_;refine gz4 ?_;refine uB 14 rfl (uCl zcM rfl z6) ?_;refine uB 15 rfl (zb (hs:=[_,_,_]) zac ty3 rfl rfl (by decide) (by decide) rfl) ?_;refine uB 16 rfl (uCl zf0 rfl (zbw (l:=[_,_,_]) (by simp))) ?_;refine gz2 ?_;refine uCo (fun h13=> ?_) fun h14=> ?_
 refine gz4 ?_;refine uRp ?_
 (refine congrArg _ (zQ (e:=7) ?_ hg ?_ ?_)
  omega
  unfold zfK;exact uT
  first|decide|assumption)
 refine gz7 ?_;refine ⟨k+1,?_,?_,⟨rfl,trivial⟩,uK,Ab _⟩
 refine ⟨by omega,?_⟩
 rw [hg,zbi (by unfold zfK;(try clear hdx hg);(try simp only [Ai]);focus first|(simp_all;done)|((repeat' split)<;>focus first|rfl|(exfalso;omega)|(simp_all;done)|(exfalso;rcases ‹_\/_› with q|q<;>simp_all;done)|(exfalso;simp_all;omega)))]
 dsimp only;omega
 have hnk:l.length<=k:=by omega
 obtain rfl:k=l.length:=by omega
 rw [zz (Ae _)] at hg;refine gz2 ?_;refine zp ?_;refine gz6 ?_;refine uRp ?_
 (refine congrArg _ (zcq ?_ hg)
  omega)
theorem zhb [Tracks] {L:List PlayerS} {l:List HealthS} (hT:Tracks.on=false) (hL:L.length<=1000000) (hn: ∀p∈L,p.Name∈zcP) (hp: ∀p∈L,p.Positions.length<=1000000) (hl:l.length<=1000000) (hw: ∀x∈l,-1000000000000000<=x.To/\x.To<=1000000000000000):ConP prog 59 [zbd L,za1 l] (.int .i64 (zmz L l)):=by
 refine uOb func59 ntmps59 ?_;refine gz6 ?_;refine dq (uCl zvQ rfl (zg2 (l:=L) hT hL hn hp)) ?_;refine gz6 ?_;refine uCo (fun h1=> ?_) fun h2=> ?_
 refine gz5 ?_;refine uRp ?_
 try rw [hE]
 (rw [zmz,if_pos (by assumption)])
 refine gz3 ?_;have hz:zc4 L=0:=by first|assumption|simp_all
 have hE:zmz L l=zcd L l:=by rw [zmz,if_neg (by simp [hz])]
 refine gz5 ?_;refine uCo (fun h3=> ?_) fun h4=> ?_
 refine gz4 ?_;refine uRp ?_
 try rw [hE]
 (refine congrArg _ (zcF ?_)
  omega)
 refine gz9 ?_;refine uV1 [4,1,6,3,19,60] (fun (k:Nat)=>[(19,.int .i64 k)]) (fun (k:Nat)=>[]) (fun (k:Nat)=>k<=l.length/\(zbc (zbt L) zfa l 0 l=zbc (zbt L) zfa l k (l.drop k))) (fun (k:Nat)=>l.length-k) (0) ?_ ?_ ?_ ?_;exact ⟨Ad _,rfl⟩;exact ⟨rfl,trivial⟩;exact Ab _
 intro k hinv
 obtain ⟨hk,hg⟩:=hinv;refine gz4 ?_;refine uCo (fun h5=> ?_) fun h6=> ?_
 obtain ⟨x,hx⟩: ∃x,l[k]? =some x:=⟨_,Aa h5⟩
 have hdx:=zi hx;rw [hdx] at hg;refine gz6 ?_;refine dq (zl zaL zU rfl rfl rfl (by assumption)) ?_;refine gz1 ?_;refine de rfl (zq zU rfl fun b7=> ?_)
 refine gz1 ?_;refine de0 (zJ zU rfl rfl rfl rfl rfl ?_)
 refine gz1 ?_;refine zf (zA 7 rfl) ?_;refine gz2 ?_;have hfn:zlo (L.map (·.Key)) x.Player<0↔zfm L x.Player=false:=zp5;have hwx:=hw x (Ac hx);refine gz4 ?_;refine dq (uCl zvR rfl (zlN (l:=L) hL (zoW hz))) ?_;refine gz3 ?_;refine uCo (fun h7=> ?_) fun h8=> ?_
 refine gz4 ?_;refine uRp ?_
 try rw [hE]
 (refine congrArg _ (zQ (e:=8) ?_ hg ?_ ?_)
  omega
  unfold zbt;exact uT
  first|decide|assumption)
 refine gz3 ?_;refine dq (uCl zc7 rfl zba) ?_;refine gz6 ?_;refine dg rfl rfl (fun hc=>⟨_,OpenTo.upd (t:=39) rfl (hc) (OpenTo.upd (t:=36) rfl (hc) (OpenTo.refl _)),uCl zc7 rfl zba⟩) ?_;refine gz3 ?_;refine uCo (fun h9=> ?_) fun h10=> ?_
 refine gz4 ?_;refine uRp ?_
 try rw [hE]
 (refine congrArg _ (zQ (e:=1) ?_ hg ?_ ?_)
  omega
  unfold zbt;exact uT
  first|decide|assumption)
 refine gz3 ?_;refine dq (uCl zc7 rfl zba) ?_;refine gz2 ?_;refine uCo (fun h11=> ?_) fun h12=> ?_
 refine gz4 ?_;refine uRp ?_
 try rw [hE]
 (refine congrArg _ (zQ (e:=4) ?_ hg ?_ ?_)
  omega
  unfold zbt;exact uT
  first|decide|assumption)
 refine gz8 ?_;refine uCo (fun h13=> ?_) fun h14=> ?_
 refine gz8 ?_;refine ⟨k+1,?_,?_,⟨rfl,trivial⟩,uK,Ab _⟩
 refine ⟨by omega,?_⟩
 rw [hg,zbi (by unfold zbt;(try clear hdx hg);(try simp only [Ai]);focus first|(simp_all;done)|((repeat' split)<;>focus first|rfl|(exfalso;omega)|(simp_all;done)|(exfalso;rcases ‹_\/_› with q|q<;>simp_all;done)|(exfalso;simp_all;omega)))]
 dsimp only;omega
 refine gz2 ?_;have hk0:0<k:=by omega
 have hpl:zfm L x.Player=true:=by
  cases hq:zfm L x.Player with
  |true=>rfl
  |false=>have:=hfn.2 hq;omega
 refine gz4 ?_;refine dq (zl (j:=k-1) (a:=l.getD (k-1) zfa) zaL zU rfl rfl uO (getD_some uO)) ?_;refine gz1 ?_;refine de rfl (zq zU rfl fun b8=> ?_)
 refine de0 (zJ zU rfl rfl rfl rfl rfl ?_)
 refine gz1 ?_;refine zf (zA 8 rfl) ?_;refine gz1 ?_;refine zw (fun _=>True) [] mixed ?_;refine gz4 ?_;refine uB 4 rfl (uCl zcM rfl z6) ?_;refine gz4 ?_;refine uB 9 rfl (uCl zcN rfl zZ) ?_;refine uB 10 rfl (zb (hs:=[_,_]) zac ty3 rfl rfl (by decide) (by decide) rfl) ?_;refine uB 11 rfl (uCl zf0 rfl (zbw (l:=[_,_]) (by simp))) ?_;refine gz2 ?_;refine uCo (fun h15=> ?_) fun h16=> ?_
 refine gz4 ?_;refine uRp ?_
 try rw [hE]
 (refine congrArg _ (zQ (e:=7) ?_ hg ?_ ?_)
  omega
  unfold zbt;exact uT
  first|decide|assumption)
 refine zry ?_;refine uCo (fun h17=> ?_) fun h18=> ?_
 refine gz4 ?_;refine uRp ?_
 try rw [hE]
 (refine congrArg _ (zQ (e:=13) ?_ hg ?_ ?_)
  omega
  unfold zbt;exact uT
  first|decide|assumption)
 refine gz7 ?_;refine ⟨k+1,?_,?_,⟨rfl,trivial⟩,uK,Ab _⟩
 refine ⟨by omega,?_⟩
 rw [hg,zbi (by unfold zbt;(try clear hdx hg);(try simp only [Ai]);focus first|(simp_all;done)|((repeat' split)<;>focus first|rfl|(exfalso;omega)|(simp_all;done)|(exfalso;rcases ‹_\/_› with q|q<;>simp_all;done)|(exfalso;simp_all;omega)))]
 dsimp only;omega
 have hnk:l.length<=k:=by omega
 obtain rfl:k=l.length:=by omega
 rw [zz (Ae _)] at hg;refine gz2 ?_;refine zp ?_;refine gz6 ?_;refine uRp ?_
 try rw [hE]
 (refine congrArg _ (zcq ?_ hg)
  omega)
theorem zml [Tracks] {l:List RuleS} (hl:l.length<=1000000) (hb: ∀x∈l,((-1000000000<=x.Num/\x.Num<=1000000000)/\ -1000000000<=x.Den/\x.Den<=1000000000)):ConP prog 48 [zdk l] (.int .i64 (zjv l)):=by
 refine uOb func48 ntmps48 ?_;refine gz9 ?_;refine uCo (fun h1=> ?_) fun h2=> ?_
 refine gz4 ?_;refine uRp ?_
 (refine congrArg _ (zcF ?_)
  omega)
 refine gz9 ?_;refine uV1 [2,5,12,75] (fun (k:Nat)=>[(12,.int .i64 k)]) (fun (k:Nat)=>[]) (fun (k:Nat)=>k<=l.length/\(zbc zd8 zj3 l 0 l=zbc zd8 zj3 l k (l.drop k))) (fun (k:Nat)=>l.length-k) (0) ?_ ?_ ?_ ?_;exact ⟨Ad _,rfl⟩;exact ⟨rfl,trivial⟩;exact Ab _
 intro k hinv
 obtain ⟨hk,hg⟩:=hinv;refine gz4 ?_;refine uCo (fun h3=> ?_) fun h4=> ?_
 obtain ⟨x,hx⟩: ∃x,l[k]? =some x:=⟨_,Aa h3⟩
 have hdx:=zi hx;rw [hdx] at hg;refine gz6 ?_;refine dq (zl zfU zed rfl rfl rfl (by assumption)) ?_;refine gz1 ?_;refine de rfl (zq zed rfl fun b4=> ?_)
 refine gz1 ?_;refine de0 (zJ zed rfl rfl rfl rfl rfl ?_)
 refine gz1 ?_;refine zf (zA 4 rfl) ?_;refine gz5 ?_;refine dq (uCl zc6 rfl za9) ?_;refine gz4 ?_;refine dg rfl rfl (fun hc=>⟨_,OpenTo.upd (t:=24) rfl (hc) (OpenTo.refl _),uCl zc6 rfl za9⟩) ?_;refine gz9 ?_;refine dg rfl rfl (fun hc=>⟨_,OpenTo.upd (t:=34) rfl (hc) (OpenTo.refl _),uCl zc6 rfl za9⟩) ?_;refine gz5 ?_;refine uCo (fun h5=> ?_) fun h6=> ?_
 refine gz4 ?_;refine uRp ?_
 (refine congrArg _ (zQ (e:=5) ?_ hg ?_ ?_)
  omega
  unfold zd8;exact uT
  first|decide|assumption)
 refine zw (fun _=>True) [] mixed ?_;refine gz8 ?_;refine ahg 8 rfl rfl (by kernel_rfl) (by kernel_rfl) rfl (fun hc=>by have hq:=hc;(try simp at hq);exact ⟨_,OpenTo.upd (t:=47) rfl (hc) (OpenTo.upd (t:=45) rfl (hc) (OpenTo.refl _)),zl (j:=k-1) (a:=l.getD (k-1) zj3) zfU zed rfl rfl uO (getD_some uO)⟩) ?_;refine gz6 ?_;refine uCo (fun h7=> ?_) fun h8=> ?_
 refine gz4 ?_;refine uRp ?_
 (refine congrArg _ (zQ (e:=7) ?_ hg ?_ ?_)
  omega
  unfold zd8;exact uT
  first|decide|assumption)
 refine gz3 ?_;refine dq (uCl zc7 rfl zba) ?_;refine gz2 ?_;refine uCo (fun h9=> ?_) fun h10=> ?_
 refine gz4 ?_;refine uRp ?_
 (refine congrArg _ (zQ (e:=4) ?_ hg ?_ ?_)
  omega
  unfold zd8;exact uT
  first|decide|assumption)
 refine zcc ?_;refine dq (zae (h':= .bool (zqT x.Kind)) (ziQ rfl) rfl) ?_;refine gz7 ?_;refine dg rfl rfl (fun hc=>⟨_,OpenTo.upd (t:=68) rfl (hc) (OpenTo.refl _),uCl zc7 rfl zba⟩) ?_;refine zbo ?_;refine uCo (fun h11=> ?_) fun h12=> ?_
 refine gz4 ?_;refine uRp ?_
 (refine congrArg _ (zQ (e:=1) ?_ hg ?_ ?_)
  omega
  unfold zd8;exact uT
  first|decide|assumption)
 refine gz4 ?_;refine dq (zae (h':= .agg [.int .i64 x.Num,.int .i64 x.Den]) (zaB zb6 rfl rfl (Ah rfl)) rfl) ?_;refine dq (uCl zsX rfl (ziq (n:=x.Num) (d:=x.Den) (most:=10000) (hb x (Ac hx)).1 (hb x (Ac hx)).2 uO)) ?_;refine gz6 ?_;refine uCo (fun h13=> ?_) fun h14=> ?_
 refine gz5 ?_;refine uRp ?_
 (refine congrArg _ (zQ (e:=(zdb x.Num x.Den 10000)) ?_ hg ?_ ?_)
  omega
  unfold zd8;exact uT
  first|decide|assumption)
 refine gz7 ?_;refine ⟨k+1,?_,?_,⟨rfl,trivial⟩,uK,Ab _⟩
 refine ⟨by omega,?_⟩
 rw [hg,zbi (by unfold zd8;(try clear hdx hg);(try simp only [Ai]);focus first|(simp_all;done)|((repeat' split)<;>focus first|rfl|(exfalso;omega)|(simp_all;done)|(exfalso;rcases ‹_\/_› with q|q<;>simp_all;done)|(exfalso;simp_all;omega)))]
 dsimp only;omega
 have hnk:l.length<=k:=by omega
 obtain rfl:k=l.length:=by omega
 rw [zz (Ae _)] at hg;refine gz2 ?_;refine zp ?_;refine gz6 ?_;refine uRp ?_
 (refine congrArg _ (zcq ?_ hg)
  omega)
theorem zfD [Tracks] {l:List SlotS} {fid:FuncId} {caps:List HVal} {p:SlotS->Bool} (hca:Callable prog fid) (hp: ∀x,ConP prog fid ([za4 x]++caps) (.bool (p x))) (hl:l.length<=1000000):ConP prog 228 [.slice 2 (l.map za4),.fn (.func fid) [] caps] (.int .i64 (zap p l 0)):=by
 refine uOb func228 ntmps228 ?_;refine zaD ?_;refine uV1 [4,2,8,11] (fun (k:Nat)=>[(8,.int .i64 k)]) (fun (k:Nat)=>[]) (fun (k:Nat)=>k<=l.length/\(zap p l 0=zap p (l.drop k) k)) (fun (k:Nat)=>l.length-k) (0) ?_ ?_ ?_ ?_;exact ⟨Ad _,rfl⟩;exact ⟨rfl,trivial⟩;exact Ab _
 intro k hinv
 obtain ⟨hk,hg⟩:=hinv;refine gz4 ?_;refine uCo (fun h1=> ?_) fun h2=> ?_
 obtain ⟨x,hx⟩: ∃x,l[k]? =some x:=⟨_,Aa h1⟩
 have hdx:=zi hx;rw [hdx] at hg;refine zcc ?_;refine dq (zl zcn zbE rfl rfl rfl (by assumption)) ?_;refine gz1 ?_;refine dq (z7 hca rfl rfl (WeakL.refl _) (hp _)) ?_;refine gz1 ?_;refine uCo (fun h3=> ?_) fun h4=> ?_
 refine gz5 ?_;refine uRp ?_
 (rw [hg];simp_all [zap])
 refine gz7 ?_;refine ⟨k+1,?_,?_,⟨rfl,trivial⟩,uK,Ab _⟩
 refine ⟨by omega,?_⟩
 rw [hg,zap,if_neg (by simp_all)];rfl
 dsimp only;omega
 have hnk:l.length<=k:=by omega
 obtain rfl:k=l.length:=by omega
 rw [zz (Ae _)] at hg;refine gz2 ?_;refine zp ?_;refine gz6 ?_;refine uRp ?_
 (rw [hg];rfl)
theorem zcH [Tracks] {l:List SlotS} {fid:FuncId} {caps:List HVal} {p:SlotS->Bool} (hca:Callable prog fid) (hp: ∀x,ConP prog fid ([za4 x]++caps) (.bool (p x))) (hl:l.length<=1000000):ConP prog 121 [.slice 2 (l.map za4),.fn (.func fid) [] caps] (.bool (l.any p)):=by
 refine uOb func121 ntmps121 ?_;refine gz6 ?_;refine dq (uCl zyP rfl (zfD hca hp hl)) ?_;refine gz4 ?_;refine zx rfl ?_
 congr 1;exact zcu p l 0 uO
theorem zla [Tracks] {y x:SlotS}:ConP prog 138 [za4 y,.vptr (zd (za4 x)) 0] (.bool (y.Key==x.Key)):=by
 refine uOb func138 ntmps138 ?_;refine zfL ?_;refine zx rfl ?_
 rfl
theorem zmm [Tracks] {l:List SlotS} (hl:l.length<=1000000) (hp: ∀x∈l,x.Positions.length<=1000000):ConP prog 49 [zgq l] (.int .i64 (zeX l)):=by
 refine uOb func49 ntmps49 ?_;refine zbo ?_;refine uCo (fun h1=> ?_) fun h2=> ?_
 ·refine gz4 ?_;refine uRp ?_
  (unfold zeX;simp_all;done)
 ·refine gz6 ?_;refine uCo (fun h3=> ?_) fun h4=> ?_
  ·refine gz4 ?_;refine uRp ?_
   (rw [zeX,if_neg (by first|omega|simp_all),if_pos uO];done)
  ·refine zaD ?_;refine uV1 [2,4,16,23] (fun (k:Nat)=>[(16,.int .i64 k)]) (fun (k:Nat)=>[]) (fun (k:Nat)=>k<=l.length/\(zcC l 0 l=zcC l k (l.drop k))) (fun (k:Nat)=>l.length-k) (0) ?_ ?_ ?_ ?_
   ·exact ⟨Ad _,rfl⟩
   ·exact ⟨rfl,trivial⟩
   ·exact Ab _
   ·intro k hinv
    obtain ⟨hk,hg⟩:=hinv;refine gz4 ?_;refine uCo (fun h5=> ?_) fun h6=> ?_
    ·obtain ⟨x,hx⟩: ∃x,l[k]? =some x:=⟨_,Aa h5⟩
     have hdx:=zi hx;rw [hdx] at hg;refine gz6 ?_;refine dq (zl zcn zbE rfl rfl rfl (by assumption)) ?_;refine gz1 ?_;refine de rfl (zq zbE rfl fun b4=> ?_)
     refine gz1 ?_;refine de0 (zJ zbE rfl rfl rfl rfl rfl ?_)
     refine gz1 ?_;refine zf (zA 4 rfl) ?_;refine gz5 ?_;refine dq (uCl zc6 rfl za9) ?_;refine gz3 ?_;refine uCo (fun h7=> ?_) fun h8=> ?_
     ·refine gz4 ?_;refine uRp ?_
      (refine congrArg _ (zhP (e:=5) ?_ ?_ hg ?_)
       ·first|omega|simp_all
       ·omega
       ·rw [zcC]
        simp_all
        done)
     ·refine gz3 ?_;refine dq (zbq zcn zbE rfl rfl ⟨_,_,rfl,rfl⟩ uO uO) ?_;refine gz1 ?_;refine dq (uCl zvN rfl (zcH (l:=l.take k) (p:=fun y=>y.Key==x.Key) zxX (fun _=>zla) (by rw [Ag];omega))) ?_;refine gz2 ?_;refine uCo (fun h9=> ?_) fun h10=> ?_
      ·refine gz4 ?_;refine uRp ?_
       (refine congrArg _ (zhP (e:=6) ?_ ?_ hg ?_)
        ·first|omega|simp_all
        ·omega
        ·rw [zcC]
         simp_all
         done)
      ·refine gz6 ?_;refine dq (uCl zvS rfl (zi8 (hp x (Ac hx)))) ?_;refine gz6 ?_;refine uCo (fun h11=> ?_) fun h12=> ?_
       ·refine gz5 ?_;refine uRp ?_
        (refine congrArg _ (zhP (e:=(zhN x.Positions)) ?_ ?_ hg ?_)
         ·first|omega|simp_all
         ·omega
         ·rw [zcC]
          simp_all
          done)
       ·refine gz7 ?_;refine ⟨k+1,?_,?_,⟨rfl,trivial⟩,uK,Ab _⟩
        ·refine ⟨by omega,?_⟩
         rw [hg,zcC,if_neg (by simp_all),if_neg (by simp_all),if_neg (by simp_all)]
        ·dsimp only;omega
    ·have hnk:l.length<=k:=by omega
     obtain rfl:k=l.length:=by omega
     rw [zz (Ae _)] at hg;refine gz2 ?_;refine zp ?_;refine gz6 ?_;refine uRp ?_
     (refine congrArg _ (zrU ?_ ?_ hg)<;>first|omega|simp_all)
theorem zk9 [Tracks] {b:BoundS}:ConP prog 50 [zgp b] (.int .i64 (zgz b)):=by
 refine uOb func50 ntmps50 ?_;refine gz8 ?_;refine dq (uCl zc7 rfl zba) ?_;refine gz3 ?_;refine dg rfl rfl (fun hc=>⟨_,OpenTo.upd (t:=8) rfl (hc) (OpenTo.refl _),uCl zc7 rfl zba⟩) ?_;refine gz4 ?_;refine dg rfl rfl (fun hc=>⟨_,OpenTo.upd (t:=13) rfl (hc) (OpenTo.refl _),uCl zc7 rfl zba⟩) ?_;refine gz4 ?_;refine dg rfl rfl (fun hc=>⟨_,OpenTo.upd (t:=18) rfl (hc) (OpenTo.refl _),uCl zc7 rfl zba⟩) ?_;refine gz2 ?_;refine uCo (fun h1=> ?_) fun h2=> ?_
 refine gz4 ?_;refine uRp ?_;unfold zgz
 (rw [if_pos (by simp_all)])
 refine gz6 ?_;refine uRp ?_;unfold zgz
 (rw [if_neg (by simp_all)])
theorem ziA [Tracks] {a b:MoveS}:ConP prog 143 [zaS a,zaS b] (.int .i64 (zdl a b)):=by
 refine uOb func143 ntmps143 ?_;refine gz5 ?_;refine zw (fun _=>True) [] mixed ?_;refine gz4 ?_;refine uB 4 rfl (uCl zcN rfl zZ) ?_;refine gz4 ?_;refine uB 9 rfl (uCl zcM rfl z6) ?_;refine gz4 ?_;refine uB 14 rfl (uCl zcM rfl z6) ?_;refine gz4 ?_;refine uB 19 rfl (uCl zcN rfl zZ) ?_;refine uB 20 rfl (zb (hs:=[_,_,_,_]) zac ty3 rfl rfl (by decide) (by decide) rfl) ?_;refine uB 21 rfl (uCl zf0 rfl (zbw (l:=[_,_,_,_]) (by simp))) ?_;refine gz3 ?_;refine zx rfl ?_
 rfl
theorem zfe [Tracks] {l:List MoveS} (hl:l.length<=1000000):ConP prog 56 [zbB l] (.int .i64 (zkw l)):=by
 refine uOb func56 ntmps56 ?_;refine gz9 ?_;refine uCo (fun h1=> ?_) fun h2=> ?_
 refine gz4 ?_;refine uRp ?_
 (refine congrArg _ (zcF ?_)
  omega)
 refine gz9 ?_;refine uV1 [2,3,10,39] (fun (k:Nat)=>[(10,.int .i64 k)]) (fun (k:Nat)=>[]) (fun (k:Nat)=>k<=l.length/\(zbc zeR ziN l 0 l=zbc zeR ziN l k (l.drop k))) (fun (k:Nat)=>l.length-k) (0) ?_ ?_ ?_ ?_;exact ⟨Ad _,rfl⟩;exact ⟨rfl,trivial⟩;exact Ab _
 intro k hinv
 obtain ⟨hk,hg⟩:=hinv;refine gz4 ?_;refine uCo (fun h3=> ?_) fun h4=> ?_
 obtain ⟨x,hx⟩: ∃x,l[k]? =some x:=⟨_,Aa h3⟩
 have hdx:=zi hx;rw [hdx] at hg;refine gz6 ?_;refine dq (zl zaZ zaR rfl rfl rfl (by assumption)) ?_;refine gz1 ?_;refine de rfl (zq zaR rfl fun b4=> ?_)
 refine gz1 ?_;refine de0 (zJ zaR rfl rfl rfl rfl rfl ?_)
 refine gz1 ?_;refine zf (zA 4 rfl) ?_;refine gz4 ?_;refine dq (uCl znI rfl zdc) ?_;refine gz3 ?_;refine uCo (fun h5=> ?_) fun h6=> ?_
 refine gz4 ?_;refine uRp ?_
 (refine congrArg _ (zQ (e:=1) ?_ hg ?_ ?_)
  omega
  unfold zeR;exact uT
  first|decide|assumption)
 refine gz3 ?_;refine dq (uCl zc7 rfl zba) ?_;refine gz2 ?_;refine uCo (fun h7=> ?_) fun h8=> ?_
 refine gz4 ?_;refine uRp ?_
 (refine congrArg _ (zQ (e:=4) ?_ hg ?_ ?_)
  omega
  unfold zeR;exact uT
  first|decide|assumption)
 refine gz3 ?_;refine dq (uCl zc6 rfl za9) ?_;refine gz4 ?_;refine dg rfl rfl (fun hc=>⟨_,OpenTo.upd (t:=31) rfl (hc) (OpenTo.refl _),uCl zc6 rfl za9⟩) ?_;refine gz4 ?_;refine uCo (fun h9=> ?_) fun h10=> ?_
 refine gz4 ?_;refine uRp ?_
 (refine congrArg _ (zQ (e:=5) ?_ hg ?_ ?_)
  omega
  unfold zeR;exact uT
  first|decide|assumption)
 refine zw (fun _=>True) [] mixed ?_;refine gz7 ?_;refine ahg 7 rfl rfl (by kernel_rfl) (by kernel_rfl) rfl (fun hc=>by have hq:=hc;(try simp at hq);exact ⟨_,OpenTo.upd (t:=42) rfl (hc) (OpenTo.upd (t:=40) rfl (hc) (OpenTo.refl _)),zl (j:=k-1) (a:=l.getD (k-1) ziN) zaZ zaR rfl rfl uO (getD_some uO)⟩) ?_;refine gz1 ?_;refine ahg 9 rfl rfl (by kernel_rfl) (by kernel_rfl) rfl (fun hc=>⟨_,OpenTo.upd (t:=44) rfl (hc) (OpenTo.upd (t:=39) rfl (hc) (OpenTo.refl _)),uCl zvT rfl ziA⟩) ?_;refine gz4 ?_;refine uCo (fun h11=> ?_) fun h12=> ?_
 refine gz4 ?_;refine uRp ?_
 (refine congrArg _ (zQ (e:=7) ?_ hg ?_ ?_)
  omega
  unfold zeR;exact uT
  first|decide|assumption)
 refine gz8 ?_;refine ⟨k+1,?_,?_,⟨rfl,trivial⟩,uK,Ab _⟩
 refine ⟨by omega,?_⟩
 rw [hg,zbi (by unfold zeR;(try clear hdx hg);(try simp only [Ai]);focus first|(simp_all;done)|((repeat' split)<;>focus first|rfl|(exfalso;omega)|(simp_all;done)|(exfalso;rcases ‹_\/_› with q|q<;>simp_all;done)|(exfalso;simp_all;omega)))]
 dsimp only;omega
 have hnk:l.length<=k:=by omega
 obtain rfl:k=l.length:=by omega
 rw [zz (Ae _)] at hg;refine gz2 ?_;refine zp ?_;refine gz6 ?_;refine uRp ?_
 (refine congrArg _ (zcq ?_ hg)
  omega)
theorem zmj [Tracks] {l:List Str} (hl:l.length<=1000000):ConP prog 140 [eSs l] (.int .i64 (zdT l)):=by
 refine uOb func140 ntmps140 ?_;refine zbo ?_;refine uCo (fun h1=> ?_) fun h2=> ?_
 refine gz4 ?_;refine uRp ?_
 (rw [zdT,if_pos uO])
 refine gz6 ?_;refine uCo (fun h3=> ?_) fun h4=> ?_
 refine gz4 ?_;refine uRp ?_
 (rw [zdT,if_neg uO,if_pos uO])
 refine gz5 ?_;refine dq (uCl zwg rfl (zlL (by assumption))) ?_;refine gz3 ?_;refine uRp ?_
 (rw [zdT,if_neg uO,if_neg uO])
theorem zpn [Tracks] {a b:GameS}:ConP prog 142 [zaO a,zaO b] (.int .i64 (zfY a b)):=by
 refine uOb func142 ntmps142 ?_;refine gz5 ?_;refine zw (fun _=>True) [] mixed ?_;refine gz4 ?_;refine uB 4 rfl (uCl zcN rfl zZ) ?_;refine gz4 ?_;refine uB 9 rfl (uCl zcM rfl z6) ?_;refine gz4 ?_;refine uB 14 rfl (uCl zcM rfl z6) ?_;refine uB 15 rfl (zb (hs:=[_,_,_]) zac ty3 rfl rfl (by decide) (by decide) rfl) ?_;refine uB 16 rfl (uCl zf0 rfl (zbw (l:=[_,_,_]) (by simp))) ?_;refine gz3 ?_;refine zx rfl ?_
 rfl
theorem zlW [Tracks] {x:GameS} (hb:((-1000000000<=x.FNum/\x.FNum<=1000000000)/\ -1000000000<=x.FDen/\x.FDen<=1000000000)/\((-1000000000<=x.ONum/\x.ONum<=1000000000)/\ -1000000000<=x.ODen/\x.ODen<=1000000000)):ConP prog 141 [zaO x] (.int .i64 (zhj x)):=by
 refine uOb func141 ntmps141 ?_;refine zaD ?_;refine uCo (fun h1=> ?_) fun h2=> ?_
 refine gz3 ?_;refine dq (zae (h':= .agg [.int .i64 x.FNum,.int .i64 x.FDen]) (zaB zb6 rfl rfl (Ah rfl)) rfl) ?_;refine dq (zas (cs:=[_,_]) zb6 zn3 rfl) ?_;refine dq (zbQ zb6 znN rfl rfl ⟨rfl,⟨_,_,_,_,ty3,rfl⟩,⟨rfl,⟨_,_,_,_,ty3,rfl⟩,trivial⟩⟩) ?_;refine gz2 ?_;refine dg rfl rfl (fun hc=>⟨_,OpenTo.upd (t:=13) rfl (hc) (OpenTo.refl _),zae (h':= .agg [.int .i64 x.ONum,.int .i64 x.ODen]) (zaB zb6 rfl rfl (Ah rfl)) rfl⟩) ?_;refine dg rfl rfl (fun hc=>⟨_,OpenTo.refl _,zas (cs:=[_,_]) zb6 zn3 rfl⟩) ?_;refine dg rfl rfl (fun hc=>⟨_,OpenTo.upd (t:=15) rfl (hc) (OpenTo.upd (t:=14) rfl (hc) (OpenTo.refl _)),zbQ zb6 znN rfl rfl ⟨rfl,⟨_,_,_,_,ty3,rfl⟩,⟨rfl,⟨_,_,_,_,ty3,rfl⟩,trivial⟩⟩⟩) ?_;refine gz2 ?_;refine uCo (fun h3=> ?_) fun h4=> ?_
 simp [zbp,zbl,eqH] at h3
 refine gz4 ?_;refine uRp ?_;unfold zhj
 (try clear hdx hg);(try simp only [Ai]);focus first|rfl|(simp_all;done)|((repeat' split)<;>focus first|rfl|(exfalso;omega)|(simp_all;done)|(exfalso;rcases ‹_\/_› with q|q<;>simp_all;done)|(exfalso;simp_all;omega))
 refine gz2 ?_
 simp [zbp,zbl,eqH] at h4
 refine gz4 ?_;refine uRp ?_;unfold zhj
 (try clear hdx hg);(try simp only [Ai]);focus first|rfl|(simp_all;done)|((repeat' split)<;>focus first|rfl|(exfalso;omega)|(simp_all;done)|(exfalso;rcases ‹_\/_› with q|q<;>simp_all;done)|(exfalso;simp_all;omega))
 refine gz2 ?_;refine zw (fun _=>True) [] mixed ?_;refine gz1 ?_;refine uB 1 rfl (zae (h':= .agg [.int .i64 x.FNum,.int .i64 x.FDen]) (zaB zb6 rfl rfl (Ah rfl)) rfl) ?_;refine uB 2 rfl (uCl zsX rfl (ziq (n:=x.FNum) (d:=x.FDen) (most:=1000000) hb.1.1 hb.1.2 uO)) ?_;refine gz1 ?_;refine uB 4 rfl (zae (h':= .agg [.int .i64 x.ONum,.int .i64 x.ODen]) (zaB zb6 rfl rfl (Ah rfl)) rfl) ?_;refine uB 5 rfl (uCl zsX rfl (ziq (n:=x.ONum) (d:=x.ODen) (most:=1000000) hb.2.1 hb.2.2 uO)) ?_;refine zcc ?_;refine uCo (fun h5=> ?_) fun h6=> ?_
 refine gz4 ?_;refine uRp ?_;unfold zhj
 (try clear hdx hg);(try simp only [Ai]);focus first|rfl|(simp_all;done)|((repeat' split)<;>focus first|rfl|(exfalso;omega)|(simp_all;done)|(exfalso;rcases ‹_\/_› with q|q<;>simp_all;done)|(exfalso;simp_all;omega))
 refine gz5 ?_;refine dq (zb (hs:=[_,_]) zdr zds rfl rfl (by decide) (by decide) rfl) ?_;refine dq (uCl zlj rfl (zcw (l:=[_,_]) (by simp))) ?_;refine gz3 ?_;refine uRp ?_;unfold zhj
 (try clear hdx hg);(try simp only [Ai]);focus first|rfl|(simp_all;done)|((repeat' split)<;>focus first|rfl|(exfalso;omega)|(simp_all;done)|(exfalso;rcases ‹_\/_› with q|q<;>simp_all;done)|(exfalso;simp_all;omega))
end
end Go.Proofs.YtbbpommdmnjfmaaGreatDoor
namespace Go.HL
section
open Go.Proofs Go.Shelf
variable {P:Program}
end
section

end
section
section
variable {P:Program}
theorem VL.takeL {I:Imm} {cs:List HVal} {vs:List Value} (h:VL I cs vs) (n:Nat):VL I (cs.take n) (vs.take n):=by
 refine ⟨by rw [Ag,Ag,h.1],fun j c v h1 h2=> ?_⟩
 have hj:=zo h1;rw [Ag] at hj;rw [AD (by omega)] at h1 h2;exact h.2 j c v h1 h2
theorem VL.dropL {I:Imm} {cs:List HVal} {vs:List Value} (h:VL I cs vs) (n:Nat):VL I (cs.drop n) (vs.drop n):=by
 refine ⟨by rw [Au,Au,h.1],fun j c v h1 h2=> ?_⟩
 rw [AI] at h1 h2;exact h.2 _ c v h1 h2
theorem zno: ∀{a b c d:List HVal},a.length=b.length->zbl (a++c) (b++d)=(zbl a b&&zbl c d)
 |[],[],_,_,_=>by simp [zbl]
 |[],_::_,_,_,h=>by simp at h
 |_::_,[],_,_,h=>by simp at h
 |x::a,y::b,c,d,h=>by
   rw [A3,A3,zbl,zbl,zno (a:=a) (b:=b) (by simpa using h),Bool.and_assoc]
theorem zpI [Tracks] {t:TypeId} {fs:List (Nat×Nat)} {s by':Nat} {z:Value} (hf:Fits P t (.struct fs) s by' z) (hq:EqOk P t) {I:Imm} {xs ys:Array Value} {cs ds:List HVal} (hx:VL I cs xs.toList) (hy:VL I ds ys.toList)
 (hk:ziM P fs 0 cs ds) (n:Nat) (w:World):(Op.equalIn (n+2) t (.agg xs) (.agg ys)).run P w= .ok (zbl cs ds) w:=by
 obtain ⟨gs,h1,h2⟩:=hf.structD;have h3:P.fieldsOf t=gs:=by simp [Program.fieldsOf,h1]
 have hn:=hq.names;rw [h3] at hn;rw [run_equalIn_struct w (n+1) t xs ys (by rw [h3];exact h1) hq.held,h3];have:=zjw (P:=P) hx hy n w gs.toList 0 (fun f hf=>by have:=List.all_eq_true.1 hn f hf;simpa using this) (by rw [h2];exact hk)
 simpa using this
theorem zsi [Tracks] {t:TypeId} {gs:List (Nat×Nat)} {s by':Nat} {z:Value} (hf:Fits P t (.struct gs) s by' z) {cs:Array Value} {o:Nat} (w:World):(part t cs o).run P w= .ok (.agg (cs.extract o (o+s))) w:=by
 simp [part,hf.run_isAgg,hf.run_sizeOf,TD.isAgg]
theorem zmw (xs:Array Value) (o s:Nat):(xs.extract o (o+s)).toList=(xs.toList.drop o).take s:=by
 rw [Array.toList_extract,List.extract_eq_take_drop,B1]
end
section
variable {P:Program} {e:Env} {dst:Option Tmp} {ty:TypeId} {pos:String} {af:Array Edge} {g:Option (Nat×Bool)}
end
end
section
section
variable {P:Program}
def zmH (P:Program):List (Nat×Nat)->Nat->List HVal->List HVal->Prop
 |[],_,cs,ds=>cs=[]/\ds=[]
 |f::fs,k,cs,ds=>f.1=k/\((∃gs s by' z,Fits P f.2 (.struct gs) s by' z/\EqOk P f.2/\s<=cs.length/\s<=ds.length/\ziM P gs 0 (cs.take s) (ds.take s)/\zmH P fs (k+s) (cs.drop s) (ds.drop s))\/
    ∃d s by' z a b r r',cs=a::r/\ds=b::r'/\Fits P f.2 d s by' z/\zeW d a b=true/\zmH P fs (k+1) r r')
theorem ziw [Tracks] {I:Imm} {xs ys:Array Value} {cs ds:List HVal} (hx:VL I cs xs.toList) (hy:VL I ds ys.toList) (n:Nat) (w:World):
 ∀(fs:List Field) (k:Nat),(∀f∈fs,f.name≠ "_")->zmH P (fs.map fun f=>(f.offset,f.type)) k (cs.drop k) (ds.drop k)->(Op.eqFields (n+2) xs ys fs).run P w= .ok (zbl (cs.drop k) (ds.drop k)) w
 |[],k,_,hk=>by
   obtain ⟨h1,h2⟩:=hk;rw [h1,h2]
   simp [Op.eqFields,zbl]
 |f::fs,k,hn,hk=>by
   obtain ⟨h1,hk⟩:=hk;simp only at h1
   rcases hk with ⟨gs,s,by',z,h2,hq,l1,l2,h3,h4⟩|⟨d,s,by',z,a,b,r,r',hc,hd,h2,h3,h4⟩
   simp only at h2 hq;rw [AN,AN] at h4;have ih:=ziw hx hy n w fs (k+s) (fun f hf=>hn f (by simp [hf])) h4;subst h1;have e1:VL I ((cs.drop f.offset).take s) (xs.extract f.offset (f.offset+s)).toList:=by rw [zmw];exact (hx.dropL _).takeL _
   have e2:VL I ((ds.drop f.offset).take s) (ys.extract f.offset (f.offset+s)).toList:=by rw [zmw];exact (hy.dropL _).takeL _
   have he:=zpI h2 hq e1 e2 h3 n w;have hs:zbl (cs.drop f.offset) (ds.drop f.offset)=(zbl ((cs.drop f.offset).take s) ((ds.drop f.offset).take s)&&zbl (cs.drop (f.offset+s)) (ds.drop (f.offset+s))):=by
    rw [<-AN (l:=cs),<-AN (l:=ds),<-zno (by rw [Ag,Ag];omega),Am,Am]
   simp only [Op.eqFields];rw [if_pos (hn f (by simp))];simp only [Sem.run_bind,zsi h2,Result.andThen_ok,he];rw [hs]
   cases hq:zbl ((cs.drop f.offset).take s) ((ds.drop f.offset).take s) with
   |true=>simp only [Bool.not_true,AQ,if_false,ih,Bool.true_and]
   |false=>simp only [BJ,if_true,Sem.run_pure,Bool.false_and]
   simp only at h2;have ha:cs[k]? =some a:=by have:=congrArg (fun l:List HVal=>l[0]?) hc;simpa using this
   have hb:ds[k]? =some b:=by have:=congrArg (fun l:List HVal=>l[0]?) hd;simpa using this
   obtain ⟨u,hu,hu'⟩:=hx.get ha;obtain ⟨v,hv,hv'⟩:=hy.get hb;have hr:cs.drop (k+1)=r:=by rw [<-AN (i:=1),hc];rfl
   have hr':ds.drop (k+1)=r':=by rw [<-AN (i:=1),hd];rfl
   have ih:=ziw hx hy n w fs (k+1) (fun f hf=>hn f (by simp [hf])) (by rw [hr,hr'];exact h4);subst h1;have p1:=zjy h2 (zht h3) (cs:=xs) (o:=f.offset) (by simpa using hu) w;have p2:=zjy h2 (zht h3) (cs:=ys) (o:=f.offset) (by simpa using hv) w;have he:=zjx h2 h3 hu' hv' (n+1) w;simp only [Op.eqFields];rw [if_pos (hn f (by simp))];simp only [Sem.run_bind,p1,p2,Result.andThen_ok,he];rw [hc,hd,zbl,<-hr,<-hr']
   cases hq:eqH a b with
   |true=>simp only [Bool.not_true,AQ,if_false,ih,Bool.true_and]
   |false=>simp only [BJ,if_true,Sem.run_pure,Bool.false_and]
theorem znl [Tracks] {t:TypeId} {fs:List (Nat×Nat)} {s by':Nat} {z:Value} (hf:Fits P t (.struct fs) s by' z) (hq:EqOk P t) {I:Imm} {xs ys:Array Value} {cs ds:List HVal} (hx:VL I cs xs.toList) (hy:VL I ds ys.toList)
 (hk:zmH P fs 0 cs ds) (w:World):(Op.equal t (.agg xs) (.agg ys)).run P w= .ok (zbl cs ds) w:=by
 obtain ⟨gs,h1,h2⟩:=hf.structD;have h3:P.fieldsOf t=gs:=by simp [Program.fieldsOf,h1]
 have hn:=hq.names;rw [h3] at hn;have h: ∀n,(Op.equalIn (n+3) t (.agg xs) (.agg ys)).run P w= .ok (zbl cs ds) w:=fun n=>by
  rw [run_equalIn_struct w (n+2) t xs ys (by rw [h3];exact h1) hq.held,h3];have:=ziw (P:=P) hx hy n w gs.toList 0 (fun f hf=>by have:=List.all_eq_true.1 hn f hf;simpa using this) (by rw [h2];exact hk)
  simpa using this
 exact h 9997
end
end
end Go.HL
namespace Go.Proofs.YtbbpommdmnjfmaaGreatDoor
set_option maxRecDepth 100000
set_option linter.unusedVariables false
set_option linter.unusedSimpArgs false
section
open Go.HL
set_option linter.unusedSimpArgs false
end
section
open Go.HL
set_option linter.unusedSimpArgs false
end
section
open Go.HL
set_option linter.unusedSimpArgs false
end
section
open Go.HL
set_option linter.unusedSimpArgs false
end
section
open Go.Proofs.Tryz
open Go.HL
theorem zgF [Tracks] {a b:MendS}:ConP prog 146 [zB a,zB b] (.int .i64 (zaI a b)):=by
 refine uOb func146 ntmps146 ?_;refine gz5 ?_;refine zw (fun _=>True) [] mixed ?_;refine gz4 ?_;refine uB 4 rfl (uCl zcM rfl z6) ?_;refine gz4 ?_;refine uB 9 rfl (uCl zcN rfl zZ) ?_;refine gz4 ?_;refine uB 14 rfl (uCl zcM rfl z6) ?_;refine gz4 ?_;refine uB 19 rfl (uCl zcN rfl zZ) ?_;refine uB 20 rfl (zb (hs:=[_,_,_,_]) zac ty3 rfl rfl (by decide) (by decide) rfl) ?_;refine uB 21 rfl (uCl zf0 rfl (zbw (l:=[_,_,_,_]) (by simp))) ?_;refine gz3 ?_;refine zx rfl ?_
 rfl
theorem zgc [Tracks] {m:List MendS} (hl:m.length<=1000000):ConP prog 58 [zbj m] (.int .i64 (zb9 m)):=by
 refine uOb func58 ntmps58 ?_;refine gz9 ?_;refine uCo (fun h1=> ?_) fun h2=> ?_
 ·refine gz4 ?_;refine uRp ?_
  (rw [zb9,if_pos uO];done)
 ·refine gz9 ?_;refine uV1 [2,3,10,57] (fun (k:Nat)=>[(10,.int .i64 k)]) (fun (k:Nat)=>[]) (fun (k:Nat)=>k<=m.length/\(zcO za6 zaI zer m 0 m=zcO za6 zaI zer m k (m.drop k))) (fun (k:Nat)=>m.length-k) (0) ?_ ?_ ?_ ?_
  ·exact ⟨Ad _,rfl⟩
  ·exact ⟨rfl,trivial⟩
  ·exact Ab _
  ·intro k hinv
   obtain ⟨hk,hg⟩:=hinv;refine gz4 ?_;refine uCo (fun h3=> ?_) fun h4=> ?_
   ·obtain ⟨x,hx⟩: ∃x,m[k]? =some x:=⟨_,Aa h3⟩
    have hdx:=zi hx;rw [hdx] at hg;refine gz6 ?_;refine dq (zl zak zN rfl rfl rfl (by assumption)) ?_;refine gz1 ?_;refine de rfl (zq zN rfl fun b4=> ?_)
    refine gz1 ?_;refine de0 (zJ zN rfl rfl rfl rfl rfl ?_)
    refine gz1 ?_;refine zf (zA 4 rfl) ?_;refine gz4 ?_;refine dq (uCl zc6 rfl za9) ?_;refine gz4 ?_;refine dg rfl rfl (fun hc=>⟨_,OpenTo.upd (t:=22) rfl (hc) (OpenTo.refl _),uCl zc6 rfl za9⟩) ?_;refine gz5 ?_;refine dg rfl rfl (fun hc=>⟨_,OpenTo.upd (t:=28) rfl (hc) (OpenTo.refl _),uCl zc6 rfl za9⟩) ?_;refine gz4 ?_;refine uCo (fun h5=> ?_) fun h6=> ?_
    ·refine gz4 ?_;refine uRp ?_
     (refine congrArg _ (zj0 (c:=5) uO hg (by decide) ?_)
      rw [za6,if_pos]
      simp_all
      done)
    ·refine gz3 ?_;refine dq (uCl zmX rfl ze8) ?_;refine gz4 ?_;refine dg rfl rfl (fun hc=>⟨_,OpenTo.upd (t:=39) rfl (hc) (OpenTo.refl _),uCl zc7 rfl zba⟩) ?_;refine gz4 ?_;refine dg rfl rfl (fun hc=>⟨_,OpenTo.upd (t:=44) rfl (hc) (OpenTo.refl _),uCl znI rfl zdc⟩) ?_;refine gz5 ?_;refine dg rfl rfl (fun hc=>⟨_,OpenTo.upd (t:=50) rfl (hc) (OpenTo.refl _),uCl zc7 rfl zba⟩) ?_;refine gz3 ?_;refine uCo (fun h7=> ?_) fun h8=> ?_
     ·refine gz4 ?_;refine uRp ?_
      (refine congrArg _ (zj0 (c:=1) uO hg (by decide) ?_)
       rw [za6,if_neg,if_pos]
       all_goals simp_all
       done)
     ·refine zw (fun _=>True) [] mixed ?_;refine gz7 ?_;refine ahg 7 rfl rfl (by kernel_rfl) (by kernel_rfl) rfl (fun hc=>by have hq:=hc;(try simp at hq);exact ⟨_,OpenTo.upd (t:=60) rfl (hc) (OpenTo.upd (t:=58) rfl (hc) (OpenTo.refl _)),zl (j:=k-1) (a:=m.getD (k-1) zer) zak zN rfl rfl uO (getD_some uO)⟩) ?_;refine gz1 ?_;refine ahg 9 rfl rfl (by kernel_rfl) (by kernel_rfl) rfl (fun hc=>⟨_,OpenTo.upd (t:=62) rfl (hc) (OpenTo.upd (t:=57) rfl (hc) (OpenTo.refl _)),uCl zsZ rfl zgF⟩) ?_;refine gz4 ?_;refine uCo (fun h9=> ?_) fun h10=> ?_
      ·refine gz4 ?_;refine uRp ?_
       (refine congrArg _ (zqi uO hg ?_ ?_ ?_)
        ·rw [za6,if_neg,if_neg]<;>simp_all
        ·simp_all
        ·simp_all)
      ·refine gz8 ?_;refine ⟨k+1,?_,?_,⟨rfl,trivial⟩,uK,Ab _⟩
       ·refine ⟨by omega,?_⟩
        rw [hg,zrk (by rw [za6,if_neg (by simp_all),if_neg (by simp_all)]) (by intro hk0;simp_all;try omega)]
       ·dsimp only;omega
   ·have hnk:m.length<=k:=by omega
    obtain rfl:k=m.length:=by omega
    rw [zz (Ae _)] at hg;refine gz2 ?_;refine zp ?_;refine gz6 ?_;refine uRp ?_
    (rw [zb9,if_neg uO,hg];rfl)
end
section
open Go.Proofs.Tryz
open Go.HL
theorem zwo [Tracks]:KeyOk prog 181 ztg:=zrA (cs:=fun x:Num=>zd (ztg x)) zo9 zzt (fun x y=>⟨rfl,⟨_,_,_,_,ty9,rfl⟩,⟨rfl,⟨_,_,_,_,ty3,rfl⟩,trivial⟩⟩)
 (fun x y=>by obtain ⟨a,b⟩:=x;obtain ⟨c,d⟩:=y;show (_&&(_&&true))=_;rw [AS];simp [eqH,Prod.mk.injEq]) (fun x=>rfl)
theorem zmi [Tracks] {T:List Str} {l:List GameS} (hT:T.length<=1000000) (hl:l.length<=1000000) (hb:(∀x∈l,((-1000000000<=x.FNum/\x.FNum<=1000000000)/\ -1000000000<=x.FDen/\x.FDen<=1000000000)/\((-1000000000<=x.ONum/\x.ONum<=1000000000)/\ -1000000000<=x.ODen/\x.ODen<=1000000000))):ConP prog 51 [eSs T,zdN l] (.int .i64 (zhi T l)):=by
 refine uOb func51 ntmps51 ?_;refine gz6 ?_;refine dq (uCl zxY rfl (zmj hT)) ?_;refine gz6 ?_;refine uCo (fun h1=> ?_) fun h2=> ?_
 ·refine gz5 ?_;refine zag Ghost.clear rfl ⟨?_,rfl⟩
  show HVal.int .i64 _=_
  try rw [hE]
  (rw [zhi,if_pos (by assumption)];done)
 ·refine gz3 ?_;have hz:zdT T=0:=by first|assumption|simp_all
  have hE:zhi T l=zeg T l:=by rw [zhi,if_neg (by simp [hz])]
  refine gz5 ?_;refine uCo (fun h3=> ?_) fun h4=> ?_
  ·refine gz4 ?_;refine zag Ghost.clear rfl ⟨?_,rfl⟩
   show HVal.int .i64 _=_
   try rw [hE]
   (refine congrArg _ (zdZ (zcF ?_) (by decide))
    omega)
  ·refine gz3 ?_;refine de rfl (zgr fun m22=> ?_)
   refine zaD ?_;refine uV1 [4,1,7,4,12,2,25,70] (fun (k:Nat)=>[(25,.int .i64 k),(7,.bool (zjn l k))]) (fun (k:Nat)=>[.map m22 (kk ztg (em HVal.bool (ziU (l.take k))))]) (fun (k:Nat)=>k<=l.length/\(zbc (zcy T) zeq l 0 l=zbc (zcy T) zeq l k (l.drop k))) (fun (k:Nat)=>l.length-k) (0) ?_ ?_ ?_ ?_
   ·exact ⟨Ad _,rfl⟩
   ·exact ⟨rfl,rfl,trivial⟩
   ·exact zm rfl
   ·intro k hinv
    obtain ⟨hk,hg⟩:=hinv;refine gz4 ?_;refine uCo (fun h5=> ?_) fun h6=> ?_
    ·obtain ⟨x,hx⟩: ∃x,l[k]? =some x:=⟨_,Aa h5⟩
     have hdx:=zi hx;rw [hdx] at hg;refine gz6 ?_;refine dq (zl zco zb7 rfl rfl rfl (by assumption)) ?_;refine gz1 ?_;refine de rfl (zq zb7 rfl fun b9=> ?_)
     refine gz1 ?_;refine de0 (zJ zb7 rfl rfl rfl rfl rfl ?_)
     refine gz1 ?_;refine zf (zA 9 rfl) ?_;refine gz5 ?_;refine dq (uCl zmX rfl ze8) ?_;refine gz3 ?_;refine uCo (fun h7=> ?_) fun h8=> ?_
     ·refine gz4 ?_;refine zag Ghost.clear rfl ⟨?_,rfl⟩
      show HVal.int .i64 _=_
      try rw [hE]
      (refine congrArg _ (zdZ (e:=1) (zQ ?_ hg ?_ ?_) ?_)
       ·omega
       ·unfold zcy
        simp_all
        done
       ·first|decide|assumption
       ·first|decide|assumption)
     ·refine gz4 ?_;refine dq (uCl zjR rfl (zaH (l:=T) (s:=x.Home) uO)) ?_;refine gz5 ?_;refine dg rfl rfl (fun hc=>by have hq:=hc;(try simp at hq);exact ⟨_,OpenTo.upd (t:=44) rfl (hc) (OpenTo.upd (t:=42) rfl (hc) (OpenTo.refl _)),uCl zjR rfl (zaH (l:=T) (s:=x.Away) uO)⟩) ?_;refine gz4 ?_;refine uCo (fun h9=> ?_) fun h10=> ?_
      ·refine gz4 ?_;refine zag Ghost.clear rfl ⟨?_,rfl⟩
       show HVal.int .i64 _=_
       try rw [hE]
       (refine congrArg _ (zdZ (e:=8) (zQ ?_ hg ?_ ?_) ?_)
        ·omega
        ·unfold zcy
         simp_all
         done
        ·first|decide|assumption
        ·first|decide|assumption)
      ·refine gz8 ?_;refine uCo (fun h11=> ?_) fun h12=> ?_
       ·refine gz4 ?_;refine zag Ghost.clear rfl ⟨?_,rfl⟩
        show HVal.int .i64 _=_
        try rw [hE]
        (refine congrArg _ (zdZ (e:=6) (zQ ?_ hg ?_ ?_) ?_)
         ·omega
         ·unfold zcy
          simp_all
          done
         ·first|decide|assumption
         ·first|decide|assumption)
       ·refine gz5 ?_;refine dq (zad (h:=zaO x) zb7 rfl rfl rfl rfl) ?_;refine dq (uCl zxZ rfl (zlW (x:=x) (hb x (Ac hx)))) ?_;refine gz6 ?_;refine uCo (fun h13=> ?_) fun h14=> ?_
        ·refine gz5 ?_;refine zag Ghost.clear rfl ⟨?_,rfl⟩
         show HVal.int .i64 _=_
         try rw [hE]
         (refine congrArg _ (zdZ (e:=(zhj x)) (zQ ?_ hg ?_ ?_) ?_)
          ·omega
          ·unfold zcy
           simp_all
           done
          ·first|decide|assumption
          ·first|decide|assumption)
        ·refine gz3 ?_;refine zw (fun _=>True) [] mixed ?_;refine gz7 ?_;refine ahg 7 rfl rfl (by kernel_rfl) (by kernel_rfl) rfl (fun hc=>by have hq:=hc;(try simp at hq);exact ⟨_,OpenTo.upd (t:=65) rfl (hc) (OpenTo.upd (t:=63) rfl (hc) (OpenTo.refl _)),zl (j:=k-1) (a:=l.getD (k-1) zeq) zco zb7 rfl rfl uO (getD_some uO)⟩) ?_;refine gz1 ?_;refine ahg 9 rfl rfl (by kernel_rfl) (by kernel_rfl) rfl (fun hc=>⟨_,OpenTo.upd (t:=67) rfl (hc) (OpenTo.upd (t:=62) rfl (hc) (OpenTo.refl _)),uCl zx0 rfl zpn⟩) ?_;refine gz3 ?_;refine uCo (fun h15=> ?_) fun h16=> ?_
         ·refine gz4 ?_;refine zag Ghost.clear rfl ⟨?_,rfl⟩
          show HVal.int .i64 _=_
          try rw [hE]
          (refine congrArg _ (zdZ (e:=7) (zQ ?_ hg ?_ ?_) ?_)
           ·omega
           ·unfold zcy
            simp_all
            done
           ·first|decide|assumption
           ·first|decide|assumption)
         ·refine gz2 ?_;have hne:x.Home≠x.Away:=by first|assumption|simp_all
          have hg0:zcy T k x (l.getD (k-1) zeq)=0:=by unfold zcy;simp_all
          refine gz5 ?_;refine dq (zb (hs:=[_,_]) zH ty9 rfl rfl (by decide) (by decide) rfl) ?_;refine dq (zaq (f:=HVal.str) (l:=[x.Home,x.Away]) zH rfl) ?_;refine gz3 ?_;refine uV1 [7,1,12,2,77,17] (fun (j:Nat)=>[(77,.int .i64 j),(7,.bool (inC l x k j))]) (fun (j:Nat)=>[.map m22 (kk ztg (em HVal.bool (inM l x k j)))]) (fun (j:Nat)=>j<=[x.Home,x.Away].length/\(True)) (fun (j:Nat)=>[x.Home,x.Away].length-j) (0) ?_ ?_ ?_ ?_
          ·exact ⟨Ad _,trivial⟩
          ·exact ⟨rfl,congrArg (fun q=>some (HVal.bool q)) zst.1.symm,trivial⟩
          ·exact zm (by rw [zst.2])
          ·intro j hinv
           obtain ⟨hj,-⟩:=hinv;refine gz4 ?_;refine uCo (fun h17=> ?_) fun h18=> ?_
           ·obtain ⟨s,hs⟩: ∃s,[x.Home,x.Away][j]? =some s:=⟨_,Aa (by show j<2;omega)⟩
            have hds:=zi hs;refine gz5 ?_;refine dq (zl zH ty9 rfl rfl rfl (by assumption)) ?_;refine gz3 ?_;obtain ⟨st1,st2⟩:=zwK (l:=l) (k:=k) hne hs;refine gz4 ?_;refine dq (zas (cs:=[_,_]) zo9 zzD rfl) ?_;refine de rfl (zq zo9 rfl fun b13=> ?_)
            refine de0 (zJ zo9 rfl rfl rfl rfl rfl ?_)
            refine gz1 ?_;refine zf (zA 13 rfl) ?_;refine gz5 ?_;refine dgl rfl rfl (fun hc=>⟨_,OpenTo.upd (t:=88) rfl (hc) (OpenTo.upd (t:=87) rfl (hc) (OpenTo.refl _)),zrt (i:=0) (f:=HVal.bool) (L:=inM l x k j) (s:=(s,x.Week)) (z0:=false) zwr zwo ty4 rfl rfl rfl rfl ⟨rfl,rfl⟩⟩) ?_;refine gz6 ?_;refine de0 (zru (i:=0) (f:=HVal.bool) (v:=true) (s:=(s,x.Week)) (L:=inM l x k j) zwr zwo rfl rfl rfl rfl ?_)
            refine gz7 ?_;exact ⟨j+1,⟨by show j+1<=2;omega,trivial⟩,by show 2-(j+1)<2-j;omega,⟨rfl,congrArg (fun q=>some (HVal.bool q)) (by rw [<-st1];cases inC l x k j<;>rfl),trivial⟩,uK,zm (by dsimp only;rw [<-st2];rfl)⟩
           ·refine gz2 ?_;refine zp ?_;refine gz7 ?_;have e2:j=2:=by (have q:[x.Home,x.Away].length=2:=rfl;omega)
            subst e2;obtain ⟨t1,t2⟩:=zxk hx;exact ⟨k+1,⟨by omega,by rw [hg,zbi hg0]⟩,uD,⟨rfl,congrArg (fun q=>some (HVal.bool q)) t1,trivial⟩,uK,zm (by dsimp only;rw [t2])⟩
    ·have hnk:l.length<=k:=by omega
     obtain rfl:k=l.length:=by omega
     rw [zz (Ae _)] at hg;refine gz2 ?_;refine zp ?_;refine gz6 ?_;refine uCo (fun h19=> ?_) fun h20=> ?_
     ·refine gz4 ?_;refine zag Ghost.clear rfl ⟨?_,rfl⟩
      show HVal.int .i64 _=_
      try rw [hE]
      (rw [zsp ?_ hg,if_pos (by assumption)]
       omega)
     ·refine gz6 ?_;refine zag Ghost.clear rfl ⟨?_,rfl⟩
      show HVal.int .i64 _=_
      try rw [hE]
      (rw [zsp ?_ hg,if_neg (by simp_all)]
       omega)
theorem zk6 [Tracks] {l:List Int} (hl:l.length<=1000000):ConP prog 53 [.slice 1 (l.map (HVal.int .i64))] (.int .i64 (zio l)):=by
 refine uOb func53 ntmps53 ?_;refine gz9 ?_;refine uCo (fun h1=> ?_) fun h2=> ?_
 ·refine gz4 ?_;refine uRp ?_
  (rw [zio,if_pos uO];done)
 ·refine gz9 ?_;refine uV1 [2,3,10,13] (fun (k:Nat)=>[(10,.int .i64 k)]) (fun (k:Nat)=>[]) (fun (k:Nat)=>k<=l.length/\(zd5 l 0 l=zd5 l k (l.drop k))) (fun (k:Nat)=>l.length-k) (0) ?_ ?_ ?_ ?_
  ·exact ⟨Ad _,rfl⟩
  ·exact ⟨rfl,trivial⟩
  ·exact Ab _
  ·intro k hinv
   obtain ⟨hk,hg⟩:=hinv;refine gz4 ?_;refine uCo (fun h3=> ?_) fun h4=> ?_
   ·obtain ⟨x,hx⟩: ∃x,l[k]? =some x:=⟨_,Aa h3⟩
    have hdx:=zi hx;rw [hdx] at hg;refine gz6 ?_;refine dq (zl zac ty3 rfl rfl rfl (by assumption)) ?_;refine gz7 ?_;refine dq (uCl zc7 rfl zba) ?_;refine gz1 ?_;refine uCo (fun h5=> ?_) fun h6=> ?_
    ·refine gz4 ?_;refine uRp ?_
     (refine congrArg _ (zmW (e:=4) ?_ hg ?_)
      ·omega
      ·rw [zd5]
       simp_all
       done)
    ·refine gz5 ?_;refine dq (zbq zac ty3 rfl rfl ⟨_,_,rfl,rfl⟩ uO uO) ?_;refine gz1 ?_;refine dq (uCl zvP rfl (zfk (l:=l.take k) (z:=x) (by rw [Ag];omega))) ?_;refine gz1 ?_;refine uCo (fun h7=> ?_) fun h8=> ?_
     ·refine gz4 ?_;refine uRp ?_
      (refine congrArg _ (zmW (e:=6) ?_ hg ?_)
       ·omega
       ·rw [zd5]
        simp_all
        done)
     ·refine gz7 ?_;refine ⟨k+1,?_,?_,⟨rfl,trivial⟩,uK,Ab _⟩
      ·refine ⟨by omega,?_⟩
       rw [hg,zd5,if_neg (by simp_all),if_neg (by simp_all)]
      ·dsimp only;omega
   ·have hnk:l.length<=k:=by omega
    obtain rfl:k=l.length:=by omega
    rw [zz (Ae _)] at hg;refine gz2 ?_;refine zp ?_;refine gz6 ?_;refine uRp ?_
    (refine congrArg _ (zsl ?_ hg)
     omega)
theorem zfA [Tracks] {l:List GameS} {fid:FuncId} {caps:List HVal} {p:GameS->Bool} (hca:Callable prog fid) (hp: ∀x,ConP prog fid ([zaO x]++caps) (.bool (p x))) (hl:l.length<=1000000):ConP prog 127 [.slice 8 (l.map zaO),.fn (.func fid) [] caps] (.int .i64 (zap p l 0)):=by
 refine uOb func127 ntmps127 ?_;refine zaD ?_;refine uV1 [4,2,8,11] (fun (k:Nat)=>[(8,.int .i64 k)]) (fun (k:Nat)=>[]) (fun (k:Nat)=>k<=l.length/\(zap p l 0=zap p (l.drop k) k)) (fun (k:Nat)=>l.length-k) (0) ?_ ?_ ?_ ?_;exact ⟨Ad _,rfl⟩;exact ⟨rfl,trivial⟩;exact Ab _
 intro k hinv
 obtain ⟨hk,hg⟩:=hinv;refine gz4 ?_;refine uCo (fun h1=> ?_) fun h2=> ?_
 obtain ⟨x,hx⟩: ∃x,l[k]? =some x:=⟨_,Aa h1⟩
 have hdx:=zi hx;rw [hdx] at hg;refine zcc ?_;refine dq (zl zco zb7 rfl rfl rfl (by assumption)) ?_;refine gz1 ?_;refine dq (z7 hca rfl rfl (WeakL.refl _) (hp _)) ?_;refine gz1 ?_;refine uCo (fun h3=> ?_) fun h4=> ?_
 refine gz5 ?_;refine uRp ?_
 (rw [hg];simp_all [zap])
 refine gz7 ?_;refine ⟨k+1,?_,?_,⟨rfl,trivial⟩,uK,Ab _⟩
 refine ⟨by omega,?_⟩
 rw [hg,zap,if_neg (by simp_all)];rfl
 dsimp only;omega
 have hnk:l.length<=k:=by omega
 obtain rfl:k=l.length:=by omega
 rw [zz (Ae _)] at hg;refine gz2 ?_;refine zp ?_;refine gz6 ?_;refine uRp ?_
 (rw [hg];rfl)
theorem zbH [Tracks] {l:List GameS} {fid:FuncId} {caps:List HVal} {p:GameS->Bool} (hca:Callable prog fid) (hp: ∀x,ConP prog fid ([zaO x]++caps) (.bool (p x))) (hl:l.length<=1000000):ConP prog 41 [.slice 8 (l.map zaO),.fn (.func fid) [] caps] (.bool (l.any p)):=by
 refine uOb func41 ntmps41 ?_;refine gz6 ?_;refine dq (uCl zxW rfl (zfA hca hp hl)) ?_;refine gz4 ?_;refine zx rfl ?_
 congr 1;exact zcu p l 0 uO
theorem zkh [Tracks] {x:GameS}:ConP prog 52 [zaO x] (.bool x.Played):=by
 refine uOb func52 ntmps52 ?_;refine zaD ?_;refine zx rfl ?_
 rfl
theorem zeM [Tracks] {g:LeagueS} (hT:Tracks.on=false) (hb:LeaB g):ConP prog 7 [zaE g] (.int .i64 (zbe g)):=by
 have hst:=hb.sta;refine uOb func7 ntmps7 ?_;refine gz5 ?_;refine zw (fun _=>True) [] mixed ?_;refine gz4 ?_;refine uB 4 rfl (uCl ca46 rfl (zk8 (L:=g.Players) (l:=g.Stints) hT hb.pl hb.nm hb.po hb.st)) ?_;refine gz2 ?_;refine uB 7 rfl (uCl ca47 rfl (zkk (l:=g.Fixtures) hb.fx)) ?_;refine gz2 ?_;refine uB 10 rfl (uCl ca48 rfl (zml (l:=g.Rules) hb.ru hb.rw')) ?_;refine gz2 ?_;refine uB 13 rfl (uCl ca49 rfl (zmm (l:=g.Slots) hb.sl hb.sp)) ?_;refine gz1 ?_;refine uB 15 rfl (zae (h':=zgp g.Bounds) (zaB zgj rfl rfl (Ah rfl)) rfl) ?_;refine uB 16 rfl (uCl ca50 rfl (zk9 (b:=g.Bounds))) ?_;refine gz4 ?_;refine uB 21 rfl (uCl ca51 rfl (zmi (T:=g.Teams) (l:=g.Games) hb.tm hb.ga hb.gb)) ?_;refine uB 22 rfl (zb (hs:=[_,_,_,_,_,_]) zdr zds rfl rfl (by decide) (by decide) rfl) ?_;refine uB 23 rfl (uCl zlj rfl (zcw (l:=[_,_,_,_,_,_]) (by simp))) ?_;refine gz6 ?_;refine uCo (fun h1=> ?_) fun h2=> ?_
 refine gz5 ?_;refine uRp ?_;unfold zbe zis zkv zdA
 (rw [if_pos (by assumption)])
 refine gz6 ?_;refine dq (uCl zuP rfl (zbH (l:=g.Games) (p:=fun x=>x.Played) ca52 (fun _=>zkh) hb.ga)) ?_;refine gz1 ?_;refine uCo (fun h3=> ?_) fun h4=> ?_
 refine gz4 ?_;refine uRp ?_;unfold zbe zis zkv zdA
 (rw [if_neg (fun q=>q h2),if_pos (by simp_all)])
 refine gz3 ?_;refine zw (fun _=>True) [] mixed ?_;refine gz2 ?_;refine uB 2 rfl (uCl ca53 rfl (zk6 (l:=g.Breaks) hb.br)) ?_;refine gz2 ?_;refine uB 5 rfl (uCl ca54 rfl (zm9 (l:=g.Trust) hb.tr)) ?_;refine uB 6 rfl (zb (hs:=[_,_]) zdr zds rfl rfl (by decide) (by decide) rfl) ?_;refine uB 7 rfl (uCl zlj rfl (zcw (l:=[_,_]) (by simp))) ?_;refine gz6 ?_;refine uCo (fun h5=> ?_) fun h6=> ?_
 refine gz5 ?_;refine uRp ?_;unfold zbe zis zkv zdA
 (rw [if_neg (fun q=>q h2),if_neg (by simp_all),if_pos (by assumption)])
 refine gz6 ?_;refine dq (uCl znI rfl zdc) ?_;refine gz8 ?_;refine uCo (fun h7=> ?_) fun h8=> ?_
 refine gz4 ?_;refine uRp ?_;unfold zbe zis zkv zdA
 (rw [if_neg (fun q=>q h2),if_neg (by simp_all),if_neg (fun q=>q h6),if_pos (by simp_all)])
 refine gz6 ?_;refine uRp ?_;unfold zbe zis zkv zdA
 (rw [if_neg (fun q=>q h2),if_neg (by simp_all),if_neg (fun q=>q h6),if_neg (by simp_all)])
theorem zem [Tracks] {a b:ChoiceS}:ConP prog 147 [zk a,zk b] (.int .i64 (zaQ a b)):=by
 refine uOb func147 ntmps147 ?_;refine gz5 ?_;refine zw (fun _=>True) [] mixed ?_;refine gz4 ?_;refine uB 4 rfl (uCl zcM rfl z6) ?_;refine gz4 ?_;refine uB 9 rfl (uCl zcN rfl zZ) ?_;refine gz4 ?_;refine uB 14 rfl (uCl zcN rfl zZ) ?_;refine uB 15 rfl (zb (hs:=[_,_,_]) zac ty3 rfl rfl (by decide) (by decide) rfl) ?_;refine uB 16 rfl (uCl zf0 rfl (zbw (l:=[_,_,_]) (by simp))) ?_;refine gz3 ?_;refine zx rfl ?_
 rfl
theorem zkD [Tracks] {b:BookS} {l:List ChoiceS} (hb:BookB b) (hl:l.length<=1000000) (hc: ∀x∈l,x.Players.length<=1000000):ConP prog 60 [.vptr (zsS b) 0,zdM l] (.int .i64 (zrm b.League.Teams b.League.Slots.length l)):=by
 have hsl:=hb.lea.sl;have htm:=hb.lea.tm;refine uOb func60 ntmps60 ?_;refine gz9 ?_;refine uCo (fun h1=> ?_) fun h2=> ?_
 refine gz4 ?_;refine uRp ?_
 (refine congrArg _ (zcF ?_)
  omega)
 refine gz9 ?_;refine uV1 [4,3,8,1,14,68] (fun (k:Nat)=>[(14,.int .i64 k)]) (fun (k:Nat)=>[]) (fun (k:Nat)=>k<=l.length/\(zbc (zb0 b.League.Teams b.League.Slots.length) zf1 l 0 l=zbc (zb0 b.League.Teams b.League.Slots.length) zf1 l k (l.drop k))) (fun (k:Nat)=>l.length-k) (0) ?_ ?_ ?_ ?_;exact ⟨Ad _,rfl⟩;exact ⟨rfl,trivial⟩;exact Ab _
 intro k hinv
 obtain ⟨hk,hg⟩:=hinv;refine gz4 ?_;refine uCo (fun h3=> ?_) fun h4=> ?_
 obtain ⟨x,hx⟩: ∃x,l[k]? =some x:=⟨_,Aa h3⟩
 have hdx:=zi hx;rw [hdx] at hg;refine gz6 ?_;refine dq (zl zaa zR rfl rfl rfl (by assumption)) ?_;refine gz1 ?_;refine de rfl (zq zR rfl fun b6=> ?_)
 refine gz1 ?_;refine de0 (zJ zR rfl rfl rfl rfl rfl ?_)
 refine gz1 ?_;refine zf (zA 6 rfl) ?_;refine gz2 ?_;refine zw (fun _=>True) [] mixed ?_;refine gz6 ?_;refine uB 6 rfl (uCl zjR rfl (zaH (l:=b.League.Teams) (s:=x.Team) uO)) ?_;refine gz3 ?_;refine uCo (fun h5=> ?_) fun h6=> ?_
 refine gz4 ?_;refine uRp ?_
 (refine congrArg _ (zQ (e:=8) ?_ hg ?_ ?_)
  omega
  unfold zb0;exact uT
  first|decide|assumption)
 refine gz3 ?_;refine dq (uCl zmX rfl ze8) ?_;refine gz4 ?_;refine dg rfl rfl (fun hc=>⟨_,OpenTo.upd (t:=35) rfl (hc) (OpenTo.refl _),uCl znI rfl zdc⟩) ?_;refine gz4 ?_;refine uCo (fun h7=> ?_) fun h8=> ?_
 refine gz4 ?_;refine uRp ?_
 (refine congrArg _ (zQ (e:=1) ?_ hg ?_ ?_)
  omega
  unfold zb0;exact uT
  first|decide|assumption)
 refine zw (fun _=>True) [] mixed ?_;refine gz2 ?_;refine uB 2 rfl (zaq (f:=HVal.str) (l:=x.Players) zH rfl) ?_;refine gz4 ?_;refine uB 7 rfl (zaq (f:=za4) (l:=b.League.Slots) zcn rfl) ?_;refine gz3 ?_;refine uCo (fun h9=> ?_) fun h10=> ?_
 refine gz4 ?_;refine uRp ?_
 (refine congrArg _ (zQ (e:=3) ?_ hg ?_ ?_)
  omega
  unfold zb0;exact uT
  first|decide|assumption)
 refine gz4 ?_;have hcx:=hc x (Ac hx);refine zw (fun _=>True) [] mixed ?_;refine gz2 ?_;refine uA 3 ?_;refine gz1 ?_;refine uB 5 rfl (zb (hs:=[_]) zH ty9 rfl rfl (by decide) (by decide) rfl) ?_;refine uA 8 ?_;refine uF 2 ?_;refine zy rfl (zaA zli rfl (WeakL.refl _) (zaG (l:=x.Players) hcx) fun v51=> ?_)
 refine ⟨fun _=> .inl trivial,?_⟩
 refine uF 6 ?_;refine zy rfl (zmU (N:=[]) (sz:=1) (es:=(x.Players++[x.Captain]).map .str) 0 (zC (i:=0) (v:=v51) (es:=x.Players.map .str) (ys:=[.str x.Captain]) zH ty9 rfl rfl rfl rfl rfl (by simp [zal,zd]) (by simp;omega) fun v55=>⟨v55,rfl,by rw [Ap];rfl,rfl⟩) ?_)
 refine ⟨fun _=> .inl trivial,?_⟩
 refine uB 7 rfl (zaq (f:=HVal.str) (l:=x.Players++[x.Captain]) zH rfl) ?_;refine uAz ?_;refine gz1 ?_;refine uV1 [4,1,8,1,57,12] (fun (j:Nat)=>[(57,.int .i64 j)]) (fun (j:Nat)=>[]) (fun (j:Nat)=>j<=(x.Players++[x.Captain]).length/\(∀s∈(x.Players++[x.Captain]).take j,zb2 s=true)) (fun (j:Nat)=>(x.Players++[x.Captain]).length-j) (0) ?_ ?_ ?_ ?_;exact ⟨Ad _,by simp⟩;exact ⟨rfl,trivial⟩;exact Ab _
 intro j hinv
 obtain ⟨hj,hnm⟩:=hinv;have hlen:(x.Players++[x.Captain]).length=x.Players.length+1:=by simp
 refine gz4 ?_;refine uCo (fun h11=> ?_) fun h12=> ?_
 obtain ⟨s,hs⟩: ∃s,(x.Players++[x.Captain])[j]? =some s:=⟨_,Aa (by rw [Af];simp;omega)⟩
 have hds:=zi hs;refine gz5 ?_;refine dq (zl zH ty9 rfl rfl rfl (by assumption)) ?_;refine gz8 ?_;refine dg rfl rfl (fun hc=>⟨_,OpenTo.upd (t:=64) rfl (hc) (OpenTo.refl _),uCl zc6 rfl za9⟩) ?_;refine gz3 ?_;refine uCo (fun h13=> ?_) fun h14=> ?_
 refine gz4 ?_;refine uRp ?_
 (obtain ⟨q1,q2⟩: ¬s=[]/\key s=false:=by first|assumption|simp_all
  have g1:zb0 b.League.Teams b.League.Slots.length k x (l.getD (k-1) zf1)=5:=by
   unfold zb0;rw [if_neg (by simp_all),if_neg (by simp_all),if_neg (fun q=>q uO),if_pos (zuo (Ac hs) (zwW q1 q2))]
  exact congrArg _ (zQ (e:=5) uO hg g1 (by decide)))
 refine gz7 ?_;refine ⟨j+1,?_,?_,⟨rfl,trivial⟩,uK,Ab _⟩
 refine ⟨by omega,fun s' hs'=> ?_⟩
 rw [zV hs] at hs'
 rcases List.mem_append.1 hs' with q|q
 exact hnm s' q;rw [List.mem_singleton.1 q];exact zwX (by intro q2;simp_all)
 dsimp only;omega
 have hnj:(x.Players++[x.Captain]).length<=j:=by omega
 obtain rfl:j=(x.Players++[x.Captain]).length:=by omega
 rw [Al] at hnm;refine gz2 ?_;refine zp ?_;refine gz2 ?_;have hall:((x.Players++[x.Captain]).all zb2)=true:=by
  rw [List.all_eq_true]
  intro s hs
  exact hnm s hs
 refine zw (fun _=>True) [] mixed ?_;refine gz7 ?_;refine ahg 7 rfl rfl (by kernel_rfl) (by kernel_rfl) rfl (fun hc=>by have hq:=hc;(try simp at hq);exact ⟨_,OpenTo.upd (t:=75) rfl (hc) (OpenTo.upd (t:=73) rfl (hc) (OpenTo.refl _)),zl (j:=k-1) (a:=l.getD (k-1) zf1) zaa zR rfl rfl uO (getD_some uO)⟩) ?_;refine gz1 ?_;refine ahg 9 rfl rfl (by kernel_rfl) (by kernel_rfl) rfl (fun hc=>⟨_,OpenTo.upd (t:=77) rfl (hc) (OpenTo.upd (t:=72) rfl (hc) (OpenTo.refl _)),uCl zqJ rfl zem⟩) ?_;refine gz3 ?_;refine uCo (fun h15=> ?_) fun h16=> ?_
 refine gz4 ?_;refine uRp ?_
 (refine congrArg _ (zQ (e:=7) ?_ hg ?_ ?_)
  omega
  unfold zb0;exact uT
  first|decide|assumption)
 refine gz7 ?_;refine ⟨k+1,?_,?_,⟨rfl,trivial⟩,uK,Ab _⟩
 refine ⟨by omega,?_⟩
 rw [hg,zbi (by unfold zb0;(try clear hdx hg);(try simp only [Ai]);focus first|(simp_all;done)|((repeat' split)<;>focus first|rfl|(exfalso;omega)|(simp_all;done)|(exfalso;rcases ‹_\/_› with q|q<;>simp_all;done)|(exfalso;simp_all;omega)))]
 dsimp only;omega
 have hnk:l.length<=k:=by omega
 obtain rfl:k=l.length:=by omega
 rw [zz (Ae _)] at hg;refine gz2 ?_;refine zp ?_;refine gz6 ?_;refine uRp ?_
 (refine congrArg _ (zcq ?_ hg)
  omega)
theorem zfw [Tracks] {b:BookS} (hT:Tracks.on=false) (hb:BookB b) (hw: ∀x∈b.Health,-1000000000000000<=x.To/\x.To<=1000000000000000):ConP prog 8 [zan b] (.int .i64 (zbS b)):=by
 refine uOb func8 ntmps8 ?_;refine gz7 ?_;refine dq (zae (h':=zaE b.League) (zaB zax rfl rfl (Ah rfl)) rfl) ?_;refine dq (uCl ca7 rfl (zeM (g:=b.League) hT hb.lea)) ?_;refine gz6 ?_;refine uCo (fun h1=> ?_) fun h2=> ?_
 refine gz5 ?_;refine uRp ?_;unfold zbS
 (rw [if_pos (by assumption)])
 refine gz2 ?_;refine zw (fun _=>True) [] mixed ?_;refine gz2 ?_;refine uB 2 rfl (uCl zuQ rfl (zfe (l:=b.Moves) hb.mv)) ?_;refine gz2 ?_;refine uB 5 rfl (uCl ztd rfl (zen (l:=b.Plays) hb.pl)) ?_;refine gz2 ?_;refine uB 8 rfl (uCl zuR rfl (zgc (m:=b.Mends) hb.me)) ?_;refine gz5 ?_;refine uB 14 rfl (uCl ca59 rfl (zhb (L:=b.League.Players) (l:=b.Health) hT hb.lea.pl hb.lea.nm hb.lea.po hb.he hw)) ?_;refine gz3 ?_;refine uB 18 rfl (uCl ca60 rfl (zkD (b:=b) (l:=b.Choices) hb hb.ch hb.cp)) ?_;refine uB 19 rfl (zb (hs:=[_,_,_,_,_]) zdr zds rfl rfl (by decide) (by decide) rfl) ?_;refine uB 20 rfl (uCl zlj rfl (zcw (l:=[_,_,_,_,_]) (by simp))) ?_;refine gz3 ?_;refine uRp ?_;unfold zbS
 (rw [if_neg (fun q=>q h2),<-zxj (fun q=>q h2)])
end
section
open Go.Proofs.Tryz
open Go.HL
theorem zbg [Tracks] {n lo hi:Int}:ConP prog 114 [.int .i64 n,.int .i64 lo,.int .i64 hi] (.bool (!(out n lo hi))):=by
 refine uOb func114 ntmps114 ?_;refine zlq ?_;refine zx rfl ?_
 show HVal.bool _=_
 congr 1;simp [out];rw [AS];simp;try omega
theorem zgC [Tracks] {n:Int}:ConP prog 106 [.int .i64 n] (.int .i64 (zlC n)):=by
 refine uOb func106 ntmps106 ?_;refine zaD ?_;refine uCo (fun h1=> ?_) fun h2=> ?_
 refine gz4 ?_;refine uRp ?_;unfold zlC
 (rw [if_pos uO])
 refine gz5 ?_;refine uCo (fun h3=> ?_) fun h4=> ?_
 refine gz4 ?_;refine uRp ?_;unfold zlC
 (rw [if_neg uO,if_pos uO])
 refine gz7 ?_;refine uRp ?_;unfold zlC
 (rw [if_neg uO,if_neg uO])
theorem zjj [Tracks] {s l:Str} (hs:s.length<=1000000):ConP prog 220 [.str s,.str l] (.bool (zhl s l)):=by
 refine uOb func220 ntmps220 ?_;refine gz6 ?_;refine dq (zby ty9 rfl) ?_;refine gz3 ?_;refine uV1 [4,2,8,10] (fun (k:Nat)=>[(8,.int .i64 (k:Int))]) (fun (k:Nat)=>[]) (fun (k:Nat)=>k<=s.length/\zhl s l=zhl (s.drop k) l) (fun (k:Nat)=>s.length-k) (0) ?_ ?_ ?_ ?_;exact ⟨Ad _,rfl⟩;exact ⟨rfl,trivial⟩;exact Ab _
 intro k hinv
 obtain ⟨hk,hg⟩:=hinv;refine gz4 ?_;refine uCo (fun h1=> ?_) fun h2=> ?_
 obtain ⟨x,hx⟩: ∃x,s[k]? =some x:=⟨_,Aa uO⟩
 have hd:=zi hx;rw [hd] at hg;refine zcc ?_;refine dq (zbh (j:=k) (b:=x) ty9 rfl rfl rfl hx) ?_;refine dq (uCl zwe rfl (zhB (s:=l) (c:=x.toNat))) ?_;refine gz2 ?_;refine uCo (fun h3=> ?_) fun h4=> ?_
 refine gz4 ?_;refine zx rfl ?_
 show HVal.bool _=_
 rw [hg]
 (rw [zxv (by assumption)])
 refine gz7 ?_;refine ⟨k+1,?_,?_,⟨rfl,trivial⟩,uK,Ab _⟩
 refine ⟨by omega,?_⟩
 rw [hg,zxw (by assumption)]
 dsimp only;omega
 rw [zz uO] at hg;refine gz2 ?_;refine zp ?_;refine gz6 ?_;refine zx rfl ?_
 show HVal.bool _=_
 rw [hg]
 rfl
theorem zbn [Tracks] {s:Str}:ConP prog 112 [.str s] (.bool (key s)):=by
 refine uOb func112 ntmps112 ?_;refine gz5 ?_;refine dq (zby ty9 rfl) ?_;refine dq (uCl zfZ rfl zbg) ?_;refine gz2 ?_;refine dg rfl rfl (fun hc=>by
  have hb:=zhX (n:=(s.length:Int)) (lo:=1) (hi:=40) (by simpa using hc);exact ⟨_,OpenTo.upd (t:=7) rfl (hc) (OpenTo.refl _),zho (l:=0) (h:=1) ty9 rfl rfl ⟨_,_,rfl,by omega⟩ uO uO⟩) ?_
 refine dg rfl rfl (fun hc=>by have hq:=hc;(try simp at hq);exact ⟨_,OpenTo.upd (t:=8) rfl (hc) (OpenTo.refl _),uCl zwa rfl (zjj (s:=s.take 1) (l:=zi1) (by rw [Ag];omega))⟩) ?_;refine gz3 ?_;refine dg rfl rfl (fun hc=>by
  have hb:=zhX (n:=(s.length:Int)) (lo:=1) (hi:=40) (by (have q:=hc;simp at q;exact q.1));exact ⟨_,OpenTo.upd (t:=12) rfl (hc) (OpenTo.refl _),uCl zwa rfl (zjj (s:=s) (l:=zgv) uO)⟩) ?_
 refine gz4 ?_;refine zx rfl ?_
 show HVal.bool _=_
 rw [zve]
 simp
theorem zia [Tracks] {n:Int}:ConP prog 118 [.int .i64 n] (.bool (zau n)):=by
 refine uOb func118 ntmps118 ?_;refine gz5 ?_;refine dq (uCl zfZ rfl zbg) ?_;refine gz3 ?_;refine zx rfl ?_
 show HVal.bool _=_
 rfl
theorem zgB [Tracks] {n:Int}:ConP prog 117 [.int .i64 n] (.bool (zef n)):=by
 refine uOb func117 ntmps117 ?_;refine gz5 ?_;refine dq (uCl zfZ rfl zbg) ?_;refine gz3 ?_;refine zx rfl ?_
 show HVal.bool _=_
 rfl
theorem zib [Tracks] {l:List Str} (hl:l.length<=1000000):ConP prog 123 [eSs l] (.int .i64 (zhO l)):=by
 refine uOb func123 ntmps123 ?_;refine zaD ?_;refine uV1 [2,3,7,20] (fun (k:Nat)=>[(7,.int .i64 k)]) (fun (k:Nat)=>[]) (fun (k:Nat)=>k<=l.length/\(zhO l=zdh l k (l.drop k))) (fun (k:Nat)=>l.length-k) (0) ?_ ?_ ?_ ?_;exact ⟨Ad _,rfl⟩;exact ⟨rfl,trivial⟩;exact Ab _
 intro k hinv
 obtain ⟨hk,hg⟩:=hinv;refine gz4 ?_;refine uCo (fun h1=> ?_) fun h2=> ?_
 obtain ⟨x,hx⟩: ∃x,l[k]? =some x:=⟨_,Aa h1⟩
 have hdx:=zi hx;rw [hdx] at hg;refine gz6 ?_;refine dq (zl zH ty9 rfl rfl rfl (by assumption)) ?_;refine gz7 ?_;refine dq (uCl zhf rfl zbn) ?_;refine gz2 ?_;refine uCo (fun h3=> ?_) fun h4=> ?_
 refine gz4 ?_;refine uRp ?_;rw [hg];simp_all [zdh,leS];refine zaD ?_;refine dg rfl rfl (fun hc=>by have hq:=hc;(try simp at hq);exact ⟨_,OpenTo.upd (t:=21) rfl (hc) (OpenTo.upd (t:=19) rfl (hc) (OpenTo.refl _)),zl (j:=k-1) (a:=l.getD (k-1) []) zH ty9 rfl rfl uO (getD_some uO)⟩) ?_;refine gz4 ?_;refine uCo (fun h5=> ?_) fun h6=> ?_
 refine gz4 ?_;refine uRp ?_;rw [hg];simp_all [zdh,leS];refine gz7 ?_;refine ⟨k+1,?_,?_,⟨rfl,trivial⟩,uK,Ab _⟩
 refine ⟨by omega,?_⟩
 rw [hg];simp_all [zdh,leS]
 dsimp only;omega
 have hnk:l.length<=k:=by omega
 obtain rfl:k=l.length:=by omega
 rw [zz (Ae _)] at hg;refine gz2 ?_;refine zp ?_;refine gz6 ?_;refine uRp ?_;rw [hg];simp_all [zdh,leS]
theorem zg1 [Tracks] {l:List Str} (hl:l.length<=1000000):ConP prog 115 [eSs l,.bool true] (.int .i64 (zhN l)):=by
 refine uOb func115 ntmps115 ?_;refine zrx ?_;refine uCo (fun h1=> ?_) fun h2=> ?_
 refine gz4 ?_;refine uRp ?_;rw [zpF]
 (rw [if_pos (by simp_all)])
 refine gz6 ?_;refine uCo (fun h3=> ?_) fun h4=> ?_
 refine gz4 ?_;refine uRp ?_;rw [zpF]
 (rw [if_neg uO,if_pos uO])
 refine gz5 ?_;refine dq (uCl zvO rfl (zib (by assumption))) ?_;refine gz3 ?_;refine uRp ?_;rw [zpF]
 (rw [if_neg (by simp_all),if_neg uO])
theorem zjh [Tracks] {l:List PlayerS} (hT:Tracks.on=false) (hl:l.length<=1000000) (hn: ∀p∈l,p.Name∈zcP) (hp: ∀p∈l,p.Positions.length<=1000000):ConP prog 33 [zbd l] (.int .i64 (zc4 l)):=by
 refine uOb func33 ntmps33 ?_;refine gz9 ?_;refine uCo (fun h1=> ?_) fun h2=> ?_
 refine gz4 ?_;refine uRp ?_
 (refine congrArg _ (zcF ?_)
  omega)
 refine zcc ?_;refine uV1 [2,2,5,2,12,35] (fun (k:Nat)=>[(12,.int .i64 k),(3,.str (zmZ PlayerS.Key zd0 l k))]) (fun (k:Nat)=>[]) (fun (k:Nat)=>k<=l.length/\(zbc zc9 zd0 l 0 l=zbc zc9 zd0 l k (l.drop k))) (fun (k:Nat)=>l.length-k) (0) ?_ ?_ ?_ ?_;exact ⟨Ad _,rfl⟩;exact ⟨rfl,rfl,trivial⟩;exact Ab _
 intro k hinv
 obtain ⟨hk,hg⟩:=hinv;refine gz4 ?_;refine uCo (fun h3=> ?_) fun h4=> ?_
 obtain ⟨x,hx⟩: ∃x,l[k]? =some x:=⟨_,Aa h3⟩
 have hdx:=zi hx;rw [hdx] at hg;refine gz5 ?_;refine dq (zl zdi zcg rfl rfl rfl (by assumption)) ?_;refine gz1 ?_;refine de rfl (zq zcg rfl fun b5=> ?_)
 refine de0 (zJ zcg rfl rfl rfl rfl rfl ?_)
 refine gz1 ?_;refine zf (zA 5 rfl) ?_;refine gz5 ?_;refine dq (uCl zhf rfl zbn) ?_;refine gz3 ?_;refine uCo (fun h5=> ?_) fun h6=> ?_
 refine gz4 ?_;refine uRp ?_
 (refine congrArg _ (zQ (e:=5) ?_ hg ?_ ?_)
  omega
  unfold zc9;exact uT
  first|decide|assumption)
 have hkx:key x.Key=true:=by first|assumption|simp_all
 have hll:=zsx (f:=PlayerS.Key) (d:=zd0) (l:=l) (k:=k) (x:=x) hkx;refine gz7 ?_;refine uCo (fun h7=> ?_) fun h8=> ?_
 refine gz4 ?_;refine uRp ?_
 (refine congrArg _ (zQ (e:=7) ?_ hg ?_ ?_)
  omega
  unfold zc9;exact uT
  first|decide|assumption)
 have hn6:=zmJ (hn x (Ac hx));refine gz3 ?_;refine dq (uCl zxS rfl (zm4 hT (hn x (Ac hx)))) ?_;refine gz4 ?_;refine dg rfl rfl (fun hc=>⟨_,OpenTo.upd (t:=33) rfl (hc) (OpenTo.refl _),zby ty9 rfl⟩) ?_;refine dg rfl rfl (fun hc=>⟨_,OpenTo.upd (t:=34) rfl (hc) (OpenTo.refl _),uCl zfZ rfl zbg⟩) ?_;refine gz4 ?_;refine zaf rfl (fun h9=> ?_) (fun h9=> ?_)
 exfalso
 try simp at h9
 simp_all
 try simp at h9
 refine gz7 ?_;refine dq (uCl zvK rfl (zg1 (hp x (Ac hx)))) ?_;refine gz6 ?_;refine uCo (fun h10=> ?_) fun h11=> ?_
 refine gz5 ?_;refine uRp ?_
 (refine congrArg _ (zQ (e:=(zhN x.Positions)) ?_ hg ?_ ?_)
  omega
  unfold zc9;exact uT
  first|decide|assumption)
 refine zfL ?_;exact ⟨k+1,⟨by omega,by rw [hg,zbi (by unfold zc9;(try clear hdx hg);(try simp only [Ai]);focus first|(simp_all;done)|((repeat' split)<;>focus first|rfl|(exfalso;omega)|(simp_all;done)|(exfalso;rcases ‹_\/_› with q|q<;>simp_all;done)|(exfalso;simp_all;omega)))]⟩,uD,⟨rfl,congrArg (fun q=>some (HVal.str q)) (zqf hx).symm,trivial⟩,uK,Ab _⟩;have hnk:l.length<=k:=by omega
 obtain rfl:k=l.length:=by omega
 rw [zz (Ae _)] at hg;refine gz2 ?_;refine zp ?_;refine gz6 ?_;refine uRp ?_
 (refine congrArg _ (zcq ?_ hg)
  omega)
theorem zkc [Tracks] {x:PlayerS} {s:Str}:ConP prog 226 [zbs x,.vptr [.str s] 0] (.bool (x.Key==s)):=by
 refine uOb func226 ntmps226 ?_;refine zcc ?_;refine zx rfl ?_
 rfl
theorem zeP [Tracks] {l:List PlayerS} {fid:FuncId} {caps:List HVal} {p:PlayerS->Bool} (hca:Callable prog fid) (hp: ∀x,ConP prog fid ([zbs x]++caps) (.bool (p x))) (hl:l.length<=1000000):ConP prog 225 [.slice 3 (l.map zbs),.fn (.func fid) [] caps] (.int .i64 (zap p l 0)):=by
 refine uOb func225 ntmps225 ?_;refine zaD ?_;refine uV1 [4,2,8,11] (fun (k:Nat)=>[(8,.int .i64 k)]) (fun (k:Nat)=>[]) (fun (k:Nat)=>k<=l.length/\(zap p l 0=zap p (l.drop k) k)) (fun (k:Nat)=>l.length-k) (0) ?_ ?_ ?_ ?_;exact ⟨Ad _,rfl⟩;exact ⟨rfl,trivial⟩;exact Ab _
 intro k hinv
 obtain ⟨hk,hg⟩:=hinv;refine gz4 ?_;refine uCo (fun h1=> ?_) fun h2=> ?_
 obtain ⟨x,hx⟩: ∃x,l[k]? =some x:=⟨_,Aa h1⟩
 have hdx:=zi hx;rw [hdx] at hg;refine zcc ?_;refine dq (zl zdi zcg rfl rfl rfl (by assumption)) ?_;refine gz1 ?_;refine dq (z7 hca rfl rfl (WeakL.refl _) (hp _)) ?_;refine gz1 ?_;refine uCo (fun h3=> ?_) fun h4=> ?_
 refine gz5 ?_;refine uRp ?_
 (rw [hg];simp_all [zap])
 refine gz7 ?_;refine ⟨k+1,?_,?_,⟨rfl,trivial⟩,uK,Ab _⟩
 refine ⟨by omega,?_⟩
 rw [hg,zap,if_neg (by simp_all)];rfl
 dsimp only;omega
 have hnk:l.length<=k:=by omega
 obtain rfl:k=l.length:=by omega
 rw [zz (Ae _)] at hg;refine gz2 ?_;refine zp ?_;refine gz6 ?_;refine uRp ?_
 (rw [hg];rfl)
theorem zdn [Tracks] {l:List PlayerS} {s:Str} (hl:l.length<=1000000):ConP prog 116 [zbd l,.str s] (.int .i64 (zap (fun x:PlayerS=>x.Key==s) l 0)):=by
 refine uOb func116 ntmps116 ?_;refine gz7 ?_;refine dq (uCl zyN rfl (zeP (l:=l) (p:=fun x=>x.Key==s) zyO (fun _=>zkc) hl)) ?_;refine gz3 ?_;refine zx rfl ?_
 rfl
theorem zjI [Tracks] {L:List PlayerS} {l:List StintS} (hL:L.length<=1000000) (hl:l.length<=1000000):ConP prog 34 [zbd L,zbZ l] (.int .i64 (zix L l)):=by
 refine uOb func34 ntmps34 ?_;refine gz9 ?_;refine uCo (fun h1=> ?_) fun h2=> ?_
 refine gz4 ?_;refine uRp ?_
 (refine congrArg _ (zcF ?_)
  omega)
 refine gz9 ?_;refine uV1 [4,3,12,63] (fun (k:Nat)=>[(12,.int .i64 k)]) (fun (k:Nat)=>[]) (fun (k:Nat)=>k<=l.length/\(zbc (zdO L) ze5 l 0 l=zbc (zdO L) ze5 l k (l.drop k))) (fun (k:Nat)=>l.length-k) (0) ?_ ?_ ?_ ?_;exact ⟨Ad _,rfl⟩;exact ⟨rfl,trivial⟩;exact Ab _
 intro k hinv
 obtain ⟨hk,hg⟩:=hinv;refine gz4 ?_;refine uCo (fun h3=> ?_) fun h4=> ?_
 obtain ⟨x,hx⟩: ∃x,l[k]? =some x:=⟨_,Aa h3⟩
 have hdx:=zi hx;rw [hdx] at hg;refine gz6 ?_;refine dq (zl zcL zbF rfl rfl rfl (by assumption)) ?_;refine gz1 ?_;refine de rfl (zq zbF rfl fun b6=> ?_)
 refine gz1 ?_;refine de0 (zJ zbF rfl rfl rfl rfl rfl ?_)
 refine gz1 ?_;refine zf (zA 6 rfl) ?_;refine gz5 ?_;refine dq (uCl zqI rfl (zdn (l:=L) (s:=x.Player) hL)) ?_;refine gz3 ?_;refine uCo (fun h5=> ?_) fun h6=> ?_
 have hph:=zoV (L:=L) (s:=x.Player);refine gz4 ?_;refine uRp ?_
 (refine congrArg _ (zQ (e:=8) ?_ hg ?_ ?_)
  omega
  unfold zdO;exact uT
  first|decide|assumption)
 have hph:=zoV (L:=L) (s:=x.Player);have hpl:zfm L x.Player=true:=by
  cases hq:zfm L x.Player with
  |true=>rfl
  |false=>have:=hph.2 hq;omega
 refine gz7 ?_;refine dg rfl rfl (fun hc=>⟨_,OpenTo.upd (t:=29) rfl (hc) (OpenTo.refl _),uCl zhf rfl zbn⟩) ?_;refine gz4 ?_;refine uCo (fun h7=> ?_) fun h8=> ?_
 refine gz4 ?_;refine uRp ?_
 (refine congrArg _ (zQ (e:=5) ?_ hg ?_ ?_)
  omega
  unfold zdO;exact uT
  first|decide|assumption)
 refine gz3 ?_;refine dq (uCl zsV rfl zgB) ?_;refine gz3 ?_;refine uCo (fun h9=> ?_) fun h10=> ?_
 refine gz4 ?_;refine uRp ?_
 (refine congrArg _ (zQ (e:=1) ?_ hg ?_ ?_)
  omega
  unfold zdO;exact uT
  first|decide|assumption)
 have hord:=ord2 (a:=x.Player) (b:=(l.getD (k-1) ze5).Player) (m:=x.Week) (n:=(l.getD (k-1) ze5).Week);refine zw (fun _=>True) [] mixed ?_;refine gz8 ?_;refine ahg 8 rfl rfl (by kernel_rfl) (by kernel_rfl) rfl (fun hc=>by have hq:=hc;(try simp at hq);exact ⟨_,OpenTo.upd (t:=46) rfl (hc) (OpenTo.upd (t:=44) rfl (hc) (OpenTo.refl _)),zl (j:=k-1) (a:=l.getD (k-1) ze5) zcL zbF rfl rfl uO (getD_some uO)⟩) ?_;refine gz9 ?_;refine ahg 18 rfl rfl (by kernel_rfl) (by kernel_rfl) rfl (fun hc=>by have hq:=hc;(try simp at hq);exact ⟨_,OpenTo.upd (t:=56) rfl (hc) (OpenTo.upd (t:=54) rfl (hc) (OpenTo.refl _)),zl (j:=k-1) (a:=l.getD (k-1) ze5) zcL zbF rfl rfl uO (getD_some uO)⟩) ?_;refine gz9 ?_;refine ahg 28 rfl rfl (by kernel_rfl) (by kernel_rfl) rfl (fun hc=>by have hq:=hc;(try simp at hq);exact ⟨_,OpenTo.upd (t:=66) rfl (hc) (OpenTo.upd (t:=64) rfl (hc) (OpenTo.refl _)),zl (j:=k-1) (a:=l.getD (k-1) ze5) zcL zbF rfl rfl uO (getD_some uO)⟩) ?_;refine gz8 ?_;refine uCo (fun h11=> ?_) fun h12=> ?_
 refine gz4 ?_;refine uRp ?_
 (refine congrArg _ (zQ (e:=7) ?_ hg ?_ ?_)
  omega
  unfold zdO;exact uT
  first|decide|assumption)
 refine gz8 ?_;refine ⟨k+1,?_,?_,⟨rfl,trivial⟩,uK,Ab _⟩
 refine ⟨by omega,?_⟩
 rw [hg,zbi (by unfold zdO;(try clear hdx hg);(try simp only [Ai]);focus first|(simp_all;done)|((repeat' split)<;>focus first|rfl|(exfalso;omega)|(simp_all;done)|(exfalso;rcases ‹_\/_› with q|q<;>simp_all;done)|(exfalso;simp_all;omega)))]
 dsimp only;omega
 have hnk:l.length<=k:=by omega
 obtain rfl:k=l.length:=by omega
 rw [zz (Ae _)] at hg;refine gz2 ?_;refine zp ?_;refine gz6 ?_;refine uRp ?_
 (refine congrArg _ (zcq ?_ hg)
  omega)
theorem zf9 [Tracks] {L:List PlayerS} {l:List HealthS} (hL:L.length<=1000000) (hl:l.length<=1000000) (hw: ∀x∈l,-1000000000000000<=x.To/\x.To<=1000000000000000):ConP prog 64 [zbd L,za1 l] (.int .i64 (zcd L l)):=by
 refine uOb func64 ntmps64 ?_;refine gz9 ?_;refine uCo (fun h1=> ?_) fun h2=> ?_
 refine gz4 ?_;refine uRp ?_
 (refine congrArg _ (zcF ?_)
  omega)
 refine gz9 ?_;refine uV1 [4,4,13,74] (fun (k:Nat)=>[(13,.int .i64 k)]) (fun (k:Nat)=>[]) (fun (k:Nat)=>k<=l.length/\(zbc (zbt L) zfa l 0 l=zbc (zbt L) zfa l k (l.drop k))) (fun (k:Nat)=>l.length-k) (0) ?_ ?_ ?_ ?_;exact ⟨Ad _,rfl⟩;exact ⟨rfl,trivial⟩;exact Ab _
 intro k hinv
 obtain ⟨hk,hg⟩:=hinv;refine gz4 ?_;refine uCo (fun h3=> ?_) fun h4=> ?_
 obtain ⟨x,hx⟩: ∃x,l[k]? =some x:=⟨_,Aa h3⟩
 have hdx:=zi hx;rw [hdx] at hg;refine gz6 ?_;refine dq (zl zaL zU rfl rfl rfl (by assumption)) ?_;refine gz1 ?_;refine de rfl (zq zU rfl fun b6=> ?_)
 refine gz1 ?_;refine de0 (zJ zU rfl rfl rfl rfl rfl ?_)
 refine gz1 ?_;refine zf (zA 6 rfl) ?_;refine gz2 ?_;have hwx:=hw x (Ac hx);refine gz4 ?_;refine dq (uCl zqI rfl (zdn (l:=L) (s:=x.Player) hL)) ?_;refine gz3 ?_;refine uCo (fun h5=> ?_) fun h6=> ?_
 have hph:=zoV (L:=L) (s:=x.Player);refine gz4 ?_;refine uRp ?_
 (refine congrArg _ (zQ (e:=8) ?_ hg ?_ ?_)
  omega
  unfold zbt;exact uT
  first|decide|assumption)
 have hph:=zoV (L:=L) (s:=x.Player);have hpl:zfm L x.Player=true:=by
  cases hq:zfm L x.Player with
  |true=>rfl
  |false=>have:=hph.2 hq;omega
 refine gz6 ?_;refine dq (uCl zfZ rfl zbg) ?_;refine gz8 ?_;refine uCo (fun h7=> ?_) fun h8=> ?_
 have hag:=zu9 (f:=x.From) (t:=x.To) (by assumption);refine gz4 ?_;refine uRp ?_
 (refine congrArg _ (zQ (e:=1) ?_ hg ?_ ?_)
  omega
  unfold zbt;exact uT
  first|decide|assumption)
 have hag:=zu8 (f:=x.From) (t:=x.To) (by assumption);refine zbo ?_;refine uCo (fun h9=> ?_) fun h10=> ?_
 have hkd:=zxm (k:=x.Kind) (by assumption);refine gz4 ?_;refine uRp ?_
 (refine congrArg _ (zQ (e:=4) ?_ hg ?_ ?_)
  omega
  unfold zbt;exact uT
  first|decide|assumption)
 refine gz4 ?_;have hkd:=zxl (k:=x.Kind) (by assumption);refine gz4 ?_;refine uCo (fun h11=> ?_) fun h12=> ?_
 refine gz8 ?_;refine ⟨k+1,?_,?_,⟨rfl,trivial⟩,uK,Ab _⟩
 refine ⟨by omega,?_⟩
 rw [hg,zbi (by unfold zbt;(try clear hdx hg);(try simp only [Ai]);focus first|(simp_all;done)|((repeat' split)<;>focus first|rfl|(exfalso;omega)|(simp_all;done)|(exfalso;rcases ‹_\/_› with q|q<;>simp_all;done)|(exfalso;simp_all;omega)))]
 dsimp only;omega
 refine gz2 ?_;have hk0:0<k:=by omega
 refine gz4 ?_;refine dq (zl (j:=k-1) (a:=l.getD (k-1) zfa) zaL zU rfl rfl uO (getD_some uO)) ?_;refine gz1 ?_;refine de rfl (zq zU rfl fun b7=> ?_)
 refine de0 (zJ zU rfl rfl rfl rfl rfl ?_)
 refine gz1 ?_;refine zf (zA 7 rfl) ?_;refine gz1 ?_;have hord:=ord2 (a:=x.Player) (b:=(l.getD (k-1) zfa).Player) (m:=x.From) (n:=(l.getD (k-1) zfa).From);refine gz22 ?_;refine uCo (fun h13=> ?_) fun h14=> ?_
 refine gz4 ?_;refine uRp ?_
 (refine congrArg _ (zQ (e:=7) ?_ hg ?_ ?_)
  omega
  unfold zbt;exact uT
  first|decide|assumption)
 refine zlq ?_;refine uCo (fun h15=> ?_) fun h16=> ?_
 refine gz4 ?_;refine uRp ?_
 (refine congrArg _ (zQ (e:=13) ?_ hg ?_ ?_)
  omega
  unfold zbt;exact uT
  first|decide|assumption)
 refine gz8 ?_;refine ⟨k+1,?_,?_,⟨rfl,trivial⟩,uK,Ab _⟩
 refine ⟨by omega,?_⟩
 rw [hg,zbi (by unfold zbt;(try clear hdx hg);(try simp only [Ai]);focus first|(simp_all;done)|((repeat' split)<;>focus first|rfl|(exfalso;omega)|(simp_all;done)|(exfalso;rcases ‹_\/_› with q|q<;>simp_all;done)|(exfalso;simp_all;omega)))]
 dsimp only;omega
 have hnk:l.length<=k:=by omega
 obtain rfl:k=l.length:=by omega
 rw [zz (Ae _)] at hg;refine gz2 ?_;refine zp ?_;refine gz6 ?_;refine uRp ?_
 (refine congrArg _ (zcq ?_ hg)
  omega)
theorem zfy [Tracks] {a b:List Int} (ha:a.length<=1000) (hb:b.length<=1000):ConP prog 119 [.slice 1 (a.map (HVal.int .i64)),.slice 1 (b.map (HVal.int .i64))] (.int .i64 (zfi a b)):=by
 refine uOb func119 ntmps119 ?_;refine zaD ?_;refine uV1 [4,5,11,20] (fun (k:Nat)=>[(11,.int .i64 k)]) (fun (k:Nat)=>[]) (fun (k:Nat)=>k<=a.length/\(zfi a b=zfi (a.drop k) (b.drop k))) (fun (k:Nat)=>a.length-k) (0) ?_ ?_ ?_ ?_;exact ⟨Ad _,rfl⟩;exact ⟨rfl,trivial⟩;exact Ab _
 intro k hinv
 obtain ⟨hk,hg⟩:=hinv;refine gz4 ?_;refine uCo (fun h1=> ?_) fun h2=> ?_
 obtain ⟨x,hx⟩: ∃x,a[k]? =some x:=⟨_,Aa h1⟩
 have hdx:=zi hx;rw [hdx] at hg;refine gz6 ?_;refine dq (zl zac ty3 rfl rfl rfl (by assumption)) ?_;refine zbo ?_;refine uCo (fun h3=> ?_) fun h4=> ?_
 refine gz4 ?_;refine uRp ?_
 (rw [hg,Bs (show b.length<=k by omega)];rfl)
 refine gz2 ?_;obtain ⟨y,hy⟩: ∃y,b[k]? =some y:=⟨_,Aa uO⟩
 refine gz3 ?_;refine dq (zl zac ty3 rfl rfl rfl (by assumption)) ?_;refine gz6 ?_;refine dq (uCl zcN rfl (zZ (a:=x) (b:=y))) ?_;refine gz6 ?_;refine uCo (fun h5=> ?_) fun h6=> ?_
 refine gz5 ?_;refine uRp ?_
 (rw [hg,zi hy,zfi,if_pos (by assumption)])
 refine gz7 ?_;exact ⟨k+1,⟨by omega,by rw [hg,zi hy,zfi,if_neg (by simp_all)]⟩,uD,⟨rfl,trivial⟩,uK,Ab _⟩;have hnk:a.length<=k:=by omega
 obtain rfl:k=a.length:=by omega
 rw [zz (Ae _)] at hg;refine gz2 ?_;refine zp ?_;refine zaD ?_;refine uCo (fun h7=> ?_) fun h8=> ?_
 refine gz4 ?_;refine uRp ?_
 (obtain ⟨y,hy⟩: ∃y,b[a.length]? =some y:=⟨_,Aa uO⟩
  rw [hg,zi hy];rfl)
 refine gz6 ?_;refine uRp ?_
 (rw [hg,Bs (show b.length<=a.length by omega)];rfl)
theorem ziI [Tracks] {l:List FixS} (hl:l.length<=1000000):ConP prog 35 [zeo l] (.int .i64 (zjo l)):=by
 refine uOb func35 ntmps35 ?_;refine gz9 ?_;refine uCo (fun h1=> ?_) fun h2=> ?_
 refine gz4 ?_;refine uRp ?_
 (refine congrArg _ (zcF ?_)
  omega)
 refine gz9 ?_;refine uV1 [2,5,12,65] (fun (k:Nat)=>[(12,.int .i64 k)]) (fun (k:Nat)=>[]) (fun (k:Nat)=>k<=l.length/\(zbc zfK zkt l 0 l=zbc zfK zkt l k (l.drop k))) (fun (k:Nat)=>l.length-k) (0) ?_ ?_ ?_ ?_;exact ⟨Ad _,rfl⟩;exact ⟨rfl,trivial⟩;exact Ab _
 intro k hinv
 obtain ⟨hk,hg⟩:=hinv;refine gz4 ?_;refine uCo (fun h3=> ?_) fun h4=> ?_
 obtain ⟨x,hx⟩: ∃x,l[k]? =some x:=⟨_,Aa h3⟩
 have hdx:=zi hx;rw [hdx] at hg;refine gz6 ?_;refine dq (zl zbG zaM rfl rfl rfl (by assumption)) ?_;refine gz1 ?_;refine de rfl (zq zaM rfl fun b4=> ?_)
 refine gz1 ?_;refine de0 (zJ zaM rfl rfl rfl rfl rfl ?_)
 refine gz1 ?_;refine zf (zA 4 rfl) ?_;refine gz5 ?_;refine dq (uCl zsV rfl zgB) ?_;refine gz4 ?_;refine dg rfl rfl (fun hc=>⟨_,OpenTo.upd (t:=24) rfl (hc) (OpenTo.refl _),uCl zvL rfl zia⟩) ?_;refine gz4 ?_;refine uCo (fun h5=> ?_) fun h6=> ?_
 refine gz4 ?_;refine uRp ?_
 (refine congrArg _ (zQ (e:=1) ?_ hg ?_ ?_)
  omega
  unfold zfK;exact uT
  first|decide|assumption)
 refine gz3 ?_;refine dq (uCl zhf rfl zbn) ?_;refine gz4 ?_;refine dg rfl rfl (fun hc=>⟨_,OpenTo.upd (t:=35) rfl (hc) (OpenTo.refl _),uCl zhf rfl zbn⟩) ?_;refine gz4 ?_;refine uCo (fun h7=> ?_) fun h8=> ?_
 refine gz4 ?_;refine uRp ?_
 (refine congrArg _ (zQ (e:=5) ?_ hg ?_ ?_)
  omega
  unfold zfK;exact uT
  first|decide|assumption)
 refine gz8 ?_;refine uCo (fun h9=> ?_) fun h10=> ?_
 refine gz4 ?_;refine uRp ?_
 (refine congrArg _ (zQ (e:=6) ?_ hg ?_ ?_)
  omega
  unfold zfK;exact uT
  first|decide|assumption)
 refine gz7 ?_;refine uCo (fun h11=> ?_) fun h12=> ?_
 refine gz4 ?_;refine dq (zl (j:=k-1) (a:=l.getD (k-1) zkt) zbG zaM rfl rfl uO (getD_some uO)) ?_;refine gz1 ?_;refine de rfl (zq zaM rfl fun b5=> ?_)
 refine de0 (zJ zaM rfl rfl rfl rfl rfl ?_)
 refine gz1 ?_;refine zf (zA 5 rfl) ?_;refine gz5 ?_;refine dq (zb (hs:=[_,_]) zac ty3 rfl rfl (by decide) (by decide) rfl) ?_;refine gz4 ?_;refine dq (zb (hs:=[_,_]) zac ty3 rfl rfl (by decide) (by decide) rfl) ?_;refine dq (uCl zvM rfl (zfy (a:=[(l.getD (k-1) zkt).Week,(l.getD (k-1) zkt).At]) (b:=[x.Week,x.At]) (by simp) (by simp))) ?_;refine gz2 ?_;have hord:=zwC (x:=x) (p:=l.getD (k-1) zkt);refine zlq ?_;refine uCo (fun h13=> ?_) fun h14=> ?_
 refine gz4 ?_;refine uRp ?_
 (refine congrArg _ (zQ (e:=7) ?_ hg ?_ ?_)
  omega
  unfold zfK;exact uT
  first|decide|assumption)
 refine gz7 ?_;refine ⟨k+1,?_,?_,⟨rfl,trivial⟩,uK,Ab _⟩
 refine ⟨by omega,?_⟩
 rw [hg,zbi (by unfold zfK;(try clear hdx hg);(try simp only [Ai]);focus first|(simp_all;done)|((repeat' split)<;>focus first|rfl|(exfalso;omega)|(simp_all;done)|(exfalso;rcases ‹_\/_› with q|q<;>simp_all;done)|(exfalso;simp_all;omega)))]
 dsimp only;omega
 refine gz7 ?_;refine ⟨k+1,?_,?_,⟨rfl,trivial⟩,uK,Ab _⟩
 refine ⟨by omega,?_⟩
 rw [hg,zbi (by unfold zfK;(try clear hdx hg);(try simp only [Ai]);focus first|(simp_all;done)|((repeat' split)<;>focus first|rfl|(exfalso;omega)|(simp_all;done)|(exfalso;rcases ‹_\/_› with q|q<;>simp_all;done)|(exfalso;simp_all;omega)))]
 dsimp only;omega
 have hnk:l.length<=k:=by omega
 obtain rfl:k=l.length:=by omega
 rw [zz (Ae _)] at hg;refine gz2 ?_;refine zp ?_;refine gz6 ?_;refine uRp ?_
 (refine congrArg _ (zcq ?_ hg)
  omega)
theorem zhA [Tracks] {n d:Int} (hn: -1000000000000<=n/\n<=1000000000000) (hd:0<=d/\d<=1000000000000):ConP prog 227 [.int .i64 n,.int .i64 d] (.int .i64 ((Nat.gcd n.natAbs d.natAbs:Nat):Int)):=by
 refine uOb func227 ntmps227 ?_;refine gz5 ?_;refine uV2 [0,2,5,6] (fun (a:Int) (b:Int)=>[(0,.int .i64 a),(1,.int .i64 b)]) (fun (a:Int) (b:Int)=>[]) (fun (a:Int) (b:Int)=>(-1000000000000<=a/\a<=1000000000000)/\(-1000000000000<=b/\b<=1000000000000)/\Nat.gcd a.natAbs b.natAbs=Nat.gcd n.natAbs d.natAbs) (fun (a:Int) (b:Int)=>b.natAbs) (n) (d) ?_ ?_ ?_ ?_;exact ⟨hn,by omega,rfl⟩;exact ⟨rfl,rfl,trivial⟩;exact Ab _
 intro a b hinv
 obtain ⟨ha,hb,hg⟩:=hinv;refine gz5 ?_;refine uCo (fun h1=> ?_) fun h2=> ?_
 have hb0:b≠0:=by simpa using h1
 obtain ⟨m1,m2,m3⟩:=zrW (a:=a) hb0;refine gz3 ?_;refine zaC (fun _=>True) [] mixed ?_;refine gz3 ?_;refine uB 3 rfl (zeB rfl rfl uO) ?_;refine gz4 ?_;refine ⟨b,a.tmod b,?_,?_,⟨rfl,rfl,trivial⟩,uK,Ab _⟩
 exact ⟨hb,by omega,by rw [zvy];exact hg⟩
 dsimp only;exact m3
 obtain rfl:b=0:=by simpa using h2
 rw [show (0:Int).natAbs=0 from rfl,Nat.gcd_zero_right] at hg;refine gz2 ?_;refine zM ?_;refine gz5 ?_;refine dq (zmL rfl uO uO) ?_;refine dq (zw5 rfl rfl) ?_;refine gz3 ?_;refine uRp ?_;rw [<-hg]
 congr 1
 omega
theorem zdX [Tracks] {n d most:Int} (hn: -1000000000<=n/\n<=1000000000) (hd: -1000000000<=d/\d<=1000000000) (hm:0<=most/\most<=1000000):ConP prog 120 [.agg [.int .i64 n,.int .i64 d],.int .i64 most] (.int .i64 (zdb n d most)):=by
 refine uOb func120 ntmps120 ?_;refine zlq ?_;refine dg rfl rfl (fun hc=>by
  have hd1:1<=d:=by (have q:=hc;simp at q;omega)
  exact ⟨_,OpenTo.upd (t:=13) rfl (hc) (OpenTo.upd (t:=11) rfl (hc) (OpenTo.refl _)),uCl zwc rfl (zhA (n:=n) (d:=d) uO uO)⟩) ?_
 refine gz4 ?_;refine uCo (fun h1=> ?_) fun h2=> ?_
 have hp3:=pts3 (n:=n) (d:=d) (by assumption);refine gz4 ?_;refine uRp ?_;unfold zdb
 (rw [if_pos hp3])
 have hp0:=pts0 (n:=n) (d:=d) (by simp_all);have hd1:1<=d:=by (focus first|omega|(simp_all;done)|(simp_all;omega))
 have hmd:=zul (a:=most) (b:=d) (A:=1000000) (B:=1000000000) uO uO uO uO;have hmn: -most*d= -(most*d):=Int.neg_mul _ _;refine gz3 ?_;refine dq (zeB rfl rfl uO) ?_;refine gz5 ?_;refine dg rfl rfl (fun hc=>by have hq:=hc;(try simp at hq);exact ⟨_,OpenTo.upd (t:=25) rfl (hc) (OpenTo.refl _),zmL rfl uO uO⟩) ?_;refine gz2 ?_;refine dg rfl rfl (fun hc=>by have hq:=hc;(try simp at hq);exact ⟨_,OpenTo.upd (t:=28) rfl (hc) (OpenTo.upd (t:=26) rfl (hc) (OpenTo.refl _)),zbP rfl rfl uO uO⟩) ?_;refine gz8 ?_;refine dg rfl rfl (fun hc=>by have hq:=hc;(try simp at hq);exact ⟨_,OpenTo.upd (t:=37) rfl (hc) (OpenTo.upd (t:=35) rfl (hc) (OpenTo.refl _)),zbP rfl rfl uO uO⟩) ?_;refine gz4 ?_;refine uCo (fun h3=> ?_) fun h4=> ?_
 have hp1:=pts1 (n:=n) (d:=d) (m:=most) (by assumption);refine gz4 ?_;refine uRp ?_;unfold zdb
 (rw [if_neg (by rw [hp0];simp;omega),if_pos hp1])
 refine gz3 ?_;have hp2:=pts2 (n:=n) (d:=d) (m:=most) (by assumption);refine gz4 ?_;refine uRp ?_;unfold zdb
 (rw [if_neg (by rw [hp0];simp;omega),if_neg hp2])
theorem zkd [Tracks] {l:List RuleS} (hl:l.length<=1000000) (hb: ∀x∈l,((-1000000000<=x.Num/\x.Num<=1000000000)/\ -1000000000<=x.Den/\x.Den<=1000000000)):ConP prog 36 [zdk l] (.int .i64 (zjv l)):=by
 refine uOb func36 ntmps36 ?_;refine gz9 ?_;refine uCo (fun h1=> ?_) fun h2=> ?_
 refine gz4 ?_;refine uRp ?_
 (refine congrArg _ (zcF ?_)
  omega)
 refine zcc ?_;refine uV1 [2,2,5,3,13,70] (fun (k:Nat)=>[(13,.int .i64 k),(3,.str (zmZ RuleS.Key zj3 l k))]) (fun (k:Nat)=>[]) (fun (k:Nat)=>k<=l.length/\(zbc zd8 zj3 l 0 l=zbc zd8 zj3 l k (l.drop k))) (fun (k:Nat)=>l.length-k) (0) ?_ ?_ ?_ ?_;exact ⟨Ad _,rfl⟩;exact ⟨rfl,rfl,trivial⟩;exact Ab _
 intro k hinv
 obtain ⟨hk,hg⟩:=hinv;refine gz4 ?_;refine uCo (fun h3=> ?_) fun h4=> ?_
 obtain ⟨x,hx⟩: ∃x,l[k]? =some x:=⟨_,Aa h3⟩
 have hdx:=zi hx;rw [hdx] at hg;refine gz5 ?_;refine dq (zl zfU zed rfl rfl rfl (by assumption)) ?_;refine gz1 ?_;refine de rfl (zq zed rfl fun b5=> ?_)
 refine de0 (zJ zed rfl rfl rfl rfl rfl ?_)
 refine gz1 ?_;refine zf (zA 5 rfl) ?_;refine gz9 ?_;refine dq (zae (h':= .bool (zqT x.Kind)) (ziQ rfl) rfl) ?_;refine gz6 ?_;refine dq (uCl zhf rfl zbn) ?_;refine gz4 ?_;refine dg rfl rfl (fun hc=>⟨_,OpenTo.upd (t:=32) rfl (hc) (OpenTo.refl _),uCl zhf rfl zbn⟩) ?_;refine gz9 ?_;refine dg rfl rfl (fun hc=>⟨_,OpenTo.upd (t:=42) rfl (hc) (OpenTo.refl _),uCl zhf rfl zbn⟩) ?_;refine gz5 ?_;refine uCo (fun h5=> ?_) fun h6=> ?_
 refine gz4 ?_;refine uRp ?_
 (refine congrArg _ (zQ (e:=5) ?_ hg ?_ ?_)
  omega
  unfold zd8;exact uT
  first|decide|assumption)
 have hkx:key x.Key=true:=by simp_all
 have hll:=zsx (f:=RuleS.Key) (d:=zj3) (l:=l) (k:=k) (x:=x) hkx;refine gz7 ?_;refine uCo (fun h7=> ?_) fun h8=> ?_
 refine gz4 ?_;refine uRp ?_
 (refine congrArg _ (zQ (e:=7) ?_ hg ?_ ?_)
  omega
  unfold zd8;exact uT
  first|decide|assumption)
 refine gz3 ?_;refine dq (uCl zfZ rfl zbg) ?_;refine gz3 ?_;refine uCo (fun h9=> ?_) fun h10=> ?_
 refine gz4 ?_;refine uRp ?_
 (refine congrArg _ (zQ (e:=4) ?_ hg ?_ ?_)
  omega
  unfold zd8;exact uT
  first|decide|assumption)
 refine gz5 ?_;refine dg rfl rfl (fun hc=>⟨_,OpenTo.upd (t:=61) rfl (hc) (OpenTo.refl _),uCl zfZ rfl zbg⟩) ?_;refine zfL ?_;refine uCo (fun h11=> ?_) fun h12=> ?_
 refine gz4 ?_;refine uRp ?_
 (refine congrArg _ (zQ (e:=1) ?_ hg ?_ ?_)
  omega
  unfold zd8;exact uT
  first|decide|assumption)
 refine gz6 ?_;refine dq (zae (h':= .agg [.int .i64 x.Num,.int .i64 x.Den]) (zaB zb6 rfl rfl (Ah rfl)) rfl) ?_;refine dq (uCl zsW rfl (zdX (n:=x.Num) (d:=x.Den) (most:=10000) (hb x (Ac hx)).1 (hb x (Ac hx)).2 uO)) ?_;refine gz6 ?_;refine uCo (fun h13=> ?_) fun h14=> ?_
 refine gz5 ?_;refine uRp ?_
 (refine congrArg _ (zQ (e:=(zdb x.Num x.Den 10000)) ?_ hg ?_ ?_)
  omega
  unfold zd8;exact uT
  first|decide|assumption)
 refine zfL ?_;exact ⟨k+1,⟨by omega,by rw [hg,zbi (by unfold zd8;(try clear hdx hg);(try simp only [Ai]);focus first|(simp_all;done)|((repeat' split)<;>focus first|rfl|(exfalso;omega)|(simp_all;done)|(exfalso;rcases ‹_\/_› with q|q<;>simp_all;done)|(exfalso;simp_all;omega)))]⟩,uD,⟨rfl,congrArg (fun q=>some (HVal.str q)) (zqf hx).symm,trivial⟩,uK,Ab _⟩;have hnk:l.length<=k:=by omega
 obtain rfl:k=l.length:=by omega
 rw [zz (Ae _)] at hg;refine gz2 ?_;refine zp ?_;refine gz6 ?_;refine uRp ?_
 (refine congrArg _ (zcq ?_ hg)
  omega)
theorem zji [Tracks] {y x:SlotS}:ConP prog 122 [za4 y,.vptr (zd (za4 x)) 0] (.bool (y.Key==x.Key)):=by
 refine uOb func122 ntmps122 ?_;refine zfL ?_;refine zx rfl ?_
 rfl
theorem zkg [Tracks] {l:List SlotS} (hl:l.length<=1000000) (hp: ∀x∈l,x.Positions.length<=1000000):ConP prog 37 [zgq l] (.int .i64 (zeX l)):=by
 refine uOb func37 ntmps37 ?_;refine zbo ?_;refine uCo (fun h1=> ?_) fun h2=> ?_
 ·refine gz4 ?_;refine uRp ?_
  (unfold zeX;simp_all;done)
 ·refine gz6 ?_;refine uCo (fun h3=> ?_) fun h4=> ?_
  ·refine gz4 ?_;refine uRp ?_
   (rw [zeX,if_neg (by first|omega|simp_all),if_pos uO];done)
  ·refine zaD ?_;refine uV1 [2,4,16,21] (fun (k:Nat)=>[(16,.int .i64 k)]) (fun (k:Nat)=>[]) (fun (k:Nat)=>k<=l.length/\(zcC l 0 l=zcC l k (l.drop k))) (fun (k:Nat)=>l.length-k) (0) ?_ ?_ ?_ ?_
   ·exact ⟨Ad _,rfl⟩
   ·exact ⟨rfl,trivial⟩
   ·exact Ab _
   ·intro k hinv
    obtain ⟨hk,hg⟩:=hinv;refine gz4 ?_;refine uCo (fun h5=> ?_) fun h6=> ?_
    ·obtain ⟨x,hx⟩: ∃x,l[k]? =some x:=⟨_,Aa h5⟩
     have hdx:=zi hx;rw [hdx] at hg;refine gz6 ?_;refine dq (zl zcn zbE rfl rfl rfl (by assumption)) ?_;refine gz1 ?_;refine de rfl (zq zbE rfl fun b4=> ?_)
     refine gz1 ?_;refine de0 (zJ zbE rfl rfl rfl rfl rfl ?_)
     refine gz1 ?_;refine zf (zA 4 rfl) ?_;refine gz4 ?_;refine dq (uCl zhf rfl zbn) ?_;refine gz2 ?_;refine uCo (fun h7=> ?_) fun h8=> ?_
     ·refine gz4 ?_;refine uRp ?_
      (refine congrArg _ (zhP (e:=5) ?_ ?_ hg ?_)
       ·first|omega|simp_all
       ·omega
       ·rw [zcC]
        simp_all
        done)
     ·refine gz6 ?_;refine dq (zbq zcn zbE rfl rfl ⟨_,_,rfl,rfl⟩ uO uO) ?_;refine gz1 ?_;refine dq (uCl zvN rfl (zcH (l:=l.take k) (p:=fun y=>y.Key==x.Key) zxT (fun _=>zji) (by rw [Ag];omega))) ?_;refine gz1 ?_;refine uCo (fun h9=> ?_) fun h10=> ?_
      ·refine gz4 ?_;refine uRp ?_
       (refine congrArg _ (zhP (e:=6) ?_ ?_ hg ?_)
        ·first|omega|simp_all
        ·omega
        ·rw [zcC]
         simp_all
         done)
      ·refine gz5 ?_;refine dq (uCl zvK rfl (zg1 (hp x (Ac hx)))) ?_;refine gz6 ?_;refine uCo (fun h11=> ?_) fun h12=> ?_
       ·refine gz5 ?_;refine uRp ?_
        (refine congrArg _ (zhP (e:=(zhN x.Positions)) ?_ ?_ hg ?_)
         ·first|omega|simp_all
         ·omega
         ·rw [zcC]
          simp_all
          done)
       ·refine gz7 ?_;refine ⟨k+1,?_,?_,⟨rfl,trivial⟩,uK,Ab _⟩
        ·refine ⟨by omega,?_⟩
         rw [hg,zcC,if_neg (by simp_all),if_neg (by simp_all),if_neg (by simp_all)]
        ·dsimp only;omega
    ·have hnk:l.length<=k:=by omega
     obtain rfl:k=l.length:=by omega
     rw [zz (Ae _)] at hg;refine gz2 ?_;refine zp ?_;refine gz6 ?_;refine uRp ?_
     (refine congrArg _ (zrU ?_ ?_ hg)<;>first|omega|simp_all)
theorem zjG [Tracks] {b:BoundS}:ConP prog 38 [zgp b] (.int .i64 (zgz b)):=by
 refine uOb func38 ntmps38 ?_;refine gz8 ?_;refine dq (uCl zfZ rfl zbg) ?_;refine gz4 ?_;refine dg rfl rfl (fun hc=>⟨_,OpenTo.upd (t:=9) rfl (hc) (OpenTo.refl _),uCl zfZ rfl zbg⟩) ?_;refine gz5 ?_;refine dg rfl rfl (fun hc=>⟨_,OpenTo.upd (t:=15) rfl (hc) (OpenTo.refl _),uCl zfZ rfl zbg⟩) ?_;refine gz5 ?_;refine dg rfl rfl (fun hc=>⟨_,OpenTo.upd (t:=21) rfl (hc) (OpenTo.refl _),uCl zfZ rfl zbg⟩) ?_;refine gz3 ?_;refine uCo (fun h1=> ?_) fun h2=> ?_
 refine gz4 ?_;refine uRp ?_;unfold zgz
 (rw [if_pos (by simp_all)])
 refine gz6 ?_;refine uRp ?_;unfold zgz
 (rw [if_neg (by simp_all)])
theorem zev [Tracks] {a b:MoveS} (ha:MovB a) (hb:MovB b):ConP prog 28 [zaS a,zaS b] (.int .i64 (zdl a b)):=by
 obtain ⟨a1,a2⟩:=ha;obtain ⟨b1,b2⟩:=hb;refine uOb func28 ntmps28 ?_;refine zlq ?_;refine uCo (fun h1=> ?_) fun h2=> ?_
 refine gz6 ?_;refine dq (uCl zsT rfl zgC) ?_;refine gz3 ?_;refine uRp ?_;rw [zk2]
 try rw [zgV]
 simp_all
 refine gz8 ?_;refine uCo (fun h3=> ?_) fun h4=> ?_
 refine gz5 ?_;refine dq (uCl zcM rfl z6) ?_;refine gz3 ?_;refine uRp ?_;rw [zk2]
 try rw [zgV]
 simp_all
 refine gz8 ?_;refine uCo (fun h5=> ?_) fun h6=> ?_
 refine gz5 ?_;refine dq (uCl zcM rfl z6) ?_;refine gz3 ?_;refine uRp ?_;rw [zk2]
 try rw [zgV]
 simp_all
 refine gz9 ?_;refine dq (uCl zsT rfl zgC) ?_;refine gz3 ?_;refine uRp ?_;rw [zk2]
 try rw [zgV]
 simp_all
theorem zkb [Tracks] {l:List MoveS} (hl:l.length<=1000000) (hb: ∀x∈l,MovB x):ConP prog 61 [zbB l] (.int .i64 (zkw l)):=by
 refine uOb func61 ntmps61 ?_;refine gz9 ?_;refine uCo (fun h1=> ?_) fun h2=> ?_
 refine gz4 ?_;refine uRp ?_
 (refine congrArg _ (zcF ?_)
  omega)
 refine gz9 ?_;refine uV1 [2,3,10,40] (fun (k:Nat)=>[(10,.int .i64 k)]) (fun (k:Nat)=>[]) (fun (k:Nat)=>k<=l.length/\(zbc zeR ziN l 0 l=zbc zeR ziN l k (l.drop k))) (fun (k:Nat)=>l.length-k) (0) ?_ ?_ ?_ ?_;exact ⟨Ad _,rfl⟩;exact ⟨rfl,trivial⟩;exact Ab _
 intro k hinv
 obtain ⟨hk,hg⟩:=hinv;refine gz4 ?_;refine uCo (fun h3=> ?_) fun h4=> ?_
 obtain ⟨x,hx⟩: ∃x,l[k]? =some x:=⟨_,Aa h3⟩
 have hdx:=zi hx;rw [hdx] at hg;refine gz6 ?_;refine dq (zl zaZ zaR rfl rfl rfl (by assumption)) ?_;refine gz1 ?_;refine de rfl (zq zaR rfl fun b4=> ?_)
 refine gz1 ?_;refine de0 (zJ zaR rfl rfl rfl rfl rfl ?_)
 refine gz1 ?_;refine zf (zA 4 rfl) ?_;refine gz4 ?_;refine dq (uCl zvL rfl zia) ?_;refine gz3 ?_;refine uCo (fun h5=> ?_) fun h6=> ?_
 refine gz4 ?_;refine uRp ?_
 (refine congrArg _ (zQ (e:=1) ?_ hg ?_ ?_)
  omega
  unfold zeR;exact uT
  first|decide|assumption)
 refine gz3 ?_;refine dq (uCl zfZ rfl zbg) ?_;refine gz3 ?_;refine uCo (fun h7=> ?_) fun h8=> ?_
 refine gz4 ?_;refine uRp ?_
 (refine congrArg _ (zQ (e:=4) ?_ hg ?_ ?_)
  omega
  unfold zeR;exact uT
  first|decide|assumption)
 refine gz3 ?_;refine dq (uCl zhf rfl zbn) ?_;refine gz4 ?_;refine dg rfl rfl (fun hc=>⟨_,OpenTo.upd (t:=32) rfl (hc) (OpenTo.refl _),uCl zhf rfl zbn⟩) ?_;refine gz4 ?_;refine uCo (fun h9=> ?_) fun h10=> ?_
 refine gz4 ?_;refine uRp ?_
 (refine congrArg _ (zQ (e:=5) ?_ hg ?_ ?_)
  omega
  unfold zeR;exact uT
  first|decide|assumption)
 have htu:=zvi (x:=x) (p:=l.getD (k-1) ziN);refine zw (fun _=>True) [] mixed ?_;refine gz6 ?_;refine ahg 6 rfl rfl (by kernel_rfl) (by kernel_rfl) rfl (fun hc=>by have hq:=hc;(try simp at hq);exact ⟨_,OpenTo.upd (t:=42) rfl (hc) (OpenTo.upd (t:=40) rfl (hc) (OpenTo.refl _)),zl (j:=k-1) (a:=l.getD (k-1) ziN) zaZ zaR rfl rfl uO (getD_some uO)⟩) ?_;refine gz2 ?_;refine ahg 9 rfl rfl (by kernel_rfl) (by kernel_rfl) rfl (fun hc=>by have hq:=hc;(try simp at hq);exact ⟨_,OpenTo.upd (t:=45) rfl (hc) (OpenTo.upd (t:=44) rfl (hc) (OpenTo.refl _)),uCl zuN rfl (zev (a:=l.getD (k-1) ziN) (b:=x) (hb _ (Ac (getD_some uO))) (hb _ (Ac hx)))⟩) ?_;refine gz4 ?_;refine uCo (fun h11=> ?_) fun h12=> ?_
 refine gz4 ?_;refine uRp ?_
 (refine congrArg _ (zQ (e:=7) ?_ hg ?_ ?_)
  omega
  unfold zeR;exact uT
  first|decide|assumption)
 refine gz8 ?_;refine ⟨k+1,?_,?_,⟨rfl,trivial⟩,uK,Ab _⟩
 refine ⟨by omega,?_⟩
 rw [hg,zbi (by unfold zeR;(try clear hdx hg);(try simp only [Ai]);focus first|(simp_all;done)|((repeat' split)<;>focus first|rfl|(exfalso;omega)|(simp_all;done)|(exfalso;rcases ‹_\/_› with q|q<;>simp_all;done)|(exfalso;simp_all;omega)))]
 dsimp only;omega
 have hnk:l.length<=k:=by omega
 obtain rfl:k=l.length:=by omega
 rw [zz (Ae _)] at hg;refine gz2 ?_;refine zp ?_;refine gz6 ?_;refine uRp ?_
 (refine congrArg _ (zcq ?_ hg)
  omega)
theorem zgo [Tracks] {l:List Str} (hl:l.length<=1000000):ConP prog 39 [eSs l] (.int .i64 (zdT l)):=by
 refine uOb func39 ntmps39 ?_;refine zbo ?_;refine uCo (fun h1=> ?_) fun h2=> ?_
 refine gz4 ?_;refine uRp ?_
 (rw [zdT,if_pos uO])
 refine gz6 ?_;refine uCo (fun h3=> ?_) fun h4=> ?_
 refine gz4 ?_;refine uRp ?_
 (rw [zdT,if_neg uO,if_pos uO])
 refine gz5 ?_;refine dq (uCl zvO rfl (zib (by assumption))) ?_;refine gz3 ?_;refine uRp ?_
 (rw [zdT,if_neg uO,if_neg uO])
theorem zg0 [Tracks] {a b:GameS} (ha: -1000000000000000<=a.Week/\a.Week<=1000000000000000) (hb: -1000000000000000<=b.Week/\b.Week<=1000000000000000):ConP prog 103 [zaO a,zaO b] (.int .i64 (zfY a b)):=by
 refine uOb func103 ntmps103 ?_;refine zlq ?_;refine uCo (fun h1=> ?_) fun h2=> ?_
 refine gz6 ?_;refine dq (uCl zsT rfl zgC) ?_;refine gz3 ?_;refine uRp ?_;rw [znD]
 try rw [zgV]
 simp_all
 refine gz8 ?_;refine uCo (fun h3=> ?_) fun h4=> ?_
 refine gz5 ?_;refine dq (uCl zcM rfl z6) ?_;refine gz3 ?_;refine uRp ?_;rw [znD]
 try rw [zgV]
 simp_all
 refine gz8 ?_;refine dq (uCl zcM rfl z6) ?_;refine gz3 ?_;refine uRp ?_;rw [znD]
 try rw [zgV]
 simp_all
theorem zjk [Tracks] {x:GameS} (hb:((-1000000000<=x.FNum/\x.FNum<=1000000000)/\ -1000000000<=x.FDen/\x.FDen<=1000000000)/\((-1000000000<=x.ONum/\x.ONum<=1000000000)/\ -1000000000<=x.ODen/\x.ODen<=1000000000)):ConP prog 125 [zaO x] (.int .i64 (zhj x)):=by
 refine uOb func125 ntmps125 ?_;refine zaD ?_;refine uCo (fun h1=> ?_) fun h2=> ?_
 refine gz3 ?_;refine dq (zae (h':= .agg [.int .i64 x.FNum,.int .i64 x.FDen]) (zaB zb6 rfl rfl (Ah rfl)) rfl) ?_;refine dq (zas (cs:=[_,_]) zb6 zn3 rfl) ?_;refine dq (zbQ zb6 znN rfl rfl ⟨rfl,⟨_,_,_,_,ty3,rfl⟩,⟨rfl,⟨_,_,_,_,ty3,rfl⟩,trivial⟩⟩) ?_;refine gz2 ?_;refine dg rfl rfl (fun hc=>⟨_,OpenTo.upd (t:=15) rfl (hc) (OpenTo.refl _),zae (h':= .agg [.int .i64 x.ONum,.int .i64 x.ODen]) (zaB zb6 rfl rfl (Ah rfl)) rfl⟩) ?_;refine dg rfl rfl (fun hc=>⟨_,OpenTo.refl _,zas (cs:=[_,_]) zb6 zn3 rfl⟩) ?_;refine dg rfl rfl (fun hc=>⟨_,OpenTo.upd (t:=17) rfl (hc) (OpenTo.upd (t:=16) rfl (hc) (OpenTo.refl _)),zbQ zb6 znN rfl rfl ⟨rfl,⟨_,_,_,_,ty3,rfl⟩,⟨rfl,⟨_,_,_,_,ty3,rfl⟩,trivial⟩⟩⟩) ?_;refine gz2 ?_;refine uCo (fun h3=> ?_) fun h4=> ?_
 simp [zbp,zbl,eqH] at h3
 refine gz4 ?_;refine uRp ?_
 (unfold zhj;simp_all)
 refine gz2 ?_
 simp [zbp,zbl,eqH] at h4
 refine gz4 ?_;refine uRp ?_
 (unfold zhj;simp_all)
 refine gz2 ?_;have hpl:x.Played=true:=by simpa using h2
 have hgf:=zu2 hpl;refine zw (fun _=>True) [] mixed ?_;refine gz1 ?_;refine uB 1 rfl (zae (h':= .agg [.int .i64 x.FNum,.int .i64 x.FDen]) (zaB zb6 rfl rfl (Ah rfl)) rfl) ?_;refine uB 2 rfl (uCl zsW rfl (zdX (n:=x.FNum) (d:=x.FDen) (most:=1000000) hb.1.1 hb.1.2 uO)) ?_;refine gz1 ?_;refine uB 4 rfl (zae (h':= .agg [.int .i64 x.ONum,.int .i64 x.ODen]) (zaB zb6 rfl rfl (Ah rfl)) rfl) ?_;refine uB 5 rfl (uCl zsW rfl (zdX (n:=x.ONum) (d:=x.ODen) (most:=1000000) hb.2.1 hb.2.2 uO)) ?_;refine gz5 ?_;refine dq (zb (hs:=[_,_]) zdr zds rfl rfl (by decide) (by decide) rfl) ?_;refine dq (zaq (f:=HVal.int .i64) (l:=([3,1]:List Int)) zdr rfl) ?_;refine gz3 ?_;refine uV1 [2,1,6,1,28,14] (fun (k:Nat)=>[(28,.int .i64 k)]) (fun (k:Nat)=>[]) (fun (k:Nat)=>k<=([3,1]:List Int).length/\(zvA (zdb x.FNum x.FDen 1000000) (zdb x.ONum x.ODen 1000000)=zmS (zdb x.FNum x.FDen 1000000) (zdb x.ONum x.ODen 1000000) (([3,1]:List Int).drop k))) (fun (k:Nat)=>([3,1]:List Int).length-k) (0) ?_ ?_ ?_ ?_;exact ⟨Ad _,rfl⟩;exact ⟨rfl,trivial⟩;exact Ab _
 intro k hinv
 obtain ⟨hk,hg⟩:=hinv;refine gz4 ?_;refine uCo (fun h5=> ?_) fun h6=> ?_
 obtain ⟨z,hz⟩: ∃z,([3,1]:List Int)[k]? =some z:=⟨_,Aa (by show k<2;omega)⟩
 have hdz:=zi hz;rw [hdz] at hg;refine gz5 ?_;refine dq (zl zdr zds rfl rfl rfl (by assumption)) ?_;refine zfL ?_;refine uCo (fun h7=> ?_) fun h8=> ?_
 refine gz5 ?_;refine uRp ?_
 (rw [hgf,hg,zmS,if_pos (by simp_all)])
 refine gz7 ?_;refine ⟨k+1,?_,?_,⟨rfl,trivial⟩,uK,Ab _⟩
 refine ⟨by show k+1<=2;omega,?_⟩
 rw [hg,zmS,if_neg (by simp_all)]
 show 2-(k+1)<2-k
 omega
 refine gz2 ?_;refine zp ?_;refine gz6 ?_;refine uRp ?_
 (have e2:k=2:=by (have q:([3,1]:List Int).length=2:=rfl;omega)
  subst e2;rw [hgf,hg];rfl)
theorem zjf [Tracks] {y x:GameS}:ConP prog 126 [zaO y,.vptr (zd (zaO x)) 0] (.bool (zif x y)):=by
 refine uOb func126 ntmps126 ?_;refine gz40 ?_;refine gz1 ?_;refine zx rfl ?_
 show HVal.bool _=_
 unfold zif
 simp [B3]
theorem zka [Tracks] {T:List Str} {l:List GameS} (hT:T.length<=1000000) (hl:l.length<=1000000) (hb: ∀x∈l,GamB x):ConP prog 40 [eSs T,zdN l] (.int .i64 (zhi T l)):=by
 refine uOb func40 ntmps40 ?_;refine gz6 ?_;refine dq (uCl ca39 rfl (zgo (by assumption))) ?_;refine gz6 ?_;refine uCo (fun h1=> ?_) fun h2=> ?_
 ·refine gz5 ?_;refine uRp ?_
  try rw [hE]
  (rw [zhi,if_pos (by assumption)];done)
 ·refine gz3 ?_;have hz:zdT T=0:=by first|assumption|simp_all
  have hE:zhi T l=zeg T l:=by rw [zhi,if_neg (by simp [hz])]
  refine gz5 ?_;refine uCo (fun h3=> ?_) fun h4=> ?_
  ·refine gz4 ?_;refine uRp ?_
   try rw [hE]
   (refine congrArg _ (zdZ (zcF ?_) (by decide))
    omega)
  ·refine gz9 ?_;refine uV1 [4,1,6,3,21,47] (fun (k:Nat)=>[(21,.int .i64 k)]) (fun (k:Nat)=>[]) (fun (k:Nat)=>k<=l.length/\(zbc (zcy T) zeq l 0 l=zbc (zcy T) zeq l k (l.drop k))) (fun (k:Nat)=>l.length-k) (0) ?_ ?_ ?_ ?_
   ·exact ⟨Ad _,rfl⟩
   ·exact ⟨rfl,trivial⟩
   ·exact Ab _
   ·intro k hinv
    obtain ⟨hk,hg⟩:=hinv;refine gz4 ?_;refine uCo (fun h5=> ?_) fun h6=> ?_
    ·obtain ⟨x,hx⟩: ∃x,l[k]? =some x:=⟨_,Aa h5⟩
     have hdx:=zi hx;rw [hdx] at hg;refine gz6 ?_;refine dq (zl zco zb7 rfl rfl rfl (by assumption)) ?_;refine gz1 ?_;refine de rfl (zq zb7 rfl fun b7=> ?_)
     refine gz1 ?_;refine de0 (zJ zb7 rfl rfl rfl rfl rfl ?_)
     refine gz1 ?_;refine zf (zA 7 rfl) ?_;refine gz5 ?_;refine dq (uCl zsV rfl zgB) ?_;refine gz3 ?_;refine uCo (fun h7=> ?_) fun h8=> ?_
     ·refine gz4 ?_;refine uRp ?_
      try rw [hE]
      (refine congrArg _ (zdZ (e:=1) (zQ ?_ hg ?_ ?_) ?_)
       ·omega
       ·unfold zcy
        simp_all
        done
       ·first|decide|assumption
       ·first|decide|assumption)
     ·refine gz4 ?_;refine dq (uCl zjR rfl (zaH (l:=T) (s:=x.Home) uO)) ?_;refine gz5 ?_;refine dg rfl rfl (fun hc=>by have hq:=hc;(try simp at hq);exact ⟨_,OpenTo.upd (t:=40) rfl (hc) (OpenTo.upd (t:=38) rfl (hc) (OpenTo.refl _)),uCl zjR rfl (zaH (l:=T) (s:=x.Away) uO)⟩) ?_;refine gz4 ?_;refine uCo (fun h9=> ?_) fun h10=> ?_
      ·refine gz4 ?_;refine uRp ?_
       try rw [hE]
       (refine congrArg _ (zdZ (e:=8) (zQ ?_ hg ?_ ?_) ?_)
        ·omega
        ·unfold zcy
         simp_all
         done
        ·first|decide|assumption
        ·first|decide|assumption)
      ·refine gz8 ?_;refine uCo (fun h11=> ?_) fun h12=> ?_
       ·refine gz4 ?_;refine uRp ?_
        try rw [hE]
        (refine congrArg _ (zdZ (e:=6) (zQ ?_ hg ?_ ?_) ?_)
         ·omega
         ·unfold zcy
          simp_all
          done
         ·first|decide|assumption
         ·first|decide|assumption)
       ·refine gz5 ?_;refine dq (zad (h:=zaO x) zb7 rfl rfl rfl rfl) ?_;refine dq (uCl zxU rfl (zjk (x:=x) ⟨(hb x (Ac hx)).fr,(hb x (Ac hx)).ot⟩)) ?_;refine gz6 ?_;refine uCo (fun h13=> ?_) fun h14=> ?_
        ·refine gz5 ?_;refine uRp ?_
         try rw [hE]
         (refine congrArg _ (zdZ (e:=(zhj x)) (zQ ?_ hg ?_ ?_) ?_)
          ·omega
          ·unfold zcy
           simp_all
           done
          ·first|decide|assumption
          ·first|decide|assumption)
        ·refine gz2 ?_;have htu:=zu3 (x:=x) (p:=l.getD (k-1) zeq);refine zw (fun _=>True) [] mixed ?_;refine gz6 ?_;refine ahg 6 rfl rfl (by kernel_rfl) (by kernel_rfl) rfl (fun hc=>by have hq:=hc;(try simp at hq);exact ⟨_,OpenTo.upd (t:=60) rfl (hc) (OpenTo.upd (t:=58) rfl (hc) (OpenTo.refl _)),zl (j:=k-1) (a:=l.getD (k-1) zeq) zco zb7 rfl rfl uO (getD_some uO)⟩) ?_;refine gz2 ?_;refine ahg 9 rfl rfl (by kernel_rfl) (by kernel_rfl) rfl (fun hc=>by have hq:=hc;(try simp at hq);exact ⟨_,OpenTo.upd (t:=63) rfl (hc) (OpenTo.upd (t:=62) rfl (hc) (OpenTo.refl _)),uCl zvH rfl (zg0 (a:=l.getD (k-1) zeq) (b:=x) (hb _ (Ac (getD_some uO))).week (hb _ (Ac hx)).week)⟩) ?_;refine gz3 ?_;refine uCo (fun h15=> ?_) fun h16=> ?_
         ·refine gz4 ?_;refine uRp ?_
          try rw [hE]
          (refine congrArg _ (zdZ (e:=7) (zQ ?_ hg ?_ ?_) ?_)
           ·omega
           ·unfold zcy
            simp_all
            done
           ·first|decide|assumption
           ·first|decide|assumption)
         ·refine gz7 ?_;refine ⟨k+1,?_,?_,⟨rfl,trivial⟩,uK,Ab _⟩
          ·refine ⟨by omega,?_⟩
           rw [hg,zbi (by unfold zcy;(try clear hdx hg);(try simp only [Ai]);first|(simp_all;done)|((repeat' split)<;>first|rfl|(exfalso;omega)|(simp_all;done)|(exfalso;rcases ‹_\/_› with q|q<;>simp_all;done)|(exfalso;simp_all;omega)))]
          ·dsimp only;omega
    ·have hnk:l.length<=k:=by omega
     obtain rfl:k=l.length:=by omega
     rw [zz (Ae _)] at hg;refine gz2 ?_;refine zp ?_;refine gz9 ?_;refine uV1 [4,1,9,2,70,11] (fun (k:Nat)=>[(70,.int .i64 k)]) (fun (k:Nat)=>[]) (fun (k:Nat)=>k<=l.length/\(zdL l 0 l=zdL l k (l.drop k))) (fun (k:Nat)=>l.length-k) (0) ?_ ?_ ?_ ?_
     ·exact ⟨Ad _,rfl⟩
     ·exact ⟨rfl,trivial⟩
     ·exact Ab _
     ·intro k hinv
      obtain ⟨hk,hg2⟩:=hinv;refine gz4 ?_;refine uCo (fun h17=> ?_) fun h18=> ?_
      ·obtain ⟨x,hx⟩: ∃x,l[k]? =some x:=⟨_,Aa h17⟩
       have hdx:=zi hx;rw [hdx] at hg2;refine gz6 ?_;refine dq (zl zco zb7 rfl rfl rfl (by assumption)) ?_;refine gz1 ?_;refine de rfl (zq zb7 rfl fun b10=> ?_)
       refine gz1 ?_;refine de0 (zJ zb7 rfl rfl rfl rfl rfl ?_)
       refine gz1 ?_;refine zf (zA 10 rfl) ?_;refine gz3 ?_;refine dq (zbq zco zb7 rfl rfl ⟨_,_,rfl,rfl⟩ uO uO) ?_;refine gz1 ?_;refine dq (uCl zuP rfl (zbH (l:=l.take k) (p:=zif x) zxV (fun _=>zjf) (by rw [Ag];omega))) ?_;refine gz1 ?_;refine uCo (fun h19=> ?_) fun h20=> ?_
       ·refine gz4 ?_;refine uRp ?_
        try rw [hE]
        (rw [zeg,if_neg (by rw [<-zcq uO hg];simp),if_pos (by rw [hg2,zdL];simp_all)];done)
       ·refine gz7 ?_;refine ⟨k+1,?_,?_,⟨rfl,trivial⟩,uK,Ab _⟩
        ·refine ⟨by omega,?_⟩
         rw [hg2,zdL];simp_all
        ·dsimp only;omega
      ·have hnk:l.length<=k:=by omega
       obtain rfl:k=l.length:=by omega
       rw [zz (Ae _)] at hg2;refine gz2 ?_;refine zp ?_;refine gz6 ?_;refine uRp ?_
       try rw [hE]
       (rw [zeg,if_neg (by rw [<-zcq uO hg];simp),if_neg (by rw [hg2];simp [zdL])];done)
theorem zjH [Tracks] {l:List Int} (hl:l.length<=1000000):ConP prog 43 [.slice 1 (l.map (HVal.int .i64))] (.int .i64 (zio l)):=by
 refine uOb func43 ntmps43 ?_;refine gz9 ?_;refine uCo (fun h1=> ?_) fun h2=> ?_
 ·refine gz4 ?_;refine uRp ?_
  (rw [zio,if_pos uO];done)
 ·refine gz9 ?_;refine uV1 [2,3,10,14] (fun (k:Nat)=>[(10,.int .i64 k)]) (fun (k:Nat)=>[]) (fun (k:Nat)=>k<=l.length/\(zd5 l 0 l=zd5 l k (l.drop k))) (fun (k:Nat)=>l.length-k) (0) ?_ ?_ ?_ ?_
  ·exact ⟨Ad _,rfl⟩
  ·exact ⟨rfl,trivial⟩
  ·exact Ab _
  ·intro k hinv
   obtain ⟨hk,hg⟩:=hinv;refine gz4 ?_;refine uCo (fun h3=> ?_) fun h4=> ?_
   ·obtain ⟨x,hx⟩: ∃x,l[k]? =some x:=⟨_,Aa h3⟩
    have hdx:=zi hx;rw [hdx] at hg;refine gz6 ?_;refine dq (zl zac ty3 rfl rfl rfl (by assumption)) ?_;refine gz7 ?_;refine dq (uCl zfZ rfl zbg) ?_;refine gz2 ?_;refine uCo (fun h5=> ?_) fun h6=> ?_
    ·refine gz4 ?_;refine uRp ?_
     (refine congrArg _ (zmW (e:=4) ?_ hg ?_)
      ·omega
      ·rw [zd5]
       simp_all
       done)
    ·refine gz5 ?_;refine dq (zbq zac ty3 rfl rfl ⟨_,_,rfl,rfl⟩ uO uO) ?_;refine gz1 ?_;refine dq (uCl zvP rfl (zfk (l:=l.take k) (z:=x) (by rw [Ag];omega))) ?_;refine gz1 ?_;refine uCo (fun h7=> ?_) fun h8=> ?_
     ·refine gz4 ?_;refine uRp ?_
      (refine congrArg _ (zmW (e:=6) ?_ hg ?_)
       ·omega
       ·rw [zd5]
        simp_all
        done)
     ·refine gz7 ?_;refine ⟨k+1,?_,?_,⟨rfl,trivial⟩,uK,Ab _⟩
      ·refine ⟨by omega,?_⟩
       rw [hg,zd5,if_neg (by simp_all),if_neg (by simp_all)]
      ·dsimp only;omega
   ·have hnk:l.length<=k:=by omega
    obtain rfl:k=l.length:=by omega
    rw [zz (Ae _)] at hg;refine gz2 ?_;refine zp ?_;refine gz6 ?_;refine uRp ?_
    (refine congrArg _ (zsl ?_ hg)
     omega)
end
section
open Go.Proofs.Tryz
open Go.HL
theorem zft [Tracks] {a b:MendS}:ConP prog 152 [zB a,zB b] (.int .i64 (zaI a b)):=by
 refine uOb func152 ntmps152 ?_;refine gz5 ?_;refine zw (fun _=>True) [] mixed ?_;refine gz4 ?_;refine uB 4 rfl (uCl zcM rfl z6) ?_;refine gz4 ?_;refine uB 9 rfl (uCl zcN rfl zZ) ?_;refine gz4 ?_;refine uB 14 rfl (uCl zcM rfl z6) ?_;refine gz4 ?_;refine uB 19 rfl (uCl zcN rfl zZ) ?_;refine uB 20 rfl (zb (hs:=[_,_,_,_]) zac ty3 rfl rfl (by decide) (by decide) rfl) ?_;refine uB 21 rfl (uCl zf0 rfl (zbw (l:=[_,_,_,_]) (by simp))) ?_;refine gz3 ?_;refine zx rfl ?_
 rfl
theorem zj7 [Tracks] {m:List MendS} (hl:m.length<=1000000) (hgm: ∀x∈m,zg7 x):ConP prog 63 [zbj m] (.int .i64 (zb9 m)):=by
 refine uOb func63 ntmps63 ?_;refine gz9 ?_;refine uCo (fun h1=> ?_) fun h2=> ?_
 ·refine gz4 ?_;refine uRp ?_
  (rw [zb9,if_pos uO];done)
 ·refine gz9 ?_;refine uV1 [2,3,10,59] (fun (k:Nat)=>[(10,.int .i64 k)]) (fun (k:Nat)=>[]) (fun (k:Nat)=>k<=m.length/\(zcO za6 zaI zer m 0 m=zcO za6 zaI zer m k (m.drop k))) (fun (k:Nat)=>m.length-k) (0) ?_ ?_ ?_ ?_
  ·exact ⟨Ad _,rfl⟩
  ·exact ⟨rfl,trivial⟩
  ·exact Ab _
  ·intro k hinv
   obtain ⟨hk,hg⟩:=hinv;refine gz4 ?_;refine uCo (fun h3=> ?_) fun h4=> ?_
   ·obtain ⟨x,hx⟩: ∃x,m[k]? =some x:=⟨_,Aa h3⟩
    have hdx:=zi hx;rw [hdx] at hg;refine gz6 ?_;refine dq (zl zak zN rfl rfl rfl (by assumption)) ?_;refine gz1 ?_;refine de rfl (zq zN rfl fun b4=> ?_)
    refine gz1 ?_;refine de0 (zJ zN rfl rfl rfl rfl rfl ?_)
    refine gz1 ?_;refine zf (zA 4 rfl) ?_;refine gz4 ?_;refine dq (uCl ziJ rfl (zbR (hgm x (Ac hx)).1)) ?_;refine gz4 ?_;refine dg rfl rfl (fun hc=>⟨_,OpenTo.upd (t:=22) rfl (hc) (OpenTo.refl _),uCl ziJ rfl (zbR (hgm x (Ac hx)).2.1)⟩) ?_;refine gz5 ?_;refine dg rfl rfl (fun hc=>⟨_,OpenTo.upd (t:=28) rfl (hc) (OpenTo.refl _),uCl ziJ rfl (zbR (hgm x (Ac hx)).2.2)⟩) ?_;refine gz4 ?_;refine uCo (fun h5=> ?_) fun h6=> ?_
    ·refine gz4 ?_;refine uRp ?_
     (refine congrArg _ (zj0 (c:=5) uO hg (by decide) ?_)
      rw [za6,if_pos]
      simp_all
      done)
    ·refine gz3 ?_;refine dq (uCl zs1 rfl zeu) ?_;refine gz4 ?_;refine dg rfl rfl (fun hc=>⟨_,OpenTo.upd (t:=39) rfl (hc) (OpenTo.refl _),uCl zlh rfl zcS⟩) ?_;refine gz5 ?_;refine dg rfl rfl (fun hc=>⟨_,OpenTo.upd (t:=45) rfl (hc) (OpenTo.refl _),uCl zrj rfl zb8⟩) ?_;refine gz5 ?_;refine dg rfl rfl (fun hc=>⟨_,OpenTo.upd (t:=51) rfl (hc) (OpenTo.refl _),uCl zlh rfl zcS⟩) ?_;refine gz4 ?_;refine uCo (fun h7=> ?_) fun h8=> ?_
     ·refine gz4 ?_;refine uRp ?_
      (refine congrArg _ (zj0 (c:=1) uO hg (by decide) ?_)
       rw [za6,if_neg,if_pos]
       all_goals simp_all
       done)
     ·refine zw (fun _=>True) [] mixed ?_;refine gz6 ?_;refine ahg 6 rfl rfl (by kernel_rfl) (by kernel_rfl) rfl (fun hc=>by have hq:=hc;(try simp at hq);exact ⟨_,OpenTo.upd (t:=61) rfl (hc) (OpenTo.upd (t:=59) rfl (hc) (OpenTo.refl _)),zl (j:=k-1) (a:=m.getD (k-1) zer) zak zN rfl rfl uO (getD_some uO)⟩) ?_;refine gz2 ?_;refine ahg 9 rfl rfl (by kernel_rfl) (by kernel_rfl) rfl (fun hc=>⟨_,OpenTo.upd (t:=64) rfl (hc) (OpenTo.upd (t:=63) rfl (hc) (OpenTo.refl _)),uCl zs2 rfl zft⟩) ?_;refine gz4 ?_;refine uCo (fun h9=> ?_) fun h10=> ?_
      ·refine gz4 ?_;refine uRp ?_
       (have f1:=zcG.flip x (m.getD (k-1) zer) trivial trivial
        have f2:=zcG.flip (m.getD (k-1) zer) x trivial trivial;refine congrArg _ (zqi uO hg ?_ ?_ ?_)
        ·rw [za6,if_neg,if_neg]<;>simp_all
        ·simp_all
        ·simp_all;omega)
      ·refine gz8 ?_;refine ⟨k+1,?_,?_,⟨rfl,trivial⟩,uK,Ab _⟩
       ·refine ⟨by omega,?_⟩
        rw [hg,zrk (by rw [za6,if_neg (by simp_all),if_neg (by simp_all)]) (by intro hk0;have:=zcG.flip x (m.getD (k-1) zer) trivial trivial;have:=zcG.flip (m.getD (k-1) zer) x trivial trivial;simp_all;try omega)]
       ·dsimp only;omega
   ·have hnk:m.length<=k:=by omega
    obtain rfl:k=m.length:=by omega
    rw [zz (Ae _)] at hg;refine gz2 ?_;refine zp ?_;refine gz6 ?_;refine uRp ?_
    (rw [zb9,if_neg uO,hg];rfl)
end
section
open Go.Proofs.Tryz
open Go.HL
theorem zqt [Tracks] {l:List Str} {fid:FuncId} {caps:List HVal} {p:Str->Bool} (hca:Callable prog fid) (hp: ∀x∈l,ConP prog fid ([HVal.str x]++caps) (.bool (p x))) (hl:l.length<=1000000):ConP prog 239 [.slice 1 (l.map HVal.str),.fn (.func fid) [] caps] (.int .i64 (zap p l 0)):=by
 refine uOb func239 ntmps239 ?_;refine zaD ?_;refine uV1 [4,2,8,11] (fun (k:Nat)=>[(8,.int .i64 k)]) (fun (k:Nat)=>[]) (fun (k:Nat)=>k<=l.length/\(zap p l 0=zap p (l.drop k) k)) (fun (k:Nat)=>l.length-k) (0) ?_ ?_ ?_ ?_;exact ⟨Ad _,rfl⟩;exact ⟨rfl,trivial⟩;exact Ab _
 intro k hinv
 obtain ⟨hk,hg⟩:=hinv;refine gz4 ?_;refine uCo (fun h1=> ?_) fun h2=> ?_
 obtain ⟨x,hx⟩: ∃x,l[k]? =some x:=⟨_,Aa h1⟩
 have hdx:=zi hx;rw [hdx] at hg;refine zcc ?_;refine dq (zl zH ty9 rfl rfl rfl (by assumption)) ?_;refine gz1 ?_;refine dq (z7 hca rfl rfl (WeakL.refl _) (hp _ (Ac hx))) ?_;refine gz1 ?_;refine uCo (fun h3=> ?_) fun h4=> ?_
 refine gz5 ?_;refine uRp ?_
 (rw [hg];simp_all [zap])
 refine gz7 ?_;refine ⟨k+1,?_,?_,⟨rfl,trivial⟩,uK,Ab _⟩
 refine ⟨by omega,?_⟩
 rw [hg,zap,if_neg (by simp_all)];rfl
 dsimp only;omega
 have hnk:l.length<=k:=by omega
 obtain rfl:k=l.length:=by omega
 rw [zz (Ae _)] at hg;refine gz2 ?_;refine zp ?_;refine gz6 ?_;refine uRp ?_
 (rw [hg];rfl)
theorem znF [Tracks] {l:List Str} {fid:FuncId} {caps:List HVal} {p:Str->Bool} (hca:Callable prog fid) (hp: ∀x∈l,ConP prog fid ([HVal.str x]++caps) (.bool (p x))) (hl:l.length<=1000000):ConP prog 154 [.slice 1 (l.map HVal.str),.fn (.func fid) [] caps] (.bool (l.any p)):=by
 refine uOb func154 ntmps154 ?_;refine gz6 ?_;refine dq (uCl zyW rfl (zqt hca hp hl)) ?_;refine gz4 ?_;refine zx rfl ?_
 congr 1;exact zcu p l 0 uO
theorem ziE [Tracks] {x:GameS}:ConP prog 42 [zaO x] (.bool x.Played):=by
 refine uOb func42 ntmps42 ?_;refine zaD ?_;refine zx rfl ?_
 rfl
theorem zf8 [Tracks] {g:LeagueS} (hT:Tracks.on=false) (hb:LeaB g) (hg: ∀x∈g.Games,GamB x) (ht: ∀s∈g.Trust,Sh s):ConP prog 6 [zaE g] (.int .i64 (zbe g)):=by
 have hst:=hb.sta;refine uOb func6 ntmps6 ?_;refine gz8 ?_;refine dq (uCl ca33 rfl (zjh (l:=g.Players) hT hb.pl hb.nm hb.po)) ?_;refine gz6 ?_;refine uCo (fun h1=> ?_) fun h2=> ?_
 refine gz5 ?_;refine uRp ?_;exact congrArg _ (zrC (by assumption));refine gz3 ?_;refine zw (fun _=>True) [] mixed ?_;refine gz4 ?_;refine uB 4 rfl (uCl ca34 rfl (zjI (L:=g.Players) (l:=g.Stints) hb.pl hb.st)) ?_;refine gz2 ?_;refine uB 7 rfl (uCl ca35 rfl (ziI (l:=g.Fixtures) hb.fx)) ?_;refine gz2 ?_;refine uB 10 rfl (uCl ca36 rfl (zkd (l:=g.Rules) hb.ru hb.rw')) ?_;refine gz2 ?_;refine uB 13 rfl (uCl ca37 rfl (zkg (l:=g.Slots) hb.sl hb.sp)) ?_;refine gz1 ?_;refine uB 15 rfl (zae (h':=zgp g.Bounds) (zaB zgj rfl rfl (Ah rfl)) rfl) ?_;refine uB 16 rfl (uCl ca38 rfl (zjG (b:=g.Bounds))) ?_;refine gz2 ?_;refine uB 19 rfl (uCl ca39 rfl (zgo (l:=g.Teams) hb.tm)) ?_;refine uB 20 rfl (zb (hs:=[_,_,_,_,_,_]) zdr zds rfl rfl (by decide) (by decide) rfl) ?_;refine uB 21 rfl (uCl zri rfl (zc1 (l:=[_,_,_,_,_,_]) (by simp))) ?_;refine gz6 ?_;refine uCo (fun h3=> ?_) fun h4=> ?_
 refine gz5 ?_;refine uRp ?_;exact congrArg _ (zxn (by assumption) (by assumption));refine gz3 ?_;have hB:zit g=0:=by assumption
 have hgt:=zwE (l:=g.Games) (zvg hB);refine gz5 ?_;refine dq (zae (uCl ca40 rfl (zka (T:=g.Teams) (l:=g.Games) hb.tm hb.ga hg)) (congrArg (HVal.int .i64) hgt)) ?_;refine gz6 ?_;refine uCo (fun h5=> ?_) fun h6=> ?_
 refine gz5 ?_;refine uRp ?_;exact congrArg _ (zxo (by assumption) hB (by assumption));refine gz6 ?_;refine dq (uCl zuP rfl (zbH (l:=g.Games) (p:=fun x=>x.Played) ca42 (fun _=>ziE) hb.ga)) ?_;refine gz1 ?_;refine uCo (fun h7=> ?_) fun h8=> ?_
 refine gz4 ?_;refine uRp ?_;exact congrArg _ (zxp (by assumption) hB (by assumption) (by unfold zdA;simp_all));refine gz3 ?_;refine zw (fun _=>True) [] mixed ?_;refine gz2 ?_;refine uB 2 rfl (uCl ca43 rfl (zjH (l:=g.Breaks) hb.br)) ?_;refine gz2 ?_;refine uB 5 rfl (uCl ca44 rfl (zj8 (l:=g.Trust) hb.tr ht)) ?_;refine gz2 ?_;refine uB 8 rfl (uCl zrj rfl zb8) ?_;refine uB 9 rfl (zb (hs:=[_,_,_]) zdr zds rfl rfl (by decide) (by decide) rfl) ?_;refine uB 10 rfl (uCl zri rfl (zc1 (l:=[_,_,_]) (by simp))) ?_;refine gz6 ?_;refine uCo (fun h9=> ?_) fun h10=> ?_
 refine gz5 ?_;refine uRp ?_;exact congrArg _ (zxq (by assumption) hB (by assumption) (by unfold zdA;simp_all) (by assumption));refine gz8 ?_;refine uCo (fun h11=> ?_) fun h12=> ?_
 refine gz4 ?_;refine uRp ?_
 (rw [zuf (by assumption) hB (by assumption) (by unfold zdA;simp_all) (by assumption),if_pos uO])
 refine gz6 ?_;refine uRp ?_
 (rw [zuf (by assumption) hB (by assumption) (by unfold zdA;simp_all) (by assumption),if_neg uO])
theorem zdm [Tracks] {a b:ChoiceS}:ConP prog 155 [zk a,zk b] (.int .i64 (zaQ a b)):=by
 refine uOb func155 ntmps155 ?_;refine gz5 ?_;refine zw (fun _=>True) [] mixed ?_;refine gz4 ?_;refine uB 4 rfl (uCl zcM rfl z6) ?_;refine gz4 ?_;refine uB 9 rfl (uCl zcN rfl zZ) ?_;refine gz4 ?_;refine uB 14 rfl (uCl zcN rfl zZ) ?_;refine uB 15 rfl (zb (hs:=[_,_,_]) zac ty3 rfl rfl (by decide) (by decide) rfl) ?_;refine uB 16 rfl (uCl zf0 rfl (zbw (l:=[_,_,_]) (by simp))) ?_;refine gz3 ?_;refine zx rfl ?_
 rfl
theorem zeZ [Tracks] {s:Str} (hs:Sh s):ConP prog 153 [.str s] (.bool (!(zb2 s))):=by
 refine uOb func153 ntmps153 ?_;refine gz8 ?_;refine dg rfl rfl (fun hc=>⟨_,OpenTo.upd (t:=6) rfl (hc) (OpenTo.refl _),uCl ziJ rfl (zbR hs)⟩) ?_;refine gz5 ?_;refine zx rfl ?_
 show HVal.bool _=_
 rw [zum]
 cases s with
 |nil=>rfl
 |cons x r=>simp
theorem zjd [Tracks] {g:LeagueS} {l:List ChoiceS} (hb:LeaB g) (hl:l.length<=1000000) (hp: ∀x∈l,x.Players.length<=1000000) (hcs: ∀x∈l,(∀s∈x.Players,Sh s)/\Sh x.Captain):ConP prog 65 [zaE g,zdM l] (.int .i64 (zrm g.Teams g.Slots.length l)):=by
 refine uOb func65 ntmps65 ?_;refine zaD ?_;refine uCo (fun h1=> ?_) fun h2=> ?_
 refine gz4 ?_;refine uRp ?_
 (refine congrArg _ (zcF ?_)
  omega)
 refine zcc ?_;refine uV1 [4,1,6,2,13,56] (fun (k:Nat)=>[(13,.int .i64 k)]) (fun (k:Nat)=>[]) (fun (k:Nat)=>k<=l.length/\(zbc (zb0 g.Teams g.Slots.length) zf1 l 0 l=zbc (zb0 g.Teams g.Slots.length) zf1 l k (l.drop k))) (fun (k:Nat)=>l.length-k) (0) ?_ ?_ ?_ ?_;exact ⟨Ad _,rfl⟩;exact ⟨rfl,trivial⟩;exact Ab _
 intro k hinv
 obtain ⟨hk,hg⟩:=hinv;refine gz4 ?_;refine uCo (fun h3=> ?_) fun h4=> ?_
 obtain ⟨x,hx⟩: ∃x,l[k]? =some x:=⟨_,Aa h3⟩
 have hdx:=zi hx;rw [hdx] at hg;refine gz6 ?_;refine dq (zl zaa zR rfl rfl rfl (by assumption)) ?_;refine gz1 ?_;refine de rfl (zq zR rfl fun b7=> ?_)
 refine gz1 ?_;refine de0 (zJ zR rfl rfl rfl rfl rfl ?_)
 refine gz1 ?_;refine zf (zA 7 rfl) ?_;refine gz1 ?_;have hwk: ∀n:Int,((if zef n then (0:Int) else 1)=0)↔zef n=true:=fun n=>by cases zef n<;>simp
 have hmo: ∀n:Int,((if zau n then (0:Int) else 1)=0)↔zau n=true:=fun n=>by cases zau n<;>simp
 refine gz5 ?_;refine dq (uCl zjR rfl (zaH (l:=g.Teams) (s:=x.Team) (by have:=hb.tm;omega))) ?_;refine gz3 ?_;refine uCo (fun h5=> ?_) fun h6=> ?_
 refine gz4 ?_;refine uRp ?_
 (refine congrArg _ (zQ (e:=8) ?_ hg ?_ ?_)
  omega
  unfold zb0
  (try generalize ((x.Players++[x.Captain]).all zb2)=N at*)
  exact uT
  first|decide|assumption)
 refine gz3 ?_;refine dq (uCl zs1 rfl zeu) ?_;refine gz4 ?_;refine dg rfl rfl (fun hc=>⟨_,OpenTo.upd (t:=32) rfl (hc) (OpenTo.refl _),uCl zrj rfl zb8⟩) ?_;refine gz4 ?_;refine uCo (fun h7=> ?_) fun h8=> ?_
 refine gz4 ?_;refine uRp ?_
 (refine congrArg _ (zQ (e:=1) ?_ hg ?_ ?_)
  omega
  unfold zb0
  (try generalize ((x.Players++[x.Captain]).all zb2)=N at*)
  exact uT
  first|decide|assumption)
 refine gz3 ?_;refine dq (zaq (f:=HVal.str) (l:=x.Players) zH rfl) ?_;refine gz2 ?_;refine dq (zaq (f:=za4) (l:=g.Slots) zcn rfl) ?_;refine gz3 ?_;refine uCo (fun h9=> ?_) fun h10=> ?_
 refine gz4 ?_;refine uRp ?_
 (refine congrArg _ (zQ (e:=3) ?_ hg ?_ ?_)
  omega
  unfold zb0
  (try generalize ((x.Players++[x.Captain]).all zb2)=N at*)
  exact uT
  first|decide|assumption)
 refine gz4 ?_;refine dq (uCl zx3 rfl (znF (l:=x.Players) (p:=fun s=> !(zb2 s)) zvU (fun s hs=>zeZ ((hcs x (Ac hx)).1 s hs)) (hp x (Ac hx)))) ?_;refine gz4 ?_;refine dg rfl rfl (fun hc=>⟨_,OpenTo.upd (t:=52) rfl (hc) (OpenTo.upd (t:=50) rfl (hc) (OpenTo.refl _)),z7 zvU rfl rfl (WeakL.refl _) (zeZ (hcs x (Ac hx)).2)⟩) ?_;refine gz3 ?_;refine uCo (fun h11=> ?_) fun h12=> ?_
 have hbad:((x.Players++[x.Captain]).all zb2)=false:=zse (by assumption);refine gz4 ?_;refine uRp ?_
 (refine congrArg _ (zQ (e:=5) ?_ hg ?_ ?_)
  omega
  unfold zb0
  (try generalize ((x.Players++[x.Captain]).all zb2)=N at*)
  exact uT
  first|decide|assumption)
 have hgood:((x.Players++[x.Captain]).all zb2)=true:=by rw [zun];simp_all
 have htu:=zuV (x:=x) (p:=l.getD (k-1) zf1);refine zw (fun _=>True) [] mixed ?_;refine gz6 ?_;refine ahg 6 rfl rfl (by kernel_rfl) (by kernel_rfl) rfl (fun hc=>by have hq:=hc;(try simp at hq);exact ⟨_,OpenTo.upd (t:=61) rfl (hc) (OpenTo.upd (t:=59) rfl (hc) (OpenTo.refl _)),zl (j:=k-1) (a:=l.getD (k-1) zf1) zaa zR rfl rfl uO (getD_some uO)⟩) ?_;refine gz2 ?_;refine ahg 9 rfl rfl (by kernel_rfl) (by kernel_rfl) rfl (fun hc=>⟨_,OpenTo.upd (t:=64) rfl (hc) (OpenTo.upd (t:=63) rfl (hc) (OpenTo.refl _)),uCl zqK rfl zdm⟩) ?_;refine gz4 ?_;refine uCo (fun h13=> ?_) fun h14=> ?_
 refine gz4 ?_;refine uRp ?_
 (refine congrArg _ (zQ (e:=7) ?_ hg ?_ ?_)
  omega
  unfold zb0
  (try generalize ((x.Players++[x.Captain]).all zb2)=N at*)
  exact uT
  first|decide|assumption)
 refine gz8 ?_;refine ⟨k+1,?_,?_,⟨rfl,trivial⟩,uK,Ab _⟩
 refine ⟨by omega,?_⟩
 rw [hg,zbi (by unfold zb0;(try generalize ((x.Players++[x.Captain]).all zb2)=N at*);(try clear hdx hg);(try simp only [Ai]);focus first|(simp_all;done)|((repeat' split)<;>focus first|rfl|(exfalso;omega)|(simp_all;done)|(exfalso;rcases ‹_\/_› with q|q<;>simp_all;done)|(exfalso;simp_all;omega)))]
 dsimp only;omega
 have hnk:l.length<=k:=by omega
 obtain rfl:k=l.length:=by omega
 rw [zz (Ae _)] at hg;refine gz2 ?_;refine zp ?_;refine gz6 ?_;refine uRp ?_
 (refine congrArg _ (zcq ?_ hg)
  omega)
theorem zet [Tracks] {b:BookS} (hT:Tracks.on=false) (hb:BookC b):ConP prog 9 [zan b] (.int .i64 (zbS b)):=by
 refine uOb func9 ntmps9 ?_;refine gz7 ?_;refine dq (zae (h':=zaE b.League) (zaB zax rfl rfl (Ah rfl)) rfl) ?_;refine dq (uCl ca6 rfl (zf8 (g:=b.League) hT hb.bb.lea hb.gw hb.tr)) ?_;refine gz6 ?_;refine uCo (fun h1=> ?_) fun h2=> ?_
 refine gz5 ?_;refine uRp ?_;unfold zbS
 (rw [if_pos (by assumption)])
 refine gz2 ?_;refine zw (fun _=>True) [] mixed ?_;refine gz2 ?_;refine uB 2 rfl (uCl ca61 rfl (zkb (l:=b.Moves) hb.bb.mv hb.mb)) ?_;refine gz2 ?_;refine uB 5 rfl (uCl ca62 rfl (zgl (l:=b.Plays) hb.bb.pl hb.pg)) ?_;refine gz2 ?_;refine uB 8 rfl (uCl ca63 rfl (zj7 (m:=b.Mends) hb.bb.me hb.mg)) ?_;refine gz5 ?_;refine uB 14 rfl (uCl ca64 rfl (zf9 (L:=b.League.Players) (l:=b.Health) hb.bb.lea.pl hb.bb.he hb.hw)) ?_;refine gz1 ?_;refine uB 16 rfl (zae (h':=zaE b.League) (zaB zax rfl rfl (Ah rfl)) rfl) ?_;refine gz2 ?_;refine uB 19 rfl (uCl ca65 rfl (zjd (g:=b.League) (l:=b.Choices) hb.bb.lea hb.bb.ch hb.bb.cp hb.cs)) ?_;refine uB 20 rfl (zb (hs:=[_,_,_,_,_]) zdr zds rfl rfl (by decide) (by decide) rfl) ?_;refine uB 21 rfl (uCl zri rfl (zc1 (l:=[_,_,_,_,_]) (by simp))) ?_;refine gz3 ?_;refine uRp ?_;unfold zbS
 (rw [if_neg (fun q=>q h2)])
theorem zh9 [Tracks] {g:LeagueS} {w:Int} (hs: -1000000000000000<=g.Start/\g.Start<=1000000000000000) (hw: -1000<=w/\w<=1000):ConP prog 68 [zaE g,.int .i64 w] (.int .i64 (zcj g w)):=by
 refine uOb func68 ntmps68 ?_;refine gz9 ?_;refine dq (zbP rfl rfl uO uO) ?_;refine gz4 ?_;refine zx rfl ?_
 rfl
theorem zmf [Tracks] {g:LeagueS} {a:Int} (hs: -1000000000000000<=g.Start/\g.Start<=1000000000000000):ConP prog 13 [zaE g,.int .i64 a] (.int .i64 (zbK g a)):=by
 refine uOb func13 ntmps13 ?_;refine gz9 ?_;refine uV1 [4,20] (fun (w:Nat)=>[(5,.int .i64 ((w:Int)+1))]) (fun (w:Nat)=>[]) (fun (w:Nat)=>w<=60/\∀v:Int,1<=v->v<=w->¬(zcj g v<=a/\a<zcj g (v+1))) (fun (w:Nat)=>60-w) (0) ?_ ?_ ?_ ?_;exact ⟨Ad _,fun v h1 h2=>by omega⟩;exact ⟨rfl,trivial⟩;exact Ab _
 intro w hinv
 obtain ⟨hw,hv⟩:=hinv;refine gz5 ?_;refine uCo (fun h1=> ?_) fun h2=> ?_
 refine gz5 ?_;refine dq (zad (h:=zaE g) zax rfl rfl rfl rfl) ?_;refine gz1 ?_;refine dq (uCl ca68 rfl (zh9 hs uO)) ?_;refine gz4 ?_;refine dg rfl rfl (fun hc=>⟨_,OpenTo.refl _,zad (h:=zaE g) zax rfl rfl rfl rfl⟩) ?_;refine gz2 ?_;refine dg rfl rfl (fun hc=>by have hq:=hc;(try simp at hq);exact ⟨_,OpenTo.upd (t:=19) rfl (hc) (OpenTo.upd (t:=17) rfl (hc) (OpenTo.refl _)),uCl ca68 rfl (zh9 hs uO)⟩) ?_;refine gz3 ?_;refine uCo (fun h3=> ?_) fun h4=> ?_
 refine gz5 ?_;refine uRp ?_
 (refine congrArg _ (zxd uO uO ?_ ?_).symm<;>simp_all)
 refine gz8 ?_;refine ⟨w+1,?_,?_,⟨rfl,trivial⟩,uK,Ab _⟩
 refine ⟨by omega,fun v h1 h2=> ?_⟩
 by_cases e:v<=w
 exact hv v h1 e;obtain rfl:v=(w:Int)+1:=by omega
 simp_all
 dsimp only;omega
 obtain rfl:w=60:=by omega
 refine gz2 ?_;refine zp ?_;refine gz6 ?_;refine uRp ?_
 (rw [zuD (fun v h1 h2=>hv v h1 uO)])
end
end Go.Proofs.YtbbpommdmnjfmaaGreatDoor
