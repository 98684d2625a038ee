/- Part 3 of the proof: a program logic, contracts of functions and plain facts; no conditions. -/
import Derived.Test.YtpgopgjleokciaaGreatDoorQTopPointsAndMissed2
import Derived.Ground.GgzProg
import Derived.Ground.Names2Prog
import Derived.Ground.SlgmProg
import Derived.Ground.SlmcProg
import Derived.Ground.SlsfProg
import Derived.Lib.AppendStr
import Derived.Lib.Join
import Derived.Lib.SplitLaws
import Derived.Lib.UnsafeStr
import Derived.Shelf.SlIter.Collect
import Derived.Shelf.SlIter.Keys
import Derived.Shelf.SlIter.Sorted
import Derived.Shelf.SlMaps.Clone
import Derived.Shelf.SlSortCmp.NoneTotal
import Derived.Shelf.Slices.CompactS
import Derived.Shelf.Slices.Delete
import Derived.Shelf.Small.Wraps
import Derived.Shelf.Sort.Plain
import Derived.Shelf.SortM.Plain
import Derived.Shelf.SortM.SortNone
import Derived.Shelf.Spec.SlicesInsert
import Derived.Shelf.Spec.SlicesInsertGrow
import Derived.Shelf.Strconv.Atoi
import Derived.Shelf.Strconv.Itoa3
import Derived.Shelf.Strings.Builder1
import Derived.Shelf.Strings.Cut
import Derived.Shelf.Strings.FieldsFuncAny
import Derived.Shelf.Strings.OnBuilder
import Derived.Shelf.Strings.Prefix
import Derived.Shelf.Strings.Search3
import Derived.Shelf.Strings.Split
import Derived.Shelf.Unicode.ValidAny
import Derived.Test.YtpgopgjleokciaaGreatDoorProg
set_option linter.unusedVariables false
set_option linter.unusedSimpArgs false
set_option maxHeartbeats 16000000
namespace Go.HL
section
open Op
structure BookS where
 League:LeagueS
 Moves:List MoveS
 Plays:List Play
 Mends:List MendS
 Health:List HealthS
 Choices:List ChoiceS
abbrev zwS (b:BookS):List HVal:=[zbj b.League.Players,zfA b.League.Stints,zmM b.League.Fixtures,zgd b.League.Rules,zbt b.League.Slots,.int .i64 b.League.Bounds.Most,.int .i64 b.League.Bounds.Hurt,.int .i64 b.League.Bounds.Adds,.int .i64 b.League.Bounds.Hold,
 eSs b.League.Teams,zlZ b.League.Games,eIs b.League.Breaks,eSs b.League.Trust,.int .i64 b.League.Start,zck b.Moves,zbE b.Plays,zca b.Mends,zcc b.Health,zkk b.Choices]
abbrev zcg (b:BookS):HVal:= .agg (zwS b)
def zkM (a b:ChoiceS):Int:=orI [zY a.Team b.Team,zaj a.Week b.Week,zaj a.At b.At]
def zbS (s:Str):Bool:=s==[]||key s
def zbV (T:List Str) (n:Nat) (k:Nat) (x p:ChoiceS):Int:=
 if T.contains x.Team=false then 8 else if zaQ x.Week=false\/zaa x.At=false then 1 else if x.Players.length≠n then 3
 else if ((x.Players++[x.Captain]).all zbS)=false then 5 else if 0<k/\zkM x p<=0 then 7 else 0
def zmK (T:List Str) (n:Nat) (l:List ChoiceS):Int:=zd2 1000 (zbV T n) zdP l
def zh2 (g:LeagueS):Int:=orI [zkw g.Players g.Stints,zjj g.Fixtures,zgM g.Rules,zdn g.Slots,zdU g.Bounds,zfJ g.Teams g.Games]
def zlz (g:LeagueS):Int:=orI [zit g.Breaks,zcb g.Trust]
def zc6 (l:List GameS):Bool:=l.any (·.Played)
def zcu (g:LeagueS):Int:=
 if zh2 g≠0 then zh2 g else if zc6 g.Games=true then 11 else if zlz g≠0 then zlz g
 else if zaa g.Start=false\/345686400000<g.Start+36288000000 then 1 else 0
def zda (b:BookS):Int:=if zcu b.League≠0 then zcu b.League else orI [zfi b.Moves,zbT b.Plays,zbu b.Mends,zor b.League.Players b.Health,zmK b.League.Teams b.League.Slots.length b.Choices]
theorem zcM: ∀{a b:List Int},orI (a++b)=if orI a≠0 then orI a else orI b
 |[],b=>by simp [orI]
 |x::a,b=>by
   rw [AY,orI,orI,zcM]
   by_cases h:x≠0
   rw [if_pos h,if_pos h,if_pos h];rw [if_neg h,if_neg h]
theorem zAt {a r:List Int}:orI (orI a::r)=orI (a++r):=by rw [zcM,orI]
theorem zrV (g:LeagueS):zh2 g=orI ([zcN g.Players]++([zjl g.Players g.Stints,zjj g.Fixtures,zgM g.Rules,zdn g.Slots,zdU g.Bounds,zdo g.Teams]++[zed g.Teams g.Games])):=by
 have e1:zkw g.Players g.Stints=orI [zcN g.Players,zjl g.Players g.Stints]:=by rw [zef];rfl
 have e2:zfJ g.Teams g.Games=orI [zdo g.Teams,zed g.Teams g.Games]:=by rw [zef];rfl
 unfold zh2;rw [e1,zAt]
 show orI [zcN g.Players,zjl g.Players g.Stints,zjj g.Fixtures,zgM g.Rules,zdn g.Slots,zdU g.Bounds,zfJ g.Teams g.Games]=orI [zcN g.Players,zjl g.Players g.Stints,zjj g.Fixtures,zgM g.Rules,zdn g.Slots,zdU g.Bounds,zdo g.Teams,zed g.Teams g.Games]
 have e3: ∀l:List Int,orI (l++[zfJ g.Teams g.Games])=orI (l++[zdo g.Teams,zed g.Teams g.Games]):=fun l=>by
  rw [zcM,zcM,e2]
  congr 1
  rw [orI]
  split
  rfl
  rename_i h;have h0:orI [zdo g.Teams,zed g.Teams g.Games]=0:=by simpa using h
  rw [h0];rfl
 exact e3 [zcN g.Players,zjl g.Players g.Stints,zjj g.Fixtures,zgM g.Rules,zdn g.Slots,zdU g.Bounds]
theorem zyK {g:LeagueS} (h:zcN g.Players≠0):zcN g.Players=zcu g:=by
 have e:zh2 g=zcN g.Players:=by rw [zrV,zcM,zCU,if_pos h]
 rw [zcu,e,if_pos h]
def zjk (g:LeagueS):Int:=orI [zjl g.Players g.Stints,zjj g.Fixtures,zgM g.Rules,zdn g.Slots,zdU g.Bounds,zdo g.Teams]
theorem zDK {g:LeagueS} (h:zcN g.Players=0) (h2:zjk g≠0):zjk g=zcu g:=by
 have e:zh2 g=zjk g:=by
  rw [zrV,zcM,if_neg (by simp [orI,h]),zcM];exact if_pos h2
 rw [zcu,e,if_pos h2]
theorem ztK {g:LeagueS} (h:zcN g.Players=0) (h2:zjk g=0):zh2 g=zed g.Teams g.Games:=by
 rw [zrV,zcM,if_neg (by simp [orI,h]),zcM,if_neg (by rw [show orI [zjl g.Players g.Stints,zjj g.Fixtures,zgM g.Rules,zdn g.Slots,zdU g.Bounds,zdo g.Teams]=zjk g from rfl,h2];simp)];rw [orI]
 split
 rfl
 rename_i h;simp at h;rw [h];rfl
theorem zAc {g:LeagueS} (h2:zjk g=0):zdo g.Teams=0:=by
 unfold zjk at h2;have e:([zjl g.Players g.Stints,zjj g.Fixtures,zgM g.Rules,zdn g.Slots,zdU g.Bounds,zdo g.Teams]:List Int)=[zjl g.Players g.Stints,zjj g.Fixtures,zgM g.Rules,zdn g.Slots,zdU g.Bounds]++[zdo g.Teams]:=rfl;rw [e,zcM] at h2
 split at h2
 contradiction
 rw [orI] at h2
 split at h2
 contradiction
 rename_i h;simpa using h
theorem zCq {T:List Str} {l:List GameS} (h:zdo T=0):zfJ T l=zed T l:=by rw [zfJ,if_neg (by simp [h])]
theorem zDL {g:LeagueS} (h:zcN g.Players=0) (h2:zjk g=0) (h3:zed g.Teams g.Games≠0):zed g.Teams g.Games=zcu g:=by
 rw [zcu,ztK h h2,if_pos h3]
theorem zDM {g:LeagueS} (h:zcN g.Players=0) (h2:zjk g=0) (h3:zed g.Teams g.Games=0) (h4:zc6 g.Games=true):11=zcu g:=by
 rw [zcu,ztK h h2,if_neg (by simp [h3]),if_pos h4]
def zuM (g:LeagueS):Int:=orI [zit g.Breaks,zcb g.Trust,if zaa g.Start then 0 else 1]
theorem zwh (g:LeagueS):zuM g=if zlz g≠0 then zlz g else if zaa g.Start=false then 1 else 0:=by
 unfold zuM zlz;rw [show ([zit g.Breaks,zcb g.Trust,if zaa g.Start then 0 else 1]:List Int)=[zit g.Breaks,zcb g.Trust]++[if zaa g.Start then 0 else 1] from rfl,zcM]
 congr 1
 rw [orI]
 cases zaa g.Start<;>rfl
theorem zDN {g:LeagueS} (h:zcN g.Players=0) (h2:zjk g=0) (h3:zed g.Teams g.Games=0) (h4:zc6 g.Games=false) (h5:zuM g≠0):zuM g=zcu g:=by
 rw [zcu,ztK h h2,if_neg (by simp [h3]),if_neg (by rw [h4];simp)];rw [zwh] at h5⊢
 split
 rfl
 rename_i h6
 rw [if_neg h6] at h5
 cases h7:zaa g.Start with
 |false=>simp
 |true=>rw [h7] at h5;simp at h5
theorem zyL {g:LeagueS} (h:zcN g.Players=0) (h2:zjk g=0) (h3:zed g.Teams g.Games=0) (h4:zc6 g.Games=false) (h5:zuM g=0):zcu g=if 345686400000<g.Start+36288000000 then 1 else 0:=by
 rw [zcu,ztK h h2,if_neg (by simp [h3]),if_neg (by rw [h4];simp)];rw [zwh] at h5
 split at h5
 contradiction
 rename_i h6
 rw [if_neg h6]
 cases h7:zaa g.Start with
 |false=>rw [h7] at h5;simp at h5
 |true=>simp
def zdg:List Str:=[[77,97,114,121,32,74,111,32,83,109,105,116,104],[77,97,120,32,77,97,114,116,105,110],[74,111],[65,110,97,32,77,97,114,105,97,32,77,97],[79,39,78,101,105,108,32,109],[90,111,195,171,32,77,97]]
/-! what generated leagues and books are-/
end
section
open Op
def zfP (N:List Str) (s:Str):Int:=if N.contains s=true then ((zbU N s:Nat):Int) else-1
theorem zsr {N:List Str} {s:Str}:zfP N s<0↔N.contains s=false:=by
 unfold zfP
 cases N.contains s with
 |true=>simp
 |false=>simp
theorem zyh {l:List PlayerS} {s:Str} {i:Nat}:(bif decide ((i:Int)<(l.length:Int)) then zY (l.getD i zen).Key s==0 else false)=((l.map (·.Key))[i]? ==some s):=by
 by_cases h:i<l.length
 obtain ⟨x,hx⟩: ∃x,l[i]? =some x:=⟨_,Aa h⟩
 have e:l.getD i zen=x:=by rw [Ae,hx];rfl
 rw [Ag,hx,e];have h2:(i:Int)<(l.length:Int):=by omega
 simp only [h2,decide_true,cond_true,AI];rw [AF]
 simp [zbn]
 have h2: ¬(i:Int)<(l.length:Int):=by omega
 rw [Ax (by simpa using Nat.le_of_not_lt h)]
 simp [h2]
theorem zq6 {L:List PlayerS} {s:Str}:zW (fun x:PlayerS=>x.Key==s) L 0<0↔zgA L s=false:=by
 have h:=zdd (fun x:PlayerS=>x.Key==s) L 0 (by omega);have e:L.any (fun x:PlayerS=>x.Key==s)=zgA L s:=by
  unfold zgA;rw [AF,Cu,B2,List.mem_map]
  constructor
  rintro ⟨x,h1,h2⟩;exact ⟨x,h1,by simpa using h2⟩;rintro ⟨x,h1,h2⟩;exact ⟨x,h1,by simpa using h2⟩
 rw [e] at h
 constructor
 intro q;rw [<-h];simp;omega
 intro q;rw [q] at h;simp at h;omega
theorem zm0 {l:List PlayerS} (h:zcN l=0):SortedS (l.map (·.Key)):=by
 obtain ⟨_,h2⟩:=zfD h;have nx: ∀(j:Nat) (x y:Str),(l.map (·.Key))[j]? =some x->(l.map (·.Key))[j+1]? =some y->bytesLess x y=true:=by
  intro j x y hx hy
  rw [Ag] at hx hy;obtain ⟨a,ha,rfl⟩:=Option.map_eq_some_iff.1 hx;obtain ⟨b,hb,rfl⟩:=Option.map_eq_some_iff.1 hy;have:=h2 (j+1) b hb;have ed:l.getD (j+1-1) zen=a:=by rw [Nat.add_sub_cancel,Ae,ha];rfl
  rw [ed] at this;unfold zcR at this
  split at this
  omega
  split at this
  omega
  rename_i h3
  have h4:leB b.Key a.Key=false:=by
   cases e:leB b.Key a.Key with
   |false=>rfl
   |true=>exact absurd ⟨by omega,e⟩ h3
  unfold leB at h4;rw [A9] at h4
  rcases zb6 a.Key b.Key with q|q|q
  exact q;rw [q] at h4;simp at h4;rw [q] at h4;cases h4.1
 exact zme nx
/-! games-/
def zjJ (l:List GameS):List ((Str×Int)×Bool):=l.foldl (fun L x=>zC (x.Away,x.Week) true (zC (x.Home,x.Week) true L)) []
def ofG (t:Str) (w:Int) (y:GameS):Bool:=y.Week==w&&(y.Home==t||y.Away==t)
theorem zzh {l:List GameS} {x:GameS}:zjJ (l++[x])=zC (x.Away,x.Week) true (zC (x.Home,x.Week) true (zjJ l)):=by unfold zjJ;rw [Bc];rfl
theorem zsU {t:Str} {w:Int}: ∀{l:List GameS} {L:List ((Str×Int)×Bool)},(alk (t,w) (l.foldl (fun L x=>zC (x.Away,x.Week) true (zC (x.Home,x.Week) true L)) L)).getD false=((alk (t,w) L).getD false||l.any (ofG t w))
 |[],L=>by simp
 |x::l,L=>by
   rw [Bw,zsU,BH,<-Ct]
   congr 1
   rw [zdO,zdO];unfold ofG
   by_cases h1:(t,w)=(x.Away,x.Week)
   rw [if_pos h1]
   cases h1
   simp
   rw [if_neg h1]
   by_cases h2:(t,w)=(x.Home,x.Week)
   rw [if_pos h2]
   cases h2
   simp
   rw [if_neg h2];have e:(x.Week==w&&(x.Home==t||x.Away==t))=false:=by
    rw [Cs]
    intro h
    simp at h
    rcases h.2 with q|q
    exact h2 (by rw [h.1,q]);exact h1 (by rw [h.1,q])
   rw [e,Bs]
theorem zwB {t:Str} {w:Int} {l:List GameS}:(alk (t,w) (zjJ l)).getD false=l.any (ofG t w):=by
 unfold zjJ;rw [zsU];rfl
theorem zyk {l:List GameS} {x:GameS}:l.any (zi7 x)=(l.any (ofG x.Home x.Week)||l.any (ofG x.Away x.Week)):=by
 induction l with
 |nil=>rfl
 |cons y l ih=>
   rw [BH,BH,BH,ih];unfold zi7 ofG
   cases y.Week==x.Week<;>cases y.Home==x.Home<;>cases y.Home==x.Away<;>cases y.Away==x.Home<;>cases y.Away==x.Away<;>simp
def zkj (l:List GameS) (k:Nat):Bool:=(List.range k).any fun i=>(l.take i).any (zi7 (l.getD i zes))
theorem zus {l:List GameS} {k:Nat} {x:GameS} (h:l[k]? =some x):zkj l (k+1)=(zkj l k||(l.take k).any (zi7 x)):=by
 unfold zkj;rw [List.range_succ,List.any_append,BH,List.any_nil,Bs,Ae,h];rfl
theorem zur {l:List GameS}: ∀{r:List GameS} {k:Nat},l.drop k=r->k<=l.length->(zkj l k||zdY l k r)=zkj l l.length
 |[],k,hd,hk=>by
   have:l.length<=k:=by simpa using hd
   have e:k=l.length:=by omega
   subst e;rw [zdY,Bs]
 |x::r,k,hd,hk=>by
   have hx:l[k]? =some x:=by have:=congrArg (fun q:List GameS=>q[0]?) hd;simpa using this
   have hkl:=zp hx;rw [zdY,<-Ct,<-zus hx];exact zur (by rw [<-Bl (i:=1),hd];rfl) (by omega)
theorem zCi {l:List GameS}:zdY l 0 l=zkj l l.length:=by
 have:=zur (l:=l) (r:=l) (k:=0) rfl (Ad _);rw [<-this];rfl
end
section
open Op
theorem zom {a b:Nat}:Nat.gcd b (a%b)=Nat.gcd a b:=by rw [Nat.gcd_comm b,<-Nat.gcd_rec,Nat.gcd_comm]
theorem zoB {s:Str} (h:s∈zdg):out (s.length:Int) 1 60=false:=by
 revert h;revert s;decide
structure LeaB (g:LeagueS):Prop where
 pl:g.Players.length<=1000000
 nm: ∀p∈g.Players,p.Name∈zdg
 po: ∀p∈g.Players,p.Positions.length<=1000000
 st:g.Stints.length<=1000000
 fx:g.Fixtures.length<=1000000
 ru:g.Rules.length<=1000000
 rw': ∀x∈g.Rules,(-1000000000<=x.Num/\x.Num<=1000000000)/\ -1000000000<=x.Den/\x.Den<=1000000000
 sl:g.Slots.length<=1000000
 sp: ∀x∈g.Slots,x.Positions.length<=1000000
 tm:g.Teams.length<=1000000
 ga:g.Games.length<=1000000
 gb: ∀x∈g.Games,((-1000000000<=x.FNum/\x.FNum<=1000000000)/\ -1000000000<=x.FDen/\x.FDen<=1000000000)/\(-1000000000<=x.ONum/\x.ONum<=1000000000)/\ -1000000000<=x.ODen/\x.ODen<=1000000000
 br:g.Breaks.length<=1000000
 tr:g.Trust.length<=1000000
 sta: -1000000000000000<=g.Start/\g.Start<=1000000000000000
structure BookB (b:BookS):Prop where
 lea:LeaB b.League
 mv:b.Moves.length<=1000000
 pl:b.Plays.length<=1000000
 me:b.Mends.length<=1000000
 he:b.Health.length<=1000000
 ch:b.Choices.length<=1000000
 cp: ∀x∈b.Choices,x.Players.length<=1000000
/-! slots,breaks-/
theorem zvk {l:List SlotS} (h0:l.length≠0) (h1: ¬12<l.length) (hg:zcO l 0 l=zcO l l.length []):0=zdn l:=by
 rw [zdn,if_neg h0,if_neg h1,hg];rfl
theorem ziH {l r:List SlotS} {k:Nat} {x:SlotS} {e:Int} (h0:l.length≠0) (h1: ¬12<l.length) (hg:zcO l 0 l=zcO l k (x::r)) (he:zcO l k (x::r)=e):e=zdn l:=by
 rw [zdn,if_neg h0,if_neg h1,hg,he]
theorem zv1 {l:List Int} (h1: ¬5<l.length) (hg:zep l 0 l=zep l l.length []):0=zit l:=by rw [zit,if_neg h1,hg];rfl
theorem zoW {l r:List Int} {k:Nat} {x:Int} {e:Int} (h1: ¬5<l.length) (hg:zep l 0 l=zep l k (x::r)) (he:zep l k (x::r)=e):e=zit l:=by rw [zit,if_neg h1,hg,he]
/-! names of a choice-/
theorem zCM {s:Str} (h1:s≠[]) (h2:key s=false):zbS s=false:=by
 unfold zbS;rw [h2,Bs,beq_eq_false_iff_ne];exact h1
theorem zCN {s:Str} (h:s≠[]->key s=true):zbS s=true:=by
 unfold zbS
 by_cases e:s=[]
 rw [e];rfl;rw [h e,Bool.or_true]
theorem zyX {l:List Str} {s:Str} (hs:s∈l) (h:zbS s=false):l.all zbS=false:=by
 rw [List.all_eq_false];exact ⟨s,hs,by rw [h];simp⟩
/-! games-/
def inC (l:List GameS) (x:GameS) (k j:Nat):Bool:=zkj l k||([x.Home,x.Away].take j).any fun t=>(l.take k).any (ofG t x.Week)
def inM (l:List GameS) (x:GameS) (k j:Nat):List ((Str×Int)×Bool):=([x.Home,x.Away].take j).foldl (fun L t=>zC (t,x.Week) true L) (zjJ (l.take k))
theorem zCy {l:List GameS} {x:GameS} {k j:Nat} {s:Str} (hne:x.Home≠x.Away) (hs:[x.Home,x.Away][j]? =some s):
 (inC l x k j||(alk (s,x.Week) (inM l x k j)).getD false)=inC l x k (j+1)/\zC (s,x.Week) true (inM l x k j)=inM l x k (j+1):=by
 match j,hs with
 |0,hs=>
   simp at hs;subst hs
   refine ⟨?_,rfl⟩
   unfold inC inM;simp only [List.take_zero,List.any_nil,Bs,List.foldl_nil,Cd,BH];rw [zwB]
 |1,hs=>
   simp at hs;subst hs
   refine ⟨?_,rfl⟩
   unfold inC inM;simp only [List.take_zero,List.any_nil,Bs,List.foldl_nil,Cd,BH,Bw];rw [zdO,if_neg (fun e=>by have e9:=congrArg Prod.fst e;first|exact hne e9|exact hne e9.symm),zwB,Ct]
theorem zwd {l:List GameS} {x:GameS} {k:Nat}:inC l x k 0=zkj l k/\inM l x k 0=zjJ (l.take k):=by
 unfold inC inM;simp
theorem zDG {l:List GameS} {x:GameS} {k:Nat} (hx:l[k]? =some x):inC l x k 2=zkj l (k+1)/\inM l x k 2=zjJ (l.take (k+1)):=by
 refine ⟨?_,?_⟩
 rw [zus hx,zyk];unfold inC
 simp
 rw [zaf hx,zzh];unfold inM
 simp
theorem zv9 {T:List Str} {l:List GameS} (hn: ¬1000<l.length) (hg:zaV (zcp T) zes l 0 l=zaV (zcp T) zes l l.length []):zed T l=if zkj l l.length=true then 13 else 0:=by
 have h0:zd2 1000 (zcp T) zes l=0:=(zbz hn hg).symm;rw [zed,h0,if_neg (by simp),zCi]
theorem zel {T:List Str} {l:List GameS} {e:Int} (h:e=zd2 1000 (zcp T) zes l) (h0:e≠0):e=zed T l:=by
 rw [zed,<-h,if_pos h0]
theorem zzq {m:Int} (h1: -18446744073709551616<=m) (h2:m<0):IntKind.wrap .u64 m=m+18446744073709551616:=by
 unfold IntKind.wrap
 simp [IntKind.bits,IntKind.signed]
 omega
theorem zDD {b:BookS} (h: ¬zcu b.League≠0):zoq b.League.Players b.Health=zor b.League.Players b.Health:=by
 have h0:zcu b.League=0:=by simpa using h
 have h1:zcN b.League.Players=0:=by
  refine Classical.byContradiction fun hq=> ?_
  have:=zyK hq;rw [h0] at this;exact hq this
 rw [zoq,if_neg (by simp [h1])]
end
section
open Go
def spl (c:UInt8):Str->List Str
 |[]=>[[]]
 |b::l=>if b=c then []::spl c l else match spl c l with
   |[]=>[[b]]
   |x::r=>(b::x)::r
def jn (c:UInt8):List Str->Str
 |[]=>[]
 |[x]=>x
 |x::r=>x++c::jn c r
theorem zCA {c:UInt8} {x:Str} {r:List Str} (h:r≠[]):jn c (x::r)=x++c::jn c r:=by
 cases r with
 |nil=>exact absurd rfl h
 |cons y r=>rfl
theorem zrS (c:UInt8): ∀l:List Str,Lib.join l [c]=jn c l
 |[]=>rfl
 |[x]=>Lib.join_one x [c]
 |x::y::r=>by
   rw [zCA (by simp),<-zrS c (y::r),Lib.join_cons,Lib.join_cons]
   simp [Lib.joinTail]
end
section
open Go.Proofs Go.RowKit Go.Maps Go.Sort Go.Shelf
section
variable {P:Program}
def zru (H:Type):Value->Option (DataW H×List MemPlace):=fun _=>some (.nil,[])
theorem zAj {I:Imm} {w:World} {b:Nat} {α:Type} {f:α->HVal} {L:List (Str×α)} (hm:MSat I w (.map b (sk (em f L)))):
 ∃es clk,w.heap[b]? =some (.map es clk)/\BornOk es clk/\es.size=L.length/\es.toList.map (·.key)=L.map fun p=>encStr p.1:=by
 obtain ⟨es,clk,h1,⟨h2,h4⟩,h3⟩:=hm;have hl:es.size=L.length:=by rw [h2];simp [sk]
 refine ⟨es,clk,h1,h4,hl,Bo fun i=> ?_⟩
 rw [Ag,Ag]
 rcases AD i L.length with h|h
 have a1:L[i]? =some L[i]:=Aa h;have a2:es[i]? =some es[i]:=Ar (by omega);have a3:(sk (em f L))[i]? =some (.str L[i].1,f L[i].2):=by simp [sk,a1]
 have a4:=(h3 i _ _ a3 a2).1.str_inv;rw [a1,AS,a2];simp only [AI,AA];rw [a4]
 try rfl
 rw [Ax h,Ax (by rw [AO];omega)];rfl
theorem zxG {es:Array MapEntry} {clk:Nat} (h:BornOk es clk):(es.toList.map (·.born)).Nodup:=by
 refine List.pairwise_iff_getElem.2 fun i j hi hj hij e=> ?_
 rw [List.getElem_map,List.getElem_map] at e;rw [Ah,AO] at hi hj;have:=h.2 i j es[i] es[j] (Ar hi) (Ar hj) (by simpa using e)
 omega
theorem zvP {I:Imm} {w:World} {b:Nat} {α:Type} {f:α->HVal} {L:List (Str×α)} {k:TypeId} (hk:P.underlying k=some .string) (hm:MSat I w (.map b (sk (em f L)))) (hn:ANodup L)
 (hl: ∀p∈L,p.1.length<=1000000) (hs:L.length<=1000000): ∃D:DataW Unit,w.ownsMap P k (zru Unit) b L.length D/\(strKeys D).Perm (L.map (·.1))/\Maps.size D=L.length:=by
 obtain ⟨es,clk,h1,h2,h3,h4⟩:=zAj hm;have hx: ∀x∈es.toList,∃p∈L,x.key=encStr p.1:=fun x hx=>by
  have:=Bq (f:=(·.key)) hx;rw [h4] at this;obtain ⟨p,hp,e⟩:=List.mem_map.1 this;exact ⟨p,hp,e.symm⟩
 have hrd: ∀x∈es.toList,∀p∈L,x.key=encStr p.1->WideElems.rd P k (zru Unit) x=some (.string p.1,.nil):=fun x _ p hp e=>by
  have:=hl p hp;have hm:maxLen=9223372036854775807:=by rfl
  simp [WideElems.rd,keyOf,hk,e,mapKey,encStr,zru,hm]
  rw [if_pos (by show p.1.toArray.size<=_;simp;omega)]
  rfl
 have hkeys:es.toList.map (fun x=>strOf (WideElems.rg P k (zru Unit) x).1)=L.map (·.1):=by
  have e2:es.toList.map (fun x=>strOf (WideElems.rg P k (zru Unit) x).1)=(es.toList.map (·.key)).map fun v=>match v with| .string s=>s.data.toList|_=>[]:=by
   rw [AX];refine Cc fun x hx'=> ?_
   obtain ⟨p,hp,e⟩:=hx x hx';rw [WideElems.rg_of (hrd x hx' p hp e)]
   simp [e,encStr,strOf]
  rw [e2,h4,AX];refine Cc fun p _=> ?_
  simp [encStr]
 have hml:maxLen=9223372036854775807:=by rfl
 refine ⟨_,⟨es,clk,h1,⟨by omega,⟨fun x hx'=> ?_,zxG h2,?_⟩,fun x hx'=> ?_⟩,by omega,rfl⟩,?_,?_⟩
 obtain ⟨i,hi⟩:=Bm hx';exact h2.1 i x (by simpa using hi);rw [h4];have:(L.map fun p=>encStr p.1)=(L.map (·.1)).map encStr:=by rw [AX];rfl
 rw [this];exact List.Pairwise.map encStr (fun a b hab e=>hab (encStr_inj e)) hn;obtain ⟨p,hp,e⟩:=hx x hx';exact ⟨_,hrd x hx' p hp e⟩
 show ((List.foldr DataW.insert [] _).map fun p=>strOf p.1).Perm _
 rw [<-hkeys];have:=(WideShapes.sorted_perm (es.toList.map (WideElems.rg P k (zru Unit)))).map fun p=>strOf p.1
 rw [AX] at this;exact this
 show (List.foldr DataW.insert [] _).length=_
 rw [(WideShapes.sorted_perm _).length_eq,Ah,AO,h3]
theorem zzQ [Tracks] {ρ:Ren} (L:SlLaysZ.n7 P ρ) {b:Nat}:Con P (ρ.f 7) [.raw (.map (some b))] [] fun x M'=> ∃bx,x= .fn (.func (ρ.f 10)) [] [.raw (.pointer (some ⟨bx,0,none⟩))]/\M'=[.cells bx [.raw (.map (some b))]]:=by
 intro I F w args ha hs
 obtain ⟨u,rfl,hu⟩:=ha.one;obtain rfl:=hu.raw_inv;refine ((callsIn_wide (n:=1)).1 (AnyZ.keys_in L Fence.wide 1 trivial rfl (some b) w)).mono ?_;rintro _ w' ⟨rfl,rfl⟩;refine ⟨_,_,_,I,rfl,.refl I,⟨w.heap.size,rfl,rfl⟩,.fn rfl rfl (fun j c v h _=>by simp at h) (fun j c v h1 h2=> ?_),?_⟩
 exact (VL.cons (.raw _ rfl) VL.nil:VL I [.raw (.pointer (some ⟨w.heap.size,0,none⟩))] [.pointer (some ⟨w.heap.size,0,none⟩)]).2 j c v h1 (by simpa using h2);exact hs.new_own _ _ rfl ⟨#[.map (some b)],ρ.t 23,(0,0),by simp,Free.zero _,VL.cons (.raw _ rfl) VL.nil⟩
theorem zxi [Tracks] (hT:Tracks.on=false) {ρ ρk:Ren} (L:SlLaysZ.n6 P ρ) (Lk:SlLaysZ.n7 P ρk) (hsort: ∀m,AnyZ.SortsIn P ρ Fence.wide m)
 (e9: ∀args w,(callFunc (ρ.f 9) args).run P w= .ok (.enter (ρ.f 9) args) w) (eg: ∀args w,(callFunc (ρk.f 10) args).run P w= .ok (.enter (ρk.f 10) args) w)
 {α:Type} {f:α->HVal} {l:List (Str×α)} (hn:ANodup l) (hl: ∀p∈l,p.1.length<=1000000) (hs:l.length<=1000000) {b bx:Nat}:
 Con P (ρ.f 6) [.fn (.func (ρk.f 10)) [] [.raw (.pointer (some ⟨bx,0,none⟩))]] [.cells bx [.raw (.map (some b))],.map b (sk (em f l))] fun x M'=> ∃v,x= .raw v/\M'=[.arr v 1 ((zbh (l.map (·.1))).map .str),.map b (sk (em f l))]:=by
 intro I F w args ha hsat
 obtain ⟨u,rfl,hu⟩:=ha.one;obtain ⟨v1,v2,rfl,hv1,hv2,hc⟩: ∃v1 v2,u= .func (.func (ρk.f 10)) v1 v2/\v1= #[]/\v2.size=1/\∀(j:Nat) (c:HVal) (v:Value),[HVal.raw (.pointer (some ⟨bx,0,none⟩))][j]? =some c->v2[j]? =some v->V I c v:=by
  cases hu with
  |fn h1 h2 h3 h4=>exact ⟨_,_,rfl,BU (by simpa using h1),by simpa using h2,h4⟩
 subst hv1;obtain rfl:v2= #[.pointer (some ⟨bx,0,none⟩)]:=by
  match v2,hv2 with
  |⟨[y]⟩,_=>have:=(hc 0 _ y rfl rfl).raw_inv;rw [this]
 obtain ⟨rc,el,fr,c1,c2,c3⟩:=hsat.obj (.cells bx [.raw (.map (some b))]) (by simp);have hmap:=hsat.obj (.map b (sk (em f l))) (by simp);obtain ⟨D,d1,d2,d3⟩:=zvP (k:=ρk.t 26) (by exact Lk.t26) hmap hn hl hs;have hbx:bx<w.heap.size:=(Array.getElem?_eq_some_iff.1 c1).1;have hcell:w.cell? ⟨bx,0,none⟩=some (.map (some b)):=by
  have:=c3.1
  match rc,this,c1,c3 with
  |⟨[y]⟩,_,c1,c3=>
    have hy:=c3.head.raw_inv;subst hy
    simp [World.cell?,c1]
 have hseq:=AnyZ.keys_gives (ρ:=ρk) {Lk with} Fence.wide 2 trivial rfl (by omega) bx b l.length D w hbx hcell d1;have cS:=AnyZ.sorted_in L Fence.wide 5 trivial trivial trivial trivial rfl (by omega) (hsort _) e9 (ρk.f 10) #[.pointer (some ⟨bx,0,none⟩)] trivial eg _ _ (by rw [d3];exact Aq hs (by decide)) (by rw [d3];omega) w hseq;refine ((callsIn_wide (n:=5)).1 cS).mono ?_;rintro e w' ⟨v,ss,rfl,hS,hrow,hnil,hb⟩;have hss:(ss.mergeSort fun x y=>decide (x<=y))=zbh (l.map (·.1)):=mergeSort_of_perm (hS.trans d2);rw [hss] at hrow;have hlen:ss.length=(zbh (l.map (·.1))).length:=by rw [zk2,(hS.trans d2).length_eq]
 have hmem:MSat I w' (.arr v 1 ((zbh (l.map (·.1))).map .str)):=by
  rcases hrow.2 with ⟨rfl,hz⟩|⟨gb,cap,cur,rfl,hbase,hgb,r1,r2,r3,r4⟩
  refine .inl ⟨rfl,?_⟩
  have:zbh (l.map (·.1))=[]:=List.length_eq_zero_iff.1 (by omega);rw [this];rfl;refine .inr ⟨gb,0,cap,cur,_,_,by rw [Ah,<-hlen],hgb,Free.zero _,fun e he=> ?_,⟨by rw [Ah];omega,Aq r2 (by decide)⟩,by omega,fun i j e c y h1 h2 h3=> ?_⟩
  obtain ⟨s,_,rfl⟩:=List.mem_map.1 he;rfl;rw [Ag] at h1
  cases hq:(zbh (l.map (·.1)))[i]? with
  |none=>rw [hq] at h1;cases h1
  |some s=>
    rw [hq] at h1;simp only [AI,AA] at h1;subst h1;have hj:j=0:=by
     cases j with
     |zero=>rfl
     |succ j=>simp [zd] at h2
    subst hj;simp only [zd,AW,AA] at h2;subst h2;have hi:=zp hq;have h4:(cur.toList.take (ss.length*1))[i]? =some (encStr s):=by rw [r4,Ag,hq];rfl
    rw [AE (by omega),AS] at h4;have e0:0+i*1+0=i:=by omega
    rw [e0,h4] at h3
    cases h3
    exact .str s
 have hown: ∀k,v.ownBlock=some k->w.heap.size<=k/\k<w'.heap.size:=hrow.lt
 refine ⟨v,.raw v,_,I,rfl,.refl I,⟨v,rfl,rfl⟩,?_,?_⟩
 rcases hrow.2 with ⟨rfl,_⟩|⟨gb,cap,cur,rfl,_⟩
 exact .raw _ rfl;exact .raw _ rfl;refine hsat.change (m':= .arr v 1 _) (fun k hk _=>hb.block k hk) (fun k hk=> .inr ?_) ?_ hmem hb.os hb.output hb.tape (fun ht=>by rw [hT] at ht;cases ht)
 rcases hrow.2 with ⟨rfl,_⟩|⟨gb,cap,cur,rfl,hbase,_⟩
 simp [MObj.blocks] at hk
 simp [MObj.blocks] at hk;omega
 rcases hrow.2 with ⟨rfl,_⟩|⟨gb,cap,cur,rfl,hbase,_⟩<;>simp [MObj.blocks]
theorem ztm [Tracks] (hT:Tracks.on=false) {ρ ρk:Ren} (L:SlLaysZ.n6 P ρ) (Lk:SlLaysZ.n7 P ρk) (hsort: ∀m,AnyZ.SortsIn P ρ Fence.wide m)
 (e9: ∀args w,(callFunc (ρ.f 9) args).run P w= .ok (.enter (ρ.f 9) args) w) (eg: ∀args w,(callFunc (ρk.f 10) args).run P w= .ok (.enter (ρk.f 10) args) w)
 {S:List Str} (hn:S.Nodup) (hl: ∀s∈S,s.length<=1000000) (hs:S.length<=1000000) {b bx:Nat}:
 Con P (ρ.f 6) [.fn (.func (ρk.f 10)) [] [.raw (.pointer (some ⟨bx,0,none⟩))]] [.cells bx [.raw (.map (some b))],.map b (sk (zaY S))] fun x M'=> ∃v,x= .raw v/\M'=[.arr v 1 ((zbh S).map .str),.map b (sk (zaY S))]:=by
 have e1:zaY S=em HVal.bool (S.map fun s=>(s,true)):=by simp [zaY]
 have e2:(S.map fun s=>(s,true)).map (·.1)=S:=by simp [Function.comp_def]
 have:=zxi hT L Lk hsort e9 eg (f:=HVal.bool) (l:=S.map fun s=>(s,true)) (by unfold ANodup;rw [e2];exact hn) (fun p hp=>by obtain ⟨s,hs,rfl⟩:=List.mem_map.1 hp;exact hl s hs) (by simpa using hs) (b:=b) (bx:=bx);rw [e2,<-e1] at this;exact this
end
end
section
open Go.Proofs Go.RowKit Go.Sort Go.Shelf
variable {P:Program}
theorem Sat.below [Tracks] (hT:Tracks.on=false) {I:Imm} {M:List MObj} {w w':World} (hs:Sat P I M w) (hb:Below w.heap.size w w'):Sat P I M w':=by
 obtain ⟨h1,h2⟩:=hs.lt;exact hs.of_same (fun b hb'=>hb.block b (h1 b hb')) (fun b hb'=>hb.block b (h2 b hb')) hb.os hb.output hb.tape (fun h=>by rw [hT] at h;cases h)
theorem zyo [Tracks] (hT:Tracks.on=false) {ρ:Ren} (L:Lays.n196 P ρ) (h3:P.globalNamed "unicode/utf8.first" =some (ρ.g 3)) (h4:P.globalNamed "unicode/utf8.acceptRanges" =some (ρ.g 4)) {s:Str} (hs:s.length<=1000000):
 ConP P (ρ.f 196) [.str s] (.bool (Lib.validD s)):=by
 intro I F w args ha hsat
 obtain ⟨u,rfl,hu⟩:=ha.one;obtain rfl:=hu.str_inv;refine (Any.utf8_ValidString L ⟨s.toArray⟩ w (by show s.toArray.size<=_;simp;omega) (hsat.utf8 h3 h4)).mono ?_;rintro e w' ⟨rfl,hb⟩;exact ⟨_,.bool _,[],I,rfl,.refl I,⟨by simp,rfl⟩,.bool _,hsat.below hT hb⟩
theorem zwM {I:Imm} {w':World} {B:Nat} {t:TypeId} {v:Value} {l:List Str} (hl:l.length<=1000000) (hrow:w'.ownsRow B t 1 v l.length (l.map encStr)):MSat I w' (.arr v 1 (l.map .str)):=by
 rcases hrow.2 with ⟨rfl,hz⟩|⟨gb,cap,cur,rfl,hbase,hgb,r1,r2,r3,r4⟩
 refine .inl ⟨rfl,?_⟩
 rw [List.length_eq_zero_iff.1 hz];rfl;refine .inr ⟨gb,0,cap,cur,_,_,by rw [Ah],hgb,Free.zero _,fun e he=> ?_,⟨by rw [Ah];omega,Aq r2 (by decide)⟩,by omega,fun i j e c y h1 h2 h3=> ?_⟩
 obtain ⟨s,_,rfl⟩:=List.mem_map.1 he;rfl;rw [Ag] at h1
 cases hq:l[i]? with
 |none=>rw [hq] at h1;cases h1
 |some s=>
   rw [hq] at h1;simp only [AI,AA] at h1;subst h1;have hj:j=0:=by
    cases j with
    |zero=>rfl
    |succ j=>simp [zd] at h2
   subst hj;simp only [zd,AW,AA] at h2;subst h2;have hi:=zp hq;have h4:(cur.toList.take (l.length*1))[i]? =some (encStr s):=by rw [r4,Ag,hq];rfl
   rw [AE (by omega),AS] at h4;have e0:0+i*1+0=i:=by omega
   rw [e0,h4] at h3
   cases h3
   exact .str s
theorem zxg [Tracks] (hT:Tracks.on=false) {ρ:Ren} (L:Lays.n229 P ρ) (g:Nat) (eg: ∀args w,(callFunc g args).run P w= .ok (.enter g args) w) (p:Nat->Bool) {s:Str} (hs:s.length<=1000000) (hp: ∀w,PredAt P g #[] encR p w)
 (hi154:(P.info? (ρ.t 154)).map (fun i=>(i.zero,i.size,i.bytes))=some (some (.agg #[.int .i64 0,.int .i64 0]),2,16))
 (hi9:(P.info? (ρ.t 9)).map (fun i=>(i.zero,i.size,i.bytes))=some (some (.string ⟨#[]⟩),1,16))
 {l:List Str} (hl:l.length<=1000000) (hf:Lib.goFieldsP p ⟨s.toArray⟩=l.map fun x=>⟨x.toArray⟩):
 Con P (ρ.f 229) [.str s,.fn (.func g) [] []] [] fun x M'=> ∃v,x= .raw v/\M'=[.arr v 1 (l.map .str)]:=by
 intro I F w args ha hsat
 obtain ⟨u1,u2,rfl,hu1,hu2⟩: ∃u1 u2,args=[u1,u2]/\V I (.str s) u1/\V I (.fn (.func g) [] []) u2:=by
  match args,ha with
  |[u1,u2],h=>exact ⟨u1,u2,rfl,h.2 0 _ _ rfl rfl,h.2 1 _ _ rfl rfl⟩
  |[],h=>exact absurd h.1 (by simp)
  |[_],h=>exact absurd h.1 (by simp)
  |_::_::_::_,h=>exact absurd h.1 (by simp)
 obtain rfl:=hu1.str_inv;obtain ⟨v1,v2,rfl,hv1,hv2⟩: ∃v1 v2,u2= .func (.func g) v1 v2/\v1= #[]/\v2= #[]:=by
  cases hu2 with
  |fn h1 h2 h3 h4=>exact ⟨_,_,rfl,BU (by simpa using h1),BU (by simpa using h2)⟩
 subst hv1 hv2;refine (Any.strings_FieldsFunc L g #[] eg p ⟨s.toArray⟩ w (by show s.toArray.size<=_;simp;omega) (hp w) hi154 hi9).mono ?_;rintro e w' ⟨A,rfl,hA,hrow,hb⟩;have e1:(Lib.goFieldsP p ⟨s.toArray⟩).length=l.length:=by rw [hf,Ah]
 have e2:(Lib.goFieldsP p ⟨s.toArray⟩).map Value.string=l.map encStr:=by rw [hf,AX];rfl
 rw [e1,e2] at hrow;rw [e1];have hmem:=zwM (I:=I) hl hrow;refine ⟨_,.raw _,_,I,rfl,.refl I,⟨_,rfl,rfl⟩,.raw _ rfl,?_⟩
 refine (zpD 1 hsat).change (m':= .arr _ 1 _) (fun k hk _=>hb.block k hk) (fun k hk=> .inr ?_) ?_ hmem hb.os hb.output hb.tape (fun ht=>by rw [hT] at ht;cases ht)
 simp [MObj.blocks] at hk;omega
 simp [MObj.blocks]
end
section
open Go.Proofs Go.RowKit Go.Sort Go.Shelf
variable {P:Program}
theorem ztn [Tracks] {ρ:Ren} (L:Lays.n144 P ρ) (hg:P.globalNamed "internal/bytealg.MaxLen" =some (ρ.g 1)) {s t:Str} (hs:s.length<4294967281):
 ConP P (ρ.f 144) [.str s,.str t] (.bool (Lib.contains s t)):=by
 intro I F w args ha hs0
 obtain ⟨u,v,rfl,hu,hv⟩: ∃u v,args=[u,v]/\V I (.str s) u/\V I (.str t) v:=by
  match args,ha with
  |[u,v],h=>exact ⟨u,v,rfl,h.2 0 _ _ rfl rfl,h.2 1 _ _ rfl rfl⟩
  |[],h=>exact absurd h.1 (by simp)
  |[_],h=>exact absurd h.1 (by simp)
  |_::_::_::_,h=>exact absurd h.1 (by simp)
 obtain rfl:=hu.str_inv;obtain rfl:=hv.str_inv;obtain ⟨m,hm⟩:=hs0.maxLen hg;refine (Any.strings_Contains L ⟨s.toArray⟩ ⟨t.toArray⟩ m w (by show s.toArray.size<_;simpa using hs) hm).mono ?_;rintro _ w' ⟨rfl,rfl⟩;exact ⟨_,.bool _,[],I,rfl,.refl I,⟨rfl,rfl⟩,.bool _,hs0⟩
theorem zvF [Tracks] (hT:Tracks.on=false) {ρ:Ren} (L:Lays.n229 P ρ) (g:Nat) (eg: ∀args w,(callFunc g args).run P w= .ok (.enter g args) w) (p:Nat->Bool) {s:Str} (hs:s.length<=1000000) (hp: ∀w,PredAt P g #[] encR p w)
 (hi154:(P.info? (ρ.t 154)).map (fun i=>(i.zero,i.size,i.bytes))=some (some (.agg #[.int .i64 0,.int .i64 0]),2,16))
 (hi9:(P.info? (ρ.t 9)).map (fun i=>(i.zero,i.size,i.bytes))=some (some (.string ⟨#[]⟩),1,16))
 {l:List Str} (hl:l.length<=1000000) (hf:Lib.goFieldsP p ⟨s.toArray⟩=l.map fun x=>⟨x.toArray⟩):
 ConP P (ρ.f 229) [.str s,.fn (.func g) [] []] (.slice 1 (l.map .str)):=by
 intro I F w args ha hsat
 refine (zxg hT L g eg p hs hp hi154 hi9 hl hf I F w args ha hsat).mono ?_;rintro e w' ⟨u,x,M',K,rfl,hk,⟨v,rfl,rfl⟩,h3,h4⟩;obtain ⟨J,hl',hs',hv⟩:=h4.freeze_arr;have:=h3.raw_inv;subst this;exact ⟨_,_,[],J,rfl,hk.trans hl',⟨rfl,rfl⟩,hv,hs'⟩
end
section
open Op
theorem ztV {x c:UInt8}:((x.toNat:Nat):Int)=((c.toNat:Nat):Int)↔x=c:=by
 constructor
 intro h;exact UInt8.toNat_inj.1 (by omega)
 intro h;rw [h]
theorem zq1 {s:Str} (h:s∈zdg):s.length<=60:=by
 have:=zoB h
 simp [out] at this
 omega
theorem zq0 {s:Str} (h:s∈zdg) {c:UInt8} (hc:c∈s): ¬c.toNat<32/\c.toNat≠127:=by
 revert c;revert h;revert s;decide
theorem zpz {s:Str} (h:s∈zdg):Lib.validD s=true:=by
 revert h;revert s
 have:(zdg.all fun s=>Lib.validD s)=true:=by kernel_rfl
 intro s h;exact List.all_eq_true.1 this s h
theorem zxF {s:Str} (h:s∈zdg):(zdF (· ==32) s).dropWhile (· ==32)=s:=by
 have:(zdg.all fun s=>(zdF (· ==32) s).dropWhile (· ==32)==s)=true:=by kernel_rfl
 simpa using List.all_eq_true.1 this s h
theorem zxE {s:Str} (h:s∈zdg):Lib.contains s [32,32]=false:=by
 have:(zdg.all fun s=> !Lib.contains s [32,32])=true:=by kernel_rfl
 simpa using List.all_eq_true.1 this s h
theorem zuZ {s:Str} (h:s∈zdg):(spl 32 s).length<=60/\Lib.goFieldsP (fun r=>decide ((r:Int)=32)) ⟨s.toArray⟩=(spl 32 s).map (fun x=>⟨x.toArray⟩)/\jn 32 (spl 32 s)=s:=by
 have h1:(zdg.all fun s=>decide ((spl 32 s).length<=60))=true:=by kernel_rfl
 have h2:(zdg.all fun s=>(Lib.goFieldsP (fun r=>decide ((r:Int)=32)) ⟨s.toArray⟩).map (fun x=>x.data.toList)==spl 32 s)=true:=by kernel_rfl
 have h3:(zdg.all fun s=>jn 32 (spl 32 s)==s)=true:=by kernel_rfl
 refine ⟨by simpa using List.all_eq_true.1 h1 s h,?_,by simpa using List.all_eq_true.1 h3 s h⟩
 have h4:(Lib.goFieldsP (fun r=>decide ((r:Int)=32)) ⟨s.toArray⟩).map (fun x=>x.data.toList)=spl 32 s:=by simpa using List.all_eq_true.1 h2 s h
 rw [<-h4,AX]
 conv=>lhs;rw [<-List.map_id (Lib.goFieldsP (fun r=>decide ((r:Int)=32)) ⟨s.toArray⟩)]
 exact Cc fun x _=>by cases x;simp
end
end Go.HL
namespace Go.Proofs
section
open Go.Shelf
def Tryz.lays144_ren:Go.Shelf.Ren:=⟨fun|144=>314|143=>347|219=>374|217=>269|225=>373|224=>372|267=>383|266=>313|314=>386|n=>n,fun|9=>9|4=>4|3=>3|5=>5|46=>271|146=>435|51=>324|n=>n,fun|1=>0|n=>n⟩
theorem zt2:Go.Proofs.Lays.n144 Tryz.prog Tryz.lays144_ren:={
 mixed:=by kernel_rfl
 f143:=Tryz.func347.trans (congrArg some (by kernel_rfl))
 f144:=Tryz.func314.trans (congrArg some (by kernel_rfl))
 f217:=Tryz.func269.trans (congrArg some (by kernel_rfl))
 f219:=Tryz.func374.trans (congrArg some (by kernel_rfl))
 f224:=Tryz.func372.trans (congrArg some (by kernel_rfl))
 f225:=Tryz.func373.trans (congrArg some (by kernel_rfl))
 f266:=Tryz.func313.trans (congrArg some (by kernel_rfl))
 f267:=Tryz.func383.trans (congrArg some (by kernel_rfl))
 f314:=Tryz.func386.trans (congrArg some (by kernel_rfl))
 t3:=Tryz.underlying3
 a3:=Tryz.isAgg3
 z3:=Tryz.sizeOf3
 v3:=Tryz.zeroValue3
 t4:=Tryz.underlying4
 a4:=Tryz.isAgg4
 z4:=Tryz.sizeOf4
 v4:=Tryz.zeroValue4
 t5:=Tryz.underlying5
 a5:=Tryz.isAgg5
 z5:=Tryz.sizeOf5
 v5:=Tryz.zeroValue5
 t9:=Tryz.underlying9
 a9:=Tryz.isAgg9
 z9:=Tryz.sizeOf9
 v9:=Tryz.zeroValue9
 t46:=Tryz.underlying271
 a46:=Tryz.isAgg271
 z46:=Tryz.sizeOf271
 v46:=Tryz.zeroValue271
 t51:=Tryz.underlying324
 a51:=Tryz.isAgg324
 z51:=Tryz.sizeOf324
 v51:=Tryz.zeroValue324
 t146:=Tryz.underlying435
 a146:=Tryz.isAgg435
 z146:=Tryz.sizeOf435
 v146:=Tryz.zeroValue435
 g1:=by kernel_rfl}
def Tryz.lays196_ren:Go.Shelf.Ren:=⟨fun|196=>256|259=>305|n=>n,fun|9=>9|4=>4|3=>3|5=>5|12=>12|119=>368|0=>0|46=>271|139=>371|138=>370|53=>312|n=>n,fun|3=>1|4=>2|n=>n⟩
theorem zt5:Go.Proofs.Lays.n196 Tryz.prog Tryz.lays196_ren:={
 mixed:=by kernel_rfl
 f196:=Tryz.func256.trans (congrArg some (by kernel_rfl))
 f259:=Tryz.func305.trans (congrArg some (by kernel_rfl))
 t0:=Tryz.underlying0
 a0:=Tryz.isAgg0
 z0:=Tryz.sizeOf0
 v0:=Tryz.zeroValue0
 t3:=Tryz.underlying3
 a3:=Tryz.isAgg3
 z3:=Tryz.sizeOf3
 v3:=Tryz.zeroValue3
 t4:=Tryz.underlying4
 a4:=Tryz.isAgg4
 z4:=Tryz.sizeOf4
 v4:=Tryz.zeroValue4
 t5:=Tryz.underlying5
 a5:=Tryz.isAgg5
 z5:=Tryz.sizeOf5
 v5:=Tryz.zeroValue5
 t9:=Tryz.underlying9
 a9:=Tryz.isAgg9
 z9:=Tryz.sizeOf9
 v9:=Tryz.zeroValue9
 t12:=Tryz.underlying12
 a12:=Tryz.isAgg12
 z12:=Tryz.sizeOf12
 v12:=Tryz.zeroValue12
 t46:=Tryz.underlying271
 a46:=Tryz.isAgg271
 z46:=Tryz.sizeOf271
 v46:=Tryz.zeroValue271
 t53:=Tryz.underlying312
 a53:=Tryz.isAgg312
 z53:=Tryz.sizeOf312
 v53:=Tryz.zeroValue312
 t119:=Tryz.underlying368
 a119:=Tryz.isAgg368
 z119:=Tryz.sizeOf368
 t138:=Tryz.underlying370
 a138:=Tryz.isAgg370
 z138:=Tryz.sizeOf370
 v138:=Tryz.zeroValue370
 t139:=Tryz.underlying371
 a139:=Tryz.isAgg371
 z139:=Tryz.sizeOf371
 v139:=Tryz.zeroValue371
 g3:=by kernel_rfl
 g4:=by kernel_rfl}
def Tryz.lays229_ren:Go.Shelf.Ren:=⟨fun|229=>258|n=>n,fun|9=>9|40=>329|31=>33|152=>382|3=>3|0=>0|4=>4|21=>21|154=>384|n=>n,fun|n=>n⟩
theorem zt7:Go.Proofs.Lays.n229 Tryz.prog Tryz.lays229_ren:={
 mixed:=by kernel_rfl
 f229:=Tryz.func258.trans (congrArg some (by kernel_rfl))
 t0:=Tryz.underlying0
 a0:=Tryz.isAgg0
 z0:=Tryz.sizeOf0
 v0:=Tryz.zeroValue0
 t3:=Tryz.underlying3
 a3:=Tryz.isAgg3
 z3:=Tryz.sizeOf3
 v3:=Tryz.zeroValue3
 t4:=Tryz.underlying4
 a4:=Tryz.isAgg4
 z4:=Tryz.sizeOf4
 v4:=Tryz.zeroValue4
 t9:=Tryz.underlying9
 a9:=Tryz.isAgg9
 z9:=Tryz.sizeOf9
 v9:=Tryz.zeroValue9
 t21:=Tryz.underlying21
 a21:=Tryz.isAgg21
 z21:=Tryz.sizeOf21
 v21:=Tryz.zeroValue21
 t31:=Tryz.underlying33
 a31:=Tryz.isAgg33
 z31:=Tryz.sizeOf33
 v31:=Tryz.zeroValue33
 t40:=Tryz.underlying329
 a40:=Tryz.isAgg329
 z40:=Tryz.sizeOf329
 v40:=Tryz.zeroValue329
 t152:=Tryz.underlying382
 a152:=Tryz.isAgg382
 z152:=Tryz.sizeOf382
 v152:=Tryz.zeroValue382
 t154:=Tryz.underlying384
 a154:=Tryz.isAgg384
 z154:=Tryz.sizeOf384
 v154:=Tryz.zeroValue384}
def Tryz.lays156_ren:Go.Shelf.Ren:=⟨fun|156=>257|165=>306|166=>307|169=>308|240=>342|241=>343|276=>369|277=>370|n=>n,fun|31=>33|9=>9|3=>3|4=>4|0=>0|20=>20|72=>375|76=>379|70=>372|37=>373|75=>378|127=>410|164=>426|5=>5|80=>381|n=>n,fun|n=>n⟩
theorem zt3:Go.Proofs.Lays.n156 Tryz.prog Tryz.lays156_ren:={
 mixed:=by kernel_rfl
 f156:=Tryz.func257.trans (congrArg some (by kernel_rfl))
 f165:=Tryz.func306.trans (congrArg some (by kernel_rfl))
 f166:=Tryz.func307.trans (congrArg some (by kernel_rfl))
 f169:=Tryz.func308.trans (congrArg some (by kernel_rfl))
 f240:=Tryz.func342.trans (congrArg some (by kernel_rfl))
 f241:=Tryz.func343.trans (congrArg some (by kernel_rfl))
 f276:=Tryz.func369.trans (congrArg some (by kernel_rfl))
 f277:=Tryz.func370.trans (congrArg some (by kernel_rfl))
 t0:=Tryz.underlying0
 a0:=Tryz.isAgg0
 z0:=Tryz.sizeOf0
 v0:=Tryz.zeroValue0
 t3:=Tryz.underlying3
 a3:=Tryz.isAgg3
 z3:=Tryz.sizeOf3
 v3:=Tryz.zeroValue3
 t4:=Tryz.underlying4
 a4:=Tryz.isAgg4
 z4:=Tryz.sizeOf4
 v4:=Tryz.zeroValue4
 t9:=Tryz.underlying9
 a9:=Tryz.isAgg9
 z9:=Tryz.sizeOf9
 v9:=Tryz.zeroValue9
 t20:=Tryz.underlying20
 a20:=Tryz.isAgg20
 z20:=Tryz.sizeOf20
 v20:=Tryz.zeroValue20
 t31:=Tryz.underlying33
 a31:=Tryz.isAgg33
 z31:=Tryz.sizeOf33
 v31:=Tryz.zeroValue33
 t37:=Tryz.underlying373
 a37:=Tryz.isAgg373
 z37:=Tryz.sizeOf373
 v37:=Tryz.zeroValue373
 t70:=Tryz.underlying372
 a70:=Tryz.isAgg372
 z70:=Tryz.sizeOf372
 v70:=Tryz.zeroValue372
 t72:=Tryz.underlying375
 a72:=Tryz.isAgg375
 z72:=Tryz.sizeOf375
 v72:=Tryz.zeroValue375
 t75:=Tryz.underlying378
 a75:=Tryz.isAgg378
 z75:=Tryz.sizeOf378
 v75:=Tryz.zeroValue378
 t76:=Tryz.underlying379
 a76:=Tryz.isAgg379
 z76:=Tryz.sizeOf379
 v76:=Tryz.zeroValue379
 t127:=Tryz.underlying410
 a127:=Tryz.isAgg410
 z127:=Tryz.sizeOf410
 v127:=Tryz.zeroValue410
 t164:=Tryz.underlying426
 a164:=Tryz.isAgg426
 z164:=Tryz.sizeOf426
 v164:=Tryz.zeroValue426}
end
end Go.Proofs
namespace Go.HL
section

end
section
variable {P:Program}
section
variable {e:Env} {dst:Option Tmp} {ty:TypeId} {pos:String} {af:Array Edge} {g:Option (Nat×Bool)} {M:List MObj} {K:HVal->List MObj->Prop}
end
end
section
open Go.Proofs Go.Shelf
variable {P:Program}
section
variable {e:Env} {dst:Option Tmp} {ty:TypeId} {pos:String} {af:Array Edge} {g:Option (Nat×Bool)} {M:List MObj} {K:HVal->List MObj->Prop}
end
end
section
open Go.Proofs Go.Shelf Go.RowKit
variable {P:Program}
theorem VL.two {I:Imm} {c d:HVal} {vs:List Value} (h:VL I [c,d] vs): ∃u v,vs=[u,v]/\V I c u/\V I d v:=by
 match vs,h with
 |[u,v],h=>exact ⟨u,v,rfl,h.head,h.tail.head⟩
 |[],h=>have:=h.1;simp at this
 |[_],h=>have:=h.1;simp at this
 |_::_::_::_,h=>have:=h.1;simp at this
theorem zyp [Tracks] {ρ:Ren} (hT:Tracks.on=false) (L:Lays.n156 P ρ) (X:Builder.Extra P ρ) {l:List Str} {c:UInt8} (hl:(jn c l).length<=1000000000) (hn:l.length<=1000000000):ConP P (ρ.f 156) [.slice 1 (l.map .str),.str [c]] (.str (jn c l)):=by
 intro I F w args ha hs0
 obtain ⟨u,v,rfl,hu,hv⟩:=ha.two;obtain rfl:=hv.str_inv
 rcases hu.slice_inv with ⟨h0,a,cap,rfl⟩|⟨b,off,cap,rc,el,fr,rfl,h3,h4,h5,h6,h7⟩
 have:l=[]:=by simpa using h0
 subst this;refine (Any.strings_Join_none L X a cap ⟨[c].toArray⟩ w).mono ?_;rintro _ w' ⟨rfl,rfl⟩;exact ⟨_,_,[],I,rfl,.refl I,⟨rfl,rfl⟩,.str [],hs0⟩;have hb:=hs0.imm _ _ h3
 let xs:List ByteArray:=l.map fun s=>⟨s.toArray⟩
 have hx:xs.map (·.data.toList)=l:=by simp [xs,AX,Function.comp_def]
 have hxl:xs.length=l.length:=by simp [xs]
 have hlt:b<w.heap.size:=by
  rcases AD b w.heap.size with h'|h'
  exact h'
  simp [As h'] at hb
 have hsz:(l.map HVal.str).length=xs.length:=by simp [xs]
 rw [hsz] at h5 h6⊢;refine (Any.strings_Join L X b off cap xs ⟨[c].toArray⟩ w (fun j x hj=> ?_) hlt (by omega) h5 (by rw [hx];show (Lib.join l [c]).length<=_;rw [zrS];omega)).mono ?_;have hq:l[j]? =some x.data.toList:=by rw [<-hx,Ag,hj];rfl
 have hj':=zp hj;have hr:off+j<rc.size:=by omega
 have h8:=h7 j 0 (.str x.data.toList) (.str x.data.toList) rc[off+j] (by rw [Ag,hq];rfl) rfl (by rw [Nat.mul_one,BR];exact Ar hr);rw [zcj hb,Ar hr,h8.str_inv];rintro _ w' ⟨rfl,hbw⟩;refine ⟨_,_,[],I,rfl,.refl I,⟨rfl,rfl⟩,?_,?_⟩
 rw [hx,show ((⟨[c].toArray⟩:ByteArray).data.toList:Str)=[c] from rfl,zrS];exact .str _;obtain ⟨h1,h2⟩:=hs0.lt;exact hs0.of_same (fun k hk=>hbw.block k (h1 k hk)) (fun k hk=>hbw.block k (h2 k hk)) hbw.os hbw.output hbw.tape (fun h=>by rw [hT] at h;cases h)
end
end Go.HL
namespace Go.Proofs.YtpgopgjleokciaaGreatDoor
set_option maxRecDepth 100000
set_option linter.unusedVariables false
set_option linter.unusedSimpArgs false
section
open Go.Proofs.Tryz
open Go.HL
theorem zi6 [Tracks] (hT:Tracks.on=false) {s:Str} (hs:s.length<=1000000):ConP prog 256 [.str s] (.bool (Lib.validD s)):=
 zyo hT zt5 (by kernel_rfl) (by kernel_rfl) hs
theorem znz [Tracks] {s t:Str} (hs:s.length<4294967281):ConP prog 314 [.str s,.str t] (.bool (Lib.contains s t)):=
 ztn zt2 (by kernel_rfl) hs
theorem zCz [Tracks] (w:World):PredAt prog 259 #[] encR (fun r=>decide ((r:Int)=32)) w:=fun W r _=>by
 unfold FnGives
 go_enter func259,ntmps259
 go_wp2
 go_ret
 exact ⟨rfl,0,rfl⟩
theorem zlY [Tracks] (hT:Tracks.on=false) {s:Str} (hs:s.length<=1000000) {l:List Str} (hl:l.length<=1000000) (hf:Lib.goFieldsP (fun r=>decide ((r:Int)=32)) ⟨s.toArray⟩=l.map fun x=>⟨x.toArray⟩):ConP prog 258 [.str s,.fn (.func 259) [] []] (.slice 1 (l.map .str)):=
 zvF hT zt7 _ (enters_of func259 (by kernel_rfl) rfl) _ hs zCz (by kernel_rfl) (by kernel_rfl) hl hf
theorem zrF [Tracks] (hT:Tracks.on=false) {l:List Str} {c:UInt8} (hl:(jn c l).length<=1000000000) (hn:l.length<=1000000000):ConP prog 257 [.slice 1 (l.map .str),.str [c]] (.str (jn c l)):=
 zyp hT zt3 {t5:=underlying5,a5:=fun w=>by kernel_rfl,z5:=fun w=>by kernel_rfl,v5:=fun w=>by kernel_rfl,infoByte:=by kernel_rfl,cellsByte:=by kernel_rfl,sizeByte:=by kernel_rfl,neB5:=by decide,sizeBuilder:=by kernel_rfl,liesBuilder:=by kernel_rfl} hl hn
theorem zlp [Tracks] {s:Str} {c:UInt8} (hl:s.length<=1000000):ConP prog 262 [.str s,.int .u8 c.toNat] (.str (s.dropWhile (· ==c))):=by
 refine uOb func262 ntmps262 ?_;refine gz5 ?_;refine uU1 [0,1,5,11] (fun (t:Str)=>[(0,.str t)]) (fun (t:Str)=>[]) (fun (t:Str)=>t.length<=s.length/\s.dropWhile (· ==c)=t.dropWhile (· ==c)) (fun (t:Str)=>t.length) (s) ?_ ?_;exact ⟨Af _,rfl⟩;rintro t ⟨ht,hg⟩;refine gz7 ?_;refine dg rfl rfl (fun hc=>by
  have hc0:t≠[]:=by (rintro rfl;simp at hc)
  exact ⟨_,OpenTo.upd (t:=9) rfl (hc) (OpenTo.refl _),zaO (j:=0) (b:=t.headD 0) ty9 rfl rfl rfl (hd0 hc0)⟩) ?_
 refine gz4 ?_;refine uCo (fun h1=> ?_) fun h2=> ?_
 obtain ⟨x,u,rfl⟩: ∃x u,t=x::u:=by cases t with|nil=>simp at h1|cons x u=>exact ⟨x,u,rfl⟩
 have hlen:(x::u).length=u.length+1:=rfl;refine gz5 ?_;refine dq (zie (l:=1) ty9 rfl ⟨_,_,rfl,rfl⟩ rfl uO uO) ?_;refine gz3 ?_;refine ⟨_,?_,?_,⟨rfl,trivial⟩,uK,Ac _⟩
 refine ⟨by simp at ht⊢;omega,?_⟩
 rw [hg];simp_all [Bd,ztV]
 dsimp only;simp
 refine gz2 ?_;refine zv ?_;refine gz7 ?_;refine zw rfl ?_
 show HVal.str _=_
 rw [hg]
 cases t with
 |nil=>rfl
 |cons x u=>simp_all [Bd,ztV]
theorem zkG [Tracks] {s:Str} {c:UInt8} (hl:s.length<=1000000):ConP prog 263 [.str s,.int .u8 c.toNat] (.str (zdF (· ==c) s)):=by
 refine uOb func263 ntmps263 ?_;refine gz5 ?_;refine uU1 [0,1,5,17] (fun (t:Str)=>[(0,.str t)]) (fun (t:Str)=>[]) (fun (t:Str)=>t.length<=s.length/\zdF (· ==c) s=zdF (· ==c) t) (fun (t:Str)=>t.length) (s) ?_ ?_;exact ⟨Af _,rfl⟩;rintro t ⟨ht,hg⟩;refine zaw ?_;refine dg rfl rfl (fun hc=>by
  have hc0:0<t.length:=by (simp at hc;omega)
  exact ⟨_,OpenTo.upd (t:=12) rfl (hc) (OpenTo.upd (t:=9) rfl (hc) (OpenTo.refl _)),zaO (j:=t.length-1) (b:=t.getD (t.length-1) 0) ty9 rfl rfl uO (getD_some uO)⟩) ?_
 refine gz4 ?_;refine uCo (fun h1=> ?_) fun h2=> ?_
 obtain ⟨u,x,rfl⟩: ∃u x,t=u++[x]:=⟨_,_,(BA (by intro h0;subst h0;simp at h1)).symm⟩
 have hlen:(u++[x]).length=u.length+1:=by simp
 refine gz8 ?_;refine dq (zie (l:=0) (h:=u.length) ty9 rfl rfl ⟨_,_,rfl,by omega⟩ uO uO) ?_;refine gz3 ?_;refine ⟨_,?_,?_,⟨rfl,trivial⟩,uK,Ac _⟩
 refine ⟨by simp at ht⊢;omega,?_⟩
 rw [hg,zgF,if_pos (by simp_all [ztV])];simp
 dsimp only;simp
 refine gz2 ?_;refine zv ?_;refine gz7 ?_;refine zw rfl ?_
 show HVal.str _=_
 rw [hg]
 rcases List.eq_nil_or_concat t with rfl|⟨u,x,rfl⟩
 rfl
 rw [List.concat_eq_append] at*;rw [zgF,if_neg (by simp_all [ztV])]
theorem zqz [Tracks] {s:Str} {c:UInt8} (hs:s.length<=1000000) (hc7:c.toNat<128):ConP prog 202 [.str s,.str [c]] (.str ((zdF (· ==c) s).dropWhile (· ==c))):=by
 refine uOb func202 ntmps202 ?_;refine zdl ?_;refine uCo (fun h1=> ?_) fun h2=> ?_
 refine gz5 ?_;refine zw rfl ?_
 show HVal.str _=_
 (simp_all [zdF])
 refine gz9 ?_;refine uGr rfl (fun hc=>zaO (j:=0) (b:=c) ty9 rfl rfl rfl rfl) ?_;refine gz3 ?_;refine zZ rfl (fun h3=> ?_) (fun h3=> ?_)
 try simp at h3
 refine uDr mixed ?_;refine gz2 ?_;refine uB 2 rfl (zaO (j:=0) (b:=c) ty9 rfl rfl rfl rfl) ?_;refine uB 3 rfl (uCl zFQ rfl (zkG (c:=c) hs)) ?_;refine gz1 ?_;refine uB 5 rfl (zaO (j:=0) (b:=c) ty9 rfl rfl rfl rfl) ?_;refine uB 6 rfl (uCl zFP rfl (zlp (c:=c) (Aq (zsT _ _) hs))) ?_;refine gz3 ?_;refine zw rfl ?_
 show HVal.str _=_
 rfl
 exfalso
 try simp at h3
 omega
theorem zug [Tracks] {s:Str} (hT:Tracks.on=false) (hs:s∈zdg):ConP prog 273 [.str s] (.bool true):=by
 have hsl:=zq1 hs;have hv:=zpz hs;have ht6:=zxF hs;have hc6:=zxE hs;refine uOb func273 ntmps273 ?_;refine zaw ?_;refine uT1 [2,2,6,14] (fun k=>[(6,.int .i64 (k:Int))]) (fun k=>[]) (fun k=>k<=s.length) (fun k=>s.length-k) (0) ?_ ?_;exact Ad _
 intro k hk
 refine gz4 ?_;refine uCo (fun h1=> ?_) fun h2=> ?_
 obtain ⟨x,hx⟩: ∃x,s[k]? =some x:=⟨_,Aa uO⟩
 obtain ⟨hx1,hx2⟩:=zq0 hs (Ab hx);refine zct ?_;refine dq (zaO (j:=k) (b:=x) ty9 rfl rfl rfl hx) ?_;refine gz4 ?_;refine uGr rfl (fun hc=>zaO (j:=k) (b:=x) ty9 rfl rfl rfl hx) ?_;refine gz3 ?_;refine zZ rfl (fun h3=> ?_) (fun h3=> ?_)
 exfalso
 try simp at h3
 omega
 try simp at h3
 refine gz7 ?_;refine ⟨k+1,?_,?_,⟨rfl,trivial⟩,uK,Ac _⟩
 omega
 dsimp only;omega
 refine gz2 ?_;refine zv ?_;refine gz4 ?_;refine dq (uCl zBH rfl (zi6 hT uO)) ?_;refine gz2 ?_;refine uGr rfl (fun hc=>by have hq:=hc;(try simp at hq);exact uCl zBw rfl (zqz (s:=s) (c:=32) uO (by decide))) ?_;refine gz5 ?_;refine uGr rfl (fun hc=>by have hq:=hc;(try simp at hq);exact uCl zGa rfl (znz (s:=s) (t:=[32,32]) uO)) ?_;refine gz5 ?_;refine zw rfl ?_
 show HVal.bool _=_
 simp_all
theorem zpf [Tracks] {s:Str} (hT:Tracks.on=false) (hs:s∈zdg):ConP prog 190 [.str s] (.bool true):=by
 have hsl:=zq1 hs;have hv:=zpz hs;obtain ⟨hf1,hf2,hf3⟩:=zuZ hs;refine uOb func190 ntmps190 ?_;refine gz6 ?_;refine dq (uCl zBH rfl (zi6 hT uO)) ?_;refine gz4 ?_;refine uGr rfl (fun hc=>by have hq:=hc;(try simp at hq);exact uCl zFN rfl (zlY hT (s:=s) uO (l:=spl 32 s) uO hf2)) ?_;refine uGr rfl (fun hc=>by have hq:=hc;(try simp at hq);exact uCl zFM rfl (zrF hT (l:=spl 32 s) (c:=32) (by rw [hf3];omega) uO)) ?_;refine gz3 ?_;refine zZ rfl (fun h1=> ?_) (fun h1=> ?_)
 exfalso
 try simp at h1
 (clear hf1 hf2 hs;simp_all)
 try simp at h1
 refine gz3 ?_
 clear hf1 hf2 hf3
 try clear h1
 try clear h2
 refine gz6 ?_;refine uT1 [2,2,16,14] (fun k=>[(16,.int .i64 (k:Int))]) (fun k=>[]) (fun k=>k<=s.length) (fun k=>s.length-k) (0) ?_ ?_;exact Ad _
 intro k hk
 refine gz4 ?_;refine uCo (fun h2=> ?_) fun h3=> ?_
 obtain ⟨x,hx⟩: ∃x,s[k]? =some x:=⟨_,Aa uO⟩
 obtain ⟨hx1,hx2⟩:=zq0 hs (Ab hx);refine zct ?_;refine dq (zaO (j:=k) (b:=x) ty9 rfl rfl rfl hx) ?_;refine gz4 ?_;refine uGr rfl (fun hc=>zaO (j:=k) (b:=x) ty9 rfl rfl rfl hx) ?_;refine gz3 ?_;refine zZ rfl (fun h4=> ?_) (fun h4=> ?_)
 exfalso
 try simp at h4
 omega
 try simp at h4
 refine gz7 ?_;refine ⟨k+1,?_,?_,⟨rfl,trivial⟩,uK,Ac _⟩
 omega
 dsimp only;omega
 refine gz2 ?_;refine zv ?_;refine gz6 ?_;refine zw rfl ?_
 show HVal.bool _=_
 rfl
end
end Go.Proofs.YtpgopgjleokciaaGreatDoor
namespace Go.HL
section

end
section
structure Hall where
 Teams:List Str
 Players:List Str
 Budget:Int
 Places:Int
structure Sale where
 Player:Str
 Team:Str
 Price:Int
def zm8:List Sale->Str->Int
 |[],_=>0
 |x::r,t=>(if x.Team=t then x.Price else 0)+zm8 r t
def zh7:List Sale->Str->Int
 |[],_=>0
 |x::r,t=>(if x.Team=t then 1 else 0)+zh7 r t
theorem zxS (l:List Sale) (x:Sale) (t:Str):zm8 (l++[x]) t=zm8 l t+(if x.Team=t then x.Price else 0):=by
 induction l with
 |nil=>simp [zm8]
 |cons y r ih=>simp only [AY,zm8,ih];omega
theorem zyO (l:List Sale) (x:Sale) (t:Str):zh7 (l++[x]) t=zh7 l t+(if x.Team=t then 1 else 0):=by
 induction l with
 |nil=>simp [zh7]
 |cons y r ih=>simp only [AY,zh7,ih];omega
abbrev zhO:=List (Str×HVal)
def lkI (L:zhO) (t:Str):HVal:=match z6 t L with|some p=>p.2|none=> .int .i64 0
theorem zju {s t:Str} {v:HVal}: ∀{L:zhO},z6 s L=none->z6 t (L++[(s,v)])=if t=s then some (L.length,v) else z6 t L
 |[],_=>by by_cases h:t=s<;>simp [z6,h]
 |(k,h)::r,hn=>by
   simp only [z6] at hn
   by_cases hk:s=k
   rw [if_pos hk] at hn;cases hn;rw [if_neg hk] at hn;have hr:z6 s r=none:=by cases hq:z6 s r with
    |none=>rfl
    |some p=>rw [hq] at hn;cases hn
   have ih:=zju (t:=t) (v:=v) hr;simp only [AY,z6]
   by_cases ht:t=k
   have: ¬t=s:=fun e=>hk (e▸ht)
   rw [if_pos ht,if_neg this,if_pos ht];rw [if_neg ht,ih]
   by_cases hs:t=s
   rw [if_pos hs,if_pos hs];simp;rw [if_neg hs,if_neg hs,if_neg ht]
theorem zsZ {s t:Str} {v:HVal}: ∀{L:zhO} {j:Nat} {h:HVal},z6 s L=some (j,h)->(z6 t (L.set j (s,v)))=if t=s then some (j,v) else z6 t L
 |[],j,h,hh=>by simp [z6] at hh
 |(k,x)::r,j,h,hh=>by
   simp only [z6] at hh
   by_cases hk:s=k
   rw [if_pos hk] at hh;simp only [AA,Prod.mk.injEq] at hh;obtain ⟨rfl,rfl⟩:=hh;subst hk;simp only [Cm,z6]
   by_cases ht:t=s
   rw [if_pos ht,if_pos ht];rw [if_neg ht,if_neg ht,if_neg ht];rw [if_neg hk] at hh
   cases hq:z6 s r with
   |none=>rw [hq] at hh;cases hh
   |some p=>
     rw [hq] at hh;simp only [AI,AA,Prod.mk.injEq] at hh;obtain ⟨rfl,rfl⟩:=hh;have ih:=zsZ (t:=t) (v:=v) (L:=r) (j:=p.1) (h:=p.2) (by rw [hq]);simp only [Cl,z6]
     by_cases ht:t=k
     have: ¬t=s:=fun e=>hk (e▸ht)
     rw [if_pos ht,if_neg this,if_pos ht];rw [if_neg ht,ih,if_neg ht]
     by_cases hs:t=s
     rw [if_pos hs,if_pos hs];rfl;rw [if_neg hs,if_neg hs]
theorem zsY (s t:Str) (v:HVal) (L:zhO):(z6 t (sput s v L)).map (·.2)=if t=s then some v else (z6 t L).map (·.2):=by
 unfold sput
 cases hq:z6 s L with
 |none=>simp only [];rw [zju hq];split<;>rfl
 |some p=>obtain ⟨j,h⟩:=p;simp only [];rw [zsZ hq];split<;>rfl
theorem zyM (L:zhO) (t:Str):lkI L t=((z6 t L).map (·.2)).getD (.int .i64 0):=by
 unfold lkI;cases z6 t L<;>rfl
theorem zwj (s t:Str) (v:HVal) (L:zhO):lkI (sput s v L) t=if t=s then v else lkI L t:=by
 rw [zyM,zsY,zyM];split<;>rfl
structure AucOk (h:Hall) (l:List Sale) (S:List Str) (L H:zhO):Prop where
 sold: ∀s,S.contains s=l.any (fun y=>y.Player==s)
 left: ∀t,h.Teams.contains t=true->lkI L t= .int .i64 (h.Budget-zm8 l t)
 got: ∀t,lkI H t= .int .i64 (zh7 l t)
theorem znr (s t:Str) (l:List Str):(zb8 s l).contains t=(l.contains t||s==t):=by
 unfold zb8
 by_cases hc:l.contains s=true
 rw [if_pos hc]
 by_cases h:s=t
 subst h;rw [hc];simp;have:(s==t)=false:=by simpa using h
 simp [this]
 rw [if_neg hc,List.contains_eq_any_beq,List.any_append,<-List.contains_eq_any_beq]
 congr 1
 simp only [BH,List.any_nil,Bs];rw [AF,beq_iff_eq,beq_iff_eq];exact eq_comm
theorem AucOk.add {h:Hall} {l:List Sale} {S:List Str} {L H:zhO} (ok:AucOk h l S L H) (x:Sale) (hx:h.Teams.contains x.Team=true):
 AucOk h (l++[x]) (zb8 x.Player S) (sput x.Team (.int .i64 (h.Budget-zm8 l x.Team-x.Price)) L) (sput x.Team (.int .i64 (zh7 l x.Team+1)) H) where
 sold s:=by rw [znr,ok.sold,List.any_append];simp
 left t ht:=by
  rw [zwj,zxS]
  by_cases e:t=x.Team
  subst e;rw [if_pos rfl,if_pos rfl];congr 1;omega;rw [if_neg e,if_neg (fun q=>e q.symm),ok.left t ht];congr 1;omega
 got t:=by
  rw [zwj,zyO]
  by_cases e:t=x.Team
  subst e;rw [if_pos rfl,if_pos rfl];rw [if_neg e,if_neg (fun q=>e q.symm),ok.got t];congr 1;omega
end
section
/-! numbers in decimal-/
def dig (c:UInt8):Bool:=decide (48<=c.toNat)&&decide (c.toNat<=57)
def ziy (s:Str):Str:=match s with|45::r=>r|_=>s
def numC (s:Str) (n:Int):Bool:=decide ((ziy s=[]\/n<((ziy s).length:Int))\/((((ziy s).head?).getD 0).toNat:Int)=48/\((1:Int)<((ziy s).length:Int)\/(ziy s).length<s.length))
def numB (s:Str) (n:Int):Bool:= !(numC s n)&&(ziy s).all dig
def numV (s:Str):Int:=(Lib.atoi s).getD 0
def numR (s:Str) (n:Int):Int:=if numB s n then numV s else 0
def LimOk (l:List PairS) (L:zhO):Prop:= ∀t,(z6 t L).map (·.2)=(l.find? (fun p=>p.Name==t)).map (fun p=> .int .i64 (numR p.Val 9))
theorem LimOk.add {l:List PairS} {L:zhO} (ok:LimOk l L) (x:PairS) (hx:l.any (fun y=>y.Name==x.Name)=false):LimOk (l++[x]) (sput x.Name (.int .i64 (numR x.Val 9)) L):=fun t=>by
 rw [zsY,List.find?_append,ok t]
 by_cases e:t=x.Name
 subst e;rw [if_pos rfl];have:l.find? (fun p=>p.Name==x.Name)=none:=by
  rw [Ck];intro y hy;have:=List.any_eq_false.1 hx y hy
  simpa using this
 rw [this];simp;rw [if_neg e];have hn:(x.Name==t)=false:=by simpa using fun q=>e q.symm
 cases l.find? (fun p=>p.Name==t) with
 |none=>simp [List.find?,hn]
 |some p=>simp
structure Top where
 team:Str
 first:Int
 second:Int
def Top.step (q:Top) (t:Str) (n:Int):Top:=if q.first<n then ⟨t,n,q.first⟩ else ⟨q.team,q.first,max q.second n⟩
end
section
section
variable {h:Hall} {l:List Sale} {x:Sale} (h6:x.Player∈h.Players/\x.Team∈h.Teams) (h8: ∀y∈l,¬y.Player=x.Player)
include h6 h8
end
end
section

end
section
theorem Ghost.clear [Tracks] {e:Env}: ∀{M:List MObj},Ghost e M e []
 |[]=>Ghost.perm (Ac _)
 |_::_=>Ghost.trans Ghost.drop Ghost.clear
theorem zqd [Tracks] {e:Env} {m:MObj}: ∀{R:List MObj},Ghost e (R++[m]) e [m]
 |[]=>Ghost.perm (Ac _)
 |x::R=>Ghost.trans (M':=R++[m]) Ghost.drop zqd
theorem Ghost.only [Tracks] {e:Env} {M:List MObj} {i:Nat} {m:MObj} (h:M[i]? =some m):Ghost e M e [m]:=
 Ghost.trans (Ghost.perm ((zic h).trans (List.perm_append_comm (l₁:=[m]) (l₂:=M.eraseIdx i)))) zqd
end
section
theorem znD [Tracks] {e:Env} {M:List MObj}: ∀{R:List MObj},Ghost e (R++M) e M
 |[]=>Ghost.perm (Ac _)
 |x::R=>Ghost.trans (M':=R++M) Ghost.drop znD
section
variable {P:Program} {e:Env} {dst:Option Tmp} {ty:TypeId} {pos:String} {af:Array Edge} {g:Option (Nat×Bool)} {M:List MObj} {K:HVal->List MObj->Prop}
end
end
end Go.HL
namespace Go.Proofs.YtpgopgjleokciaaGreatDoor
set_option maxRecDepth 100000
set_option linter.unusedVariables false
set_option linter.unusedSimpArgs false
section
open Go.Proofs.Tryz
open Go.HL
theorem ztO [Tracks]:KeyOk prog 237 ziz:=zgk (cs:=fun x:Num=>zd (ziz x)) zm9 zGj (fun x y=>⟨rfl,⟨_,_,_,_,ty9,rfl⟩,⟨rfl,⟨_,_,_,_,ty3,rfl⟩,trivial⟩⟩)
 (fun x y=>by obtain ⟨a,b⟩:=x;obtain ⟨c,d⟩:=y;show (_&&(_&&true))=_;rw [AF];simp [eqH,Prod.mk.injEq]) (fun x=>rfl)
theorem zxH [Tracks]:KeyOk prog 239 eOf:=zgk (cs:=fun x:Of2=>zd (eOf x)) zro zGk (fun x y=>⟨rfl,⟨_,_,_,_,ty9,rfl⟩,⟨rfl,⟨_,_,_,_,ty9,rfl⟩,trivial⟩⟩)
 (fun x y=>by obtain ⟨a,b⟩:=x;obtain ⟨c,d⟩:=y;show (_&&(_&&true))=_;rw [AF];simp [eqH,Prod.mk.injEq]) (fun x=>rfl)
theorem zcG [Tracks] {n:Int}:ConP prog 52 [.int .i64 n] (.bool (zaQ n)):=by
 refine uOb func52 ntmps52 ?_;refine gz5 ?_;refine dq (uCl zbH rfl zal) ?_;refine gz4 ?_;refine zw rfl ?_
 rfl
theorem zpS [Tracks] {p:Play}:ConP prog 150 [zau p] (.int .i64 (playFault p)):=by
 refine uOb func150 ntmps150 ?_;refine gz9 ?_;refine dq (uCl zcD rfl zak) ?_;refine gz3 ?_;refine uCo (fun h1=> ?_) fun h2=> ?_
 refine gz4 ?_;refine uRp ?_
 simp_all [playFault]
 refine gz3 ?_;refine dq (uCl zbH rfl zal) ?_;refine gz3 ?_;refine uGr rfl (fun hc=>uCl zkh rfl zbC) ?_;refine gz5 ?_;refine uGr rfl (fun hc=>uCl zlq rfl zcG) ?_;refine gz4 ?_;refine uCo (fun h3=> ?_) fun h4=> ?_
 refine gz4 ?_;refine uRp ?_
 simp_all [playFault]
 refine gz3 ?_;refine dq (uCl zcD rfl zak) ?_;refine gz4 ?_;refine uGr rfl (fun hc=>uCl zcD rfl zak) ?_;refine gz5 ?_;refine uGr rfl (fun hc=>uCl zcD rfl zak) ?_;refine gz4 ?_;refine uCo (fun h5=> ?_) fun h6=> ?_
 refine gz4 ?_;refine uRp ?_
 simp_all [playFault]
 refine gz3 ?_;refine dq (uCl zbH rfl zal) ?_;refine gz5 ?_;have hN:=zfk (n:=p.No) (lo:=1) (hi:=3000) uSa;refine gz1 ?_;refine uGr rfl (fun hc=>uCl zbH rfl zal) ?_;refine gz3 ?_;refine uCo (fun h7=> ?_) fun h8=> ?_
 refine gz4 ?_;refine uRp ?_
 simp_all [playFault]
 refine zct ?_;refine uCo (fun h9=> ?_) fun h10=> ?_
 refine gz4 ?_;refine uRp ?_
 simp_all [playFault]
 refine gz7 ?_;refine uRp ?_
 simp_all [playFault]
theorem zvz [Tracks] {a b:Play}:ConP prog 151 [zau a,zau b] (.int .i64 (byNo a b)):=by
 refine uOb func151 ntmps151 ?_;refine gz5 ?_;refine uDr mixed ?_;refine gz4 ?_;refine uB 4 rfl (uCl zcf rfl zM) ?_;refine gz4 ?_;refine uB 9 rfl (uCl zdb rfl zV) ?_;refine uB 10 rfl (za (hs:=[_,_]) zac ty3 rfl rfl (by decide) (by decide) rfl) ?_;refine uB 11 rfl (uCl zfO rfl (zbe (l:=[_,_]) (by simp))) ?_;refine gz3 ?_;refine zw rfl ?_
 rfl
theorem zjs [Tracks] {l:List Play} (hl:l.length<=1000000):ConP prog 67 [zbE l] (.int .i64 (zbT l)):=by
 refine uOb func67 ntmps67 ?_;refine gz9 ?_;refine uCo (fun h1=> ?_) fun h2=> ?_
 refine gz4 ?_;refine zav Ghost.clear rfl ⟨?_,rfl⟩
 show HVal.int .i64 _=_
 (rw [zbT,if_pos uO])
 refine gz3 ?_;refine de rfl (zaI fun m14=> ?_)
 refine de rfl (zaI fun m15=> ?_)
 refine zee ?_;refine uT1 [2,1,5,6,18,45] (fun k=>[(18,.int .i64 k),(5,.bool (zbx (l.take k)).c)]) (fun k=>[.map m15 (sk (em (.int .i64) (zbx (l.take k)).W)),.map m14 (sk (zaY (zbx (l.take k)).S))]) (fun k=>k<=l.length/\(zb7 l 0 l=zb7 l k (l.drop k))) (fun k=>l.length-k) (0) ?_ ?_;exact ⟨Ad _,rfl⟩;rintro k ⟨hk,hg⟩;refine gz4 ?_;refine uCo (fun h3=> ?_) fun h4=> ?_
 obtain ⟨x,hx⟩: ∃x,l[k]? =some x:=⟨_,Aa h3⟩
 have hdx:=zk hx;rw [hdx] at hg;refine gz8 ?_;refine de rfl (zj zb3 rfl fun b7=> ?_)
 refine gz1 ?_;refine de0 (zn zb3 rfl rfl rfl rfl rfl ?_)
 refine gz1 ?_;refine ze (zm 7 rfl) ?_;refine gz3 ?_;refine dq (uCl zEL rfl zpS) ?_;refine gz6 ?_;refine uCo (fun h5=> ?_) fun h6=> ?_
 refine gz5 ?_;refine zav Ghost.clear rfl ⟨?_,rfl⟩
 show HVal.int .i64 _=_
 (rw [zkZ uO (by rw [hg,zb7,if_pos (by simpa using h5)]) (by simpa using h5)])
 refine gz3 ?_;refine uDr mixed ?_;refine gz7 ?_;refine uGy 7 rfl rfl (fun hc=>by have hq:=hc;(try simp at hq);exact zA (j:=k-1) (a:=l.getD (k-1) zmY) zht zb3 rfl rfl uO (getD_some uO)) ?_;refine gz1 ?_;refine uGy 9 rfl rfl (fun hc=>uCl zEM rfl zvz) ?_;refine gz3 ?_;refine uCo (fun h7=> ?_) fun h8=> ?_
 refine gz4 ?_;refine zav Ghost.clear rfl ⟨?_,rfl⟩
 show HVal.int .i64 _=_
 (rw [zkZ (c:=7) uO (by rw [hg,zb7,if_neg (by simpa using h6),if_pos (by obtain ⟨qa,qb⟩:=h7;exact ⟨by omega,by simpa using qb⟩)]) (by decide)])
 refine gz6 ?_;refine de0 (zc3 (i:=1) ziQ ty9 rfl rfl rfl rfl ?_)
 refine gz6 ?_;refine de rfl (zkl (i:=0) (z0:=(0:Int)) zeP ty9 ty3 rfl rfl rfl rfl ?_)
 refine zh1 ?_;refine uCo (fun h9=> ?_) fun h10=> ?_
 refine zaw ?_;refine de0 (zdK (i:=0) zeP ty9 rfl rfl rfl rfl ?_)
 refine gz7 ?_;refine ⟨k+1,⟨by omega,?_⟩,uD,⟨rfl,?_,trivial⟩,uK,?_⟩
 rw [hg,zmZ (by simpa using h6) (fun hk0=>by simp_all)];rw [zfg hx];exact congrArg (fun b=>some (HVal.bool b)) (by simp_all [ziw]);exact zo (by dsimp only;rw [zfg hx];rfl);refine gz8 ?_;refine de0 (zdK (i:=0) zeP ty9 rfl rfl rfl rfl ?_)
 refine gz7 ?_;refine ⟨k+1,⟨by omega,?_⟩,uD,⟨rfl,?_,trivial⟩,uK,?_⟩
 rw [hg,zmZ (by simpa using h6) (fun hk0=>by simp_all)];rw [zfg hx];exact congrArg (fun b=>some (HVal.bool b)) (by simp_all [ziw]);exact zo (by dsimp only;rw [zfg hx];rfl);have hnk:l.length<=k:=by omega
 obtain rfl:k=l.length:=by omega
 rw [zH (Af _)] at hg;rw [Ak];refine gz2 ?_;refine zv ?_;refine gz4 ?_;have e1:(sk (zaY (zbx l).S)).length=(zbx l).S.length:=by simp [sk,zaY]
 have e2:(sk (em (HVal.int .i64) (zbx l).W)).length=(zbx l).W.length:=by simp [sk]
 refine gz2 ?_;refine de rfl (zer (i:=1) ziQ rfl rfl ?_)
 refine gz3 ?_;refine dgl rfl rfl (fun hc=>⟨_,OpenTo.upd (t:=68) rfl (hc) (OpenTo.refl _),zer (i:=0) zeP rfl rfl ⟨rfl,rfl⟩⟩) ?_;refine gz4 ?_;refine uCo (fun h11=> ?_) fun h12=> ?_
 refine gz4 ?_;refine zav Ghost.clear rfl ⟨?_,rfl⟩
 show HVal.int .i64 _=_
 (rw [zfE uO hg,ze8,if_pos uO])
 refine gz4 ?_;refine uCo (fun h13=> ?_) fun h14=> ?_
 refine gz4 ?_;refine zav Ghost.clear rfl ⟨?_,rfl⟩
 show HVal.int .i64 _=_
 (rw [zfE uO hg,ze8,if_neg uO,if_pos (by assumption)])
 refine gz7 ?_;refine zav Ghost.clear rfl ⟨?_,rfl⟩
 show HVal.int .i64 _=_
 (rw [zfE uO hg,ze8,if_neg uO,if_neg uSa])
theorem zjt [Tracks] {l:List Str} (hl:l.length<=1000000):ConP prog 68 [eSs l] (.int .i64 (zcb l)):=by
 refine uOb func68 ntmps68 ?_;refine gz9 ?_;refine uCo (fun h1=> ?_) fun h2=> ?_
 refine gz4 ?_;refine uRp ?_
 (rw [zcb,if_pos uO])
 refine gz9 ?_;refine uT1 [2,3,10,14] (fun k=>[(10,.int .i64 k)]) (fun k=>[]) (fun k=>k<=l.length/\(zcb l=zeo l k (l.drop k))) (fun k=>l.length-k) (0) ?_ ?_;refine ⟨Ad _,?_⟩
 rw [zcb,if_neg uO];rfl;rintro k ⟨hk,hg⟩;refine gz4 ?_;refine uCo (fun h3=> ?_) fun h4=> ?_
 obtain ⟨x,hx⟩: ∃x,l[k]? =some x:=⟨_,Aa h3⟩
 have hdx:=zk hx;rw [hdx] at hg;refine zdu ?_;refine dq (uCl zcD rfl zak) ?_;refine gz2 ?_;refine uCo (fun h5=> ?_) fun h6=> ?_
 refine gz4 ?_;refine uRp ?_
 (rw [hg];simp_all [zeo])
 refine gz5 ?_;refine dq (zaP zq ty9 rfl rfl ⟨_,_,rfl,rfl⟩ uO uO) ?_;refine gz1 ?_;refine dq (uCl zhj rfl (zK uSo)) ?_;refine gz1 ?_;refine uCo (fun h7=> ?_) fun h8=> ?_
 refine gz4 ?_;refine uRp ?_
 (rw [hg];simp_all [zeo])
 refine gz7 ?_;refine ⟨k+1,?_,?_,⟨rfl,trivial⟩,uK,Ac _⟩
 refine ⟨by omega,?_⟩
 rw [hg];simp_all [zeo]
 dsimp only;omega
 have hnk:l.length<=k:=by omega
 obtain rfl:k=l.length:=by omega
 rw [zH (Af _)] at hg;refine gz2 ?_;refine zv ?_;refine gz6 ?_;refine uRp ?_
 (rw [hg];simp_all [zeo])
theorem zvA [Tracks] {l:List Play} {trust:List Str} {n:Int} (hl:l.length<=1000000) (ht:trust.length<=1000000):Con prog 152 [zbE l,eSs trust,.int .i64 n] [] (fun x M'=> ∃b O,x= .raw (.map (some b))/\ANodup O/\(∀m,alk m O=zpa l trust n m)/\M'=[.map b (sk (em .str O))]):=by
 refine uOb func152 ntmps152 ?_;refine gz4 ?_;refine de rfl (zaI fun m16=> ?_)
 refine gz9 ?_;refine uT1 [9,4,19,35] (fun k=>[(19,.int .i64 k)]) (fun k=>[.map m16 (sk (em (.int .i64) (zfL (l.take k) trust n)))]) (fun k=>k<=l.length/\(True)) (fun k=>l.length-k) (0) ?_ ?_;exact ⟨Ad _,trivial⟩;rintro k ⟨hk,-⟩;refine gz4 ?_;refine uCo (fun h1=> ?_) fun h2=> ?_
 obtain ⟨x,hx⟩: ∃x,l[k]? =some x:=⟨_,Aa h1⟩
 have hdx:=zk hx;refine gz7 ?_;refine de rfl (zj zb3 rfl fun b9=> ?_)
 refine de0 (zn zb3 rfl rfl rfl rfl rfl ?_)
 refine gz1 ?_;refine ze (zm 9 rfl) ?_;refine gz4 ?_;refine dq (uCl zBi rfl (zeR uO)) ?_;refine zee ?_;refine uCo (fun h3=> ?_) fun h4=> ?_
 refine gz8 ?_;exact ⟨k+1,⟨by omega,trivial⟩,uD,⟨rfl,trivial⟩,uK,zo (by dsimp only;rw [zmm hx,zeA,if_pos (by simpa using h3)];try rfl)⟩;refine gz6 ?_;refine de rfl (zkl (i:=0) (z0:=(0:Int)) zeP ty9 ty3 rfl rfl rfl rfl ?_)
 refine zh1 ?_;refine uCo (fun h5=> ?_) fun h6=> ?_
 refine gz5 ?_;refine de0 (zdK (i:=0) zeP ty9 rfl rfl rfl rfl ?_)
 refine gz7 ?_;exact ⟨k+1,⟨by omega,trivial⟩,uD,⟨rfl,trivial⟩,uK,zo (by dsimp only;rw [zmm hx,zeA,if_neg (by simp_all;try omega),if_pos (by simpa using h5)];try rfl)⟩;refine gz7 ?_;exact ⟨k+1,⟨by omega,trivial⟩,uD,⟨rfl,trivial⟩,uK,zo (by dsimp only;rw [zmm hx,zeA,if_neg (by simp_all;try omega),if_neg (by simp_all;try omega)];try rfl)⟩;have hnk:l.length<=k:=by omega
 obtain rfl:k=l.length:=by omega
 refine gz2 ?_;refine zv ?_;refine gz2 ?_;rw [Ak];refine gz1 ?_;refine de rfl (zaI fun m54=> ?_)
 refine gz5 ?_;refine de rfl (zoh (i:=1) zeP rfl rfl fun r=> ?_)
 refine gz2 ?_;refine uU2 [14,2,57,11] (fun (vis:List Nat) (E:List (Str×Int))=>[]) (fun (vis:List Nat) (E:List (Str×Int))=>[.map m54 (sk (em .str (zrm trust E))),.iter r m16 (sk (em (.int .i64) (zfL l trust n))) vis]) (fun (vis:List Nat) (E:List (Str×Int))=>VisOk ((zfL l trust n)) vis E/\(True)) (fun (vis:List Nat) (E:List (Str×Int))=>((zfL l trust n)).length-vis.length) ([]) ([]) ?_ ?_;exact ⟨VisOk.nil _,trivial⟩;rintro vis E ⟨hvis,-⟩;refine gz1 ?_;refine de rfl (zog (i:=1) (L:=(zfL l trust n)) (enc:=(fun p:Str×Int=>(HVal.str p.1,HVal.int .i64 p.2))) rfl rfl (zB2 _ _) hvis.nd hvis.lt fun cb R vis' hnx=> ?_)
 refine gz3 ?_;refine uCo (fun h7=> ?_) fun h8=> ?_
 obtain ⟨j,q,hq,hj,rfl⟩:=hnx.t h7;have hroom:=hvis.room hq hj;have hstep:=hvis.step hq hj;have hqm:=Ab hq;refine gz4 ?_;refine de rfl (zmN (i:=1) (L:=(zfL l trust n)) (enc:=(fun p:Str×Int=>(HVal.str p.1,HVal.int .i64 p.2))) rfl rfl (zB2 _ _) hq ?_)
 refine zaw ?_;obtain ⟨hq0,hq1⟩:=zwN hqm;refine dq (zA (j:=q.2.toNat) (a:=trust.getD q.2.toNat []) zq ty9 rfl rfl uO (getD_some uO)) ?_;refine gz1 ?_;refine de0 (zdK (i:=0) (v:=trust.getD q.2.toNat []) ziR ty9 rfl rfl rfl rfl ?_)
 refine gz2 ?_;exact ⟨_,E++[q],⟨hstep,trivial⟩,by dsimp only;rw [Av];simp only [Ai,AC];omega,trivial,uK,zo (by dsimp only;rw [zzn hvis (zmn _ _ _) hq hj];rfl)⟩;obtain ⟨rfl,hlen⟩:=hnx.f h8;have hEp:=hvis.done hlen;refine gz2 ?_;refine zN ?_;refine gz2 ?_;refine ze (Ghost.only (i:=0) rfl) ?_;refine gz5 ?_;exact zah rfl ⟨_,_,rfl,zxZ hEp,zA1 hEp,rfl⟩
end
end Go.Proofs.YtpgopgjleokciaaGreatDoor
namespace Go.HL
section
variable {P:Program}
abbrev hsm (L:zhO):HVal:= .hmap (L.map fun p=> .str p.1) (L.map (·.2))
abbrev zxr (S:List (List UInt8)):HVal:=hsm (zaY S)
theorem zEa (L:zhO):(sk L).map (·.1)=L.map fun p=>HVal.str p.1:=by simp [sk,Function.comp_def]
theorem zEb (L:zhO):(sk L).map (·.2)=L.map (·.2):=by simp [sk,Function.comp_def]
section
variable {e:Env} {dst:Option Tmp} {ty:TypeId} {pos:String} {af:Array Edge} {g:Option (Nat×Bool)}
end
inductive Bow (M:List MObj):HVal->HVal->Prop
 |weak {h h':HVal} (hw:Weak h h'):Bow M h h'
 |arr {i:Nat} {v:Value} {sz:Nat} {es:List HVal} (hm:M[i]? =some (.arr v sz es)):Bow M (.raw v) (.slice sz es)
 |cells {i b off:Nat} {cs cs':List HVal} (hm:M[i]? =some (.cells b cs)) (hl:cs.length=cs'.length) (h: ∀(j:Nat) (c c':HVal),cs[j]? =some c->cs'[j]? =some c'->Bow M c c'):Bow M (.raw (.pointer (some ⟨b,off,none⟩))) (.vptr cs' off)
 |map {i b:Nat} {L:zhO} (hm:M[i]? =some (.map b (sk L))):Bow M (.raw (.map (some b))) (hsm L)
 |vptr {off:Nat} {l l':List HVal} (hl:l.length=l'.length) (h: ∀(j:Nat) (c c':HVal),l[j]? =some c->l'[j]? =some c'->Bow M c c'):Bow M (.vptr l off) (.vptr l' off)
 |fn {f:Fn} {c1 l l':List HVal} (hl:l.length=l'.length) (h: ∀(j:Nat) (c c':HVal),l[j]? =some c->l'[j]? =some c'->Bow M c c'):Bow M (.fn f c1 l) (.fn f c1 l')
theorem Bow.refl {M:List MObj} {h:HVal}:Bow M h h:= .weak (Weak.refl _)
theorem V.vptr_inv' {I:Imm} {cs:List HVal} {off:Nat} {v:Value} (h:V I (.vptr cs off) v): ∃b base rc el fr,v= .pointer (some ⟨b,base+off,none⟩)/\I.heap b=some (.cells rc el fr)/\base+cs.length<=rc.size/\
 ∀(j:Nat) (c:HVal) (v:Value),cs[j]? =some c->rc[base+j]? =some v->V I c v:=by
 cases h with
 |vptr h1 h2 h3=>exact ⟨_,_,_,_,_,rfl,h1,h2,h3⟩
theorem Bow.v [Tracks] {M:List MObj} {I:Imm} {F:List MObj} {w:World} {h h':HVal} (hb:Bow M h h') (hs:Sat P I (M++F) w): ∀{v:Value},V I h v->V (zcC w) h' v:=by
 induction hb with
 |weak hw=>intro v hv;exact hw _ _ (hv.mono hs.le_all)
 |arr hm=>intro v hv;exact (Bor.arr hm).v hs hv
 | @cells i b off cs cs' hm hl _ ih=>
   intro v hv
   rw [hv.raw_inv];obtain ⟨rc,el,fr,h2,h3,h4⟩:=hs.obj _ (An _ (Ab hm));have:=V.vptr (I:=zcC w) (cs:=cs') (off:=off) (base:=0) h2 (by have:=h4.1;simp at this;omega) fun j c v a1 a2=>by
    have hj:=zp a1;have hj':=Aa (l:=cs) (i:=j) (by omega);exact ih j _ c hj' a1 (h4.2 j _ v hj' (by simpa using a2))
   rwa [Br] at this
 | @map i b L hm=>
   intro v hv
   rw [hv.raw_inv];obtain ⟨es,clk,h1,h2,h3⟩:=hs.obj _ (An _ (Ab hm));have hn:es.size=L.length:=by simpa [sk] using h2.1
   refine .hmap (I:=zcC w) h1 (by simp [hn]) (by simp [hn]) (fun j c m a1 a2=> ?_) (fun j c m a1 a2=> ?_)
   rw [<-zEa,Ag] at a1
   cases hq:(sk L)[j]? with
   |none=>rw [hq] at a1;simp at a1
   |some p=>rw [hq] at a1;simp at a1;subst a1;exact ((h3 j p m hq a2).1).mono hs.le_all
   rw [<-zEb,Ag] at a1
   cases hq:(sk L)[j]? with
   |none=>rw [hq] at a1;simp at a1
   |some p=>rw [hq] at a1;simp at a1;subst a1;exact ((h3 j p m hq a2).2).mono hs.le_all
 | @vptr off l l' hl _ ih=>
   intro v hv
   obtain ⟨b,base,rc,el,fr,rfl,h1,h2,h3⟩:=hv.vptr_inv';refine .vptr (I:=zcC w) (hs.imm _ _ h1) (by omega) fun j c u a1 a2=> ?_
   have hj:=zp a1;have hj':=Aa (l:=l) (i:=j) (by omega);exact ih j _ c hj' a1 (h3 j _ u hj' a2)
 | @fn f c1 l l' hl _ ih=>
   intro v hv
   cases hv with
   |fn g1 g2 g3 g4=>
     refine .fn g1 (by omega) (fun j c u a1 a2=>(g3 j c u a1 a2).mono hs.le_all) fun j c u a1 a2=> ?_
     have hj:=zp a1;have hj':=Aa (l:=l) (i:=j) (by omega);exact ih j _ c hj' a1 (g4 j _ u hj' a2)
end
section
open Go
variable {P:Program} {e:Env} {dst:Option Tmp} {ty:TypeId} {pos:String} {af:Array Edge} {g:Option (Nat×Bool)}
theorem zu9 [Tracks] {x:Operand} {t:TypeId} {m:Int} (hx:zh e x=some (.int .u64 m)):POp P e ⟨dst,.unOp .neg t x,ty,pos,af,g⟩ (.int .u64 (IntKind.wrap .u64 (-m))):=
 zF fun I a w ho=>⟨.int .u64 (IntKind.wrap .u64 (-m)),by
  have h1:=(ho.one (x:=x) (by simp [Op.operands]) hx).int_inv;simp only [execOp,h1,Op.unary,Op.intArith,Sem.run_bind,Sem.run_pure,Result.andThen_ok];rw [Int.zero_sub],.int _ _⟩
theorem ztY {n:Int} (h1: -9223372036854775808<=n) (h2:n<=9223372036854775807):IntKind.wrap .u64 n=if n<0 then n+18446744073709551616 else n:=by
 unfold IntKind.wrap
 split<;>simp [IntKind.bits,IntKind.signed]<;>omega
end
end Go.HL
namespace Go.Proofs.YtpgopgjleokciaaGreatDoor
set_option maxRecDepth 100000
set_option linter.unusedVariables false
set_option linter.unusedSimpArgs false
section
open Go.Proofs.Tryz
open Go.HL
theorem zhb [Tracks] {l:List Str} (hl:l.length<=1000000):ConP prog 78 [eSs l] (.int .i64 (zdm l)):=by
 refine uOb func78 ntmps78 ?_;refine zct ?_;refine uCo (fun h1=> ?_) fun h2=> ?_
 refine gz4 ?_;refine uRp ?_;unfold zdm
 (try clear hdx hg);(try simp only [Ae]);focus first|rfl|(simp_all;done)|((repeat' split)<;>focus first|rfl|(exfalso;omega)|(simp_all;done)|(exfalso;rcases ‹_\/_› with q|q<;>simp_all;done)|(exfalso;simp_all;omega))
 refine gz6 ?_;refine uCo (fun h3=> ?_) fun h4=> ?_
 refine gz4 ?_;refine uRp ?_;unfold zdm
 (try clear hdx hg);(try simp only [Ae]);focus first|rfl|(simp_all;done)|((repeat' split)<;>focus first|rfl|(exfalso;omega)|(simp_all;done)|(exfalso;rcases ‹_\/_› with q|q<;>simp_all;done)|(exfalso;simp_all;omega))
 refine gz5 ?_;refine dq (uCl ztA rfl (zg1 (by assumption))) ?_;refine gz3 ?_;refine uRp ?_;unfold zdm
 (try clear hdx hg);(try simp only [Ae]);focus first|rfl|(simp_all;done)|((repeat' split)<;>focus first|rfl|(exfalso;omega)|(simp_all;done)|(exfalso;rcases ‹_\/_› with q|q<;>simp_all;done)|(exfalso;simp_all;omega))
theorem zta [Tracks] {n d:Int} (hn: -1000000000000<=n/\n<=1000000000000) (hd:1<=d/\d<=1000000000000):ConP prog 166 [.agg [.int .i64 n,.int .i64 d]] (.bool (zmX n d)):=by
 refine uOb func166 ntmps166 ?_;refine gz4 ?_;refine uDr mixed ?_;refine gz2 ?_;refine uB 2 rfl (zS (zcd ty3 zpe rfl) (congrArg (HVal.int .u64) (ztY uO uO))) ?_;refine gz2 ?_;refine uB 5 rfl (zS (zcd ty3 zpe rfl) (congrArg (HVal.int .u64) (show IntKind.wrap .u64 d=((d.natAbs:Nat):Int) by rw [ztY uO uO,if_neg uO];omega))) ?_;refine gz3 ?_;refine uVj [3,1,11,5] (fun (z0:Unit)=>[(3,.int .u64 ((n.natAbs:Nat):Int))]) (fun (z0:Unit)=>[]) (fun (z0:Unit)=>True) ?_ ?_
 skip
 refine gz5 ?_;refine uCo (fun h1=> ?_) fun h2=> ?_
 refine gz2 ?_;refine dq (zS (zu9 rfl) (congrArg (HVal.int .u64) (show IntKind.wrap .u64 (-(if n<0 then n+18446744073709551616 else n))=((n.natAbs:Nat):Int) by rw [if_pos (by assumption),zzq uO uO];omega))) ?_;refine gz2 ?_;exact ⟨(),trivial,⟨rfl,trivial⟩,uK,Ac _⟩;refine gz1 ?_;exact ⟨(),trivial,⟨congrArg (fun q=>some (HVal.int .u64 q)) (show (if n<0 then n+18446744073709551616 else n)=((n.natAbs:Nat):Int) by rw [if_neg uO];omega),trivial⟩,uK,Ac _⟩
 intro z0 _
 refine gz2 ?_;refine uT2 [3,2,16,6] (fun a b=>[(3,.int .u64 ((a:Nat):Int)),(4,.int .u64 ((b:Nat):Int))]) (fun a b=>[]) (fun a b=>Nat.gcd a b=Nat.gcd n.natAbs d.natAbs) (fun a b=>b) (n.natAbs) (d.natAbs) ?_ ?_
 rfl
 intro a b hg
 refine gz5 ?_;refine uCo (fun h3=> ?_) fun h4=> ?_
 have hb0:0<b:=by omega
 refine gz3 ?_;refine zhu mixed ?_;refine gz3 ?_;refine uB 3 rfl (zS (zcx rfl rfl uO) (congrArg (HVal.int .u64) (zp9 a b))) ?_;refine gz4 ?_;refine ⟨b,a%b,?_,?_,⟨rfl,rfl,trivial⟩,uK,Ac _⟩
 exact zom.trans hg
 dsimp only;exact BW _ hb0
 obtain rfl:b=0:=by omega
 rw [Nat.gcd_zero_right] at hg;refine gz2 ?_;refine zN ?_;refine gz8 ?_;refine zw rfl ?_
 show HVal.bool _=_
 unfold zmX;rw [<-hg]
 congr 1
 rw [AF]
 simp
 try omega
theorem zji [Tracks] {n d most:Int} (hn: -1000000000<=n/\n<=1000000000) (hd: -1000000000<=d/\d<=1000000000) (hm:0<=most/\most<=1000000):ConP prog 79 [.agg [.int .i64 n,.int .i64 d],.int .i64 most] (.int .i64 (zbB n d most)):=by
 refine uOb func79 ntmps79 ?_;refine zdl ?_;refine dg rfl rfl (fun hc=>by
  have hd1:1<=d:=by (have q:=hc;simp at q;omega)
  exact ⟨_,OpenTo.upd (t:=10) rfl (hc) (OpenTo.refl _),uCl zBl rfl (zta (n:=n) (d:=d) uO uO)⟩) ?_
 refine gz4 ?_;refine uCo (fun h1=> ?_) fun h2=> ?_
 refine gz4 ?_;refine uRp ?_;unfold zbB
 (rw [if_pos uSa])
 have hd1:1<=d:=by (first|omega|(simp_all;omega))
 have hmd:=zqZ (a:=most) (b:=d) (A:=1000000) (B:=1000000000) uO uO uO uO;have hmn: -most*d= -(most*d):=Bk _ _;refine gz3 ?_;refine dq (zcx rfl rfl uO) ?_;refine gz5 ?_;refine uGr rfl (fun hc=>by have hq:=hc;(try simp at hq);exact zhJ rfl uO uO) ?_;refine gz2 ?_;refine uGr rfl (fun hc=>by have hq:=hc;(try simp at hq);exact zby rfl rfl uO uO) ?_;refine gz3 ?_;refine uGr rfl (fun hc=>by have hq:=hc;(try simp at hq);exact zby rfl rfl uO uO) ?_;refine uGr rfl (fun hc=>uCl zbH rfl zal) ?_;refine gz3 ?_;refine uCo (fun h3=> ?_) fun h4=> ?_
 refine gz4 ?_;refine uRp ?_;unfold zbB
 (rw [if_neg uSa,if_pos uSa])
 refine gz7 ?_;refine uRp ?_;unfold zbB
 (rw [if_neg uSa,if_neg uSa])
theorem zdW [Tracks] {l:List PlayerS} {s:Str} {fid:FuncId} (hca:Callable prog fid) (hp: ∀x:PlayerS,ConP prog fid [zeT x,.str s] (.int .i64 (zY x.Key s))) (hl:l.length<=1000000) (hs:SortedS (l.map (·.Key))):ConP prog 141 [zbj l,.str s,.fn (.func fid) [] []] (.tup [.int .i64 (zbU (l.map (·.Key)) s),.bool ((l.map (·.Key)).contains s)]):=by
 have hLl:(l.map (·.Key)).length=l.length:=Ah _;refine uOb func141 ntmps141 ?_;refine zpW ?_;refine uT2 [9,3,15,20] (fun i j=>[(9,.int .i64 i),(10,.int .i64 j)]) (fun i j=>[]) (fun i j=>i<=j/\j<=(l.map (·.Key)).length/\(∀(k:Nat) (x:Str),k<i->(l.map (·.Key))[k]? =some x->Op.bytesLess x s=true)/\(∀(k:Nat) (x:Str),j<=k->(l.map (·.Key))[k]? =some x->Op.bytesLess x s=false)) (fun i j=>j-i) (0) (l.length) ?_ ?_;exact ⟨Ad _,by rw [hLl];exact Af _,fun k x h=>by omega,fun k x h1 h2=>by have:=zp h2;omega⟩;rintro i j ⟨hij,hjl,ha,hb⟩;rw [hLl] at hjl;refine gz6 ?_;refine uCo (fun h1=> ?_) fun h2=> ?_
 obtain ⟨x,hx⟩: ∃x,l[(i+j)/2]? =some x:=⟨_,Aa uO⟩
 have hxL:(l.map (·.Key))[(i+j)/2]? =some x.Key:=by rw [Ag,hx];rfl
 have hm:(i+j)/2<j/\i<=(i+j)/2:=by omega
 refine gz7 ?_;refine dq (zcd ty3 zk4 rfl) ?_;refine dq (zo7 rfl rfl uO) ?_;refine dq (zS (zcd zk4 ty3 rfl) (zuX (i:=i) (j:=j) uO)) ?_;refine gz6 ?_;refine dq (zA (j:=(i+j)/2) (a:=x) znb zeO rfl rfl rfl hx) ?_;refine gz2 ?_;refine dq (zap hca rfl rfl (WeakL.refl _) (hp _)) ?_;refine gz2 ?_;refine uCo (fun h3=> ?_) fun h4=> ?_
 refine gz6 ?_;exact ⟨(i+j)/2+1,j,⟨by omega,by rw [hLl];exact hjl,zwO hs hxL (zhG.1 h3),hb⟩,uD,⟨rfl,rfl,trivial⟩,uK,Ac _⟩;refine gz5 ?_;exact ⟨i,(i+j)/2,⟨by omega,by omega,ha,ztw hs hxL (by have q:=fun e=>(show ¬zY x.Key s<0 by omega) (zhG.2 e);simpa using q)⟩,uD,⟨rfl,rfl,trivial⟩,uK,Ac _⟩;obtain rfl:i=j:=by omega
 have hjl2:i<=(l.map (·.Key)).length:=by rw [hLl];exact hjl
 refine gz2 ?_;refine zN ?_;refine zct ?_;refine uGr rfl (fun hc=>by have hq:=hc;(try simp at hq);exact zA (j:=i) (a:=l.getD i zen) znb zeO rfl rfl rfl (getD_some uO)) ?_;refine gz2 ?_;refine uGr rfl (fun hc=>zap hca rfl rfl (WeakL.refl _) (hp _)) ?_;refine gz6 ?_;refine zw rfl ?_;rw [zl6 hjl2 ha hb,<-zpV hs hjl2 ha hb,<-zyh]
theorem zqu [Tracks] {x:PlayerS} {s:Str}:ConP prog 274 [zeT x,.str s] (.int .i64 (zY x.Key s)):=by
 refine uOb func274 ntmps274 ?_;refine gz8 ?_;refine dq (uCl zcf rfl zM) ?_;refine gz3 ?_;refine zw rfl ?_
 rfl
theorem znj [Tracks] {l:List PlayerS} {s:Str} (hl:l.length<=1000000) (hs:SortedS (l.map (·.Key))):ConP prog 217 [zbj l,.str s] (.int .i64 (zfP (l.map (·.Key)) s)):=by
 refine uOb func217 ntmps217 ?_;refine gz6 ?_;refine dq (uCl zBj rfl (zdW (l:=l) zFZ (fun _=>zqu) hl hs)) ?_;refine zct ?_;refine uCo (fun h1=> ?_) fun h2=> ?_
 refine gz4 ?_;refine uRp ?_;unfold zfP
 simp_all
 refine gz7 ?_;refine uRp ?_;unfold zfP
 simp_all
theorem zhC [Tracks] {l:List PlayerS} (hT:Tracks.on=false) (hl:l.length<=1000000) (hn: ∀p∈l,p.Name∈zdg) (hp: ∀p∈l,p.Positions.length<=1000000):ConP prog 216 [zbj l] (.int .i64 (zcN l)):=by
 refine uOb func216 ntmps216 ?_;refine gz9 ?_;refine uCo (fun h1=> ?_) fun h2=> ?_
 refine gz4 ?_;refine uRp ?_
 (refine congrArg _ (zbK ?_)
  omega)
 refine gz9 ?_;refine uT1 [2,4,11,42] (fun k=>[(11,.int .i64 k)]) (fun k=>[]) (fun k=>k<=l.length/\(zaV zcR zen l 0 l=zaV zcR zen l k (l.drop k))) (fun k=>l.length-k) (0) ?_ ?_;exact ⟨Ad _,rfl⟩;rintro k ⟨hk,hg⟩;refine gz4 ?_;refine uCo (fun h3=> ?_) fun h4=> ?_
 obtain ⟨x,hx⟩: ∃x,l[k]? =some x:=⟨_,Aa h3⟩
 have hdx:=zk hx;rw [hdx] at hg;refine gz8 ?_;refine de rfl (zj zeO rfl fun b4=> ?_)
 refine gz1 ?_;refine de0 (zn zeO rfl rfl rfl rfl rfl ?_)
 refine gz1 ?_;refine ze (zm 4 rfl) ?_;refine gz5 ?_;refine dq (uCl zcD rfl zak) ?_;refine gz3 ?_;refine uCo (fun h5=> ?_) fun h6=> ?_
 refine gz4 ?_;refine uRp ?_
 (refine congrArg _ (zy (e:=5) ?_ hg ?_ ?_)
  omega
  unfold zcR;exact uT
  first|decide|assumption)
 refine uDr mixed ?_;refine gz8 ?_;refine uGy 8 rfl rfl (fun hc=>by have hq:=hc;(try simp at hq);exact zA (j:=k-1) (a:=l.getD (k-1) zen) znb zeO rfl rfl uO (getD_some uO)) ?_;refine gz6 ?_;refine uCo (fun h7=> ?_) fun h8=> ?_
 refine gz4 ?_;refine uRp ?_
 (refine congrArg _ (zy (e:=7) ?_ hg ?_ ?_)
  omega
  unfold zcR;exact uT
  first|decide|assumption)
 have hn6:=zoB (hn x (Ab hx));refine gz3 ?_;refine dq (uCl zFY rfl (zug hT (hn x (Ab hx)))) ?_;refine gz5 ?_;refine uGr rfl (fun hc=>uCl zbH rfl zal) ?_;refine gz3 ?_;refine zZ rfl (fun h9=> ?_) (fun h9=> ?_)
 exfalso
 try simp at h9
 simp_all
 try simp at h9
 refine gz6 ?_;refine dq (uCl zzF rfl (zhb (hp x (Ab hx)))) ?_;refine gz6 ?_;refine uCo (fun h10=> ?_) fun h11=> ?_
 refine gz5 ?_;refine uRp ?_
 (refine congrArg _ (zy (e:=(zdm x.Positions)) ?_ hg ?_ ?_)
  omega
  unfold zcR;exact uT
  first|decide|assumption)
 refine gz7 ?_;refine ⟨k+1,?_,?_,⟨rfl,trivial⟩,uK,Ac _⟩
 refine ⟨by omega,?_⟩
 rw [hg,zaT (by unfold zcR;(try clear hdx hg);(try simp only [Ae]);focus first|(simp_all;done)|((repeat' split)<;>focus first|rfl|(exfalso;omega)|(simp_all;done)|(exfalso;rcases ‹_\/_› with q|q<;>simp_all;done)|(exfalso;simp_all;omega)))]
 dsimp only;omega
 have hnk:l.length<=k:=by omega
 obtain rfl:k=l.length:=by omega
 rw [zH (Af _)] at hg;refine gz2 ?_;refine zv ?_;refine gz6 ?_;refine uRp ?_
 (refine congrArg _ (zbz ?_ hg)
  omega)
theorem zmA [Tracks] {L:List PlayerS} {l:List StintS} (hT:Tracks.on=false) (hL:L.length<=1000000) (hn: ∀p∈L,p.Name∈zdg) (hp: ∀p∈L,p.Positions.length<=1000000) (hl:l.length<=1000000):ConP prog 207 [zbj L,zfA l] (.int .i64 (zkw L l)):=by
 refine uOb func207 ntmps207 ?_;refine gz6 ?_;refine dq (uCl zBA rfl (zhC (l:=L) hT hL hn hp)) ?_;refine gz6 ?_;refine uCo (fun h1=> ?_) fun h2=> ?_
 refine gz5 ?_;refine uRp ?_
 try rw [hE]
 (rw [zkw,if_pos (by assumption)])
 refine gz3 ?_;have hz:zcN L=0:=by first|assumption|simp_all
 have hE:zkw L l=zjl L l:=by rw [zkw,if_neg (by simp [hz])]
 refine gz5 ?_;refine uCo (fun h3=> ?_) fun h4=> ?_
 refine gz4 ?_;refine uRp ?_
 try rw [hE]
 (refine congrArg _ (zbK ?_)
  omega)
 refine gz9 ?_;refine uT1 [4,1,6,2,18,53] (fun k=>[(18,.int .i64 k)]) (fun k=>[]) (fun k=>k<=l.length/\(zaV (zdZ L) zfu l 0 l=zaV (zdZ L) zfu l k (l.drop k))) (fun k=>l.length-k) (0) ?_ ?_;exact ⟨Ad _,rfl⟩;rintro k ⟨hk,hg⟩;refine gz4 ?_;refine uCo (fun h5=> ?_) fun h6=> ?_
 obtain ⟨x,hx⟩: ∃x,l[k]? =some x:=⟨_,Aa h5⟩
 have hdx:=zk hx;rw [hdx] at hg;refine gz8 ?_;refine de rfl (zj zcP rfl fun b7=> ?_)
 refine gz1 ?_;refine de0 (zn zcP rfl rfl rfl rfl rfl ?_)
 refine gz1 ?_;refine ze (zm 7 rfl) ?_;refine gz1 ?_;have hfn:zfP (L.map (·.Key)) x.Player<0↔zgA L x.Player=false:=zsr;refine gz4 ?_;refine dq (uCl zBB rfl (znj (l:=L) hL (zm0 hz))) ?_;refine gz3 ?_;refine uCo (fun h7=> ?_) fun h8=> ?_
 refine gz4 ?_;refine uRp ?_
 try rw [hE]
 (refine congrArg _ (zy (e:=8) ?_ hg ?_ ?_)
  omega
  unfold zdZ;exact uT
  first|decide|assumption)
 refine gz7 ?_;refine uGr rfl (fun hc=>uCl zcD rfl zak) ?_;refine gz4 ?_;refine uCo (fun h9=> ?_) fun h10=> ?_
 refine gz4 ?_;refine uRp ?_
 try rw [hE]
 (refine congrArg _ (zy (e:=5) ?_ hg ?_ ?_)
  omega
  unfold zdZ;exact uT
  first|decide|assumption)
 refine gz3 ?_;refine dq (uCl zlq rfl zcG) ?_;refine gz3 ?_;refine uCo (fun h11=> ?_) fun h12=> ?_
 refine gz4 ?_;refine uRp ?_
 try rw [hE]
 (refine congrArg _ (zy (e:=1) ?_ hg ?_ ?_)
  omega
  unfold zdZ;exact uT
  first|decide|assumption)
 refine uDr mixed ?_;refine gz8 ?_;refine uGy 8 rfl rfl (fun hc=>by have hq:=hc;(try simp at hq);exact zA (j:=k-1) (a:=l.getD (k-1) zfu) zhs zcP rfl rfl uO (getD_some uO)) ?_;refine gz2 ?_;refine uGy 11 rfl rfl (fun hc=>uCl zcf rfl zM) ?_;refine gz5 ?_;refine uGy 17 rfl rfl (fun hc=>by have hq:=hc;(try simp at hq);exact zA (j:=k-1) (a:=l.getD (k-1) zfu) zhs zcP rfl rfl uO (getD_some uO)) ?_;refine gz2 ?_;refine uGy 20 rfl rfl (fun hc=>uCl zdb rfl zV) ?_;refine uGy 21 rfl rfl (fun hc=>za (hs:=[_,_]) zac ty3 rfl rfl (by decide) (by decide) rfl) ?_;refine uGy 22 rfl rfl (fun hc=>uCl zfO rfl (zbe (l:=[_,_]) (by simp))) ?_;refine gz4 ?_;refine uCo (fun h13=> ?_) fun h14=> ?_
 refine gz4 ?_;refine uRp ?_
 try rw [hE]
 (refine congrArg _ (zy (e:=7) ?_ hg ?_ ?_)
  omega
  unfold zdZ;exact uT
  first|decide|assumption)
 refine gz8 ?_;refine ⟨k+1,?_,?_,⟨rfl,trivial⟩,uK,Ac _⟩
 refine ⟨by omega,?_⟩
 rw [hg,zaT (by unfold zdZ;(try clear hdx hg);(try simp only [Ae]);focus first|(simp_all;done)|((repeat' split)<;>focus first|rfl|(exfalso;omega)|(simp_all;done)|(exfalso;rcases ‹_\/_› with q|q<;>simp_all;done)|(exfalso;simp_all;omega)))]
 dsimp only;omega
 have hnk:l.length<=k:=by omega
 obtain rfl:k=l.length:=by omega
 rw [zH (Af _)] at hg;refine gz2 ?_;refine zv ?_;refine gz6 ?_;refine uRp ?_
 try rw [hE]
 (refine congrArg _ (zbz ?_ hg)
  omega)
theorem zlk [Tracks] {l:List FixS} (hl:l.length<=1000000):ConP prog 208 [zmM l] (.int .i64 (zjj l)):=by
 refine uOb func208 ntmps208 ?_;refine gz9 ?_;refine uCo (fun h1=> ?_) fun h2=> ?_
 refine gz4 ?_;refine uRp ?_
 (refine congrArg _ (zbK ?_)
  omega)
 refine gz9 ?_;refine uT1 [2,4,11,59] (fun k=>[(11,.int .i64 k)]) (fun k=>[]) (fun k=>k<=l.length/\(zaV zgg zls l 0 l=zaV zgg zls l k (l.drop k))) (fun k=>l.length-k) (0) ?_ ?_;exact ⟨Ad _,rfl⟩;rintro k ⟨hk,hg⟩;refine gz4 ?_;refine uCo (fun h3=> ?_) fun h4=> ?_
 obtain ⟨x,hx⟩: ∃x,l[k]? =some x:=⟨_,Aa h3⟩
 have hdx:=zk hx;rw [hdx] at hg;refine gz8 ?_;refine de rfl (zj zaK rfl fun b4=> ?_)
 refine gz1 ?_;refine de0 (zn zaK rfl rfl rfl rfl rfl ?_)
 refine gz1 ?_;refine ze (zm 4 rfl) ?_;refine gz5 ?_;refine dq (uCl zlq rfl zcG) ?_;refine gz4 ?_;refine uGr rfl (fun hc=>uCl zkh rfl zbC) ?_;refine gz4 ?_;refine uCo (fun h5=> ?_) fun h6=> ?_
 refine gz4 ?_;refine uRp ?_
 (refine congrArg _ (zy (e:=1) ?_ hg ?_ ?_)
  omega
  unfold zgg;exact uT
  first|decide|assumption)
 refine gz3 ?_;refine dq (uCl zcD rfl zak) ?_;refine gz4 ?_;refine uGr rfl (fun hc=>uCl zcD rfl zak) ?_;refine gz4 ?_;refine uCo (fun h7=> ?_) fun h8=> ?_
 refine gz4 ?_;refine uRp ?_
 (refine congrArg _ (zy (e:=5) ?_ hg ?_ ?_)
  omega
  unfold zgg;exact uT
  first|decide|assumption)
 refine gz8 ?_;refine uCo (fun h9=> ?_) fun h10=> ?_
 refine gz4 ?_;refine uRp ?_
 (refine congrArg _ (zy (e:=6) ?_ hg ?_ ?_)
  omega
  unfold zgg;exact uT
  first|decide|assumption)
 refine gz8 ?_;refine uCo (fun h11=> ?_) fun h12=> ?_
 refine gz8 ?_;refine ⟨k+1,?_,?_,⟨rfl,trivial⟩,uK,Ac _⟩
 refine ⟨by omega,?_⟩
 rw [hg,zaT (by unfold zgg;(try clear hdx hg);(try simp only [Ae]);focus first|(simp_all;done)|((repeat' split)<;>focus first|rfl|(exfalso;omega)|(simp_all;done)|(exfalso;rcases ‹_\/_› with q|q<;>simp_all;done)|(exfalso;simp_all;omega)))]
 dsimp only;omega
 refine gz6 ?_;refine dq (zA (j:=k-1) (a:=l.getD (k-1) zls) zc7 zaK rfl rfl uO (getD_some uO)) ?_;refine gz1 ?_;refine de rfl (zj zaK rfl fun b5=> ?_)
 refine de0 (zn zaK rfl rfl rfl rfl rfl ?_)
 refine gz1 ?_;refine ze (zm 5 rfl) ?_;refine uDr mixed ?_;refine gz4 ?_;refine uB 4 rfl (uCl zdb rfl zV) ?_;refine gz4 ?_;refine uB 9 rfl (uCl zdb rfl zV) ?_;refine gz4 ?_;refine uB 14 rfl (uCl zcf rfl zM) ?_;refine uB 15 rfl (za (hs:=[_,_,_]) zac ty3 rfl rfl (by decide) (by decide) rfl) ?_;refine uB 16 rfl (uCl zfO rfl (zbe (l:=[_,_,_]) (by simp))) ?_;refine gz2 ?_;refine uCo (fun h13=> ?_) fun h14=> ?_
 refine gz4 ?_;refine uRp ?_
 (refine congrArg _ (zy (e:=7) ?_ hg ?_ ?_)
  omega
  unfold zgg;exact uT
  first|decide|assumption)
 refine gz7 ?_;refine ⟨k+1,?_,?_,⟨rfl,trivial⟩,uK,Ac _⟩
 refine ⟨by omega,?_⟩
 rw [hg,zaT (by unfold zgg;(try clear hdx hg);(try simp only [Ae]);focus first|(simp_all;done)|((repeat' split)<;>focus first|rfl|(exfalso;omega)|(simp_all;done)|(exfalso;rcases ‹_\/_› with q|q<;>simp_all;done)|(exfalso;simp_all;omega)))]
 dsimp only;omega
 have hnk:l.length<=k:=by omega
 obtain rfl:k=l.length:=by omega
 rw [zH (Af _)] at hg;refine gz2 ?_;refine zv ?_;refine gz6 ?_;refine uRp ?_
 (refine congrArg _ (zbz ?_ hg)
  omega)
theorem zmz [Tracks] {L:List PlayerS} {l:List HealthS} (hT:Tracks.on=false) (hL:L.length<=1000000) (hn: ∀p∈L,p.Name∈zdg) (hp: ∀p∈L,p.Positions.length<=1000000) (hl:l.length<=1000000) (hw: ∀x∈l,-1000000000000000<=x.To/\x.To<=1000000000000000):ConP prog 133 [zbj L,zcc l] (.int .i64 (zoq L l)):=by
 refine uOb func133 ntmps133 ?_;refine gz6 ?_;refine dq (uCl zBA rfl (zhC (l:=L) hT hL hn hp)) ?_;refine gz6 ?_;refine uCo (fun h1=> ?_) fun h2=> ?_
 refine gz5 ?_;refine uRp ?_
 try rw [hE]
 (rw [zoq,if_pos (by assumption)])
 refine gz3 ?_;have hz:zcN L=0:=by first|assumption|simp_all
 have hE:zoq L l=zor L l:=by rw [zoq,if_neg (by simp [hz])]
 refine gz5 ?_;refine uCo (fun h3=> ?_) fun h4=> ?_
 refine gz4 ?_;refine uRp ?_
 try rw [hE]
 (refine congrArg _ (zbK ?_)
  omega)
 refine gz9 ?_;refine uT1 [4,1,6,3,19,60] (fun k=>[(19,.int .i64 k)]) (fun k=>[]) (fun k=>k<=l.length/\(zaV (zb5 L) zgB l 0 l=zaV (zb5 L) zgB l k (l.drop k))) (fun k=>l.length-k) (0) ?_ ?_;exact ⟨Ad _,rfl⟩;rintro k ⟨hk,hg⟩;refine gz4 ?_;refine uCo (fun h5=> ?_) fun h6=> ?_
 obtain ⟨x,hx⟩: ∃x,l[k]? =some x:=⟨_,Aa h5⟩
 have hdx:=zk hx;rw [hdx] at hg;refine gz8 ?_;refine de rfl (zj zcB rfl fun b7=> ?_)
 refine gz1 ?_;refine de0 (zn zcB rfl rfl rfl rfl rfl ?_)
 refine gz1 ?_;refine ze (zm 7 rfl) ?_;refine gz2 ?_;have hfn:zfP (L.map (·.Key)) x.Player<0↔zgA L x.Player=false:=zsr;have hwx:=hw x (Ab hx);refine gz4 ?_;refine dq (uCl zBB rfl (znj (l:=L) hL (zm0 hz))) ?_;refine gz3 ?_;refine uCo (fun h7=> ?_) fun h8=> ?_
 refine gz4 ?_;refine uRp ?_
 try rw [hE]
 (refine congrArg _ (zy (e:=8) ?_ hg ?_ ?_)
  omega
  unfold zb5;exact uT
  first|decide|assumption)
 refine gz3 ?_;refine dq (uCl zbH rfl zal) ?_;refine gz6 ?_;refine uGr rfl (fun hc=>uCl zbH rfl zal) ?_;refine gz3 ?_;refine uCo (fun h9=> ?_) fun h10=> ?_
 refine gz4 ?_;refine uRp ?_
 try rw [hE]
 (refine congrArg _ (zy (e:=1) ?_ hg ?_ ?_)
  omega
  unfold zb5;exact uT
  first|decide|assumption)
 refine gz3 ?_;refine dq (uCl zbH rfl zal) ?_;refine gz2 ?_;refine uCo (fun h11=> ?_) fun h12=> ?_
 refine gz4 ?_;refine uRp ?_
 try rw [hE]
 (refine congrArg _ (zy (e:=4) ?_ hg ?_ ?_)
  omega
  unfold zb5;exact uT
  first|decide|assumption)
 refine gz8 ?_;refine uCo (fun h13=> ?_) fun h14=> ?_
 refine gz8 ?_;refine ⟨k+1,?_,?_,⟨rfl,trivial⟩,uK,Ac _⟩
 refine ⟨by omega,?_⟩
 rw [hg,zaT (by unfold zb5;(try clear hdx hg);(try simp only [Ae]);focus first|(simp_all;done)|((repeat' split)<;>focus first|rfl|(exfalso;omega)|(simp_all;done)|(exfalso;rcases ‹_\/_› with q|q<;>simp_all;done)|(exfalso;simp_all;omega)))]
 dsimp only;omega
 refine gz2 ?_;have hk0:0<k:=by omega
 have hpl:zgA L x.Player=true:=by
  cases hq:zgA L x.Player with
  |true=>rfl
  |false=>have:=hfn.2 hq;omega
 refine gz4 ?_;refine dq (zA (j:=k-1) (a:=l.getD (k-1) zgB) zjo zcB rfl rfl uO (getD_some uO)) ?_;refine gz1 ?_;refine de rfl (zj zcB rfl fun b8=> ?_)
 refine de0 (zn zcB rfl rfl rfl rfl rfl ?_)
 refine gz1 ?_;refine ze (zm 8 rfl) ?_;refine gz1 ?_;refine uDr mixed ?_;refine gz4 ?_;refine uB 4 rfl (uCl zcf rfl zM) ?_;refine gz4 ?_;refine uB 9 rfl (uCl zdb rfl zV) ?_;refine uB 10 rfl (za (hs:=[_,_]) zac ty3 rfl rfl (by decide) (by decide) rfl) ?_;refine uB 11 rfl (uCl zfO rfl (zbe (l:=[_,_]) (by simp))) ?_;refine gz2 ?_;refine uCo (fun h15=> ?_) fun h16=> ?_
 refine gz4 ?_;refine uRp ?_
 try rw [hE]
 (refine congrArg _ (zy (e:=7) ?_ hg ?_ ?_)
  omega
  unfold zb5;exact uT
  first|decide|assumption)
 refine zpW ?_;refine uCo (fun h17=> ?_) fun h18=> ?_
 refine gz4 ?_;refine uRp ?_
 try rw [hE]
 (refine congrArg _ (zy (e:=13) ?_ hg ?_ ?_)
  omega
  unfold zb5;exact uT
  first|decide|assumption)
 refine gz7 ?_;refine ⟨k+1,?_,?_,⟨rfl,trivial⟩,uK,Ac _⟩
 refine ⟨by omega,?_⟩
 rw [hg,zaT (by unfold zb5;(try clear hdx hg);(try simp only [Ae]);focus first|(simp_all;done)|((repeat' split)<;>focus first|rfl|(exfalso;omega)|(simp_all;done)|(exfalso;rcases ‹_\/_› with q|q<;>simp_all;done)|(exfalso;simp_all;omega)))]
 dsimp only;omega
 have hnk:l.length<=k:=by omega
 obtain rfl:k=l.length:=by omega
 rw [zH (Af _)] at hg;refine gz2 ?_;refine zv ?_;refine gz6 ?_;refine uRp ?_
 try rw [hE]
 (refine congrArg _ (zbz ?_ hg)
  omega)
theorem zi3 [Tracks] {l:List RuleS} (hl:l.length<=1000000) (hb: ∀x∈l,((-1000000000<=x.Num/\x.Num<=1000000000)/\ -1000000000<=x.Den/\x.Den<=1000000000)):ConP prog 209 [zgd l] (.int .i64 (zgM l)):=by
 refine uOb func209 ntmps209 ?_;refine gz9 ?_;refine uCo (fun h1=> ?_) fun h2=> ?_
 refine gz4 ?_;refine uRp ?_
 (refine congrArg _ (zbK ?_)
  omega)
 refine gz9 ?_;refine uT1 [2,5,12,75] (fun k=>[(12,.int .i64 k)]) (fun k=>[]) (fun k=>k<=l.length/\(zaV zd7 zk0 l 0 l=zaV zd7 zk0 l k (l.drop k))) (fun k=>l.length-k) (0) ?_ ?_;exact ⟨Ad _,rfl⟩;rintro k ⟨hk,hg⟩;refine gz4 ?_;refine uCo (fun h3=> ?_) fun h4=> ?_
 obtain ⟨x,hx⟩: ∃x,l[k]? =some x:=⟨_,Aa h3⟩
 have hdx:=zk hx;rw [hdx] at hg;refine gz8 ?_;refine de rfl (zj zgG rfl fun b4=> ?_)
 refine gz1 ?_;refine de0 (zn zgG rfl rfl rfl rfl rfl ?_)
 refine gz1 ?_;refine ze (zm 4 rfl) ?_;refine gz5 ?_;refine dq (uCl zcD rfl zak) ?_;refine gz4 ?_;refine uGr rfl (fun hc=>uCl zcD rfl zak) ?_;refine gz9 ?_;refine uGr rfl (fun hc=>uCl zcD rfl zak) ?_;refine gz5 ?_;refine uCo (fun h5=> ?_) fun h6=> ?_
 refine gz4 ?_;refine uRp ?_
 (refine congrArg _ (zy (e:=5) ?_ hg ?_ ?_)
  omega
  unfold zd7;exact uT
  first|decide|assumption)
 refine uDr mixed ?_;refine gz8 ?_;refine uGy 8 rfl rfl (fun hc=>by have hq:=hc;(try simp at hq);exact zA (j:=k-1) (a:=l.getD (k-1) zk0) zoR zgG rfl rfl uO (getD_some uO)) ?_;refine gz6 ?_;refine uCo (fun h7=> ?_) fun h8=> ?_
 refine gz4 ?_;refine uRp ?_
 (refine congrArg _ (zy (e:=7) ?_ hg ?_ ?_)
  omega
  unfold zd7;exact uT
  first|decide|assumption)
 refine gz3 ?_;refine dq (uCl zbH rfl zal) ?_;refine gz2 ?_;refine uCo (fun h9=> ?_) fun h10=> ?_
 refine gz4 ?_;refine uRp ?_
 (refine congrArg _ (zy (e:=4) ?_ hg ?_ ?_)
  omega
  unfold zd7;exact uT
  first|decide|assumption)
 refine zdl ?_;refine dq (zS (h':= .bool (zqU x.Kind)) (zjF rfl) rfl) ?_;refine gz7 ?_;refine uGr rfl (fun hc=>uCl zbH rfl zal) ?_;refine zct ?_;refine uCo (fun h11=> ?_) fun h12=> ?_
 refine gz4 ?_;refine uRp ?_
 (refine congrArg _ (zy (e:=1) ?_ hg ?_ ?_)
  omega
  unfold zd7;exact uT
  first|decide|assumption)
 refine gz4 ?_;refine dq (zS (h':= .agg [.int .i64 x.Num,.int .i64 x.Den]) (za0 zU rfl rfl (Ap rfl)) rfl) ?_;refine dq (uCl zxa rfl (zji (n:=x.Num) (d:=x.Den) (most:=10000) (hb x (Ab hx)).1 (hb x (Ab hx)).2 uO)) ?_;refine gz6 ?_;refine uCo (fun h13=> ?_) fun h14=> ?_
 refine gz5 ?_;refine uRp ?_
 (refine congrArg _ (zy (e:=(zbB x.Num x.Den 10000)) ?_ hg ?_ ?_)
  omega
  unfold zd7;exact uT
  first|decide|assumption)
 refine gz7 ?_;refine ⟨k+1,?_,?_,⟨rfl,trivial⟩,uK,Ac _⟩
 refine ⟨by omega,?_⟩
 rw [hg,zaT (by unfold zd7;(try clear hdx hg);(try simp only [Ae]);focus first|(simp_all;done)|((repeat' split)<;>focus first|rfl|(exfalso;omega)|(simp_all;done)|(exfalso;rcases ‹_\/_› with q|q<;>simp_all;done)|(exfalso;simp_all;omega)))]
 dsimp only;omega
 have hnk:l.length<=k:=by omega
 obtain rfl:k=l.length:=by omega
 rw [zH (Af _)] at hg;refine gz2 ?_;refine zv ?_;refine gz6 ?_;refine uRp ?_
 (refine congrArg _ (zbz ?_ hg)
  omega)
theorem zf8 [Tracks] {l:List SlotS} {fid:FuncId} {caps:List HVal} {p:SlotS->Bool} (hca:Callable prog fid) (hp: ∀x,ConP prog fid ([zbA x]++caps) (.bool (p x))) (hl:l.length<=1000000):ConP prog 164 [.slice 2 (l.map zbA),.fn (.func fid) [] caps] (.int .i64 (zW p l 0)):=by
 refine uOb func164 ntmps164 ?_;refine zaw ?_;refine uT1 [4,2,8,11] (fun k=>[(8,.int .i64 k)]) (fun k=>[]) (fun k=>k<=l.length/\(zW p l 0=zW p (l.drop k) k)) (fun k=>l.length-k) (0) ?_ ?_;exact ⟨Ad _,rfl⟩;rintro k ⟨hk,hg⟩;refine gz4 ?_;refine uCo (fun h1=> ?_) fun h2=> ?_
 obtain ⟨x,hx⟩: ∃x,l[k]? =some x:=⟨_,Aa h1⟩
 have hdx:=zk hx;rw [hdx] at hg;refine zdu ?_;refine dq (zap hca rfl rfl (WeakL.refl _) (hp _)) ?_;refine gz1 ?_;refine uCo (fun h3=> ?_) fun h4=> ?_
 refine gz5 ?_;refine uRp ?_
 (rw [hg];simp_all [zW])
 refine gz7 ?_;refine ⟨k+1,?_,?_,⟨rfl,trivial⟩,uK,Ac _⟩
 refine ⟨by omega,?_⟩
 rw [hg,zW,if_neg uSa];rfl
 dsimp only;omega
 have hnk:l.length<=k:=by omega
 obtain rfl:k=l.length:=by omega
 rw [zH (Af _)] at hg;refine gz2 ?_;refine zv ?_;refine gz6 ?_;refine uRp ?_
 (rw [hg];rfl)
theorem zcU [Tracks] {l:List SlotS} {fid:FuncId} {caps:List HVal} {p:SlotS->Bool} (hca:Callable prog fid) (hp: ∀x,ConP prog fid ([zbA x]++caps) (.bool (p x))) (hl:l.length<=1000000):ConP prog 76 [.slice 2 (l.map zbA),.fn (.func fid) [] caps] (.bool (l.any p)):=by
 refine uOb func76 ntmps76 ?_;refine gz6 ?_;refine dq (uCl zEX rfl (zf8 hca hp hl)) ?_;refine gz4 ?_;refine zw rfl ?_
 congr 1;exact zdd p l 0 uO
theorem zmD [Tracks] {y x:SlotS}:ConP prog 77 [zbA y,.vptr (zd (zbA x)) 0] (.bool (y.Key==x.Key)):=by
 refine uOb func77 ntmps77 ?_;refine zee ?_;refine zw rfl ?_
 rfl
theorem zf2 [Tracks] {l:List SlotS} (hl:l.length<=1000000) (hp: ∀x∈l,x.Positions.length<=1000000):ConP prog 27 [zbt l] (.int .i64 (zdn l)):=by
 refine uOb func27 ntmps27 ?_;refine zct ?_;refine uCo (fun h1=> ?_) fun h2=> ?_
 ·refine gz4 ?_;refine uRp ?_
  (unfold zdn;simp_all;done)
 ·refine gz6 ?_;refine uCo (fun h3=> ?_) fun h4=> ?_
  ·refine gz4 ?_;refine uRp ?_
   (rw [zdn,if_neg (by first|omega|simp_all),if_pos uO];done)
  ·refine zaw ?_;refine uT1 [2,4,16,23] (fun k=>[(16,.int .i64 k)]) (fun k=>[]) (fun k=>k<=l.length/\(zcO l 0 l=zcO l k (l.drop k))) (fun k=>l.length-k) (0) ?_ ?_
   ·exact ⟨Ad _,rfl⟩
   ·rintro k ⟨hk,hg⟩;refine gz4 ?_;refine uCo (fun h5=> ?_) fun h6=> ?_
    ·obtain ⟨x,hx⟩: ∃x,l[k]? =some x:=⟨_,Aa h5⟩
     have hdx:=zk hx;rw [hdx] at hg;refine gz8 ?_;refine de rfl (zj zcF rfl fun b4=> ?_)
     refine gz1 ?_;refine de0 (zn zcF rfl rfl rfl rfl rfl ?_)
     refine gz1 ?_;refine ze (zm 4 rfl) ?_;refine gz5 ?_;refine dq (uCl zcD rfl zak) ?_;refine gz3 ?_;refine uCo (fun h7=> ?_) fun h8=> ?_
     ·refine gz4 ?_;refine uRp ?_
      (refine congrArg _ (ziH (e:=5) ?_ ?_ hg ?_)
       ·first|omega|simp_all
       ·omega
       ·rw [zcO]
        simp_all
        done)
     ·refine gz3 ?_;refine dq (zaP zcl zcF rfl rfl ⟨_,_,rfl,rfl⟩ uO uO) ?_;refine gz1 ?_;refine dq (uCl ca76 rfl (zcU (l:=l.take k) (p:=fun y=>y.Key==x.Key) ca77 (fun _=>zmD) (by rw [Az];omega))) ?_;refine gz2 ?_;refine uCo (fun h9=> ?_) fun h10=> ?_
      ·refine gz4 ?_;refine uRp ?_
       (refine congrArg _ (ziH (e:=6) ?_ ?_ hg ?_)
        ·first|omega|simp_all
        ·omega
        ·rw [zcO]
         simp_all
         done)
      ·refine gz6 ?_;refine dq (uCl zzF rfl (zhb (hp x (Ab hx)))) ?_;refine gz6 ?_;refine uCo (fun h11=> ?_) fun h12=> ?_
       ·refine gz5 ?_;refine uRp ?_
        (refine congrArg _ (ziH (e:=(zdm x.Positions)) ?_ ?_ hg ?_)
         ·first|omega|simp_all
         ·omega
         ·rw [zcO]
          simp_all
          done)
       ·refine gz7 ?_;refine ⟨k+1,?_,?_,⟨rfl,trivial⟩,uK,Ac _⟩
        ·refine ⟨by omega,?_⟩
         rw [hg,zcO,if_neg uSa,if_neg uSa,if_neg uSa]
        ·dsimp only;omega
    ·have hnk:l.length<=k:=by omega
     obtain rfl:k=l.length:=by omega
     rw [zH (Af _)] at hg;refine gz2 ?_;refine zv ?_;refine gz6 ?_;refine uRp ?_
     (refine congrArg _ (zvk ?_ ?_ hg)<;>first|omega|simp_all)
theorem zhQ [Tracks] {b:BoundS}:ConP prog 210 [zgc b] (.int .i64 (zdU b)):=by
 refine uOb func210 ntmps210 ?_;refine gz8 ?_;refine dq (uCl zbH rfl zal) ?_;refine gz3 ?_;refine uGr rfl (fun hc=>uCl zbH rfl zal) ?_;refine gz4 ?_;refine uGr rfl (fun hc=>uCl zbH rfl zal) ?_;refine gz4 ?_;refine uGr rfl (fun hc=>uCl zbH rfl zal) ?_;refine gz2 ?_;refine uCo (fun h1=> ?_) fun h2=> ?_
 refine gz4 ?_;refine uRp ?_;unfold zdU
 (rw [if_pos uSa])
 refine gz6 ?_;refine uRp ?_;unfold zdU
 (rw [if_neg uSa])
theorem zpp [Tracks] {a b:MoveS}:ConP prog 214 [zdq a,zdq b] (.int .i64 (zgZ a b)):=by
 refine uOb func214 ntmps214 ?_;refine gz5 ?_;refine uDr mixed ?_;refine gz4 ?_;refine uB 4 rfl (uCl zdb rfl zV) ?_;refine gz4 ?_;refine uB 9 rfl (uCl zcf rfl zM) ?_;refine gz4 ?_;refine uB 14 rfl (uCl zcf rfl zM) ?_;refine gz4 ?_;refine uB 19 rfl (uCl zdb rfl zV) ?_;refine uB 20 rfl (za (hs:=[_,_,_,_]) zac ty3 rfl rfl (by decide) (by decide) rfl) ?_;refine uB 21 rfl (uCl zfO rfl (zbe (l:=[_,_,_,_]) (by simp))) ?_;refine gz3 ?_;refine zw rfl ?_
 rfl
theorem zio [Tracks] {l:List MoveS} (hl:l.length<=1000000):ConP prog 131 [zck l] (.int .i64 (zfi l)):=by
 refine uOb func131 ntmps131 ?_;refine gz9 ?_;refine uCo (fun h1=> ?_) fun h2=> ?_
 refine gz4 ?_;refine uRp ?_
 (refine congrArg _ (zbK ?_)
  omega)
 refine gz9 ?_;refine uT1 [2,3,10,39] (fun k=>[(10,.int .i64 k)]) (fun k=>[]) (fun k=>k<=l.length/\(zaV zeK zjD l 0 l=zaV zeK zjD l k (l.drop k))) (fun k=>l.length-k) (0) ?_ ?_;exact ⟨Ad _,rfl⟩;rintro k ⟨hk,hg⟩;refine gz4 ?_;refine uCo (fun h3=> ?_) fun h4=> ?_
 obtain ⟨x,hx⟩: ∃x,l[k]? =some x:=⟨_,Aa h3⟩
 have hdx:=zk hx;rw [hdx] at hg;refine gz8 ?_;refine de rfl (zj zG rfl fun b4=> ?_)
 refine gz1 ?_;refine de0 (zn zG rfl rfl rfl rfl rfl ?_)
 refine gz1 ?_;refine ze (zm 4 rfl) ?_;refine gz4 ?_;refine dq (uCl zkh rfl zbC) ?_;refine gz3 ?_;refine uCo (fun h5=> ?_) fun h6=> ?_
 refine gz4 ?_;refine uRp ?_
 (refine congrArg _ (zy (e:=1) ?_ hg ?_ ?_)
  omega
  unfold zeK;exact uT
  first|decide|assumption)
 refine gz3 ?_;refine dq (uCl zbH rfl zal) ?_;refine gz2 ?_;refine uCo (fun h7=> ?_) fun h8=> ?_
 refine gz4 ?_;refine uRp ?_
 (refine congrArg _ (zy (e:=4) ?_ hg ?_ ?_)
  omega
  unfold zeK;exact uT
  first|decide|assumption)
 refine gz3 ?_;refine dq (uCl zcD rfl zak) ?_;refine gz4 ?_;refine uGr rfl (fun hc=>uCl zcD rfl zak) ?_;refine gz4 ?_;refine uCo (fun h9=> ?_) fun h10=> ?_
 refine gz4 ?_;refine uRp ?_
 (refine congrArg _ (zy (e:=5) ?_ hg ?_ ?_)
  omega
  unfold zeK;exact uT
  first|decide|assumption)
 refine uDr mixed ?_;refine gz7 ?_;refine uGy 7 rfl rfl (fun hc=>by have hq:=hc;(try simp at hq);exact zA (j:=k-1) (a:=l.getD (k-1) zjD) zb9 zG rfl rfl uO (getD_some uO)) ?_;refine gz1 ?_;refine uGy 9 rfl rfl (fun hc=>uCl zFo rfl zpp) ?_;refine gz4 ?_;refine uCo (fun h11=> ?_) fun h12=> ?_
 refine gz4 ?_;refine uRp ?_
 (refine congrArg _ (zy (e:=7) ?_ hg ?_ ?_)
  omega
  unfold zeK;exact uT
  first|decide|assumption)
 refine gz8 ?_;refine ⟨k+1,?_,?_,⟨rfl,trivial⟩,uK,Ac _⟩
 refine ⟨by omega,?_⟩
 rw [hg,zaT (by unfold zeK;(try clear hdx hg);(try simp only [Ae]);focus first|(simp_all;done)|((repeat' split)<;>focus first|rfl|(exfalso;omega)|(simp_all;done)|(exfalso;rcases ‹_\/_› with q|q<;>simp_all;done)|(exfalso;simp_all;omega)))]
 dsimp only;omega
 have hnk:l.length<=k:=by omega
 obtain rfl:k=l.length:=by omega
 rw [zH (Af _)] at hg;refine gz2 ?_;refine zv ?_;refine gz6 ?_;refine uRp ?_
 (refine congrArg _ (zbz ?_ hg)
  omega)
theorem znY [Tracks] {l:List Str} (hl:l.length<=1000000):ConP prog 270 [eSs l] (.int .i64 (zdo l)):=by
 refine uOb func270 ntmps270 ?_;refine zct ?_;refine uCo (fun h1=> ?_) fun h2=> ?_
 refine gz4 ?_;refine uRp ?_
 (rw [zdo,if_pos uO])
 refine gz6 ?_;refine uCo (fun h3=> ?_) fun h4=> ?_
 refine gz4 ?_;refine uRp ?_
 (rw [zdo,if_neg uO,if_pos uO])
 refine gz5 ?_;refine dq (uCl ztA rfl (zg1 (by assumption))) ?_;refine gz3 ?_;refine uRp ?_
 (rw [zdo,if_neg uO,if_neg uO])
theorem zrz [Tracks] {a b:GameS}:ConP prog 272 [zaW a,zaW b] (.int .i64 (zgs a b)):=by
 refine uOb func272 ntmps272 ?_;refine gz5 ?_;refine uDr mixed ?_;refine gz4 ?_;refine uB 4 rfl (uCl zdb rfl zV) ?_;refine gz4 ?_;refine uB 9 rfl (uCl zcf rfl zM) ?_;refine gz4 ?_;refine uB 14 rfl (uCl zcf rfl zM) ?_;refine uB 15 rfl (za (hs:=[_,_,_]) zac ty3 rfl rfl (by decide) (by decide) rfl) ?_;refine uB 16 rfl (uCl zfO rfl (zbe (l:=[_,_,_]) (by simp))) ?_;refine gz3 ?_;refine zw rfl ?_
 rfl
theorem znv [Tracks] {x:GameS} (hb:((-1000000000<=x.FNum/\x.FNum<=1000000000)/\ -1000000000<=x.FDen/\x.FDen<=1000000000)/\((-1000000000<=x.ONum/\x.ONum<=1000000000)/\ -1000000000<=x.ODen/\x.ODen<=1000000000)):ConP prog 271 [zaW x] (.int .i64 (zhZ x)):=by
 refine uOb func271 ntmps271 ?_;refine zaw ?_;refine uCo (fun h1=> ?_) fun h2=> ?_
 refine gz3 ?_;refine dq (zS (h':= .agg [.int .i64 x.FNum,.int .i64 x.FDen]) (za0 zU rfl rfl (Ap rfl)) rfl) ?_;refine dq (zB (cs:=[_,_]) zU zid rfl) ?_;refine dq (zje zU zuz rfl rfl ⟨rfl,⟨_,_,_,_,ty3,rfl⟩,⟨rfl,⟨_,_,_,_,ty3,rfl⟩,trivial⟩⟩) ?_;refine gz2 ?_;refine uGr rfl (fun hc=>zS (h':= .agg [.int .i64 x.ONum,.int .i64 x.ODen]) (za0 zU rfl rfl (Ap rfl)) rfl) ?_;refine uGr rfl (fun hc=>zB (cs:=[_,_]) zU zid rfl) ?_;refine uGr rfl (fun hc=>zje zU zuz rfl rfl ⟨rfl,⟨_,_,_,_,ty3,rfl⟩,⟨rfl,⟨_,_,_,_,ty3,rfl⟩,trivial⟩⟩) ?_;refine gz2 ?_;refine uCo (fun h3=> ?_) fun h4=> ?_
 simp [za6,zgf,eqH] at h3
 refine gz4 ?_;refine uRp ?_;unfold zhZ
 (try clear hdx hg);(try simp only [Ae]);focus first|rfl|(simp_all;done)|((repeat' split)<;>focus first|rfl|(exfalso;omega)|(simp_all;done)|(exfalso;rcases ‹_\/_› with q|q<;>simp_all;done)|(exfalso;simp_all;omega))
 refine gz2 ?_
 simp [za6,zgf,eqH] at h4
 refine gz4 ?_;refine uRp ?_;unfold zhZ
 (try clear hdx hg);(try simp only [Ae]);focus first|rfl|(simp_all;done)|((repeat' split)<;>focus first|rfl|(exfalso;omega)|(simp_all;done)|(exfalso;rcases ‹_\/_› with q|q<;>simp_all;done)|(exfalso;simp_all;omega))
 refine gz2 ?_;refine uDr mixed ?_;refine gz1 ?_;refine uB 1 rfl (zS (h':= .agg [.int .i64 x.FNum,.int .i64 x.FDen]) (za0 zU rfl rfl (Ap rfl)) rfl) ?_;refine uB 2 rfl (uCl zxa rfl (zji (n:=x.FNum) (d:=x.FDen) (most:=1000000) hb.1.1 hb.1.2 uO)) ?_;refine gz1 ?_;refine uB 4 rfl (zS (h':= .agg [.int .i64 x.ONum,.int .i64 x.ODen]) (za0 zU rfl rfl (Ap rfl)) rfl) ?_;refine uB 5 rfl (uCl zxa rfl (zji (n:=x.ONum) (d:=x.ODen) (most:=1000000) hb.2.1 hb.2.2 uO)) ?_;refine zdl ?_;refine uCo (fun h5=> ?_) fun h6=> ?_
 refine gz4 ?_;refine uRp ?_;unfold zhZ
 (try clear hdx hg);(try simp only [Ae]);focus first|rfl|(simp_all;done)|((repeat' split)<;>focus first|rfl|(exfalso;omega)|(simp_all;done)|(exfalso;rcases ‹_\/_› with q|q<;>simp_all;done)|(exfalso;simp_all;omega))
 refine gz5 ?_;refine dq (za (hs:=[_,_]) zd9 zgp rfl rfl (by decide) (by decide) rfl) ?_;refine dq (uCl zkf rfl (zb0 (l:=[_,_]) (by simp))) ?_;refine gz3 ?_;refine uRp ?_;unfold zhZ
 (try clear hdx hg);(try simp only [Ae]);focus first|rfl|(simp_all;done)|((repeat' split)<;>focus first|rfl|(exfalso;omega)|(simp_all;done)|(exfalso;rcases ‹_\/_› with q|q<;>simp_all;done)|(exfalso;simp_all;omega))
end
end Go.Proofs.YtpgopgjleokciaaGreatDoor
namespace Go.HL
section
open Go Go.Proofs Go.Shelf
variable {P:Program} {ρ:Ren}
theorem zem (b:Nat) (el:TypeId) (fr:Nat×Nat): ∀(vs:List Value) (o:Nat) (w:World) (rc:Array Value),w.heap[b]? =some (.cells rc el fr)->o+vs.length<=rc.size->
 ∃rc',(w.setCells b o vs).heap[b]? =some (.cells rc' el fr)/\rc'.size=rc.size/\(∀x,rc'[x]? =if o<=x/\x<o+vs.length then vs[x-o]? else rc[x]?)/\(∀k,k≠b->(w.setCells b o vs).heap[k]? =w.heap[k]?)/\
  (w.setCells b o vs).heap.size=w.heap.size/\(w.setCells b o vs).os=w.os/\(w.setCells b o vs).output=w.output/\(w.setCells b o vs).tape=w.tape/\(w.setCells b o vs).drawn=w.drawn
 |[],o,w,rc,hw,_=>⟨rc,hw,rfl,fun x=>by rw [if_neg (by simp)],fun _ _=>rfl,rfl,rfl,rfl,rfl,rfl⟩
 |v::vs,o,w,rc,hw,hle=>by
   simp only [Ai] at hle;have zxr:(w.setCell ⟨b,o,none⟩ v).heap[b]? =some (.cells (rc.setIfInBounds o v) el fr):=by simp [World.setCell,AJ,hw]
   obtain ⟨rc',h1,h2,h3,h4,h5,h6,h7,h8,h9⟩:=zem b el fr vs (o+1) (w.setCell ⟨b,o,none⟩ v) (rc.setIfInBounds o v) zxr (by simp;omega);refine ⟨rc',h1,by rw [h2];simp,fun x=> ?_,fun k hk=> ?_,by rw [World.setCells,h5];simp [World.setCell],by rw [World.setCells,h6];rfl,by rw [World.setCells,h7];rfl,by rw [World.setCells,h8];rfl,by rw [World.setCells,h9];rfl⟩
   rw [h3 x];simp only [Ai]
   by_cases e1:x=o
   subst e1;rw [if_neg (by omega),if_pos (by omega),Array.getElem?_setIfInBounds,if_pos rfl,if_pos (by omega)]
   simp
   by_cases e2:o+1<=x/\x<o+1+vs.length
   rw [if_pos e2,if_pos (by omega),show x-o=(x-(o+1))+1 by omega,AP];rw [if_neg e2,if_neg (by omega),Array.getElem?_setIfInBounds,if_neg (fun h=>e1 h.symm)];rw [World.setCells,h4 k hk];simp only [World.setCell,AJ];rw [if_neg (fun h=>hk h.symm)]
theorem zr2 {w:World} {o:Obj}:(w.heap.push o)[w.heap.size]? =some o:=by simp
theorem zr3 {w:World} {o:Obj} {k:Nat} (hk:k<w.heap.size):(w.heap.push o)[k]? =w.heap[k]?:=by rw [AN,if_neg (by omega)]
def zbF (s:Str):Value:= .string ⟨s.toArray⟩
def zfS (l:List Str) (i:Nat) (s:Str):List Str:=l.take i++s::l.drop i
theorem zoG {l:List Str} {i:Nat} (hi:i<=l.length) (s:Str) (p:Nat):(zfS l i s)[p]? =if p<i then l[p]? else if p=i then some s else l[p-1]?:=by
 unfold zfS;have ht:(l.take i).length=i:=by simp;omega
 split
 rename_i h;rw [Ao (by omega),AE h]
 rename_i h
 rw [Al (by omega),ht]
 split
 rename_i e;subst e;simp
 rename_i e
 rw [show p-i=(p-i-1)+1 by omega,AP,AK,show i+(p-i-1)=p-1 by omega]
theorem zy5 {l:List Str} {i:Nat} (hi:i<=l.length) (s:Str):(zfS l i s).length=l.length+1:=by unfold zfS;simp;omega
theorem zsN {I:Imm} {w:World} {b off n cap:Nat} {rc:Array Value} {el:TypeId} {fr:Nat×Nat} {l:List Str} (hn:n=l.length) (hw:w.heap[b]? =some (.cells rc el fr)) (hf:Free fr rc.size) (hc:n<=cap/\cap<=9223372036854775807) (ho:off+cap<=rc.size)
 (hv: ∀(p:Nat) (x:Str),l[p]? =some x->rc[off+p]? =some (zbF x)):MSat I w (.arr (.slice (some ⟨b,off,none⟩) n cap) 1 (l.map .str)):=by
 refine .inr ⟨b,off,cap,rc,el,fr,by simp [hn],hw,hf,fun e he=> ?_,by simp only [Ah];omega,by omega,fun i j e c v a1 a2 a3=> ?_⟩
 obtain ⟨a,_,rfl⟩:=List.mem_map.1 he;rfl;rw [Ag] at a1
 cases hq:l[i]? with
 |none=>rw [hq] at a1;cases a1
 |some s=>
   rw [hq] at a1;obtain rfl:HVal.str s=e:=Aw a1;have hj:j=0:=by have:=zp a2;simp [zd] at this;omega
   subst hj;obtain rfl:HVal.str s=c:=Aw a2;rw [show off+i*1+0=off+i by omega,hv i s hq] at a3;rw [<-Aw a3];exact .str s
theorem zxh [Tracks] (L:Lays2.n22 P ρ) {v:Value} {l:List Str} {s:Str} {i ub:Nat} {el2:TypeId} (hi:i<=l.length) (hl:l.length<=1000000):
 Con P (ρ.f 22) [.raw v,.int .i64 i,.raw (.slice (some ⟨ub,0,none⟩) 1 1)] [.arr v 1 (l.map .str),.obj ub (.cells #[zbF s] el2 (0,0))]
  fun x M'=> ∃v',x= .raw v'/\M'=[.arr v' 1 ((zfS l i s).map .str),.obj ub (.cells #[zbF s] el2 (0,0))]:=by
 intro I F w args hA hS
 obtain ⟨v1,r1,rfl,hv1,hr1⟩: ∃v1 r1,args=v1::r1/\V I (.raw v) v1/\VL I [.int .i64 i,.raw (.slice (some ⟨ub,0,none⟩) 1 1)] r1:=by
  cases args with
  |nil=>have:=hA.1;simp at this
  |cons a r=>exact ⟨a,r,rfl,hA.head,hA.tail⟩
 obtain ⟨v2,r2,rfl,hv2,hr2⟩: ∃v2 r2,r1=v2::r2/\V I (.int .i64 i) v2/\VL I [.raw (.slice (some ⟨ub,0,none⟩) 1 1)] r2:=by
  cases r1 with
  |nil=>have:=hr1.1;simp at this
  |cons a r=>exact ⟨a,r,rfl,hr1.head,hr1.tail⟩
 obtain ⟨v3,rfl,hv3⟩: ∃v3,r2=[v3]/\V I (.raw (.slice (some ⟨ub,0,none⟩) 1 1)) v3:=by
  cases r2 with
  |nil=>have:=hr2.1;simp at this
  |cons a r=>cases r with
    |nil=>exact ⟨a,rfl,hr2.head⟩
    |cons b r=>have:=hr2.1;simp at this
 have hv1:=hv1.raw_inv;have hv2:=hv2.int_inv;have hv3:=hv3.raw_inv;subst hv1 hv2 hv3;have hu:w.heap[ub]? =some (.cells #[zbF s] el2 (0,0)):=hS.obj (.obj ub _) (by simp);have hvs: ∀(j:Nat) (u:Value),[zbF s][j]? =some u->w.cell? ⟨ub,0+j,none⟩=some u:=fun j u hj=>by
  rw [zcj hu,Br];simpa using hj
 have h1v: ∀u∈[zbF s],u.oneCell'=true:=fun u h=>by simp at h;subst h;rfl
 have h1c: ∀u∈l.map zbF,u.oneCell'=true:=fun u h=>by obtain ⟨a,_,rfl⟩:=List.mem_map.1 h;rfl
 have hcl:(l.map zbF).length=l.length:=by simp
 have hplen:=zy5 hi s
 
 have fresh: ∀(w':World) (rc:Array Value) (el:TypeId) (cap:Nat),w'.heap[w.heap.size]? =some (.cells rc el (0,0))->(l.length+1<=cap/\cap<=9223372036854775807)->cap<=rc.size->
  (∀(p:Nat) (x:Str),(zfS l i s)[p]? =some x->rc[p]? =some (zbF x))->(∀k,k<w.heap.size->w'.heap[k]? =w.heap[k]?)->w'.os=w.os->w'.output=w.output->w'.tape=w.tape->w.drawn<=w'.drawn->
  Sat P I ([.arr (.slice (some ⟨w.heap.size,0,none⟩) (l.length+1) cap) 1 ((zfS l i s).map .str),.obj ub (.cells #[zbF s] el2 (0,0))]++F) w':=fun w' rc el cap g1 g2 g3 g4 g5 g6 g7 g8 g9=>
  hS.change (m':= .arr (.slice (some ⟨w.heap.size,0,none⟩) (l.length+1) cap) 1 ((zfS l i s).map .str)) (fun k hk _=>g5 k hk) (fun k hk=>by simp [MObj.blocks] at hk;exact .inr (by omega)) (by simp [MObj.blocks])
   (zsN hplen.symm g1 (Free.zero _) g2 (by omega) fun p x hx=>by rw [Br];exact g4 p x hx) g6 g7 g8 (fun _=>g9)
 rcases hS.obj _ (Aj) with ⟨rfl,hnil⟩|⟨b,off,cap,rc,el,fr,rfl,h2,h3,h4,h5,h6,h7⟩
 
 obtain rfl:l=[]:=List.map_eq_nil_iff.1 hnil;obtain rfl:i=0:=by simpa using hi
 refine (Any2.slices_Insert_string_end_grow L none 0 0 ub 0 1 1 [] [zbF s] w (by omega) (by omega) (by omega) (by omega) rfl rfl (fun _=>rfl) (fun a h=>by cases h) hvs h1v).mono ?_;rintro e w' ⟨rfl,rfl⟩;have hge:=grownCap_ge w (0+1) 0 (ρ.t 9);have hle:=grownCap_le_maxLen w (0+1) 0 (ρ.t 9) (by unfold maxLen;omega);refine ⟨_,.raw _,_,I,rfl,.refl I,⟨_,rfl,rfl⟩,.raw _ rfl,fresh _ _ _ _ zr2 ⟨by simpa using hge,by unfold maxLen at hle;exact hle⟩ ?_ ?_ ?_ rfl rfl rfl (BN _)⟩
 simp [Builtin.zeroCells,Value.cells];omega
 intro p x hx
 have hp:=zp hx;rw [hplen] at hp;obtain rfl:p=0:=by simpa using hp
 simp [zfS] at hx;subst hx
 rw [AG (by simp)];simp
 intro k hk;exact zr3 hk
 simp only [Ah] at h5 h6⊢;have hlt:b<w.heap.size:=by
  rcases AD b w.heap.size with h|h
  exact h
  simp [As h] at h2
 have hrow: ∀(j:Nat) (x:Str),l[j]? =some x->rc[off+j]? =some (zbF x):=fun j x hx=>by
  have hj:=zp hx;have hr:off+j<rc.size:=by omega
  have:=h7 j 0 (.str x) (.str x) rc[off+j] (by rw [Ag,hx];rfl) rfl (by simp [Ar hr]);rw [Ar hr,this.str_inv];rfl
 have hcs: ∀(j:Nat) (u:Value),(l.map zbF)[j]? =some u->w.cell? ⟨b,off+j,none⟩=some u:=fun j u hj=>by
  rw [Ag] at hj
  cases hq:l[j]? with
  |none=>rw [hq] at hj;cases hj
  |some x=>rw [hq] at hj;rw [zcj h2,hrow j x hq];exact hj
 have hfz: ∀j,off+j<rc.size->w.frozen? ⟨b,off+j,none⟩=false:=fun j hj=>by
  have:=h3 (off+j) hj;simp only [World.frozen?,h2]
  simpa using this
 have hsome: ∀j,off+j<rc.size->(w.cell? ⟨b,off+j,none⟩).isSome=true:=fun j hj=>by rw [zcj h2,Ar hj];rfl
 have hne:ub≠b:=fun e=>by
  have:=hS.nodup;subst e
  simp [blocks,MObj.blocks] at this
 have inplace: ∀(w':World) (rc':Array Value),w'.heap[b]? =some (.cells rc' el fr)->rc'.size=rc.size->l.length+1<=cap->
  (∀(p:Nat) (x:Str),(zfS l i s)[p]? =some x->rc'[off+p]? =some (zbF x))->(∀k,k≠b->w'.heap[k]? =w.heap[k]?)->w'.os=w.os->w'.output=w.output->w'.tape=w.tape->w.drawn<=w'.drawn->
  Sat P I ([.arr (.slice (some ⟨b,off,none⟩) (l.length+1) cap) 1 ((zfS l i s).map .str),.obj ub (.cells #[zbF s] el2 (0,0))]++F) w':=fun w' rc' g1 g2 g3 g4 g5 g6 g7 g8 g9=>
  hS.change (m':= .arr (.slice (some ⟨b,off,none⟩) (l.length+1) cap) 1 ((zfS l i s).map .str)) (fun k _ hk=>g5 k (by simpa [MObj.blocks] using hk)) (fun k hk=> .inl (by simpa [MObj.blocks] using hk)) (by simp [MObj.blocks])
   (zsN hplen.symm g1 (by rw [g2];exact h3) ⟨g3,h5.2⟩ (by omega) g4) g6 g7 g8 (fun _=>g9)
 rcases AD i l.length with hin|hin
 rcases AD cap (l.length+1) with hroom|hroom
 
 refine (Any2.slices_Insert_string_grow L b off l.length cap i ub 0 1 1 (l.map zbF) [zbF s] w hin (by omega) h5.1 hroom (by omega) hcl rfl hcs hvs h1c h1v).mono ?_;rintro e w' ⟨rfl,rfl⟩;have hge:=grownCap_ge w (l.length+1) cap (ρ.t 9);have hle:=grownCap_le_maxLen w (l.length+1) cap (ρ.t 9) (by unfold maxLen;omega)
 generalize hG:grownCap w (l.length+1) cap (ρ.t 9)=G at*
 let r0:Array Value:=((l.map zbF).take i).toArray++Builtin.zeroCells (Value.string ⟨#[]⟩).cells (l.length+1-i)++Builtin.zeroCells (Value.string ⟨#[]⟩).cells (G-(l.length+1))
 have hz: ∀k,(Builtin.zeroCells (Value.string ⟨#[]⟩).cells k).size=k:=fun k=>by simp [Builtin.zeroCells,Value.cells]
 have hr0:r0.size=G:=by simp only [r0,Array.size_append,hz];simp;omega
 have ha:(w.alloc (.cells r0 (ρ.t 9))).drew.heap[w.heap.size]? =some (.cells r0 (ρ.t 9) (0,0)):=zr2;obtain ⟨r1,a1,a2,a3,a4,a5,a6,a7,a8,a9⟩:=zem w.heap.size (ρ.t 9) (0,0) [zbF s] i (w.alloc (.cells r0 (ρ.t 9))).drew r0 ha (by simp only [Ai,AC];omega);obtain ⟨r2,b1,b2,b3,b4,b5,b6,b7,b8,b9⟩:=zem w.heap.size (ρ.t 9) (0,0) ((l.map zbF).drop i) (i+1) ((w.alloc (.cells r0 (ρ.t 9))).drew.setCells w.heap.size i [zbF s]).drew r1 a1 (by simp;omega);refine ⟨_,.raw _,_,I,rfl,.refl I,⟨_,rfl,rfl⟩,.raw _ rfl,fresh _ r2 _ _ b1 ⟨hge,by unfold maxLen at hle;exact hle⟩ (by omega) (fun p x hx=> ?_) (fun k hk=> ?_) (b6.trans a6) (b7.trans a7) (b8.trans a8) (by rw [b9];exact Aq (CC a9.symm|>fun h=>Aq (BN _) h) (BN _))⟩
 rw [b3,a3];rw [zoG hi] at hx;simp only [Bt,Ah,Ai,AC]
 split at hx
 rename_i q
 rw [if_neg (by omega),if_neg (by omega)];have hq:p<((l.map zbF).take i).toArray.size:=by simp;omega
 simp only [r0];rw [Array.append_assoc,AG hq]
 simp [q,hx]
 split at hx
 rename_i q;subst q
 rw [if_neg (by omega),if_pos (by omega)]
 cases hx;simp
 rename_i q1 q2
 have hp:=zp hx;rw [if_pos (by omega),AK,show i+(p-(i+1))=p-1 by omega,Ag,hx];rfl;rw [b4 k (by omega)];exact (a4 k (by omega)).trans (zr3 hk)
 
 refine (Any2.slices_Insert_string_shift L b off l.length cap i ub 0 1 1 (l.map zbF) [zbF s] w hin (by omega) hroom h5.2 hne hcl rfl hcs (fun j hj=>hsome j (by omega)) (fun j hj=>hfz j (by omega)) hvs h1c h1v el2 el 1 rc.size (by simp [World.shape?,hu]) (by simp [World.shape?,h2]) (by omega) (by simp [World.frozen?,hu]) (by simp [World.frozen?,hu])).mono ?_;rintro e w' ⟨rfl,rfl⟩;obtain ⟨r1,a1,a2,a3,a4,a5,a6,a7,a8,a9⟩:=zem b el fr ((l.map zbF).drop i) (off+(i+1)) w.drew rc h2 (by simp;omega);obtain ⟨r2,b1,b2,b3,b4,b5,b6,b7,b8,b9⟩:=zem b el fr [zbF s] (off+i) _ r1 a1 (by simp;omega);refine ⟨_,.raw _,_,I,rfl,.refl I,⟨_,rfl,rfl⟩,.raw _ rfl,inplace _ r2 b1 (b2.trans a2) hroom (fun p x hx=> ?_) (fun k hk=>(b4 k hk).trans (a4 k hk)) (b6.trans a6) (b7.trans a7) (b8.trans a8) (by rw [b9,a9];exact BN _)⟩
 rw [b3,a3];rw [zoG hi] at hx;simp only [Bt,Ah,Ai,AC]
 split at hx
 rw [if_neg (by omega),if_neg (by omega)];exact hrow p x hx
 split at hx
 rename_i q;subst q
 rw [if_pos (by omega)]
 cases hx;simp
 have hp:=zp hx;rw [if_neg (by omega),if_pos (by omega),AK,show i+(off+p-(off+(i+1)))=p-1 by omega,Ag,hx];rfl;obtain rfl:i=l.length:=by omega
 have hput: ∀(p:Nat) (x:Str),(zfS l l.length s)[p]? =some x->(p<l.length/\l[p]? =some x)\/p=l.length/\x=s:=fun p x hx=>by
  rw [zoG hi] at hx
  split at hx
  rename_i q;exact .inl ⟨q,hx⟩
  split at hx
  rename_i q;exact .inr ⟨q,(Aw hx).symm⟩
  have:=zp hx;omega
 rcases AD cap (l.length+1) with hroom|hroom
 
 refine (Any2.slices_Insert_string_end_grow L (some ⟨b,off,none⟩) l.length cap ub 0 1 1 (l.map zbF) [zbF s] w (by omega) h5.1 hroom (by omega) hcl rfl (fun h=>by cases h) (fun a h j u hj=>by cases h;rw [Addr.add_lit];exact hcs j u hj) hvs h1v).mono ?_;rintro e w' ⟨rfl,rfl⟩;have hge:=grownCap_ge w (l.length+1) cap (ρ.t 9);have hle:=grownCap_le_maxLen w (l.length+1) cap (ρ.t 9) (by unfold maxLen;omega);have hz: ∀k,(Builtin.zeroCells (Value.string ⟨#[]⟩).cells k).size=k:=fun k=>by simp [Builtin.zeroCells,Value.cells]
 refine ⟨_,.raw _,_,I,rfl,.refl I,⟨_,rfl,rfl⟩,.raw _ rfl,fresh _ _ _ _ zr2 ⟨hge,by unfold maxLen at hle;exact hle⟩ ?_ ?_ ?_ rfl rfl rfl (BN _)⟩
 rw [Array.size_append,hz];simp;omega
 intro p x hx
 rw [AG (by simp;rcases hput p x hx with ⟨q,_⟩|⟨q,_⟩<;>omega)]
 rcases hput p x hx with ⟨q,hx⟩|⟨rfl,rfl⟩
 simp only [Bh];rw [Ao (by simpa using q),Ag,hx];rfl;simp only [Bh];rw [Al (by simp)];simp
 intro k hk;exact zr3 hk
 
 refine (Any2.slices_Insert_string_end_room L b off l.length cap ub 0 1 1 [zbF s] w (by omega) hroom h5.2 rfl (fun j hj=>by rw [A6];exact hsome _ (by omega)) (fun j hj=>by rw [A6];exact hfz _ (by omega)) hvs h1v).mono ?_;rintro e w' ⟨rfl,rfl⟩;obtain ⟨r1,a1,a2,a3,a4,a5,a6,a7,a8,a9⟩:=zem b el fr [zbF s] (off+l.length) w rc h2 (by simp;omega);refine ⟨_,.raw _,_,I,rfl,.refl I,⟨_,rfl,rfl⟩,.raw _ rfl,inplace _ r1 a1 a2 hroom (fun p x hx=> ?_) a4 a6 a7 a8 (by rw [a9];exact Af _)⟩
 rw [a3]
 rcases hput p x hx with ⟨q,hx⟩|⟨rfl,rfl⟩
 rw [if_neg (by omega)];exact hrow p x hx;rw [if_pos (by simp)];simp
end
section
variable {P:Program}
end
section
open Op
theorem zjb (x y:MoveS):zgf [.int .i64 x.At,.int .i64 x.Kind,.str x.Team,.str x.Player] [.int .i64 y.At,.int .i64 y.Kind,.str y.Team,.str y.Player]=true↔x=y:=by
 obtain ⟨a1,a2,a3,a4⟩:=x;obtain ⟨b1,b2,b3,b4⟩:=y
 show (_&&(_&&(_&&(_&&true))))=true↔_
 simp [eqH]
instance decMoveS:DecidableEq MoveS:=fun x y=>decidable_of_iff _ (zjb x y)
theorem zkO:Cmp zgZ fun _=>True:=by
 have h:=zdN (zfy MoveS.At) (zdN (zgw MoveS.Team) (zdN (zgw MoveS.Player) (zfy MoveS.Kind)));have e:zgZ=fun a b=>if zaj a.At b.At≠0 then zaj a.At b.At else if zY a.Team b.Team≠0 then zY a.Team b.Team else if zY a.Player b.Player≠0 then zY a.Player b.Player else zaj a.Kind b.Kind:=by
  funext a b;unfold zgZ;rw [zfj,zfj,zef]
 rw [e];exact h
theorem zsi:Cmp zkM fun _=>True:=by
 have h:=zdN (zgw ChoiceS.Team) (zdN (zfy ChoiceS.Week) (zfy ChoiceS.At));have e:zkM=fun a b=>if zY a.Team b.Team≠0 then zY a.Team b.Team else if zaj a.Week b.Week≠0 then zaj a.Week b.Week else zaj a.At b.At:=by
  funext a b;unfold zkM;rw [zfj,zef]
 rw [e];exact h
theorem zkN:Cmp zgs fun _=>True:=by
 have h:=zdN (zfy GameS.Week) (zdN (zgw GameS.Home) (zgw GameS.Away));have e:zgs=fun a b=>if zaj a.Week b.Week≠0 then zaj a.Week b.Week else if zY a.Home b.Home≠0 then zY a.Home b.Home else zY a.Away b.Away:=by
  funext a b;unfold zgs;rw [zfj,zef]
 rw [e];exact h
end
section
open Op
def zib (s l:Str):Bool:=s.all fun c=>decide (0<=Lib.indexByte l c)
theorem zyq (c:UInt8):decide (0<=Lib.indexByte zg3 c)=zg6 c:=by
 have:=zt9 (p:=fun c=>decide (0<=Lib.indexByte zg3 c)==zg6 c) (by kernel_rfl) c
 simpa using this
theorem zz9 (s:Str):key s=((!(out s.length 1 40)&&zib (s.take 1) zjV)&&zib s zg3):=by
 unfold zib;have:(fun c=>decide (0<=Lib.indexByte zg3 c))=zg6:=funext zyq;rw [this];unfold key zjB
 cases s with
 |nil=>simp [out]
 |cons x r=>
   simp only [Cd,List.take_zero,B9,List.all_nil,Bool.and_true,List.headD_cons];rw [zrk];have h1:(!(out ((x::r).length:Int) 1 40))=decide ((x::r).length<=40):=by
    simp only [out,Ai];rw [AF];simp;omega
   rw [h1];have h2:((x::r) !=[])=true:=rfl;rw [h2];have hb: ∀a c d b:Bool,(true&&a&&c&&d&&b)=(a&&(c&&d)&&b):=by decide
   exact hb _ _ _ _
theorem zr0 (l:List Str):zdm l=if l.length=0 then 8 else if 10<l.length then 2 else zdQ l:=rfl
def zo3 {α:Type} (f:α->Str) (d:α) (l:List α) (k:Nat):Str:=if k=0 then [] else f (l.getD (k-1) d)
theorem zwg {α:Type} {f:α->Str} {d:α} {l:List α} {k:Nat} {x:α} (hx:key (f x)=true):(leB (f x) (zo3 f d l k)=true)↔(0<k/\leB (f x) (f (l.getD (k-1) d))=true):=by
 unfold zo3
 by_cases h:k=0
 subst h;rw [if_pos rfl,zCG hx];simp;rw [if_neg h]
 constructor
 intro q;exact ⟨by omega,q⟩
 intro q;exact q.2
theorem zsE {α:Type} {f:α->Str} {d:α} {l:List α} {k:Nat} {x:α} (hx:l[k]? =some x):zo3 f d l (k+1)=f x:=by
 unfold zo3;rw [if_neg (by omega),Nat.add_sub_cancel,Ae,hx];rfl
theorem zhr {a b:Int}:zm7 (a-b)=zaj a b:=zAY
theorem zmo {a b:MoveS}:zgZ a b=if a.At≠b.At then zaj a.At b.At else if a.Team≠b.Team then zY a.Team b.Team else if a.Player≠b.Player then zY a.Player b.Player else zaj a.Kind b.Kind:=by
 unfold zgZ;rw [zfj,zfj,zef];have e1:zaj a.At b.At≠0↔a.At≠b.At:=not_congr zcV;have e2:zY a.Team b.Team≠0↔a.Team≠b.Team:=not_congr zbn;have e3:zY a.Player b.Player≠0↔a.Player≠b.Player:=not_congr zbn;simp only [e1,e2,e3]
theorem zpL {a b:GameS}:zgs a b=if a.Week≠b.Week then zaj a.Week b.Week else if a.Home≠b.Home then zY a.Home b.Home else zY a.Away b.Away:=by
 unfold zgs;rw [zfj,zef];have e1:zaj a.Week b.Week≠0↔a.Week≠b.Week:=not_congr zcV;have e2:zY a.Home b.Home≠0↔a.Home≠b.Home:=not_congr zbn;simp only [e1,e2]
theorem zAm {x p:MoveS}:(0<=zgZ p x)↔zgZ x p<=0:=by
 have f1:=zkO.flip p x trivial trivial;have f2:=zkO.flip x p trivial trivial
 omega
theorem zzX {x p:GameS}:(0<=zgs p x)↔zgs x p<=0:=by
 have f1:=zkN.flip p x trivial trivial;have f2:=zkN.flip x p trivial trivial
 omega
theorem zzM {x p:ChoiceS}:(0<=zkM p x)↔zkM x p<=0:=by
 have f1:=zsi.flip p x trivial trivial;have f2:=zsi.flip x p trivial trivial
 omega
def zoQ (a b:Int):List Int->Int
 |[]=>0
 |e::r=>if a=e\/b=e then e else zoQ a b r
def zA3 (a b:Int):Int:=zoQ a b [3,1]
theorem zua {n d m:Int}:zbB n d m=0\/zbB n d m=1\/zbB n d m=3:=by
 unfold zbB;split
 omega
 split<;>omega
theorem zzW {x:GameS} (h:x.Played=true):zhZ x=zA3 (zbB x.FNum x.FDen 1000000) (zbB x.ONum x.ODen 1000000):=by
 unfold zhZ zA3;rw [if_neg (by rw [h];simp),zoQ,zoQ,zoQ];have h1:=zua (n:=x.FNum) (d:=x.FDen) (m:=1000000);have h2:=zua (n:=x.ONum) (d:=x.ODen) (m:=1000000)
 split
 rfl
 rename_i h3
 rw [zef]
 (repeat' split)<;>omega
theorem zA0 {a b:Int}:Nat.gcd b.natAbs (a.tmod b).natAbs=Nat.gcd a.natAbs b.natAbs:=by
 rw [Int.natAbs_tmod];exact zom
theorem zvr {a b:Int} (hb:b≠0): -b.natAbs<a.tmod b/\a.tmod b<b.natAbs/\(a.tmod b).natAbs<b.natAbs:=by
 have h:=BW a.natAbs (show 0<b.natAbs by omega);rw [<-Int.natAbs_tmod] at h
 omega
theorem zD1 {l:Str} {x:UInt8} {r:Str} (h:Lib.indexByte l x<0):zib (x::r) l=false:=by
 unfold zib;rw [B9];have:decide (0<=Lib.indexByte l x)=false:=by simpa using h
 rw [this];rfl
theorem zD2 {l:Str} {x:UInt8} {r:Str} (h:0<=Lib.indexByte l x):zib (x::r) l=zib r l:=by
 unfold zib;rw [B9];have:decide (0<=Lib.indexByte l x)=true:=by simpa using h
 rw [this];rfl
theorem pts3 {n d:Int} (h:d<1\/¬((Nat.gcd n.natAbs d.natAbs:Nat):Int)=1):d<1\/zmX n d=false:=by
 rcases h with h|h
 exact .inl h;refine .inr ?_;unfold zmX;rw [beq_eq_false_iff_ne]
 intro e;rw [e] at h;exact h rfl
theorem pts0 {n d:Int} (h:((Nat.gcd n.natAbs d.natAbs:Nat):Int)=1):zmX n d=true:=by
 unfold zmX;rw [beq_iff_eq];omega
theorem pts1 {n d m:Int} (h:(¬Int.tmod 100 d=0\/n< -m*d)\/m*d<n):Int.tmod 100 d≠0\/out n (-m*d) (m*d)=true:=by
 have e: -m*d= -(m*d):=Bk _ _;rw [e] at h⊢
 rcases h with (h|h)|h
 exact .inl h;refine .inr ?_;simp [out];omega
 refine .inr ?_;simp [out];omega
theorem pts2 {n d m:Int} (h:(Int.tmod 100 d=0/\ -m*d<=n)/\n<=m*d): ¬(Int.tmod 100 d≠0\/out n (-m*d) (m*d)=true):=by
 have e: -m*d= -(m*d):=Bk _ _;rw [e] at h⊢;obtain ⟨⟨h1,h2⟩,h3⟩:=h;rintro (q|q);exact q h1
 simp [out] at q;omega
theorem zz3 {f t:Int} (h:out f 1 (t-1)=true\/61<t):out t 2 61=true\/out f 1 (t-1)=true:=by
 rcases h with h|h
 exact .inr h;refine .inl ?_;simp [out];omega
theorem zz2 {f t:Int} (h:out f 1 (t-1)=false/\t<=61): ¬(out t 2 61=true\/out f 1 (t-1)=true):=by
 rintro (q|q);have h1:=h.1
 simp [out] at q h1;omega
 rw [h.1] at q;cases q
theorem zDJ {k:Int} (h: ¬k=1/\¬k=2):out k 1 2=true:=by simp [out];omega
theorem zDI {k:Int} (h: ¬k=1->k=2):out k 1 2=false:=by simp [out];omega
structure MovB (x:MoveS):Prop where
 at': -1000000000000000<=x.At/\x.At<=1000000000000000
 kind: -1000000000000000<=x.Kind/\x.Kind<=1000000000000000
structure GamB (x:GameS):Prop where
 week: -1000000000000000<=x.Week/\x.Week<=1000000000000000
 fr:(-1000000000<=x.FNum/\x.FNum<=1000000000)/\ -1000000000<=x.FDen/\x.FDen<=1000000000
 ot:(-1000000000<=x.ONum/\x.ONum<=1000000000)/\ -1000000000<=x.ODen/\x.ODen<=1000000000
end
section

end
section
def zpM (a b:Of2):Int:=orI [zY a.1 b.1,zY a.2 b.2]
theorem zCb (a b:Of2):zpM a b=if zY a.1 b.1≠0 then zY a.1 b.1 else zY a.2 b.2:=by unfold zpM;rw [zef]
theorem zyj (a b:Of2):zpM a b= -zpM b a:=by
 unfold zpM;rw [ze5 a.1,ze5 a.2,zu1]
theorem zzz:Cmp zpM (fun _=>True) where
 flip x y _ _:=by rw [zyj x y];omega
 trans x y z _ _ _ h1 h2:=by
  rw [zCb] at*;have k1:zY x.1 y.1<=0:=by split at h1<;>omega
  have k2:zY y.1 z.1<=0:=by split at h2<;>omega
  have k3:=zjA k1 k2
  split
  exact k3
  rename_i hz
  have hz':zY x.1 z.1=0:=by simpa using hz
  obtain ⟨e1,e2⟩:=ztl k1 k2 hz';rw [if_neg (by simp [e1])] at h1;rw [if_neg (by simp [e2])] at h2;exact zjA h1 h2
def OLt (a b:Of2):Prop:=zpM a b<0
structure DisS where
 S:List Str
 c:List ((Str×Of2)×Int)
def zuu (p:Play):Str×Of2:=(p.Source,(p.Player,p.Stat))
def zDy (q:DisS) (p:Play):List ((Str×Of2)×Int):=zC (zuu p) ((alk (zuu p) q.c).getD 0+p.Count) q.c
end
section
section
variable {κ:Type}
abbrev GrM (κ:Type):=List (Str×(Nat×List (κ×Int)))
end
end
section
theorem zmk {α:Type} {s:Str} {v:α}: ∀{G:List (Str×α)},(zC s v G).map (·.1)=zb8 s (G.map (·.1))
 |[]=>by simp [zC,zb8]
 |p::r=>by
   have ih:=zmk (s:=s) (v:=v) (G:=r);simp only [zC]
   by_cases h:s=p.1
   rw [if_pos h];unfold zb8;rw [if_pos (by simp [h])]
   simp [h]
   rw [if_neg h,Au,ih];unfold zb8
   by_cases hc:(r.map (·.1)).contains s=true
   rw [if_pos hc,if_pos (by simp at hc⊢;exact .inr hc)];rfl;rw [if_neg hc,if_neg (by simp at hc⊢;exact ⟨h,hc⟩)];rfl
theorem znJ {α:Type} {s:Str} {v:α} {p:Str×α}: ∀{G:List (Str×α)},ANodup G->p∈zC s v G->p=(s,v)\/(p∈G/\p.1≠s)
 |[],_,h=>by simp [zC] at h;exact .inl h
 |q::r,hn,h=>by
   have h1:=List.nodup_cons.1 hn;simp only [zC] at h
   by_cases hs:s=q.1
   rw [if_pos hs] at h
   rcases List.mem_cons.1 h with h|h
   exact .inl h;refine .inr ⟨Am _ h,fun e=>h1.1 ?_⟩
   show q.1∈r.map (·.1)
   rw [<-hs,<-e];exact Bq h;rw [if_neg hs] at h
   rcases List.mem_cons.1 h with h|h
   subst h;exact .inr ⟨by simp,fun e=>hs e.symm⟩
   rcases znJ h1.2 h with e|e
   exact .inl e;exact .inr ⟨Am _ e.1,e.2⟩
section
variable {κ:Type}
structure GrOk (S:List Str) (c:List ((Str×κ)×Int)) (G:GrM κ):Prop where
 keys:G.map (·.1)=S
 nodup:S.Nodup
 val: ∀p∈G,p.2.2=zde c p.1
 inS: ∀e∈c,e.1.1∈S
theorem GrOk.anodup {S:List Str} {c:List ((Str×κ)×Int)} {G:GrM κ} (h:GrOk S c G):ANodup G:=by unfold ANodup;rw [h.keys];exact h.nodup
theorem GrOk.nil:GrOk ([]:List Str) ([]:List ((Str×κ)×Int)) []:=⟨rfl,BO,(fun p h=>by cases h),(fun e h=>by cases h)⟩
theorem GrOk.get {S:List Str} {c:List ((Str×κ)×Int)} {G:GrM κ} (h:GrOk S c G) {s:Str} {b:Nat} {L:List (κ×Int)} (hq:alk s G=some (b,L)):L=zde c s:=h.val _ (zbO hq)
theorem GrOk.none {S:List Str} {c:List ((Str×κ)×Int)} {G:GrM κ} (h:GrOk S c G) {s:Str}:alk s G=none↔s∉S:=by rw [zez,h.keys]
theorem zyG {S:List Str} {c:List ((Str×κ)×Int)} {s:Str} (h: ∀e∈c,e.1.1∈S) (hs:s∉S):zde c s=[]:=by
 unfold zde;rw [List.map_eq_nil_iff,List.filter_eq_nil_iff]
 intro e he hq
 exact hs ((eq_of_beq hq)▸h e he)
theorem GrOk.add {S:List Str} {c:List ((Str×κ)×Int)} {G:GrM κ} (h:GrOk S c G) {s:Str} (b:Nat) (hs:alk s G=Option.none):GrOk (zb8 s S) c (zC s (b,[]) G):=by
 have hn:=h.none.1 hs;refine ⟨by rw [zmk,h.keys],zjI h.nodup,fun p hp=> ?_,fun e he=>zkq.2 (.inr (h.inS e he))⟩
 rcases znJ h.anodup hp with rfl|⟨hp,_⟩
 exact (zyG h.inS hn).symm;exact h.val p hp
variable [DecidableEq κ]
theorem GrOk.put {S:List Str} {c:List ((Str×κ)×Int)} {G:GrM κ} (h:GrOk S c G) {s:Str} {b:Nat} {L:List (κ×Int)} (hq:alk s G=some (b,L)) (k:κ) (v:Int):GrOk S (zC (s,k) v c) (zC s (b,zC k v L) G):=by
 have hs:s∈S:=by
  refine Decidable.not_not.1 fun hn=> ?_
  have:=h.none.2 hn;rw [this] at hq;cases hq
 refine ⟨?_,h.nodup,fun p hp=> ?_,fun e he=> ?_⟩
 rw [zmk,h.keys];unfold zb8;rw [if_pos (by simpa using hs)];rw [zsA]
 rcases znJ h.anodup hp with rfl|⟨hp,hne⟩
 rw [if_pos rfl,<-h.get hq];rw [if_neg hne];exact h.val p hp
 rcases zc5 he with rfl|he
 exact hs;exact h.inS e he
end
end
section

end
section
def zfo (p:Option Of2):List Of2->List Of2
 |[]=>[]
 |x::r=>if p=some x then zfo (some x) r else x::zfo (some x) r
theorem OLt.trans {a b c:Of2} (h1:OLt a b) (h2:OLt b c):OLt a c:=zzz.lt_trans trivial trivial trivial h1 h2
end
section
def zGp (l:List Play) (trust:List Str) (n:Int) (x:Play):Bool:=decide (zpa l trust n x.Match=some x.Source)
def kept (l:List Play) (trust:List Str) (n:Int):List Play:=l.filter (zGp l trust n)
end
section
structure ChkIs (q:ChkS) (l:List Play):Prop where
 sn:q.S.Nodup
 s: ∀s,s∈q.S↔∃x∈l,x.Source=s
 wn:ANodup q.W
 w: ∀m,m∈q.W.map (·.1)↔∃x∈l,x.Match=m
 wv: ∀m v,alk m q.W=some v->∃x∈l,x.Match=m/\x.Week=v
 c:q.c=false↔∀x∈l,∀y∈l,x.Match=y.Match->x.Week=y.Week
theorem ChkIs.step {q:ChkS} {l:List Play} (h:ChkIs q l) (p:Play):ChkIs (ziw q p) (l++[p]) where
 sn:=zjI h.sn
 s s:=by
  show s∈zb8 p.Source q.S↔_
  rw [zkq,h.s]
  constructor
  rintro (rfl|⟨x,hx,e⟩);exact ⟨p,by simp,rfl⟩;exact ⟨x,An _ hx,e⟩;rintro ⟨x,hx,e⟩
  rcases List.mem_append.1 hx with hx|hx
  exact .inr ⟨x,hx,e⟩;rw [List.mem_singleton.1 hx] at e;exact .inl e.symm
 wn:=h.wn.put
 w m:=by
  show m∈(zC p.Match p.Week q.W).map (·.1)↔_
  rw [znI,h.w]
  constructor
  rintro (rfl|⟨x,hx,e⟩);exact ⟨p,by simp,rfl⟩;exact ⟨x,An _ hx,e⟩;rintro ⟨x,hx,e⟩
  rcases List.mem_append.1 hx with hx|hx
  exact .inr ⟨x,hx,e⟩;rw [List.mem_singleton.1 hx] at e;exact .inl e.symm
 wv m v hv:=by
  have hv':alk m (zC p.Match p.Week q.W)=some v:=hv;rw [zdO] at hv'
  by_cases e:m=p.Match
  rw [if_pos e] at hv';cases hv';exact ⟨p,by simp,e.symm,rfl⟩;rw [if_neg e] at hv';obtain ⟨x,hx,e1⟩:=h.wv m v hv';exact ⟨x,An _ hx,e1⟩
 c:=by
  show (q.c||((alk p.Match q.W).isSome&&((alk p.Match q.W).getD 0 !=p.Week)))=false↔_
  rw [A9,h.c]
  constructor
  rintro ⟨h1,h2⟩;have hp: ∀x∈l,x.Match=p.Match->x.Week=p.Week:=fun x hx e=>by
   have hk:p.Match∈q.W.map (·.1):=(h.w _).2 ⟨x,hx,e⟩;have hne: ¬alk p.Match q.W=none:=by rw [zez];exact fun z=>z hk
   obtain ⟨v,hv⟩:=Option.ne_none_iff_exists'.1 hne;rw [hv] at h2
   simp at h2
   obtain ⟨y,hy,e1,e2⟩:=h.wv _ _ hv;rw [h1 x hx y hy (by rw [e,e1]),e2,h2]
  intro x hx y hy e
  rcases List.mem_append.1 hx with hx|hx<;>rcases List.mem_append.1 hy with hy|hy
  exact h1 x hx y hy e;rw [List.mem_singleton.1 hy] at e⊢;exact hp x hx e;rw [List.mem_singleton.1 hx] at e⊢;exact (hp y hy e.symm).symm;rw [List.mem_singleton.1 hx,List.mem_singleton.1 hy]
  intro hall
  refine ⟨fun x hx y hy e=>hall x (An _ hx) y (An _ hy) e,?_⟩
  cases hv:alk p.Match q.W with
  |none=>rfl
  |some v=>
    obtain ⟨y,hy,e1,e2⟩:=h.wv _ _ hv;have:=hall y (An _ hy) p (by simp) e1
    simp
    rw [<-e2,this]
theorem zDv (l:List Play):ChkIs (zbx l) l:=by
 have key: ∀k,k<=l.length->ChkIs (zbx (l.take k)) (l.take k):=by
  intro k
  induction k with
  |zero=>
    intro _
    refine ⟨BO,fun s=> ?_,ANodup.nil,fun m=> ?_,fun m v hv=> ?_,?_⟩
    simp [zbx]
    simp [zbx]
    simp [zbx,alk] at hv
    simp [zbx]
  |succ k ih=>
    intro hk
    have hx:=Aa (l:=l) (i:=k) (by omega);rw [zfg hx,zaf hx];exact (ih (by omega)).step _
 have:=key l.length (Af _)
 rwa [Ak] at this
end
section
theorem zEf {p:Play} (h:playFault p=0):1<=p.Week:=by
 have h1:=(zeY h).2.2.2.1;unfold zaQ at h1;have:=zfk (n:=p.Week) (lo:=1) (hi:=60) (by simpa using h1)
 omega
theorem zCf {l:List Play} (hok: ∀y∈l,playFault y=0) {m:Str} {v:Int} (h:alk m (zbx l).W=some v):1<=v:=by
 obtain ⟨x,hx,_,rfl⟩:=(zDv l).wv m v h;exact zEf (hok x hx)
theorem zCg {l:List Play} (hok: ∀y∈l,playFault y=0) (p:Play):
 ((zbx l).c||((alk p.Match (zbx l).W).getD 0 !=0&&(alk p.Match (zbx l).W).getD 0 !=p.Week))=(ziw (zbx l) p).c:=by
 unfold ziw
 dsimp only
 cases h:alk p.Match (zbx l).W with
 |none=>simp
 |some v=>
   have:=zCf hok h;have h0:(v !=0)=true:=by simp;omega
   simp [h0]
/-! statistics-/
def zr5 (E:List (Str×Int)):List StatS:=(E.filter fun e=>e.2 !=0).map fun e=>⟨e.1,e.2⟩
end
section
def zdp (x:Play):Prop:=Sh x.Source/\Sh x.Match/\Sh x.Player/\Sh x.Stat
structure GoodPl (k:List Play):Prop where
 len:k.length<=15
 all: ∀x∈k,zdp x
structure GoodTr (t:List Str):Prop where
 len:t.length<=4
 all: ∀s∈t,Sh s
def zgN:List Str:=[[102,97],[102,98],[102,99]]
theorem zmf: ∀s∈zgN,Sh s:=fun s hs=>by simp [zgN] at hs;rcases hs with rfl|rfl|rfl<;>(unfold Sh;simp)
def znd:List Int:=[1,1,2]
def zft:List Str:=[[109,97],[109,98],[109,99]]
theorem zkX (k:Nat):Sh (zft.getD k []):=by
 match k with
 |0=>unfold Sh;simp [zft]
 |1=>unfold Sh;simp [zft]
 |2=>unfold Sh;simp [zft]
 |n+3=>unfold Sh;simp [zft]
theorem zto {l:List Int} {z:Int}:l.contains z=l.any (· ==z):=by
 rw [AF,B2,Cu]
 constructor
 intro h;exact ⟨z,h,by simp⟩
 rintro ⟨y,hy,e⟩;rw [beq_iff_eq] at e;exact e▸hy
end
section
section
variable {κ:Type} [DecidableEq κ] {β:Type}
abbrev zg9 (κ β:Type):=List (κ×(Value×List β))
def gVK (s:κ) (G:zg9 κ β):Value:=((alk s G).getD (gZ β)).1
def gLK (s:κ) (G:zg9 κ β):List β:=((alk s G).getD (gZ β)).2
def zgh {κ β:Type} (sz:Nat) (e:β->HVal) (G:zg9 κ β):List MObj:=G.map fun p=> .arr p.2.1 sz (p.2.2.map e)
theorem znH {α:Type} {s:κ} {v:α}: ∀{G:List (κ×α)},ANodup G->(zC s v G).Perm ((s,v)::G.filter fun q=>decide (q.1≠s))
 |[],_=>by simp [zC]
 |p::r,hn=>by
   have h1:=List.nodup_cons.1 hn;simp only [zC]
   by_cases hs:s=p.1
   ·rw [if_pos hs];have h2:alk s r=none:=by rw [zez,hs];exact h1.1
    rw [AU,if_neg (by simp [hs]),zeW h2]
   ·rw [if_neg hs,AU,if_pos (by simp;exact fun e=>hs e.symm)];exact (List.Perm.cons p (znH h1.2)).trans (List.Perm.swap _ _ _)
theorem zuH {sz:Nat} {e:β->HVal} {A:List MObj} {G:zg9 κ β} {s:κ} {v:Value} {l:List β} (hn:ANodup G):(.arr v sz (l.map e)::(A++zgh sz e (G.filter fun q=>decide (q.1≠s)))).Perm (A++zgh sz e (zC s (v,l) G)):=by
 have h:=((znH (s:=s) (v:=(v,l)) hn).map fun p=>MObj.arr p.2.1 sz (p.2.2.map e)).append_left A;refine List.Perm.symm (h.trans ?_)
 simp only [Au,zgh];exact B7
def zfT (G:zg9 κ β) (N:List κ):zg9 κ β:=G.filter fun q=>decide (q.1∉N)
theorem zy9 (G:zg9 κ β):zfT G []=G:=by unfold zfT;rw [Ca];simp
theorem zy7 {G:zg9 κ β} {N:List κ} {s:κ} (h:s∉N):alk s (zfT G N)=alk s G:=by
 have:=zmj (s:=s) (p:=fun k=>decide (k∉N)) (G:=G);unfold zfT;rw [this,if_pos (by simpa using h)]
theorem zxO (G:zg9 κ β) (N:List κ) (s:κ):(zfT G N).filter (fun q=>decide (q.1≠s))=zfT G (N++[s]):=by
 unfold zfT;rw [List.filter_filter];refine List.filter_congr fun q _=> ?_
 by_cases h1:q.1∈N<;>by_cases h2:q.1=s<;>simp [h1,h2]
theorem zvS {G:zg9 κ β} {N:List κ} (h:ANodup G):ANodup (zfT G N):=by
 unfold ANodup zfT at*;exact h.sublist ((Cb).map _)
theorem zy8 {G:zg9 κ β} {N:List κ} (h: ∀q∈G,q.1∈N):zfT G N=[]:=by
 unfold zfT;rw [List.filter_eq_nil_iff];intro q hq;simpa using h q hq
end
section
variable {P:Program} {e:Env} {κ:Type} [DecidableEq κ] {β:Type} {eb:β->HVal}
theorem zkK [Tracks] {A:List MObj} {G G':zg9 κ β} {s:κ} {sz:Nat} (hn:ANodup G) (hG:alk s G=alk s G'):Ghost e (A++zgh sz eb G) e (.arr (gVK s G') sz ((gLK s G').map eb)::(A++zgh sz eb (G.filter fun q=>decide (q.1≠s)))):=by
 cases hq:alk s G with
 |none=>
   have h1:gVK s G'= .slice none 0 0:=by unfold gVK;rw [<-hG,hq];rfl
   have h2:gLK s G'=[]:=by unfold gLK;rw [<-hG,hq];rfl
   rw [h1,h2,zeW hq];exact zL sz
 |some q=>
   obtain ⟨v,l⟩:=q;have h1:gVK s G'=v:=by unfold gVK;rw [<-hG,hq];rfl
   have h2:gLK s G'=l:=by unfold gLK;rw [<-hG,hq];rfl
   rw [h1,h2];refine Ghost.perm ?_;have h3:=((zgy hn hq).map fun p=>MObj.arr p.2.1 sz (p.2.2.map eb)).append_left A;refine h3.trans ?_;simp only [Au,zgh];exact B7
theorem zrs [Tracks] {M:List MObj} {K:HVal->List MObj->Prop} {o:Oper} (h:EOp P e M o fun x N=> ∃N',(∀J F w,Sat P J (N++F) w->Sat P J (N'++F) w)/\K x N'):EOp P e M o K:=fun I F a w ho hs=>
 zba (fun _ _ ⟨v,x,M',J,h1,h2,⟨N',h3,h4⟩,h5,h6⟩=>⟨v,x,N',J,h1,h2,h4,h5,h3 J F _ h6⟩) (h I F a w ho hs)
theorem zyC [Tracks] {sz:Nat} {A:List MObj} {G:zg9 κ β} {s:κ} {v:Value} {l:List β} (hn:ANodup G) (J:Imm) (F:List MObj) (w:World) (hs:Sat P J ((.arr v sz (l.map eb)::(A++zgh sz eb G))++F) w):Sat P J ((A++zgh sz eb (zC s (v,l) G))++F) w:=by
 have hp:=(zuH (sz:=sz) (e:=eb) (A:=A) (s:=s) (v:=v) (l:=l) hn).append_right F
 cases hq:alk s G with
 |none=>
   rw [zeW hq] at hp;exact hs.perm hp
 |some q=>
   have h3:=((zgy hn hq).map fun p=>MObj.arr p.2.1 sz (p.2.2.map eb)).append_left A;simp only [Au] at h3;have h4:(A++zgh sz eb G).Perm (.arr q.1 sz (q.2.map eb)::(A++zgh sz eb (G.filter fun q=>decide (q.1≠s)))):=h3.trans B7;have h5:((MObj.arr v sz (l.map eb)::(A++zgh sz eb G))++F).Perm (.arr q.1 sz (q.2.map eb)::((.arr v sz (l.map eb)::(A++zgh sz eb (G.filter fun q=>decide (q.1≠s))))++F)):=by
    have:=(h4.cons (MObj.arr v sz (l.map eb))).append_right F;exact this.trans (List.Perm.swap _ _ _)
   exact (hs.perm h5).drop.perm hp
theorem zGo {G:zg9 κ β} {s:κ} {q:Value×List β} (h:alk s G=some q):gVK s G=q.1/\gLK s G=q.2:=by
 unfold gVK gLK;rw [h];exact ⟨rfl,rfl⟩
end
end
section
/-! lines by their places,with mends-/
abbrev GrS:=List (Plc×List StatS)
def zgX (G:GrS) (x:LineS):GrS:=zC (x.Player,x.Week) x.Stats G
def zdf (l:List LineS):GrS:=l.foldl zgX []
theorem zxx {l:List LineS} {k:Nat} {x:LineS} (h:l[k]? =some x):zdf (l.take (k+1))=zC (x.Player,x.Week) x.Stats (zdf (l.take k)):=by
 rw [zaf h];simp [zdf,Bc,zgX]
def ztN (x:MendS) (l:List StatS):List StatS:=l.filter fun s=> !(s.Name==x.Stat)
def zeM (x:MendS) (l:List StatS):List StatS:=ztN x l++if x.Count≠0 then [⟨x.Stat,x.Count⟩] else []
def zcL (n:Int) (G:GrS) (x:MendS):GrS:=if n<x.At then G else zC (x.Player,x.Week) (zeM x ((alk (x.Player,x.Week) G).getD [])) G
def zgL (G:GrS) (m:List MendS) (n:Int):GrS:=m.foldl (zcL n) G
def zeL (l:List LineS) (m:List MendS) (n:Int):GrS:=zgL (zdf l) m n
theorem zsI {G:GrS} {m:List MendS} {n:Int} {k:Nat} {x:MendS} (h:m[k]? =some x):zgL G (m.take (k+1)) n=zcL n (zgL G (m.take k) n) x:=by
 rw [zaf h];simp [zgL,Bc]
def zh9 (q:Plc×List StatS):LineS:=⟨q.1.1,q.1.2,zao zbc q.2⟩
def mdL (l:List LineS) (m:List MendS) (n:Int):List LineS:=zao zdi ((zeL l m n).map zh9)
theorem zpw (l:List LineS):ANodup (zdf l):=by
 unfold zdf;have key: ∀(l:List LineS) (G:GrS),ANodup G->ANodup (l.foldl zgX G):=fun l=>by
  induction l with
  |nil=>intro G h;exact h
  |cons x l ih=>intro G h;exact ih _ h.put
 exact key l [] ANodup.nil
theorem zuT {n:Int} {G:GrS} {x:MendS} (h:ANodup G):ANodup (zcL n G x):=by
 unfold zcL;split;exact h;exact h.put
theorem zxA (m:List MendS) (n:Int): ∀{G:GrS},ANodup G->ANodup (zgL G m n):=by
 induction m with
 |nil=>intro G h;exact h
 |cons x m ih=>intro G h;exact ih (zuT h)
theorem zvN (l:List LineS) (m:List MendS) (n:Int):ANodup (zeL l m n):=zxA m n (zpw l)
/-! how long the lists are-/
def GLen (b:Nat) (G:GrS):Prop:= ∀q∈G,q.2.length<=b
theorem GLen.put {b:Nat} {G:GrS} {p:Plc} {l:List StatS} (h:GLen b G) (hl:l.length<=b):GLen b (zC p l G):=fun q hq=>by
 rcases zc5 hq with rfl|hq
 exact hl;exact h q hq
theorem GLen.get {b:Nat} {G:GrS} (h:GLen b G) (p:Plc):((alk p G).getD []).length<=b:=by
 cases hq:alk p G with
 |none=>simp
 |some l=>exact h _ (zbO hq)
theorem GLen.up {b c:Nat} {G:GrS} (h:GLen b G) (hb:b<=c):GLen c G:=fun q hq=>Aq (h q hq) hb
theorem zsH (x:MendS) (l:List StatS):(ztN x l).length<=l.length:=AZ _ _
theorem zyS (x:MendS) (l:List StatS):(zeM x l).length<=l.length+1:=by
 have:=zsH x l;unfold zeM;rw [Av];split;simp only [Ai,AC];omega;simp only [AC];omega
theorem GLen.step {b:Nat} {n:Int} {G:GrS} {x:MendS} (h:GLen b G):GLen (b+1) (zcL n G x):=by
 unfold zcL;split;exact h.up (by omega);refine (h.up (by omega)).put ?_;have h1:=zyS x ((alk (x.Player,x.Week) G).getD []);have h2:=h.get (x.Player,x.Week)
 omega
theorem zuS (m:List MendS) (n:Int): ∀{b:Nat} {G:GrS},GLen b G->GLen (b+m.length) (zgL G m n):=by
 induction m with
 |nil=>intro b G h;exact h
 |cons x m ih=>intro b G h;have:=ih (h.step (n:=n) (x:=x));rw [Ai,show b+(m.length+1)=b+1+m.length by omega];exact this
theorem zsG {b:Nat} {l:List LineS} (h: ∀x∈l,x.Stats.length<=b):GLen b (zdf l):=by
 unfold zdf;have key: ∀(l:List LineS) (G:GrS),(∀x∈l,x.Stats.length<=b)->GLen b G->GLen b (l.foldl zgX G):=fun l=>by
  induction l with
  |nil=>intro G _ h;exact h
  |cons x l ih=>intro G h hG;exact ih _ (fun y hy=>h y (Am _ hy)) (hG.put (h x Aj))
 exact key l [] h (fun q hq=>by cases hq)
theorem zxw (l:List LineS):(zdf l).length<=l.length:=by
 unfold zdf;have key: ∀(l:List LineS) (G:GrS),(l.foldl zgX G).length<=G.length+l.length:=fun l=>by
  induction l with
  |nil=>intro G;exact Af _
  |cons x l ih=>
    intro G
    have h1:=ih (zgX G x);have h2:(zgX G x).length<=G.length+1:=zlR _ _ _;rw [Bw,Ai];omega
 have:=key l []
 simpa using this
theorem zyP (m:List MendS) (n:Int): ∀(G:GrS),(zgL G m n).length<=G.length+m.length:=by
 induction m with
 |nil=>intro G;exact Af _
 |cons x m ih=>
   intro G
   have h1:=ih (zcL n G x);have h2:(zcL n G x).length<=G.length+1:=by
    unfold zcL;split
    omega
    exact zlR _ _ _
   rw [Ai]
   show (zgL (zcL n G x) m n).length<=_
   omega
theorem zqV (l:List LineS) (m:List MendS) (n:Int):(zeL l m n).length<=l.length+m.length:=Aq (zyP m n _) (by have:=zxw l;omega)
/-! names within a list-/
def GNm (G:GrS):Prop:= ∀q∈G,(q.2.map (·.Name)).Nodup
theorem GNm.put {G:GrS} {p:Plc} {l:List StatS} (h:GNm G) (hl:(l.map (·.Name)).Nodup):GNm (zC p l G):=fun q hq=>by
 rcases zc5 hq with rfl|hq
 exact hl;exact h q hq
theorem GNm.get {G:GrS} (h:GNm G) (p:Plc):(((alk p G).getD []).map (·.Name)).Nodup:=by
 cases hq:alk p G with
 |none=>exact BO
 |some l=>exact h _ (zbO hq)
theorem zpy {x:MendS} {l:List StatS} (h:(l.map (·.Name)).Nodup):((zeM x l).map (·.Name)).Nodup:=by
 have h1:((ztN x l).map (·.Name)).Nodup:=h.sublist ((Cb).map _);unfold zeM
 split
 rw [Ay];refine List.nodup_append.2 ⟨h1,by simp,fun a ha b hb=> ?_⟩
 simp at hb;subst hb
 obtain ⟨s,hs,rfl⟩:=List.mem_map.1 ha;have:=(List.mem_filter.1 hs).2
 simpa using this
 rw [Bf];exact h1
theorem GNm.step {n:Int} {G:GrS} {x:MendS} (h:GNm G):GNm (zcL n G x):=by
 unfold zcL;split;exact h;exact h.put (zpy (h.get _))
theorem zxz (m:List MendS) (n:Int): ∀{G:GrS},GNm G->GNm (zgL G m n):=by
 induction m with
 |nil=>intro G h;exact h
 |cons x m ih=>intro G h;exact ih h.step
theorem zvL {l:List LineS} (h: ∀x∈l,(x.Stats.map (·.Name)).Nodup):GNm (zdf l):=by
 unfold zdf;have key: ∀(l:List LineS) (G:GrS),(∀x∈l,(x.Stats.map (·.Name)).Nodup)->GNm G->GNm (l.foldl zgX G):=fun l=>by
  induction l with
  |nil=>intro G _ h;exact h
  |cons x l ih=>intro G h hG;exact ih _ (fun y hy=>h y (Am _ hy)) (hG.put (h x Aj))
 exact key l [] h (fun q hq=>by cases hq)
theorem zvM {l:List LineS} {m:List MendS} {n:Int} (h: ∀x∈l,(x.Stats.map (·.Name)).Nodup):GNm (zeL l m n):=zxz m n (zvL h)
theorem zwm {l:List StatS} (h:(l.map (·.Name)).Nodup) {x y:StatS} (hx:x∈l) (hy:y∈l) (e:x.Name=y.Name):x=y:=by
 obtain ⟨i,hi⟩:=Bm hx;obtain ⟨j,hj⟩:=Bm hy;have:=zp2 h (a:=x.Name) (i:=i) (j:=j) (by rw [Ag,hi];rfl) (by rw [Ag,hj,e];rfl);rw [this,hj] at hi;exact (Aw hi).symm
theorem zvW {l l':List StatS} (h:(l.map (·.Name)).Nodup) (hp:l'.Perm l) (hw:l'.Pairwise fun a b=> ¬zbc b a<0):l'=zao zbc l:=
 zfQ zdr (fun _ _ hx hy e=>zwm h hx hy (zbn.1 e)) hp hw
/-! groups of owned slices that hold such a map-/
abbrev GrV:=zg9 Plc StatS
def zfI (G:GrV):GrS:=G.map fun q=>(q.1,q.2.2)
theorem zpT {p:Plc} {v:Value} {l:List StatS}: ∀{G:GrV},zfI (zC p (v,l) G)=zC p l (zfI G)
 |[]=>rfl
 |q::r=>by
   have ih:=zpT (p:=p) (v:=v) (l:=l) (G:=r);simp only [zfI,zC,Au] at ih⊢
   by_cases h:p=q.1
   rw [if_pos h,if_pos h];rfl;rw [if_neg h,if_neg h,Au,ih]
theorem zuo (p:Plc) (G:GrV):(alk p (zfI G)).getD []=gLK p G:=by
 unfold zfI gLK;rw [zoU (fun q:Value×List StatS=>q.2) p G]
 cases alk p G<;>rfl
theorem zzP (G:GrV):(zfI G).length=G.length:=by unfold zfI;simp
theorem zyT {n:Int} {G:GrV} {x:MendS} (h: ¬n<x.At) (v:Value):zfI (zC (x.Player,x.Week) (v,zeM x (gLK (x.Player,x.Week) G)) G)=zcL n (zfI G) x:=by
 rw [zpT,zcL,if_neg h,zuo]
abbrev zmQ (q:Plc×(Value×List StatS)):LineS:=zh9 (q.1,q.2.2)
theorem zDO {l:List LineS} {m:List MendS} {n:Int} {G E:GrV} (hG:zfI G=zeL l m n) (hE:E.Perm G) {out:List LineS} (hp:out.Perm (E.map zmQ)) (hw:out.Pairwise fun a b=> ¬zdi b a<0):out=mdL l m n:=by
 have hn:ANodup (zeL l m n):=zvN l m n;have hm:((zeL l m n).map zh9).Perm out:=by
  rw [<-hG];refine List.Perm.trans ?_ hp.symm
  unfold zfI;rw [AX];exact (hE.map zmQ).symm
 refine zfQ zj3 (fun x y hx hy e=> ?_) hm.symm hw
 obtain ⟨p,hp1,rfl⟩:=List.mem_map.1 hx;obtain ⟨q,hq1,rfl⟩:=List.mem_map.1 hy;obtain ⟨e1,e2⟩:=znN.1 e;have e3:p.1=q.1:=Prod.ext e1 e2;have a1:=(zek hn (x:=p.1) (v:=p.2)).1 hp1;have a2:=(zek hn (x:=q.1) (v:=q.2)).1 hq1;rw [<-e3,a1] at a2;have e4:p.2=q.2:=Aw a2;rw [show p=q from Prod.ext e3 e4]
abbrev zei (l:List LineS) (m:List MendS) (n:Int):Int:=if orI [zaz l,zbu m]≠0 then orI [zaz l,zbu m] else if zaa n then 0 else 1
abbrev zej (l:List LineS) (m:List MendS) (n:Int):List LineS:=if orI [zaz l,zbu m]≠0 then [] else if zaa n then mdL l m n else []
theorem zAs {a b:Int} (h:orI [a,b]=0):a=0/\b=0:=by rw [zef] at h;exact zwp h
theorem zCK {l:List LineS} {m:List MendS} {n:Int} {k:Nat} {G:GrV} (hL: ∀x∈l,x.Stats.length<=1000) (hm:m.length<=100) (hc:zfI G=zgL (zdf l) (m.take k) n) (p:Plc):(gLK p G).length<=1100:=by
 rw [<-zuo,hc];have h1:=(zuS (m.take k) n (zsG hL)).get p;have h2:(m.take k).length<=m.length:=by rw [Az];omega
 omega
theorem zCL {l:List LineS} {m:List MendS} {n:Int} {G:GrV} (hl:l.length<=1000) (hm:m.length<=100) (hc:zfI G=zgL (zdf l) m n):G.length<=1100:=by
 have h1:=zzP G;rw [hc] at h1;have h2:=zqV l m n;unfold zeL at h2
 omega
theorem zup {G:GrV} {q:Plc×(Value×List StatS)} (h:q∈G):(q.1,q.2.2)∈zfI G:=List.mem_map.2 ⟨q,h,rfl⟩
theorem zDP {l:List LineS} {m:List MendS} {n:Int} {G:GrV} {q:Plc×(Value×List StatS)} (h40:GLen 40 (zeL l m n)) (hc:zfI G=zgL (zdf l) m n) (hq:q∈G):q.2.2.length<=40:=by
 have h1:=zup hq;rw [hc] at h1;exact h40 _ h1
theorem zGr {l:List LineS} {m:List MendS} {n:Int} {G:GrV} {q:Plc×(Value×List StatS)} (hs: ∀x∈l,(x.Stats.map (·.Name)).Nodup) (hc:zfI G=zgL (zdf l) m n) (hq:q∈G):(q.2.2.map (·.Name)).Nodup:=by
 have h1:=zup hq;rw [hc] at h1;exact zvM (m:=m) (n:=n) hs _ h1
/-! counts of lines-/
def zrW {κ α:Type} [DecidableEq κ] (D S:List (κ×α)):List (κ×α):=S.foldl (fun C p=>zC p.1 p.2 C) D
theorem zqX {κ α:Type} [DecidableEq κ]: ∀{S D:List (κ×α)},ANodup D->ANodup (zrW D S)
 |[],_,h=>h
 |p::r,D,h=>zqX (S:=r) (D:=zC p.1 p.2 D) h.put
end
section
/-! one list of statistics by name-/
abbrev stA (l:List StatS):List (Str×Int):=l.map fun s=>(s.Name,s.Count)
def sv (l:List StatS) (s:Str):Int:=(alk s (stA l)).getD 0
structure StOk (l:List StatS):Prop where
 nd:(l.map (·.Name)).Nodup
 nz: ∀x∈l,x.Count≠0
theorem zs2 {l:List StatS} (h:(l.map (·.Name)).Nodup):ANodup (stA l):=by
 unfold ANodup;rw [AX];exact h
theorem StOk.nodup {l:List StatS} (h:StOk l):l.Nodup:=(List.pairwise_map.1 h.nd).imp fun h e=>h (congrArg _ e)
theorem zDl {l l':List StatS} (h:(l'.map (·.Name)).Nodup) (hp:l.Perm l') (s:Str):sv l s=sv l' s:=by
 unfold sv;rw [zt8 (hp.map _) (zs2 h)]
theorem StOk.sort {l:List StatS} (h:StOk l):StOk (zao zbc l) where
 nd:=((zbp zbc l).map _).nodup_iff.2 h.nd
 nz x hx:=h.nz x ((zeu _).1 hx)
theorem zvY {κ α:Type} [DecidableEq κ] (k:κ): ∀(A B:List (κ×α)),alk k (A++B)=(alk k A).or (alk k B)
 |[],B=>by simp [alk]
 |p::r,B=>by
   have ih:=zvY k r B;simp only [AY,alk]
   by_cases h:k=p.1
   rw [if_pos h,if_pos h];rfl;rw [if_neg h,if_neg h,ih]
theorem StOk.put {x:MendS} {l:List StatS} (h:StOk l):StOk (zeM x l) where
 nd:=zpy h.nd
 nz y hy:=by
  unfold zeM at hy
  rcases List.mem_append.1 hy with hy|hy
  exact h.nz y (List.mem_filter.1 hy).1
  split at hy
  rename_i hc;rw [List.mem_singleton.1 hy];exact hc
  cases hy
theorem StOk.nil:StOk []:=⟨BO,fun x h=>by cases h⟩
/-! all lists by place-/
structure GSOk (G:GrS):Prop where
 nd:ANodup G
 ok: ∀q∈G,StOk q.2
theorem GSOk.get {G:GrS} (h:GSOk G) (p:Plc):StOk ((alk p G).getD []):=by
 cases hq:alk p G with
 |none=>exact StOk.nil
 |some l=>exact h.ok _ (zbO hq)
theorem GSOk.step {n:Int} {G:GrS} {x:MendS} (h:GSOk G):GSOk (zcL n G x):=by
 unfold zcL;split;exact h;refine ⟨h.nd.put,fun q hq=> ?_⟩
 rcases zc5 hq with rfl|hq
 exact (h.get _).put;exact h.ok q hq
theorem GSOk.go {m:List MendS} {n:Int}: ∀{G:GrS},GSOk G->GSOk (zgL G m n):=by
 induction m with
 |nil=>intro G h;exact h
 |cons x m ih=>intro G h;exact ih h.step
theorem zxB {G:GrS} (h:ANodup G):(G.map zh9).Nodup:=by
 refine List.pairwise_map.2 ((List.pairwise_map.1 h).imp fun {a b} hab e=>hab ?_)
 have e1:a.1.1=b.1.1:=congrArg LineS.Player e;have e2:a.1.2=b.1.2:=congrArg LineS.Week e;exact Prod.ext e1 e2
theorem zyR {G:GrS} (hG:ANodup G) {x y:LineS} (hx:x∈G.map zh9) (hy:y∈G.map zh9) (e:zdi x y=0):x=y:=by
 obtain ⟨p,hp1,rfl⟩:=List.mem_map.1 hx;obtain ⟨q,hq1,rfl⟩:=List.mem_map.1 hy;obtain ⟨e1,e2⟩:=znN.1 e;have e3:p.1=q.1:=Prod.ext e1 e2;have a1:=(zek hG (x:=p.1) (v:=p.2)).1 hp1;have a2:=(zek hG (x:=q.1) (v:=q.2)).1 hq1;rw [<-e3,a1] at a2;have e4:p.2=q.2:=Aw a2;rw [show p=q from Prod.ext e3 e4]
abbrev plL (x:LineS):Plc:=(x.Player,x.Week)
abbrev lnA (l:List LineS):GrS:=l.map fun y=>(plL y,y.Stats)
theorem zuR {l:List LineS} (h:(l.map plL).Nodup):zdf l=lnA l:=by
 have key: ∀(l:List LineS) (G:GrS),(l.map plL).Nodup->(∀y∈l,alk (plL y) G=none)->l.foldl zgX G=G++lnA l:=fun l=>by
  induction l with
  |nil=>intro G _ _;simp
  |cons x l ih=>
    intro G hn hG
    obtain ⟨h1,h2⟩:=List.nodup_cons.1 (by simpa using hn:(plL x::l.map plL).Nodup);have e:zgX G x=G++[(plL x,x.Stats)]:=zjZ (hG x Aj);rw [Bw,e,ih _ h2]
    simp
    intro y hy
    rw [zvY,hG y (Am _ hy)];have:plL y≠plL x:=fun e=>h1 (e▸Bq hy)
    simp [alk,this]
 have h1:=key l [] h (fun y _=>rfl);exact h1
theorem zvw {l:List LineS} (h:l.Pairwise fun a b=>zdi a b<0):(l.map plL).Nodup:=by
 refine List.pairwise_map.2 (h.imp fun {a b} hab e=> ?_)
 have:=znN.2 ⟨congrArg Prod.fst e,congrArg Prod.snd e⟩
 omega
theorem zAq {l:List StatS} (h:l.Pairwise fun a b=>zbc a b<0):(l.map (·.Name)).Nodup:=by
 refine List.pairwise_map.2 (h.imp fun {a b} hab e=> ?_)
 have:zbc a b=0:=zbn.2 e
 omega
theorem zAZ {l:List StatS} (h:za7 l=0):StOk l:=by
 obtain ⟨_,h2,h3⟩:=zs4 h;exact ⟨zAq h3,fun x hx=>(ze0.1 (h2 x hx)).2.2⟩
theorem zqR {l:List LineS} (h:zaz l=0) {x:LineS} (hx:x∈l):StOk x.Stats:=zAZ (zeX.1 ((zgD h).2.1 x hx)).2.2
theorem zxv {l:List LineS} (h:zaz l=0): ∀x∈l,(x.Stats.map (·.Name)).Nodup:=fun _ hx=>(zqR h hx).nd
theorem zAe {l:List LineS} (h:zaz l=0):GSOk (zdf l):=by
 have hn:=zvw (zgD h).2.2;refine ⟨zpw l,fun q hq=> ?_⟩
 rw [zuR hn] at hq;obtain ⟨y,hy,rfl⟩:=List.mem_map.1 hq;exact zqR h hy
/-! what the mended lines are-/
structure GVal (G:GrS):Prop where
 pl: ∀q∈G,key q.1.1=true/\zaQ q.1.2=true
 st: ∀q∈G,∀s∈q.2,key s.Name=true/\(-100000<=s.Count/\s.Count<=100000)
theorem GVal.step {n:Int} {G:GrS} {x:MendS} (h:GVal G) (hx:zaG x=0):GVal (zcL n G x):=by
 obtain ⟨k1,k2,k3,k4,_⟩:=zuV hx;unfold zcL;split;exact h;refine ⟨fun q hq=> ?_,fun q hq s hs=> ?_⟩
 rcases zc5 hq with rfl|hq
 exact ⟨k1,k3⟩;exact h.pl q hq
 rcases zc5 hq with rfl|hq
 unfold zeM at hs
 rcases List.mem_append.1 hs with hs|hs
 have h1:=(List.mem_filter.1 hs).1
 cases ha:alk (x.Player,x.Week) G with
 |none=>rw [ha] at h1;cases h1
 |some l=>rw [ha] at h1;exact h.st _ (zbO ha) s h1
 split at hs
 rw [List.mem_singleton.1 hs];exact ⟨k2,k4⟩
 cases hs
 exact h.st q hq s hs
theorem GVal.go {n:Int}: ∀{m:List MendS} {G:GrS},GVal G->(∀x∈m,zaG x=0)->GVal (zgL G m n)
 |[],_,h,_=>h
 |x::m,_,h,hm=>GVal.go (m:=m) (h.step (hm x Aj)) fun y hy=>hm y (Am _ hy)
theorem zyN {l:List LineS} (h:zaz l=0):GVal (zdf l):=by
 have hn:=zvw (zgD h).2.2;rw [zuR hn];refine ⟨fun q hq=> ?_,fun q hq s hs=> ?_⟩
 obtain ⟨y,hy,rfl⟩:=List.mem_map.1 hq;obtain ⟨a1,a2,_⟩:=zeX.1 ((zgD h).2.1 y hy);exact ⟨a1,a2⟩;obtain ⟨y,hy,rfl⟩:=List.mem_map.1 hq;obtain ⟨_,_,a3⟩:=zeX.1 ((zgD h).2.1 y hy);obtain ⟨b1,b2,_⟩:=ze0.1 ((zs4 a3).2.1 s hs);exact ⟨b1,b2⟩
theorem zpF {l:List StatS} (h:(l.map (·.Name)).Nodup):(zao zbc l).Pairwise fun a b=>zbc a b<0:=by
 have h1:=zgj zdr (l:=l) (fun _ _=>trivial);have h2:((zao zbc l).map (·.Name)).Nodup:=((zbp zbc l).map _).nodup_iff.2 h;refine (h1.and (List.pairwise_map.1 h2)).imp fun {a b} hab=> ?_
 have h3:zbc a b≠0:=fun e=>hab.2 (zbn.1 e)
 omega
theorem zuP {G:GrS} (h:ANodup G):(zao zdi (G.map zh9)).Pairwise fun a b=>zdi a b<0:=by
 have h1:=zgj zj3 (l:=G.map zh9) (fun _ _=>trivial);have h2:(zao zdi (G.map zh9)).Nodup:=(zbp zdi _).nodup_iff.2 (zxB h);refine (List.Pairwise.and_mem.1 (h1.and h2)).imp fun {a b} hab=> ?_
 have h3:zdi a b≠0:=fun e=>hab.2.2.2 (zyR h ((zeu _).1 hab.1) ((zeu _).1 hab.2.1) e)
 omega
theorem zyQ {a:List LineS} {m:List MendS} {n:Int} (ha:zaz a=0) (hm:zbu m=0) (h40:GLen 40 (zeL a m n)) (hmany:(zeL a m n).length<=30000):zaz (mdL a m n)=0:=by
 have hG:GSOk (zeL a m n):=(zAe ha).go;have hV:GVal (zeL a m n):=(zyN ha).go (zsL hm).2.1;refine zqS (by unfold mdL;rw [za9,Ah];exact hmany) (fun y hy=> ?_) (zuP hG.nd)
 unfold mdL at hy;rw [zeu] at hy;obtain ⟨q,hq,rfl⟩:=List.mem_map.1 hy;have hq2:=hG.ok q hq;obtain ⟨k1,k2⟩:=hV.pl q hq;refine zeX.2 ⟨k1,k2,zs3 (by show (zao zbc q.2).length<=40;rw [za9];exact h40 q hq) (fun s hs=> ?_) (zpF hq2.nd)⟩
 have hs':s∈q.2:=(zeu _).1 hs;obtain ⟨k3,k4⟩:=hV.st q hq s hs';exact ze0.2 ⟨k3,k4,hq2.nz s hs'⟩
end
section
/-! mends as they are made up-/
def zhM (x:MendS):Prop:=Sh x.Player/\Sh x.Stat/\Sh x.By
structure GoodMds (k:List MendS):Prop where
 len:k.length<=24
 all: ∀x∈k,zhM x
def mp3:List Str:=[[97,110,110],[98,101,97],[122,111,101]]
def ms2:List Str:=[[103,111,97,108],[112,97,115,115]]
theorem zDQ: ∀s∈mp3,Sh s:=fun s hs=>by
 simp [mp3] at hs;rcases hs with rfl|rfl|rfl<;>(unfold Sh;simp)
theorem zDR: ∀s∈ms2,Sh s:=fun s hs=>by
 simp [ms2] at hs;rcases hs with rfl|rfl<;>(unfold Sh;simp)
theorem GLok.mono {α:Type} {P:α->Prop} {n n' m m':Nat} {q:GL α} (h:GLok P n m q) (hn:n<=n') (hm:m<=m'):GLok P n' m' q:=⟨Aq h.len hn,h.all,Aq h.a hm⟩
/-! the lines of plays,with mends-/
def zgm (m:List MendS) (week:Int):List MendS:=m.filter fun y=>y.Week==week
theorem zkr (m:List MendS) (week:Int):(zgm m week).length<=m.length:=AZ _ _
theorem ztr (m:List MendS) (week:Int) (k:Nat):(zgm (m.take k) week).length<=k:=Aq (zkr _ _) (by rw [Az];omega)
theorem zAv {m:List MendS} {week:Int} {k:Nat} {x:MendS} (h:m[k]? =some x) (e:x.Week=week):zgm (m.take (k+1)) week=zgm (m.take k) week++[x]:=by
 unfold zgm;rw [zaf h,BD];simp [e]
theorem zCV {m:List MendS} {week:Int} {k:Nat} {x:MendS} (h:m[k]? =some x) (e: ¬x.Week=week):zgm (m.take (k+1)) week=zgm (m.take k) week:=by
 unfold zgm;rw [zaf h,BD];simp [e]
def knL (l:List Play) (t:List Str) (m:List MendS) (week n:Int):List LineS:=if zh3 l t week n≠0 then [] else mdL (zd1 l t week n) m n
theorem zns {c:List (Of2×Int)} (hn:ANodup c) (s:Str):((zdR c s).map (·.Name)).Nodup:=by
 unfold zdR;refine ((zbp zbc _).map _).nodup_iff.2 ?_;have hr:(zbl c s).Nodup:=by
  unfold zbl;refine List.pairwise_map.2 (((List.pairwise_map.1 hn).filter _).imp_of_mem fun {a b} ha hb hab e=>hab ?_)
  have h1:=(List.mem_filter.1 ha).2;have h2:=(List.mem_filter.1 hb).2;simp only [A2,beq_iff_eq] at h1 h2;have e1:a.1.2=b.1.2:=congrArg StatS.Name e;exact Prod.ext (h1.1.trans h2.1.symm) e1
 refine List.pairwise_map.2 (hr.imp_of_mem fun {a b} ha hb hab e=>hab (zsS hn s ha hb e))
theorem zkp {l:List Play} {t:List Str} {week n:Int} (hok: ∀x∈l,playFault x=0) (hl:l.length<=15):
 (zd1 l t week n).length<=15/\∀y∈zd1 l t week n,y.Stats.length<=15/\(y.Stats.map (·.Name)).Nodup/\y.Week=week:=by
 have h:=ztM (l:=l) (m:=l) (trust:=t) (week:=week) (n:=n) hok;have a1:=h.Sl;have a2:=h.cl;unfold zd1 zhF
 split
 exact ⟨Ad _,fun y hy=>by cases hy⟩;refine ⟨by rw [Ah,(zih _).length_eq];omega,fun y hy=> ?_⟩
 obtain ⟨s,_,rfl⟩:=List.mem_map.1 hy;refine ⟨?_,zns h.c s,rfl⟩
 have h2:=zlF (zcJ l t week n l).c s
 show (zdR (zcJ l t week n l).c s).length<=15
 unfold zdR;rw [za9];omega
theorem zp1 {l:List Play} {t:List Str} {m:List MendS} {week n:Int} (hok: ∀x∈l,playFault x=0) (hl:l.length<=15) (hm:m.length<=24):GLen 40 (zeL (zd1 l t week n) m n):=
 (zuS m n (zsG fun x hx=>((zkp hok hl).2 x hx).1)).up (by omega)
end
section
open Op
structure BookC (b:BookS):Prop where
 bb:BookB b
 gw: ∀x∈b.League.Games,GamB x
 mb: ∀x∈b.Moves,MovB x
 hw: ∀x∈b.Health,-1000000000000000<=x.To/\x.To<=1000000000000000
 tr: ∀s∈b.League.Trust,Sh s
 pg: ∀x∈b.Plays,zdp x
 mg: ∀x∈b.Mends,zhM x
 cs: ∀x∈b.Choices,(∀s∈x.Players,Sh s)/\Sh x.Captain
 l1:b.Moves.length<=10
 l2:b.Plays.length<=15
 l3:b.Mends.length<=24
 l4:b.Health.length<=10
 l5:b.Choices.length<=20
 tt:HasAB b.League.Teams
 l6:b.League.Teams.length<=5
theorem zyV {s:Str}:(!(zbS s))=(s !=[]&& !(key s)):=by
 unfold zbS
 cases s with
 |nil=>rfl
 |cons x r=>cases key (x::r)<;>rfl
theorem zyW {l:List Str} {s:Str}:((l++[s]).all zbS)= !((l.any fun x=> !(zbS x))|| !(zbS s)):=by
 rw [List.all_append,B9,List.all_nil,Bool.and_true,Bool.not_or,Bool.not_not,List.all_eq_not_any_not]
theorem zvO {l:List Str} {c:Str} (h:(∃s,s∈l/\zbS s=false)\/zbS c=false):((l++[c]).all zbS)=false:=by
 rcases h with ⟨s,hs,e⟩|e
 exact List.all_eq_false.2 ⟨s,An _ hs,by rw [e];simp⟩;exact List.all_eq_false.2 ⟨c,A7 _ (List.mem_singleton.2 rfl),by rw [e];simp⟩
def zbr (g:LeagueS) (w:Int):Int:=g.Start+(w-1)*604800000
end
section
open Op
theorem zwR:Cmp (fun x y:{m:MoveS//MovB m}=>zgZ x.1 y.1) fun _=>True where
 flip x y _ _:=zkO.flip x.1 y.1 trivial trivial
 trans x y z _ _ _ h1 h2:=zkO.trans x.1 y.1 z.1 trivial trivial trivial h1 h2
theorem zwQ:Cmp (fun x y:{m:GameS//GamB m}=>zgs x.1 y.1) fun _=>True where
 flip x y _ _:=zkN.flip x.1 y.1 trivial trivial
 trans x y z _ _ _ h1 h2:=zkN.trans x.1 y.1 z.1 trivial trivial trivial h1 h2
theorem zml {α:Type} {p:α->Prop} {l:List α} (h: ∀x∈l,p x):(l.attachWith p h).map Subtype.val=l:=by simp
theorem zqi {α β:Type} {p:α->Prop} {l:List α} (h: ∀x∈l,p x) (f:α->β):(l.attachWith p h).map (fun x=>f x.1)=l.map f:=by
 have e:(l.attachWith p h).map (fun x=>f x.1)=((l.attachWith p h).map Subtype.val).map f:=by rw [AX];rfl
 rw [e,zml]
end
section
open Go
structure RosS where
 P:List (Str×List Str)
 H:List (Str×List Str)
 O:List (Str×Str)
 D:List (Str×Int)
 A:List ((Str×Int)×Int)
def zr8:RosS:=⟨[],[],[],[],[]⟩
def zgi (l:List Str) (s:Str):List Str:=l.take (zbU l s)++s::l.drop (zbU l s)
def ziB (l:List Str) (s:Str):List Str:=l.filter fun x=> !(x==s)
def rPl (k:RosS) (t:Str):List Str:=(alk t k.P).getD []
def rHu (k:RosS) (t:Str):List Str:=(alk t k.H).getD []
def zbv (k:RosS) (p:Str):Str:=(alk p k.O).getD []
def zxN (b:BoundS) (k:RosS) (p:Str) (n:Int):Bool:=match alk p k.D with|some d=>decide (n-d<b.Hold)|none=>false
def zbg (k:RosS) (w:Str×Int):Int:=(alk w k.A).getD 0
def zeh (b:BoundS) (k:RosS) (x:MoveS):Int:=
 if x.Kind=1 then
  if zbv k x.Player=x.Team then 6 else if zbv k x.Player≠[] then 13 else if zxN b k x.Player x.At=true then 11
  else if b.Adds<=zbg k (x.Team,Int.tdiv x.At 604800000) then 16 else if b.Most<=((rPl k x.Team).length:Int) then 12 else 0
 else if x.Kind=2 then if zbv k x.Player≠x.Team then 8 else 0
 else if x.Kind=3 then if (rPl k x.Team).contains x.Player=false then 8 else if b.Hurt<=((rHu k x.Team).length:Int) then 12 else 0
 else if x.Kind=4 then if (rHu k x.Team).contains x.Player=false then 8 else if b.Most<=((rPl k x.Team).length:Int) then 12 else 0
 else 0
def ziE (b:BoundS) (k:RosS) (x:MoveS):RosS:=
 if zeh b k x≠0 then ⟨zC x.Team (rPl k x.Team) k.P,zC x.Team (rHu k x.Team) k.H,k.O,k.D,k.A⟩
 else if x.Kind=1 then ⟨zC x.Team (zgi (rPl k x.Team) x.Player) k.P,zC x.Team (rHu k x.Team) k.H,zC x.Player x.Team k.O,k.D,zC (x.Team,Int.tdiv x.At 604800000) (zbg k (x.Team,Int.tdiv x.At 604800000)+1) k.A⟩
 else if x.Kind=2 then ⟨zC x.Team (ziB (rPl k x.Team) x.Player) k.P,zC x.Team (ziB (rHu k x.Team) x.Player) k.H,zcX x.Player k.O,zC x.Player x.At k.D,k.A⟩
 else if x.Kind=3 then ⟨zC x.Team (ziB (rPl k x.Team) x.Player) k.P,zC x.Team (zgi (rHu k x.Team) x.Player) k.H,k.O,k.D,k.A⟩
 else ⟨zC x.Team (zgi (rPl k x.Team) x.Player) k.P,zC x.Team (ziB (rHu k x.Team) x.Player) k.H,k.O,k.D,k.A⟩
def ziD (b:BoundS) (n:Int) (k:RosS):List MoveS->RosS
 |[]=>k
 |x::r=>ziD b n (if x.At<=n then ziE b k x else k) r
def zfU (b:BoundS) (l:List MoveS) (n:Int):RosS:=ziD b n zr8 l
/-! lists that rise-/
theorem SortedS.nodup {l:List Str} (h:SortedS l):l.Nodup:=h.imp fun {a b} h e=>by subst e;rw [zag] at h;cases h
theorem zdw {l:List Str} {s x:Str}:x∈ziB l s↔x∈l/\x≠s:=by simp [ziB]
theorem ziN {l:List Str} (h:SortedS l) (s:Str):SortedS (ziB l s):=h.sublist Cb
theorem zmW (l:List Str) (s:Str):(ziB l s).length<=l.length:=AZ _ _
theorem zhm {l:List Str} {s x:Str}:x∈zgi l s↔x=s\/x∈l:=by
 have e:x∈l↔x∈l.take (zbU l s)\/x∈l.drop (zbU l s):=by rw [<-List.mem_append,Bi]
 unfold zgi;rw [e];simp;constructor<;>(rintro (h|h|h)<;>simp [h])
theorem zpX (l:List Str) (s:Str):(zgi l s).length=l.length+1:=by
 have h:=congrArg List.length (Bi (zbU l s) l);unfold zgi;simp only [Av,Ai] at*;omega
theorem ziM {s:Str}: ∀{l:List Str},SortedS l->s∉l->SortedS (zgi l s)
 |[],_,_=>List.pairwise_singleton _ _
 |a::r,h,hn=>by
   have hr:=List.pairwise_cons.1 h
   cases ha:Op.bytesLess a s with
   |true=>
     have e:zbU (a::r) s=zbU r s+1:=by unfold zbU;simp [List.countP_cons,ha]
     have e2:zgi (a::r) s=a::zgi r s:=by unfold zgi;rw [e];rfl
     rw [e2];refine List.pairwise_cons.2 ⟨fun x hx=> ?_,ziM hr.2 fun q=>hn (Am _ q)⟩
     rcases zhm.1 hx with rfl|q
     exact ha;exact hr.1 x q
   |false=>
     have e:zbU (a::r) s=0:=zl6 (Ad _) (fun k x hk=>absurd hk (Nat.not_lt_zero _)) (ztw h (m:=0) rfl ha);have e2:zgi (a::r) s=s::a::r:=by unfold zgi;rw [e];rfl
     have hs:Op.bytesLess s a=true:=by
      rcases zb6 s a with q|q|q
      exact q;exact absurd (by rw [q];exact Aj) hn;rw [ha] at q;cases q
     rw [e2];refine List.pairwise_cons.2 ⟨fun x hx=> ?_,h⟩
     rcases List.mem_cons.1 hx with rfl|q
     exact hs;exact zew hs (hr.1 x q)
/-! what holds of a book-/
theorem zvZ {α:Type} {p q:Str} (h:q≠p): ∀l:List (Str×α),alk q (zcX p l)=alk q l
 |[]=>rfl
 |x::r=>by
   by_cases e:p=x.1
   have h1:zcX p (x::r)=r:=by rw [zcX,if_pos e]
   have h2:alk q (x::r)=alk q r:=by rw [alk,if_neg (by rw [<-e];exact h)]
   rw [h1,h2];have h1:zcX p (x::r)=x::zcX p r:=by rw [zcX,if_neg e]
   rw [h1]
   show (if q=x.1 then some x.2 else alk q (zcX p r))=(if q=x.1 then some x.2 else alk q r)
   rw [zvZ h r]
theorem zv4 {α:Type} {p:Str}: ∀{l:List (Str×α)} {x:Str×α},x∈zcX p l->x∈l
 |y::r,x,h=>by
   unfold zcX at h
   by_cases e:p=y.1
   rw [if_pos e] at h;exact Am _ h;rw [if_neg e] at h
   rcases List.mem_cons.1 h with rfl|q
   exact Aj;exact Am _ (zv4 q)
theorem zr4 {κ α:Type} [DecidableEq κ] {k:κ} {v:α}: ∀{l:List (κ×α)} {x:κ×α},x∈zC k v l->x=(k,v)\/x∈l
 |[],x,h=> .inl (by simpa [zC] using h)
 |y::r,x,h=>by
   unfold zC at h
   by_cases e:k=y.1
   rw [if_pos e] at h
   rcases List.mem_cons.1 h with rfl|q
   exact .inl rfl;exact .inr (Am _ q);rw [if_neg e] at h
   rcases List.mem_cons.1 h with rfl|q
   exact .inr Aj
   rcases zr4 q with q|q
   exact .inl q;exact .inr (Am _ q)
structure RosOk (n:Nat) (k:RosS):Prop where
 sp: ∀t,SortedS (rPl k t)/\(rPl k t).length<=n/\∀p∈rPl k t,alk p k.O=some t
 sh: ∀t,SortedS (rHu k t)/\(rHu k t).length<=n/\∀p∈rHu k t,alk p k.O=some t
 dj: ∀t p,p∈rPl k t->p∉rHu k t
 ad: ∀w,0<=zbg k w/\zbg k w<=n
 dr: ∀q∈k.D,0<=q.2/\q.2<=345686399999
 ow: ∀q∈k.O,q.2≠[]
theorem zDc:RosOk 0 zr8:=⟨fun t=>⟨List.Pairwise.nil,Af _,fun p h=>(by cases h)⟩,fun t=>⟨List.Pairwise.nil,Af _,fun p h=>(by cases h)⟩,fun t p h=>(by cases h),fun w=>⟨Int.le_refl _,Int.le_refl _⟩,fun q h=>(by cases h),fun q h=>(by cases h)⟩
theorem RosOk.mono {n m:Nat} {k:RosS} (h:RosOk n k) (hm:n<=m):RosOk m k:=
 ⟨fun t=>⟨(h.sp t).1,by have:=(h.sp t).2.1;omega,(h.sp t).2.2⟩,fun t=>⟨(h.sh t).1,by have:=(h.sh t).2.1;omega,(h.sh t).2.2⟩,h.dj,fun w=>⟨(h.ad w).1,by have:=(h.ad w).2;omega⟩,h.dr,h.ow⟩
theorem zww {T t:Str} {v:List Str} {P H:List (Str×List Str)} {O:List (Str×Str)} {D:List (Str×Int)} {A:List ((Str×Int)×Int)}:rPl ⟨zC T v P,H,O,D,A⟩ t=if t=T then v else (alk t P).getD []:=by
 unfold rPl;rw [zdO];split<;>rfl
theorem zwv {T t:Str} {v:List Str} {P H:List (Str×List Str)} {O:List (Str×Str)} {D:List (Str×Int)} {A:List ((Str×Int)×Int)}:rHu ⟨P,zC T v H,O,D,A⟩ t=if t=T then v else (alk t H).getD []:=by
 unfold rHu;rw [zdO];split<;>rfl
theorem RosOk.team {n:Nat} {k:RosS} (h:RosOk n k) {T:Str} {p h':List Str} {O:List (Str×Str)} {D:List (Str×Int)} {A:List ((Str×Int)×Int)}
 (hp:SortedS p/\p.length<=n+1/\∀x∈p,alk x O=some T) (hh:SortedS h'/\h'.length<=n+1/\∀x∈h',alk x O=some T) (hd: ∀x∈p,x∉h')
 (hO: ∀t x,t≠T->alk x k.O=some t->alk x O=some t) (hA: ∀w,0<=(alk w A).getD 0/\(alk w A).getD 0<=n+1) (hD: ∀q∈D,0<=q.2/\q.2<=345686399999) (hw: ∀q∈O,q.2≠[]):
 RosOk (n+1) ⟨zC T p k.P,zC T h' k.H,O,D,A⟩:=by
 refine ⟨fun t=> ?_,fun t=> ?_,fun t x=> ?_,fun w=>by have:=hA w;unfold zbg;simp only at*;omega,hD,hw⟩
 rw [zww]
 split
 rename_i e;subst e;exact hp
 rename_i e;have:=h.sp t;unfold rPl at this;exact ⟨this.1,by omega,fun x hx=>hO t x e (this.2.2 x hx)⟩
 rw [zwv]
 split
 rename_i e;subst e;exact hh
 rename_i e;have:=h.sh t;unfold rHu at this;exact ⟨this.1,by omega,fun x hx=>hO t x e (this.2.2 x hx)⟩
 rw [zww,zwv]
 split
 exact fun q=>hd x q
 have:=h.dj t x;unfold rPl rHu at this;exact this
theorem zAw {n:Nat} {k:RosS} (h:RosOk n k) {p:Str} (he:zbv k p=[]):alk p k.O=none:=by
 cases hq:alk p k.O with
 |none=>rfl
 |some t=>unfold zbv at he;rw [hq] at he;exact absurd he (h.ow _ (zbO hq))
theorem zAx {k:RosS} {p t:Str} (he:zbv k p=t) (ht:t≠[]):alk p k.O=some t:=by
 unfold zbv at he
 cases hq:alk p k.O with
 |none=>rw [hq] at he;exact absurd he.symm ht
 |some u=>rw [hq] at he;exact congrArg some he
theorem zC7 {n:Nat} {b:BoundS} {k:RosS} {x:MoveS} (h:RosOk n k) (ha:0<=x.At/\x.At<=345686399999) (hk:1<=x.Kind/\x.Kind<=4) (hT:x.Team≠[]):RosOk (n+1) (ziE b k x):=by
 have hp:=h.sp x.Team;have hh:=h.sh x.Team;have hd:=h.dj x.Team;have hA: ∀w,0<=(alk w k.A).getD 0/\(alk w k.A).getD 0<=(n:Int)+1:=fun w=>by have:=h.ad w;unfold zbg at this;omega
 unfold ziE
 by_cases hw:zeh b k x≠0
 rw [if_pos hw];exact h.team ⟨hp.1,by omega,hp.2.2⟩ ⟨hh.1,by omega,hh.2.2⟩ hd (fun _ _ _ e=>e) hA h.dr h.ow;rw [if_neg hw];have h0:zeh b k x=0:=Decidable.not_not.1 hw
 by_cases k1:x.Kind=1
 rw [if_pos k1];rw [zeh,if_pos k1] at h0;have ho:zbv k x.Player=[]:=by
  by_cases q:zbv k x.Player=x.Team
  rw [if_pos q] at h0;omega;rw [if_neg q] at h0
  by_cases q2:zbv k x.Player≠[]
  rw [if_pos q2] at h0;omega;exact Decidable.not_not.1 q2
 have hn:=zAw h ho;have hne: ∀y t,alk y k.O=some t->y≠x.Player:=fun y t e q=>by rw [q,hn] at e;cases e
 have hO: ∀y t,alk y k.O=some t->alk y (zC x.Player x.Team k.O)=some t:=fun y t e=>by rw [zdO,if_neg (hne y t e)];exact e
 refine h.team ⟨ziM hp.1 fun q=>hne _ _ (hp.2.2 _ q) rfl,by rw [zpX];omega,fun y hy=> ?_⟩ ⟨hh.1,by omega,fun y hy=>hO y _ (hh.2.2 y hy)⟩ (fun y hy q=> ?_) (fun t y _ e=>hO y t e) (fun w=> ?_) h.dr (fun q hq=> ?_)
 rcases zhm.1 hy with rfl|q
 rw [zdO,if_pos rfl];exact hO y _ (hp.2.2 y q)
 rcases zhm.1 hy with rfl|q2
 exact hne _ _ (hh.2.2 _ q) rfl;exact hd y q2 q;rw [zdO]
 split
 have:=h.ad (x.Team,Int.tdiv x.At 604800000);simp only [B8];omega;exact hA w
 rcases zr4 hq with rfl|q2
 exact hT;exact h.ow q q2;rw [if_neg k1];rw [zeh,if_neg k1] at h0
 by_cases k2:x.Kind=2
 rw [if_pos k2];rw [if_pos k2] at h0;have ho:alk x.Player k.O=some x.Team:=zAx (by
  by_cases q:zbv k x.Player≠x.Team
  rw [if_pos q] at h0;omega;exact Decidable.not_not.1 q) hT
 have hO: ∀y t,y≠x.Player->alk y k.O=some t->alk y (zcX x.Player k.O)=some t:=fun y t e q=>by rw [zvZ e];exact q
 refine h.team ⟨ziN hp.1 _,by have:=zmW (rPl k x.Team) x.Player;omega,fun y hy=> ?_⟩ ⟨ziN hh.1 _,by have:=zmW (rHu k x.Team) x.Player;omega,fun y hy=> ?_⟩ (fun y hy q=>hd y (zdw.1 hy).1 (zdw.1 q).1) (fun t y ht e=>hO y t (fun q=> ?_) e) hA (fun q hq=> ?_) (fun q hq=>h.ow q (zv4 hq))
 exact hO y _ (zdw.1 hy).2 (hp.2.2 y (zdw.1 hy).1);exact hO y _ (zdw.1 hy).2 (hh.2.2 y (zdw.1 hy).1);rw [q,ho] at e;exact ht (Aw e).symm
 rcases zr4 hq with rfl|q2
 exact ha;exact h.dr q q2;rw [if_neg k2];rw [if_neg k2] at h0
 by_cases k3:x.Kind=3
 rw [if_pos k3];rw [if_pos k3] at h0;have hc:x.Player∈rPl k x.Team:=by
  by_cases q:(rPl k x.Team).contains x.Player=false
  rw [if_pos q] at h0;omega
  simpa using q
 exact h.team ⟨ziN hp.1 _,by have:=zmW (rPl k x.Team) x.Player;omega,fun y hy=>hp.2.2 y (zdw.1 hy).1⟩ ⟨ziM hh.1 (hd _ hc),by rw [zpX];omega,fun y hy=>by
  rcases zhm.1 hy with rfl|q
  exact hp.2.2 _ hc;exact hh.2.2 y q⟩ (fun y hy q=>by
  rcases zhm.1 q with rfl|q
  exact (zdw.1 hy).2 rfl;exact hd y (zdw.1 hy).1 q) (fun _ _ _ e=>e) hA h.dr h.ow
 rw [if_neg k3];rw [if_neg k3,if_pos (by omega)] at h0;have hc:x.Player∈rHu k x.Team:=by
  by_cases q:(rHu k x.Team).contains x.Player=false
  rw [if_pos q] at h0;omega
  simpa using q
 exact h.team ⟨ziM hp.1 (fun q=>hd _ q hc),by rw [zpX];omega,fun y hy=>by
  rcases zhm.1 hy with rfl|q
  exact hh.2.2 _ hc;exact hp.2.2 y q⟩ ⟨ziN hh.1 _,by have:=zmW (rHu k x.Team) x.Player;omega,fun y hy=>hh.2.2 y (zdw.1 hy).1⟩ (fun y hy q=>by
  rcases zhm.1 hy with rfl|q2
  exact (zdw.1 q).2 rfl;exact hd y q2 (zdw.1 q).1) (fun _ _ _ e=>e) hA h.dr h.ow
theorem zwu {b:BoundS} {m:Int}: ∀{l:List MoveS} {n:Nat} {k:RosS},RosOk n k->(∀x∈l,(0<=x.At/\x.At<=345686399999)/\(1<=x.Kind/\x.Kind<=4)/\x.Team≠[])->RosOk (n+l.length) (ziD b m k l)
 |[],n,k,h,_=>h
 |x::r,n,k,h,hl=>by
   obtain ⟨h1,h2,h3⟩:=hl x Aj;unfold ziD;have:RosOk (n+1) (if x.At<=m then ziE b k x else k):=by
    split
    exact zC7 h h1 h2 h3;exact h.mono (BN n)
   have:=zwu (b:=b) (m:=m) this (l:=r) fun y hy=>hl y (Am _ hy)
   rw [Ai,show n+(r.length+1)=n+1+r.length by omega];exact this
theorem zyU {l:List MoveS} (h:zfi l=0):l.length<=2000/\∀x∈l,(0<=x.At/\x.At<=345686399999)/\(1<=x.Kind/\x.Kind<=4)/\(key x.Team=true/\key x.Player=true):=by
 obtain ⟨h1,h2⟩:=zfD h;refine ⟨h1,fun x hx=> ?_⟩
 obtain ⟨i,hi,rfl⟩:=AT hx;have:=h2 i l[i] (Aa hi)
 generalize l[i]=x at this
 unfold zeK at this
 by_cases q1:zaa x.At=false
 rw [if_pos q1] at this;omega;rw [if_neg q1] at this
 by_cases q2:out x.Kind 1 4=true
 rw [if_pos q2] at this;omega;rw [if_neg q2] at this
 by_cases q3:key x.Team=false\/key x.Player=false
 rw [if_pos q3] at this;omega;refine ⟨?_,?_,?_⟩
 simp [zaa,out] at q1;omega
 simp [out] at q2;omega
 rw [not_or] at q3;simpa using q3
end
section
open Go
variable {P:Program}
theorem zqH [Tracks] {e:Env} {dst:Option Tmp} {ty:TypeId} {pos:String} {af:Array Edge} {g:Option (Nat×Bool)} {M:List MObj} {K:HVal->List MObj->Prop} {t el:TypeId} {size bytes b2:Nat} {zero z2:Value} {d:TD} {x:Operand} {s:Str}
 (hf:Fits P t (.slice el) size bytes zero) (hel:Fits P el d 1 b2 z2) (hz:z2.cells.size=1) (hx:zh e x=some (.str s))
 (hk: ∀ub,K (.raw (.slice (some ⟨ub,0,none⟩) 1 1)) (.obj ub (.cells #[zbF s] el (0,0))::M)):EOp P e M ⟨dst,.buildSlice t 1 #[(0,x)],ty,pos,af,g⟩ K:=
 EOp.of_run fun I F a w ho hs'=>by
  have h1:=(ho.one (x:=x) (by simp [Op.operands]) hx).str_inv;refine ⟨.slice (some ⟨w.heap.size,0,none⟩) 1 1,.raw (.slice (some ⟨w.heap.size,0,none⟩) 1 1),_,push w (.cells #[zbF s] el (0,0)),I,?_,.refl I,hk _,.raw _ rfl,?_⟩
  simp only [execOp,Instr.buildSlice,Sem.run_bind,run_underlying hf.slice,Result.andThen_ok,hel.run_sizeOf];rw [if_neg (by decide)];simp only [Sem.run_pure,Result.andThen_ok];rw [if_neg (by decide)];simp only [Sem.run_bind,hel.run_zero,Result.andThen_ok,Sem.run_pure];obtain ⟨z,hzz⟩: ∃z,z2.cells= #[z]:=by
   rcases hq:z2.cells with ⟨l⟩
   rw [hq] at hz
   match l,hz with
   |[z],_=>exact ⟨z,rfl⟩
  rw [hzz];have hr:Array.range 1= #[0]:=by first|decide|simp [Array.range_succ]
  simp [Instr.fill,h1,newRow,Value.cells,zbF,push,hr]
  try rfl
  exact hs'.new_own (.cells #[zbF s] el (0,0)) (.obj w.heap.size (.cells #[zbF s] el (0,0))) rfl (by simp [MSat,push])
abbrev eWk (p:Str×Int):HVal:= .agg [.str p.1,.int .i64 p.2]
abbrev kBk (b:BoundS) (pb hb ob db ab:Nat):List HVal:=[.int .i64 b.Most,.int .i64 b.Hurt,.int .i64 b.Adds,.int .i64 b.Hold,.raw (.map (some pb)),.raw (.map (some hb)),.raw (.map (some ob)),.raw (.map (some db)),.raw (.map (some ab))]
abbrev zdy (kb pb hb ob db ab:Nat) (b:BoundS) (k:RosS):List MObj:=[.cells kb (kBk b pb hb ob db ab),.map pb (sk (em eSs k.P)),.map hb (sk (em eSs k.H)),.map ob (sk (em .str k.O)),.map db (sk (em (.int .i64) k.D)),.map ab (kk eWk (em (.int .i64) k.A))]
end
section
section
variable {P:Program} {e:Env} {dst:Option Tmp} {ty:TypeId} {pos:String} {af:Array Edge} {g:Option (Nat×Bool)} {M:List MObj} {K:HVal->List MObj->Prop}
end
end
section
section
variable {P:Program} {e:Env} {dst:Option Tmp} {ty:TypeId} {pos:String} {af:Array Edge} {g:Option (Nat×Bool)}
end
section
variable {P:Program} {n:Nat} {e e':Env} {M M':List MObj} {Q Q':Exit->Env->List MObj->Prop} {c c':Code}
def zx8 {α β γ δ:Type} (e:Env) (ks:List Nat) (W:α->β->γ->δ->List (Nat×HVal)) (MM:α->β->γ->δ->List MObj) (Iv:α->β->γ->δ->Prop) (μ:α->β->γ->δ->Nat) (x:α) (y:β) (u:γ) (v:δ) (Q:Exit->Env->List MObj->Prop):Exit->Env->List MObj->Prop
 | .normal,e',M=> ∃j k l m,Iv j k l m/\μ j k l m<μ x y u v/\zcv e' (W j k l m)/\zgr ks e e'/\M.Perm (MM j k l m)
 |z,e',M=>Q z e' M
theorem zAf {α β γ δ:Type} {e0:Env} {ks:List Nat} {W:α->β->γ->δ->List (Nat×HVal)} {MM:α->β->γ->δ->List MObj} {Iv:α->β->γ->δ->Prop} {μ:α->β->γ->δ->Nat} {x:α} {y:β} {u:γ} {v:δ} {id:Nat} (h:Q (.exit id) e M):
 zx8 e0 ks W MM Iv μ x y u v Q (.exit id) e M:=h
theorem zyE [Tracks] {α β γ δ:Type} (ks:List Nat) (W:α->β->γ->δ->List (Nat×HVal)) (MM:α->β->γ->δ->List MObj) (Iv:α->β->γ->δ->Prop) (μ:α->β->γ->δ->Nat) (x:α) (y:β) (u:γ) (v:δ) (h0:Iv x y u v) (hW:zcv e (W x y u v)) (hM:M.Perm (MM x y u v))
 (hb: ∀x y u v,Iv x y u v->HWp P n c (loopE e ks (W x y u v)) (MM x y u v) (zx8 e ks W MM Iv μ x y u v Q)):HWp P n (.loop c) e M Q:=by
 refine ziA (ι:=α×β×γ×δ) ks (fun p=>W p.1 p.2.1 p.2.2.1 p.2.2.2) (fun p=>MM p.1 p.2.1 p.2.2.1 p.2.2.2) (fun p=>Iv p.1 p.2.1 p.2.2.1 p.2.2.2) (fun p=>μ p.1 p.2.1 p.2.2.1 p.2.2.2) (x,y,u,v) h0 hW hM fun p hp=>zl1 (hb p.1 p.2.1 p.2.2.1 p.2.2.2 hp) ?_
 intro z e1 M1 hq
 cases z with
 |normal=>obtain ⟨j,k,l,m,h⟩:=hq;exact ⟨(j,k,l,m),h⟩
 |_=>exact hq
end
end
section
variable {P:Program}
end
section
open Go
variable {P:Program}
theorem zyJ {kt:TypeId} {s1 b1:Nat} {z1:Value} (hf:Fits P kt .str s1 b1 z1):KeyOk P kt HVal.str:=by
 haveI:Tracks:=⟨true⟩
 have hk: ∀x y:Str,zfm .str (.str x) (.str y)=true:=fun x y=>rfl
 refine ⟨fun I x v b w hv=>zku hf (hk x x) hv b 9999 w,fun I x y u v w hu hv=> ?_,fun I x v es w hv hes=> ?_,fun I x u v hu hv=> ?_⟩
 have:=zho hf (hk x y) hu hv 9999 w
 show (Op.equalIn (9999+1) kt u v).run P w=_
 rw [this]
 show Result.ok (x==y) w=_
 congr 1
 rw [AF];simp;obtain rfl:=hv.str_inv;have key: ∀(es:List MapEntry) (i:Nat),(∀m∈es,∃y,V I (.str y) m.key)->∃r,Instr.findNow .string (.string ⟨x.toArray⟩) es i=some r/\(Instr.findAsking kt (.string ⟨x.toArray⟩) es i).run P w= .ok r w:=by
  intro es
  induction es with
  |nil=>intro i _;exact ⟨none,rfl,by simp [Instr.findAsking]⟩
  |cons m es ih=>
    intro i h
    obtain ⟨y,hy⟩:=h m Aj;have hq:=zho hf (hk x y) (V.str x) hy 9999 w;have hq':(Op.equal kt (.string ⟨x.toArray⟩) m.key).run P w= .ok (x==y) w:=hq;have hy':=hy.str_inv;have hb:((⟨x.toArray⟩:ByteArray)==⟨y.toArray⟩)=(x==y):=by rw [ziW,AF];simp
    by_cases e:x=y
    have e1:(x==y)=true:=by simpa using e
    refine ⟨some (i,m.val),?_,?_⟩
    simp only [Instr.findNow,Instr.sameNow,hy',hb,e1];simp only [Instr.findAsking,Sem.run_bind,hq',Result.andThen_ok,e1]
    simp
    obtain ⟨r,r1,r2⟩:=ih (i+1) fun m' hm'=>h m' (Am _ hm')
    have:(x==y)=false:=by simpa using e
    refine ⟨r,?_,?_⟩
    simp only [Instr.findNow,Instr.sameNow,hy',hb,this];exact r1;simp only [Instr.findAsking,Sem.run_bind,hq',Result.andThen_ok,this];exact r2
 obtain ⟨r,r1,r2⟩:=key es 0 hes;simp only [Instr.findKey,Sem.run_bind,run_underlying hf.strD,Result.andThen_ok,r1,Sem.run_pure,r2];obtain rfl:=hu.str_inv;obtain rfl:=hv.str_inv
 show Instr.sameBits (9999+1) _ _=true
 simp only [Instr.sameBits];rw [ziW];simp
section
variable {α:Type} {e:Env} {dst:Option Tmp} {ty:TypeId} {pos:String} {af:Array Edge} {g:Option (Nat×Bool)} {M:List MObj} {K:HVal->List MObj->Prop}
theorem zwI [Tracks] {o:Oper} {K K':HVal->List MObj->Prop} (hk: ∀h M',K h M'->∃h2,Weak h h2/\K' h2 M') (h:EOp P e M o K):EOp P e M o K':=
 fun I F a w ho hs=>zba (fun _ _ ⟨v,x,M',J,h1,h2,h3,h4,h5⟩=>by
  obtain ⟨y,g1,g2⟩:=hk _ _ h3;exact ⟨v,y,M',J,h1,h2,g2,g1 _ _ h4,h5⟩) (h I F a w ho hs)
theorem zfC [Tracks] {x y:Operand} {t kt et:TypeId} {size bytes s2 b2 s3 b3:Nat} {zero z2 z3:Value} {d:TD} {i b:Nat} {f:α->HVal} {L:List (Str×α)} {s:Str} {z0:α}
 (hf:Fits P t (.map kt et) size bytes zero) (hkt:Fits P kt .str s2 b2 z2) (het:Fits P et d s3 b3 z3) (hx:zh e x=some (.raw (.map (some b)))) (hy:zh e y=some (.str s)) (hm:M[i]? =some (.map b (sk (em f L)))) (hz:Weak (zaB z3) (f z0))
 (hk:K (f ((alk s L).getD z0)) M):EOp P e M ⟨dst,.lookup t x y false,ty,pos,af,g⟩ K:=by
 refine zwI (K:=fun h M'=>Weak h (f ((alk s L).getD z0))/\M'=M) (fun h M' ⟨h1,h2⟩=>⟨_,h1,by rw [h2];exact hk⟩) ?_;refine zmO hf hkt het hx hy hm ?_;have h1:=zm5 f s L
 cases h:z6 s (em f L) with
 |none=>
   rw [h] at h1;have:alk s L=none:=by cases q:alk s L with|none=>rfl|some _=>rw [q] at h1;cases h1
   rw [this];exact ⟨hz,rfl⟩
 |some p=>
   rw [h] at h1;obtain ⟨q,hq,hp⟩: ∃q,alk s L=some q/\p.2=f q:=by
    cases q:alk s L with
    |none=>rw [q] at h1;cases h1
    |some r=>rw [q] at h1;exact ⟨r,rfl,Aw h1⟩
   rw [hq];refine ⟨?_,rfl⟩
   show Weak p.2 (f q)
   rw [hp];exact Weak.refl _
theorem znm [Tracks] {x y:Operand} {t kt et:TypeId} {size bytes s2 b2 s3 b3:Nat} {zero z2 z3:Value} {d:TD} {i b:Nat} {f:α->HVal} {L:List (Str×α)} {s:Str}
 (hf:Fits P t (.map kt et) size bytes zero) (hkt:Fits P kt .str s2 b2 z2) (het:Fits P et d s3 b3 z3) (hx:zh e x=some (.raw (.map (some b)))) (hy:zh e y=some (.str s)) (hm:M[i]? =some (.map b (sk (em f L))))
 (hk: ∀(j st:Nat),zbG s (zdv s (zaB z3) (em f L))=some j->K (.tup [(klk s (em f L)).getD (zaB z3),.int .i64 (st:Int)]) (M.set i (.mape b (kk HVal.str (zdv s (zaB z3) (em f L))) j st))):EOp P e M ⟨dst,.mapEntry t x y,ty,pos,af,g⟩ K:=
 zof (ek:=HVal.str) hf (zyJ hkt) het hx hy hm hk
theorem zkU [Tracks] {x y z:Operand} {t:TypeId} {i b j st:Nat} {f:α->HVal} {L:List (Str×α)} {s:Str} {h0:HVal} {v:α}
 (hx:zh e x=some (.raw (.map (some b)))) (hy:zh e y=some (.int .i64 (st:Int))) (hz:zh e z=some (f v)) (hm:M[i]? =some (.mape b (kk HVal.str (zdv s h0 (em f L))) j st)) (hj:zbG s (zdv s h0 (em f L))=some j)
 (hk:K .junk (M.set i (.map b (sk (em f (zC s v L)))))):EOp P e M ⟨dst,.entryStore t x y z,ty,pos,af,g⟩ K:=by
 refine zl0 (ek:=HVal.str) hx hy hz hm hj ?_;rw [zsC,zo2];exact hk
end
end
end Go.HL
namespace Go.Proofs
section
open Go.Shelf
def Tryz.lays222_ren:Go.Shelf.Ren:=⟨fun|22=>358|29=>379|30=>380|36=>385|17=>159|n=>n,fun|24=>33|9=>9|3=>3|4=>4|0=>0|n=>n,fun|n=>n⟩
theorem zt6:Go.Proofs.Lays2.n22 Tryz.prog Tryz.lays222_ren:={
 mixed:=by kernel_rfl
 f17:=Tryz.func159.trans (congrArg some (by kernel_rfl))
 f22:=Tryz.func358.trans (congrArg some (by kernel_rfl))
 f29:=Tryz.func379.trans (congrArg some (by kernel_rfl))
 f30:=Tryz.func380.trans (congrArg some (by kernel_rfl))
 f36:=Tryz.func385.trans (congrArg some (by kernel_rfl))
 t0:=Tryz.underlying0
 a0:=Tryz.isAgg0
 z0:=Tryz.sizeOf0
 v0:=Tryz.zeroValue0
 t3:=Tryz.underlying3
 a3:=Tryz.isAgg3
 z3:=Tryz.sizeOf3
 v3:=Tryz.zeroValue3
 t4:=Tryz.underlying4
 a4:=Tryz.isAgg4
 z4:=Tryz.sizeOf4
 v4:=Tryz.zeroValue4
 t9:=Tryz.underlying9
 a9:=Tryz.isAgg9
 z9:=Tryz.sizeOf9
 v9:=Tryz.zeroValue9
 t24:=Tryz.underlying33
 a24:=Tryz.isAgg33
 z24:=Tryz.sizeOf33
 v24:=Tryz.zeroValue33
 i9:=by kernel_rfl}
end
end Go.Proofs
namespace Go.Proofs.YtpgopgjleokciaaGreatDoor
set_option maxRecDepth 100000
set_option linter.unusedVariables false
set_option linter.unusedSimpArgs false
section
open Go.Proofs.Tryz
open Go.HL
theorem zdX [Tracks] {l:List Str} {fid:FuncId} {caps:List HVal} {p:Str->Bool} (hca:Callable prog fid) (hp: ∀x,ConP prog fid ([HVal.str x]++caps) (.bool (p x))) (hl:l.length<=1000000):ConP prog 206 [.slice 1 (l.map HVal.str),.fn (.func fid) [] caps] (.int .i64 (zW p l 0)):=by
 refine uOb func206 ntmps206 ?_;refine zaw ?_;refine uT1 [4,2,8,11] (fun k=>[(8,.int .i64 k)]) (fun k=>[]) (fun k=>k<=l.length/\(zW p l 0=zW p (l.drop k) k)) (fun k=>l.length-k) (0) ?_ ?_;exact ⟨Ad _,rfl⟩;rintro k ⟨hk,hg⟩;refine gz4 ?_;refine uCo (fun h1=> ?_) fun h2=> ?_
 obtain ⟨x,hx⟩: ∃x,l[k]? =some x:=⟨_,Aa h1⟩
 have hdx:=zk hx;rw [hdx] at hg;refine zdu ?_;refine dq (zap hca rfl rfl (WeakL.refl _) (hp _)) ?_;refine gz1 ?_;refine uCo (fun h3=> ?_) fun h4=> ?_
 refine gz5 ?_;refine uRp ?_
 (rw [hg];simp_all [zW])
 refine gz7 ?_;refine ⟨k+1,?_,?_,⟨rfl,trivial⟩,uK,Ac _⟩
 refine ⟨by omega,?_⟩
 rw [hg,zW,if_neg uSa];rfl
 dsimp only;omega
 have hnk:l.length<=k:=by omega
 obtain rfl:k=l.length:=by omega
 rw [zH (Af _)] at hg;refine gz2 ?_;refine zv ?_;refine gz6 ?_;refine uRp ?_
 (rw [hg];rfl)
theorem zgu [Tracks] {l:List Str} {fid:FuncId} {caps:List HVal} {p:Str->Bool} (hca:Callable prog fid) (hp: ∀x,ConP prog fid ([HVal.str x]++caps) (.bool (p x))) (hl:l.length<=1000000):ConP prog 128 [.slice 1 (l.map HVal.str),.fn (.func fid) [] caps] (.bool (l.any p)):=by
 refine uOb func128 ntmps128 ?_;refine gz6 ?_;refine dq (uCl zw2 rfl (zdX hca hp hl)) ?_;refine gz4 ?_;refine zw rfl ?_
 congr 1;exact zdd p l 0 uO
theorem zbw [Tracks] {l:List Str} {fid:FuncId} {caps:List HVal} {p:Str->Bool} {v:Value} (hca:Callable prog fid) (hp: ∀x,ConP prog fid ([HVal.str x]++caps) (.bool (p x))) (hl:l.length<=1000000):Con prog 359 [.raw v,.fn (.func fid) [] caps] [.arr v 1 (l.map HVal.str)] (fun x M'=> ∃u,x= .raw u/\M'=[.arr u 1 ((l.filter (fun x=> !p x)).map HVal.str)]):=by
 refine uOb func359 ntmps359 ?_;refine gz6 ?_;refine de rfl (ze6 (hs':=[.slice 1 (l.map HVal.str),.fn (.func fid) [] caps]) zw2 rfl ⟨.arr (i:=0) rfl,.weak (Weak.refl _),trivial⟩ (zdX (p:=p) hca hp hl) rfl ?_)
 refine gz7 ?_;refine uCo (fun h1=> ?_) fun h2=> ?_
 ·refine gz5 ?_
  (refine zah rfl ⟨_,rfl,?_⟩
   rw [zhH p l 0 uO h1]
   done)
 ·refine gz3 ?_;obtain ⟨i0,hi0,hil,⟨x0,hx0,hp0⟩,hb0⟩:=zgC p l 0 uO h2;rw [Cz] at hi0;obtain ⟨hD0,hn0⟩:=DelInv.start (p:=p) hil hx0 hp0 hb0;refine zcS (i:=0) rfl (fun h0 he=> ?_) (fun b off cap hv hcap=> ?_)
  ·exfalso;have:=congrArg List.length he;simp at this;subst this;simp at hil
  rw [Ah] at hv hcap;subst hv;refine gz2 ?_;refine dq (zS (zaZ rfl rfl (by rw [hi0];omega) (by rw [hi0];omega)) (congrArg _ (by rw [hi0]))) ?_;refine gz3 ?_;refine uV2 [5,3,16,20] (fun (j:Nat) (D:List Str)=>[(6,.int .i64 (j:Int)),(5,.int .i64 (((l.take j).filter (fun x=> !p x)).length:Int))]) (fun (j:Nat) (D:List Str)=>[.arr (.slice (some ⟨b,off,none⟩) l.length cap) 1 (D.map HVal.str)]) (fun (j:Nat) (D:List Str)=>DelInv p l j D) (fun (j:Nat) (D:List Str)=>l.length-j) (i0+1) (l) ?_ ?_ ?_ ?_
  ·exact hD0
  ·exact ⟨rfl,zP (by rw [hn0,hi0]),trivial⟩
  ·exact Ac _
  ·intro j D hD
   have hlt0:=hD.lt;have hle0:=hD.len;refine gz4 ?_;refine de rfl (zaX (i:=0) zq rfl rfl ?_)
   refine gz2 ?_;refine uCo (fun h3=> ?_) fun h4=> ?_
   ·obtain ⟨x,hx⟩: ∃x,l[j]? =some x:=⟨_,Aa uO⟩
    refine gz7 ?_;refine dq (zx (j:=j) zq ty9 rfl rfl rfl uO) ?_;refine de rfl (zat (i:=0) (j:=j) 0 ty9 rfl rfl rfl (hD.get hx) rfl rfl ?_)
    refine gz5 ?_;refine dq (zap hca rfl rfl (WeakL.refl _) (hp _)) ?_;refine gz2 ?_;refine uCo (fun h5=> ?_) fun h6=> ?_
    ·refine gz4 ?_;refine dq (zx (j:=((l.take j).filter (fun x=> !p x)).length) zq ty9 rfl rfl rfl (by have:=hD.lt;omega)) ?_;refine de0 (za5 (i:=0) (j:=((l.take j).filter (fun x=> !p x)).length) (y:=D[((l.take j).filter (fun x=> !p x)).length]'(by have:=hD.lt;have:=hD.len;omega)) (y':=x) ty9 rfl rfl rfl rfl (Aa _) rfl rfl rfl ?_)
     refine gz3 ?_;refine dq (zaZ rfl rfl uO (by have:=hD.lt;omega)) ?_;refine gz9 ?_;exact ⟨j+1,_,(hD.keep hx uSa).1,uD,⟨rfl,zP (by rw [(hD.keep hx uSa).2];rfl),trivial⟩,uK,Ac _⟩
    ·refine gz8 ?_;exact ⟨j+1,_,(hD.skip hx uSa).1,uD,⟨rfl,zP (by rw [(hD.skip hx uSa).2]),trivial⟩,uK,Ac _⟩
   ·obtain rfl:j=l.length:=by have:=hD.jle;omega
    have hend:=hD.done;refine gz2 ?_;refine zN ?_;refine gz5 ?_;refine dq (ze9 (l:=((l.take l.length).filter (fun x=> !p x)).length) zq ty9 rfl ⟨_,_,rfl,rfl⟩ rfl uO uO hcap) ?_;refine de0 (zeU (i:=0) (m:=((l.take l.length).filter (fun x=> !p x)).length) (((l.take l.length).filter (fun x=> !p x)).length) zq ty9 rfl rfl rfl (ziG uO hcap) rfl uO (Af _) (by rw [Ah,hD.len];omega) ?_)
    refine gz4 ?_;refine dq (zgE (h:=((l.take l.length).filter (fun x=> !p x)).length) zq ty9 rfl ⟨_,_,rfl,rfl⟩ uO) ?_;refine gz3 ?_
    (refine zah rfl ⟨_,rfl,?_⟩
     rw [Ak,<-BI,hend];rfl)
theorem ztP [Tracks]:KeyOk prog 393 eWk:=zgk (cs:=fun x:Str×Int=>zd (eWk x)) zx3 zGn (fun x y=>⟨rfl,⟨_,_,_,_,ty9,rfl⟩,⟨rfl,⟨_,_,_,_,ty3,rfl⟩,trivial⟩⟩)
 (fun x y=>by obtain ⟨a,b⟩:=x;obtain ⟨c,d⟩:=y;show (_&&(_&&true))=_;rw [AF];simp [eqH,Prod.mk.injEq]) (fun x=>rfl)
theorem zqw [Tracks] {v:Value} {l:List Str} {s:Str} {i ub:Nat} {el2:TypeId} (hi:i<=l.length) (hl:l.length<=1000000):
 Con prog 358 [.raw v,.int .i64 i,.raw (.slice (some ⟨ub,0,none⟩) 1 1)] [.arr v 1 (l.map .str),.obj ub (.cells #[zbF s] el2 (0,0))]
  fun x M'=> ∃v',x= .raw v'/\M'=[.arr v' 1 ((zfS l i s).map .str),.obj ub (.cells #[zbF s] el2 (0,0))]:=zxh zt6 hi hl
theorem zC6 [Tracks] (l:List Str) (s:Str):zbU l s<=l.length:=List.countP_le_length
theorem zfM [Tracks] {x s:Str}:ConP prog 360 [.str x,.vptr [.str s] 0] (.bool (x==s)):=by
 refine uOb func360 ntmps360 ?_;refine zaw ?_;refine zw rfl ?_
 rfl
theorem zg2 [Tracks] {l:List Str} {s:Str} (hl:l.length<=1000000):ConP prog 319 [eSs l,.str s] (eSs (ziB l s)):=by
 refine uOb func319 ntmps319 ?_;refine gz6 ?_;refine de rfl (uCa zkg rfl (zab uS) fun v6=> ?_)
 refine gz1 ?_
 focus first
 |refine de rfl (uCx 0 ztD rfl rfl (zbw (l:=l) (p:=fun x=>x==s) ztE (fun _=>zfM) hl) ?_)
 |refine de rfl (uCx 1 ztD rfl rfl (zbw (l:=l) (p:=fun x=>x==s) ztE (fun _=>zfM) hl) ?_)
 |refine de rfl (uCx 2 ztD rfl rfl (zbw (l:=l) (p:=fun x=>x==s) ztE (fun _=>zfM) hl) ?_)
 |refine de rfl (uCx 3 ztD rfl rfl (zbw (l:=l) (p:=fun x=>x==s) ztE (fun _=>zfM) hl) ?_)
 rintro _ _ ⟨u8,rfl,rfl⟩;refine gz3 ?_;refine zav (znC 4 rfl) rfl ⟨?_,rfl⟩
 rfl
theorem zkd [Tracks] {l:List Str} {s:Str} (hl:l.length<=1000000) (hs:SortedS l):ConP prog 318 [eSs l,.str s] (eSs (zgi l s)):=by
 refine uOb func318 ntmps318 ?_;refine gz6 ?_;refine dq (uCl zGf rfl (zgt uS uS)) ?_;refine gz8 ?_;refine de rfl (uCa zkg rfl (zab uS) fun v14=> ?_)
 refine gz2 ?_;refine de rfl (zqH zq ty9 rfl rfl fun ub=> ?_)
 refine de rfl (za8 (M1:=[.arr v14 1 (l.map .str),.obj ub (.cells #[zbF s] _ (0,0))]) (R:=[]) zGg rfl (WeakL.refl _) (List.Perm.swap _ _ _) (zqw (i:=zbU l s) (zC6 l s) hl) ?_)
 rintro _ _ ⟨v18,rfl,rfl⟩;refine gz3 ?_;refine zav ((zaR 4 (i:=0) rfl rfl).trans Ghost.clear) rfl ⟨?_,rfl⟩
 rfl
theorem zn1 [Tracks] {kb pb hb ob db ab:Nat} {b:BoundS} {k:RosS} {p:Str} {n:Int} (hn:0<=n/\n<=345686399999) (hD: ∀q∈k.D,0<=q.2/\q.2<=345686399999):Con prog 356 [.raw (.pointer (some ⟨kb,0,none⟩)),.str p,.int .i64 n] (zdy kb pb hb ob db ab b k) (fun x M'=>x= .bool (zxN b k p n)/\M'=(zdy kb pb hb ob db ab b k)):=by
 have hq0:0<=(alk p k.D).getD 0/\(alk p k.D).getD 0<=345686399999:=by
  cases hq:alk p k.D with
  |none=>simp
  |some d=>exact hD (p,d) (zbO hq)
 refine uOb func356 ntmps356 ?_;refine gz5 ?_;refine dq ((by first|exact zu rfl|exact zl rfl)) ?_;refine gz1 ?_;refine de rfl (uZ 0 ?_)
 refine gz1 ?_;refine de rfl (zkl (i:=4) (f:=HVal.int .i64) (z0:=(0:Int)) zeP ty9 ty3 rfl rfl rfl rfl ?_)
 refine zee ?_;refine uGr rfl (fun hc=>(by first|exact zu rfl|exact zl rfl)) ?_;refine gz2 ?_;refine dgl rfl rfl (fun hc=>⟨_,OpenTo.upd (t:=26) rfl uC (OpenTo.refl _),zar (i:=0) ty3 rfl rfl (.inl ⟨rfl,rfl⟩) ⟨rfl,rfl⟩⟩) ?_;refine gz5 ?_;refine zah rfl ⟨?_,rfl⟩
 show HVal.bool _=_
 unfold zxN
 cases alk p k.D with
 |none=>rfl
 |some d=>simp
theorem zpo [Tracks] {kb pb hb ob db ab:Nat} {b:BoundS} {k:RosS} {x:MoveS} (hx:0<=x.At/\x.At<=345686399999) (hD: ∀q∈k.D,0<=q.2/\q.2<=345686399999) (hP: ∀t,(rPl k t).length<=1000000) (hH: ∀t,(rHu k t).length<=1000000):Con prog 317 [.raw (.pointer (some ⟨kb,0,none⟩)),zdq x] (zdy kb pb hb ob db ab b k) (fun x1 M'=>x1= .int .i64 (zeh b k x)/\M'=(zdy kb pb hb ob db ab b k)):=by
 refine uOb func317 ntmps317 ?_;refine gz4 ?_;refine zbW (fun M=>M=(zdy kb pb hb ob db ab b k)) [3,6,10,13,17,20] mixed ?_;refine gz1 ?_;refine uB 1 rfl ((by first|exact zu rfl|exact zl rfl)) ?_;refine gz1 ?_;refine uM 3 rfl rfl (fun M hM=>by subst hM;exact zar (i:=0) ziR rfl rfl (.inl ⟨rfl,rfl⟩) ⟨rfl,rfl⟩) ?_;refine uB 4 rfl ((by first|exact zi zG rfl ty9 (by decide) rfl|exact zf zG rfl ty9 (by decide) rfl)) ?_;refine gz1 ?_;refine uM 6 rfl rfl (fun M hM=>by subst hM;exact zfB (i:=3) (f:=HVal.str) (z0:=([]:Str)) ziR ty9 ty9 rfl rfl rfl rfl ⟨rfl,rfl⟩) ?_;refine gz1 ?_;refine uB 8 rfl ((by first|exact zu rfl|exact zl rfl)) ?_;refine gz1 ?_;refine uM 10 rfl rfl (fun M hM=>by subst hM;exact zar (i:=0) zdH rfl rfl (.inl ⟨rfl,rfl⟩) ⟨rfl,rfl⟩) ?_;refine uB 11 rfl ((by first|exact zi zG rfl ty9 (by decide) rfl|exact zf zG rfl ty9 (by decide) rfl)) ?_;refine gz1 ?_;refine uM 13 rfl rfl (fun M hM=>by subst hM;exact zfC (i:=1) (f:=eSs) (z0:=([]:List Str)) zdH ty9 zq rfl rfl rfl (z7 1) ⟨rfl,rfl⟩) ?_;refine gz1 ?_;refine uB 15 rfl ((by first|exact zu rfl|exact zl rfl)) ?_;refine gz1 ?_;refine uM 17 rfl rfl (fun M hM=>by subst hM;exact zar (i:=0) zdH rfl rfl (.inl ⟨rfl,rfl⟩) ⟨rfl,rfl⟩) ?_;refine uB 18 rfl ((by first|exact zi zG rfl ty9 (by decide) rfl|exact zf zG rfl ty9 (by decide) rfl)) ?_;refine gz1 ?_;refine uM 20 rfl rfl (fun M hM=>by subst hM;exact zfC (i:=2) (f:=eSs) (z0:=([]:List Str)) zdH ty9 zq rfl rfl rfl (z7 1) ⟨rfl,rfl⟩) ?_;refine gz6 ?_;refine dq ((by first|exact zi zG rfl ty3 (by decide) rfl|exact zf zG rfl ty3 (by decide) rfl)) ?_;refine gz7 ?_;refine uCo (fun h1=> ?_) fun h2=> ?_
 refine gz3 ?_;refine dq ((by first|exact zi zG rfl ty9 (by decide) rfl|exact zf zG rfl ty9 (by decide) rfl)) ?_;refine gz4 ?_;refine uCo (fun h3=> ?_) fun h4=> ?_
 refine gz4 ?_;refine zah rfl ⟨?_,rfl⟩
 show HVal.int .i64 _=_
 refine congrArg _ ?_;unfold zeh
 focus first
 |(simp_all [zbv,zbg,rPl,rHu];done)
 |(simp_all [zbv,zbg,rPl,rHu];(repeat' split)<;>first|rfl|(exfalso;omega)|omega)
 refine gz5 ?_;refine uCo (fun h5=> ?_) fun h6=> ?_
 refine gz4 ?_;refine zah rfl ⟨?_,rfl⟩
 show HVal.int .i64 _=_
 refine congrArg _ ?_;unfold zeh
 focus first
 |(simp_all [zbv,zbg,rPl,rHu];done)
 |(simp_all [zbv,zbg,rPl,rHu];(repeat' split)<;>first|rfl|(exfalso;omega)|omega)
 refine gz2 ?_;refine dq ((by first|exact zi zG rfl ty9 (by decide) rfl|exact zf zG rfl ty9 (by decide) rfl)) ?_;refine gz1 ?_;refine dq ((by first|exact zi zG rfl ty3 (by decide) rfl|exact zf zG rfl ty3 (by decide) rfl)) ?_;refine gz1 ?_;refine de rfl (za8 (M1:=(zdy kb pb hb ob db ab b k)) (R:=[]) zGe rfl (WeakL.refl _) (by rw [Bf]) (zn1 hx hD) ?_)
 rintro _ _ ⟨rfl,rfl⟩;refine gz2 ?_;refine uCo (fun h7=> ?_) fun h8=> ?_
 refine gz4 ?_;refine zah rfl ⟨?_,rfl⟩
 show HVal.int .i64 _=_
 refine congrArg _ ?_;unfold zeh
 focus first
 |(simp_all [zbv,zbg,rPl,rHu];done)
 |(simp_all [zbv,zbg,rPl,rHu];(repeat' split)<;>first|rfl|(exfalso;omega)|omega)
 refine zbW (fun M=>M=(zdy kb pb hb ob db ab b k)) [3,10,15] mixed ?_;refine gz1 ?_;refine uB 1 rfl ((by first|exact zu rfl|exact zl rfl)) ?_;refine gz1 ?_;refine uM 3 rfl rfl (fun M hM=>by subst hM;exact zar (i:=0) zjL rfl rfl (.inl ⟨rfl,rfl⟩) ⟨rfl,rfl⟩) ?_;refine uB 4 rfl ((by first|exact zi zG rfl ty9 (by decide) rfl|exact zf zG rfl ty9 (by decide) rfl)) ?_;refine gz1 ?_;refine uB 6 rfl ((by first|exact zi zG rfl ty3 (by decide) rfl|exact zf zG rfl ty3 (by decide) rfl)) ?_;refine gz1 ?_;refine uB 8 rfl (zcW rfl rfl uO uO uO) ?_;refine uB 9 rfl (zB (cs:=[_,_]) zx3 zBZ rfl) ?_;refine uM 10 rfl rfl (fun M hM=>by subst hM;exact zeV (i:=5) (s:=(x.Team,Int.tdiv x.At 604800000)) (f:=HVal.int .i64) (z0:=(0:Int)) zjL ztP ty3 rfl rfl rfl rfl ⟨rfl,rfl⟩) ?_;refine gz1 ?_;refine uB 12 rfl ((by first|exact zu rfl|exact zl rfl)) ?_;refine gz2 ?_;refine uM 15 rfl rfl (fun M hM=>by subst hM;exact zar (i:=0) ty3 rfl rfl (.inl ⟨rfl,rfl⟩) ⟨rfl,rfl⟩) ?_;refine gz3 ?_;refine uCo (fun h9=> ?_) fun h10=> ?_
 refine gz4 ?_;refine zah rfl ⟨?_,rfl⟩
 show HVal.int .i64 _=_
 refine congrArg _ ?_;unfold zeh
 focus first
 |(simp_all [zbv,zbg,rPl,rHu];done)
 |(simp_all [zbv,zbg,rPl,rHu];(repeat' split)<;>first|rfl|(exfalso;omega)|omega)
 refine gz2 ?_;refine dq (zax (f:=HVal.str) (l:=rPl k x.Team) zq rfl) ?_;refine gz1 ?_;refine dq ((by first|exact zu rfl|exact zl rfl)) ?_;refine gz2 ?_;refine de rfl (uZ 0 ?_)
 refine gz3 ?_;refine uCo (fun h11=> ?_) fun h12=> ?_
 refine gz4 ?_;refine zah rfl ⟨?_,rfl⟩
 show HVal.int .i64 _=_
 refine congrArg _ ?_;unfold zeh
 focus first
 |(simp_all [zbv,zbg,rPl,rHu];done)
 |(simp_all [zbv,zbg,rPl,rHu];(repeat' split)<;>first|rfl|(exfalso;omega)|omega)
 refine gz8 ?_;refine zah rfl ⟨?_,rfl⟩
 show HVal.int .i64 _=_
 refine congrArg _ ?_;unfold zeh
 focus first
 |(simp_all [zbv,zbg,rPl,rHu];done)
 |(simp_all [zbv,zbg,rPl,rHu];(repeat' split)<;>first|rfl|(exfalso;omega)|omega)
 refine gz4 ?_;refine uCo (fun h13=> ?_) fun h14=> ?_
 refine gz2 ?_;refine dq ((by first|exact zi zG rfl ty9 (by decide) rfl|exact zf zG rfl ty9 (by decide) rfl)) ?_;refine gz3 ?_;refine uCo (fun h15=> ?_) fun h16=> ?_
 refine gz4 ?_;refine zah rfl ⟨?_,rfl⟩
 show HVal.int .i64 _=_
 refine congrArg _ ?_;unfold zeh
 focus first
 |(simp_all [zbv,zbg,rPl,rHu];done)
 |(simp_all [zbv,zbg,rPl,rHu];(repeat' split)<;>first|rfl|(exfalso;omega)|omega)
 refine gz7 ?_;refine zah rfl ⟨?_,rfl⟩
 show HVal.int .i64 _=_
 refine congrArg _ ?_;unfold zeh
 focus first
 |(simp_all [zbv,zbg,rPl,rHu];done)
 |(simp_all [zbv,zbg,rPl,rHu];(repeat' split)<;>first|rfl|(exfalso;omega)|omega)
 refine gz4 ?_;refine uCo (fun h17=> ?_) fun h18=> ?_
 refine gz3 ?_;refine dq ((by first|exact zi zG rfl ty9 (by decide) rfl|exact zf zG rfl ty9 (by decide) rfl)) ?_;refine gz1 ?_;refine dq (uCl zhj rfl (zK (l:=rPl k x.Team) (by have:=hP x.Team;omega))) ?_;refine gz3 ?_;refine uCo (fun h19=> ?_) fun h20=> ?_
 refine gz4 ?_;refine zah rfl ⟨?_,rfl⟩
 show HVal.int .i64 _=_
 refine congrArg _ ?_;unfold zeh
 focus first
 |(simp_all [zbv,zbg,rPl,rHu];done)
 |(simp_all [zbv,zbg,rPl,rHu];(repeat' split)<;>first|rfl|(exfalso;omega)|omega)
 refine gz2 ?_;refine dq (zax (f:=HVal.str) (l:=rHu k x.Team) zq rfl) ?_;refine gz1 ?_;refine dq ((by first|exact zu rfl|exact zl rfl)) ?_;refine gz2 ?_;refine de rfl (uZ 0 ?_)
 refine gz3 ?_;refine uCo (fun h21=> ?_) fun h22=> ?_
 refine gz4 ?_;refine zah rfl ⟨?_,rfl⟩
 show HVal.int .i64 _=_
 refine congrArg _ ?_;unfold zeh
 focus first
 |(simp_all [zbv,zbg,rPl,rHu];done)
 |(simp_all [zbv,zbg,rPl,rHu];(repeat' split)<;>first|rfl|(exfalso;omega)|omega)
 refine gz8 ?_;refine zah rfl ⟨?_,rfl⟩
 show HVal.int .i64 _=_
 refine congrArg _ ?_;unfold zeh
 focus first
 |(simp_all [zbv,zbg,rPl,rHu];done)
 |(simp_all [zbv,zbg,rPl,rHu];(repeat' split)<;>first|rfl|(exfalso;omega)|omega)
 refine gz4 ?_;refine uCo (fun h23=> ?_) fun h24=> ?_
 refine gz3 ?_;refine dq ((by first|exact zi zG rfl ty9 (by decide) rfl|exact zf zG rfl ty9 (by decide) rfl)) ?_;refine gz1 ?_;refine dq (uCl zhj rfl (zK (l:=rHu k x.Team) (by have:=hH x.Team;omega))) ?_;refine gz3 ?_;refine uCo (fun h25=> ?_) fun h26=> ?_
 refine gz4 ?_;refine zah rfl ⟨?_,rfl⟩
 show HVal.int .i64 _=_
 refine congrArg _ ?_;unfold zeh
 focus first
 |(simp_all [zbv,zbg,rPl,rHu];done)
 |(simp_all [zbv,zbg,rPl,rHu];(repeat' split)<;>first|rfl|(exfalso;omega)|omega)
 refine gz2 ?_;refine dq (zax (f:=HVal.str) (l:=rPl k x.Team) zq rfl) ?_;refine gz1 ?_;refine dq ((by first|exact zu rfl|exact zl rfl)) ?_;refine gz2 ?_;refine de rfl (uZ 0 ?_)
 refine gz3 ?_;refine uCo (fun h27=> ?_) fun h28=> ?_
 refine gz4 ?_;refine zah rfl ⟨?_,rfl⟩
 show HVal.int .i64 _=_
 refine congrArg _ ?_;unfold zeh
 focus first
 |(simp_all [zbv,zbg,rPl,rHu];done)
 |(simp_all [zbv,zbg,rPl,rHu];(repeat' split)<;>first|rfl|(exfalso;omega)|omega)
 refine gz8 ?_;refine zah rfl ⟨?_,rfl⟩
 show HVal.int .i64 _=_
 refine congrArg _ ?_;unfold zeh
 focus first
 |(simp_all [zbv,zbg,rPl,rHu];done)
 |(simp_all [zbv,zbg,rPl,rHu];(repeat' split)<;>first|rfl|(exfalso;omega)|omega)
 refine gz7 ?_;refine zah rfl ⟨?_,rfl⟩
 show HVal.int .i64 _=_
 refine congrArg _ ?_;unfold zeh
 focus first
 |(simp_all [zbv,zbg,rPl,rHu];done)
 |(simp_all [zbv,zbg,rPl,rHu];(repeat' split)<;>first|rfl|(exfalso;omega)|omega)
end
end Go.Proofs.YtpgopgjleokciaaGreatDoor
namespace Go.HL
section
open Go
theorem zoH {b:BoundS} {n:Int} {x:MoveS}: ∀{l:List MoveS} {i:Nat} {k:RosS},l[i]? =some x->ziD b n k (l.take (i+1))=if x.At<=n then ziE b (ziD b n k (l.take i)) x else ziD b n k (l.take i)
 |[],i,k,h=>by cases i<;>cases h
 |y::r,0,k,h=>by
   obtain rfl:=Aw h
   rfl
 |y::r,i+1,k,h=>by
   show ziD b n _ (r.take (i+1))=if x.At<=n then ziE b (ziD b n _ (r.take i)) x else ziD b n _ (r.take i)
   exact zoH (l:=r) h
structure RosW (k:RosS):Prop where
 p: ∀t,SortedS (rPl k t)/\(rPl k t).length<=100000
 h: ∀t,SortedS (rHu k t)/\(rHu k t).length<=100000
 a: ∀w,0<=zbg k w/\zbg k w<=100000
 dr: ∀q∈k.D,0<=q.2/\q.2<=345686399999
 dj: ∀t p,p∈rPl k t->p∉rHu k t
theorem RosOk.w {n:Nat} {k:RosS} (h:RosOk n k) (hn:n<=100000):RosW k:=
 ⟨fun t=>⟨(h.sp t).1,by have:=(h.sp t).2.1;omega⟩,fun t=>⟨(h.sh t).1,by have:=(h.sh t).2.1;omega⟩,fun w=>by have:=h.ad w;omega,h.dr,h.dj⟩
theorem zzc {b:BoundS} {l:List MoveS} {n:Int} (hl: ∀x∈l,(0<=x.At/\x.At<=345686399999)/\(1<=x.Kind/\x.Kind<=4)/\x.Team≠[]) (hn:l.length<=2000) (i:Nat):RosW (ziD b n zr8 (l.take i)):=
 (zwu (b:=b) (m:=n) zDc (l:=l.take i) fun x hx=>hl x (AL hx)).w (by rw [Az];omega)
def zk9 (b:BoundS) (l:List MoveS) (p:Str) (n:Int):Int:=if orI [zdU b,zfi l]≠0 then orI [zdU b,zfi l] else if key p=false then 5 else if zaa n=false then 1 else 0
def frE (b:BoundS) (l:List MoveS) (ps:List Str) (n:Int):Int:=
 if orI [zdU b,zfi l]≠0 then orI [zdU b,zfi l] else if 500<ps.length then 2 else if (ps.any fun s=> !key s)=true then 5 else if zaa n=false then 1 else 0
theorem zDp {b:BoundS} {l:List MoveS} {p:Str} {n:Int} (h:zk9 b l p n=0):zfi l=0/\key p=true/\zaa n=true:=by
 unfold zk9 at h
 by_cases h1:orI [zdU b,zfi l]≠0
 rw [if_pos h1] at h;exact absurd h h1;rw [if_neg h1] at h
 by_cases h2:key p=false
 rw [if_pos h2] at h;cases h;rw [if_neg h2] at h
 by_cases h3:zaa n=false
 rw [if_pos h3] at h;cases h;exact ⟨(zAs (Decidable.not_not.1 h1)).2,by simpa using h2,by simpa using h3⟩
theorem zCp {b:BoundS} {l:List MoveS} {ps:List Str} {n:Int} (h1:orI [zdU b,zfi l]=0) (h2: ¬500<ps.length) (h3:(ps.any fun s=> !key s)=false) (h4:zaa n=true):frE b l ps n=0:=by
 unfold frE;rw [if_neg (fun q=>q h1),if_neg h2,if_neg (by rw [h3];simp),if_neg (by rw [h4];simp)]
theorem zjT {b:BoundS} {l:List MoveS} {n:Int} (hm:zfi l=0):RosW (zfU b l n):=by
 obtain ⟨hl,hml⟩:=zyU hm;have:=zzc (b:=b) (n:=n) (l:=l) (fun x hx=>⟨(hml x hx).1,(hml x hx).2.1,fun e=>by have:=(hml x hx).2.2.1;rw [e] at this;cases this⟩) hl l.length;rw [Ak] at this;exact this
end
end Go.HL
namespace Go.Proofs.YtpgopgjleokciaaGreatDoor
set_option maxRecDepth 100000
set_option linter.unusedVariables false
set_option linter.unusedSimpArgs false
section
open Go.Proofs.Tryz
open Go.HL
theorem zmB [Tracks] {kb pb hb ob db ab:Nat} {b:BoundS} {k:RosS} {x:MoveS} (hx:0<=x.At/\x.At<=345686399999) (hk:1<=x.Kind/\x.Kind<=4) (hP: ∀t,SortedS (rPl k t)/\(rPl k t).length<=100000) (hH: ∀t,SortedS (rHu k t)/\(rHu k t).length<=100000) (hA: ∀w,0<=zbg k w/\zbg k w<=100000) (hD: ∀q∈k.D,0<=q.2/\q.2<=345686399999) (hd: ∀t p,p∈rPl k t->p∉rHu k t):Con prog 281 [.raw (.pointer (some ⟨kb,0,none⟩)),zdq x] (zdy kb pb hb ob db ab b k) (fun x1 M'=>x1= .int .i64 (zeh b k x)/\M'=(zdy kb pb hb ob db ab b (ziE b k x))):=by
 refine uOb func281 ntmps281 ?_;refine gz7 ?_;refine de rfl (za8 (M1:=(zdy kb pb hb ob db ab b k)) (R:=[]) zGc rfl (WeakL.refl _) (by rw [Bf]) (zpo hx hD (fun t=>by have:=(hP t).2;omega) (fun t=>by have:=(hH t).2;omega)) ?_)
 rintro _ _ ⟨rfl,rfl⟩;refine gz2 ?_;refine zbW (fun M=>M=(zdy kb pb hb ob db ab b k)) [3,6,10,13] mixed ?_;refine gz1 ?_;refine uB 1 rfl ((by first|exact zu rfl|exact zl rfl)) ?_;refine gz1 ?_;refine uM 3 rfl rfl (fun M hM=>by subst hM;exact zar (i:=0) zdH rfl rfl (.inl ⟨rfl,rfl⟩) ⟨rfl,rfl⟩) ?_;refine uB 4 rfl ((by first|exact zi zG rfl ty9 (by decide) rfl|exact zf zG rfl ty9 (by decide) rfl)) ?_;refine gz1 ?_;refine uM 6 rfl rfl (fun M hM=>by subst hM;exact zfC (i:=1) (f:=eSs) (z0:=([]:List Str)) zdH ty9 zq rfl rfl rfl (z7 1) ⟨rfl,rfl⟩) ?_;refine gz1 ?_;refine uB 8 rfl ((by first|exact zu rfl|exact zl rfl)) ?_;refine gz1 ?_;refine uM 10 rfl rfl (fun M hM=>by subst hM;exact zar (i:=0) zdH rfl rfl (.inl ⟨rfl,rfl⟩) ⟨rfl,rfl⟩) ?_;refine uB 11 rfl ((by first|exact zi zG rfl ty9 (by decide) rfl|exact zf zG rfl ty9 (by decide) rfl)) ?_;refine gz1 ?_;refine uM 13 rfl rfl (fun M hM=>by subst hM;exact zfC (i:=2) (f:=eSs) (z0:=([]:List Str)) zdH ty9 zq rfl rfl rfl (z7 1) ⟨rfl,rfl⟩) ?_;refine gz3 ?_;refine uVj [6,2,25,76] (fun (q:RosS×List Str×List Str)=>[(6,eSs q.2.1),(7,eSs q.2.2)]) (fun (q:RosS×List Str×List Str)=>(zdy kb pb hb ob db ab b q.1)) (fun (q:RosS×List Str×List Str)=>ziE b k x=⟨zC x.Team q.2.1 q.1.P,zC x.Team q.2.2 q.1.H,q.1.O,q.1.D,q.1.A⟩) ?_ ?_
 skip
 refine gz4 ?_;refine uCo (fun h1=> ?_) fun h2=> ?_
 refine gz1 ?_;refine dq ((by first|exact zi zG rfl ty3 (by decide) rfl|exact zf zG rfl ty3 (by decide) rfl)) ?_;refine gz7 ?_;refine zZ rfl (fun h3=> ?_) (fun h4=> ?_)
 try simp at h3
 refine gz2 ?_;refine dq ((by first|exact zi zG rfl ty9 (by decide) rfl|exact zf zG rfl ty9 (by decide) rfl)) ?_;refine gz1 ?_;refine dq (uCl zw6 rfl (zkd (l:=(rPl k x.Team)) (by have:=(hP x.Team).2;omega) (hP x.Team).1)) ?_;refine gz2 ?_;refine zbW (fun M=>M=(zdy kb pb hb ob db ab b k)) [3] mixed ?_;refine gz1 ?_;refine uB 1 rfl ((by first|exact zu rfl|exact zl rfl)) ?_;refine gz1 ?_;refine uM 3 rfl rfl (fun M hM=>by subst hM;exact zar (i:=0) ziR rfl rfl (.inl ⟨rfl,rfl⟩) ⟨rfl,rfl⟩) ?_;refine uB 4 rfl ((by first|exact zi zG rfl ty9 (by decide) rfl|exact zf zG rfl ty9 (by decide) rfl)) ?_;refine gz1 ?_;refine uB 6 rfl ((by first|exact zi zG rfl ty9 (by decide) rfl|exact zf zG rfl ty9 (by decide) rfl)) ?_;refine gz1 ?_;refine uF 8 ?_;refine zz (zdK (i:=3) (f:=HVal.str) (L:=k.O) (v:=x.Team) ziR ty9 rfl rfl rfl rfl ?_)
 refine ⟨uE,?_⟩
 refine gz1 ?_;refine zbk (fun M=>M=(zdy kb pb hb ob db ab b (⟨k.P,k.H,zC x.Player x.Team k.O,k.D,k.A⟩:RosS))\/∃j st,zbG (x.Team,Int.tdiv x.At 604800000) (zdv (x.Team,Int.tdiv x.At 604800000) (HVal.int .i64 0) (em (HVal.int .i64) k.A))=some j/\M=[MObj.cells kb (kBk b pb hb ob db ab),MObj.map pb (sk (em eSs k.P)),MObj.map hb (sk (em eSs k.H)),MObj.map ob (sk (em HVal.str (zC x.Player x.Team k.O))),MObj.map db (sk (em (HVal.int .i64) k.D)),MObj.mape ab (kk eWk (zdv (x.Team,Int.tdiv x.At 604800000) (HVal.int .i64 0) (em (HVal.int .i64) k.A))) j st]) [3,10] mixed ?_;refine gz1 ?_;refine uB 1 rfl ((by first|exact zu rfl|exact zl rfl)) ?_;refine gz1 ?_;refine uM 3 rfl (.inl rfl) (fun M hM=>by
 rcases hM with rfl|⟨j,st,hj,rfl⟩
 exact zar (i:=0) zjL rfl rfl (.inl ⟨rfl,rfl⟩) ⟨rfl,rfl⟩;exact zar (i:=0) zjL rfl rfl (.inl ⟨rfl,rfl⟩) ⟨rfl,rfl⟩) ?_
 refine uB 4 rfl ((by first|exact zi zG rfl ty9 (by decide) rfl|exact zf zG rfl ty9 (by decide) rfl)) ?_;refine gz1 ?_;refine uB 6 rfl ((by first|exact zi zG rfl ty3 (by decide) rfl|exact zf zG rfl ty3 (by decide) rfl)) ?_;refine gz1 ?_;refine uB 8 rfl (zcW rfl rfl uO uO uO) ?_;refine uB 9 rfl (zB (cs:=[_,_]) zx3 zBZ rfl) ?_;refine uM 10 rfl (.inl rfl) (fun M hM=>by
 rcases hM with rfl|⟨j,st,hj,rfl⟩
 exact zeV (i:=5) (s:=(x.Team,Int.tdiv x.At 604800000)) (z0:=(0:Int)) (f:=HVal.int .i64) zjL ztP ty3 rfl rfl rfl rfl ⟨rfl,rfl⟩;exact zoe (i:=5) (s:=(x.Team,Int.tdiv x.At 604800000)) (z0:=(0:Int)) (f:=HVal.int .i64) zjL ztP ty3 rfl rfl rfl rfl ⟨rfl,rfl⟩) ?_
 refine uB 11 rfl (zaZ rfl rfl (by have:=hA (x.Team,Int.tdiv x.At 604800000);unfold zbg at this;dsimp only;omega) (by have:=hA (x.Team,Int.tdiv x.At 604800000);unfold zbg at this;dsimp only;omega)) ?_;refine uF 12 ?_;refine zt rfl (znl (i:=5) (s:=(x.Team,Int.tdiv x.At 604800000)) (z0:=(0:Int)) (f:=HVal.int .i64) zjL ztP ty3 rfl rfl rfl rfl fun j55 st55 hj55=> ?_)
 refine ⟨fun _=> .inl (.inr ⟨j55,st55,hj55,rfl⟩),?_⟩
 refine gz1 ?_;refine uF 14 ?_;refine zz (zkT (i:=5) (s:=(x.Team,Int.tdiv x.At 604800000)) (f:=HVal.int .i64) (z0:=(0:Int)) (v:=zbg k (x.Team,Int.tdiv x.At 604800000)+1) rfl rfl rfl rfl hj55 ?_)
 refine ⟨uE,?_⟩
 refine gz2 ?_;exact ⟨((⟨k.P,k.H,zC x.Player x.Team k.O,k.D,zC (x.Team,Int.tdiv x.At 604800000) (zbg k (x.Team,Int.tdiv x.At 604800000)+1) k.A⟩:RosS),zgi (rPl k x.Team) x.Player,(rHu k x.Team)),by rw [ziE,if_neg (by simpa using h1),if_pos (by assumption)],⟨rfl,rfl,trivial⟩,uK,Ac _⟩
 try simp at h4
 refine gz4 ?_;refine uCo (fun h5=> ?_) fun h6=> ?_
 refine uDr mixed ?_;refine gz1 ?_;refine uB 1 rfl ((by first|exact zi zG rfl ty9 (by decide) rfl|exact zf zG rfl ty9 (by decide) rfl)) ?_;refine gz1 ?_;refine uB 3 rfl (uCl ztC rfl (zg2 (l:=(rPl k x.Team)) (by have:=(fun t=>(hP t).2) x.Team;omega))) ?_;refine gz1 ?_;refine uB 5 rfl ((by first|exact zi zG rfl ty9 (by decide) rfl|exact zf zG rfl ty9 (by decide) rfl)) ?_;refine gz1 ?_;refine uB 7 rfl (uCl ztC rfl (zg2 (l:=(rHu k x.Team)) (by have:=(fun t=>(hH t).2) x.Team;omega))) ?_;refine gz3 ?_;refine zbW (fun M=>M=(zdy kb pb hb ob db ab b k)) [3] mixed ?_;refine gz1 ?_;refine uB 1 rfl ((by first|exact zu rfl|exact zl rfl)) ?_;refine gz1 ?_;refine uM 3 rfl rfl (fun M hM=>by subst hM;exact zar (i:=0) ziR rfl rfl (.inl ⟨rfl,rfl⟩) ⟨rfl,rfl⟩) ?_;refine uB 4 rfl ((by first|exact zi zG rfl ty9 (by decide) rfl|exact zf zG rfl ty9 (by decide) rfl)) ?_;refine gz1 ?_;refine uF 6 ?_;refine zz (zxk (i:=3) (f:=HVal.str) (L:=k.O) (s:=x.Player) ziR ty9 rfl rfl rfl ?_)
 refine ⟨uE,?_⟩
 refine gz1 ?_;refine zbk (fun M=>M=(zdy kb pb hb ob db ab b (⟨k.P,k.H,zcX x.Player k.O,k.D,k.A⟩:RosS))) [3] mixed ?_;refine gz1 ?_;refine uB 1 rfl ((by first|exact zu rfl|exact zl rfl)) ?_;refine gz1 ?_;refine uM 3 rfl rfl (fun M hM=>by subst hM;exact zar (i:=0) zeP rfl rfl (.inl ⟨rfl,rfl⟩) ⟨rfl,rfl⟩) ?_;refine uB 4 rfl ((by first|exact zi zG rfl ty9 (by decide) rfl|exact zf zG rfl ty9 (by decide) rfl)) ?_;refine gz1 ?_;refine uB 6 rfl ((by first|exact zi zG rfl ty3 (by decide) rfl|exact zf zG rfl ty3 (by decide) rfl)) ?_;refine gz1 ?_;refine uF 8 ?_;refine zz (zdK (i:=4) (f:=HVal.int .i64) (L:=k.D) (v:=x.At) zeP ty9 rfl rfl rfl rfl ?_)
 refine ⟨uE,?_⟩
 refine gz2 ?_;exact ⟨((⟨k.P,k.H,zcX x.Player k.O,zC x.Player x.At k.D,k.A⟩:RosS),ziB (rPl k x.Team) x.Player,ziB (rHu k x.Team) x.Player),by rw [ziE,if_neg (by simpa using h1),if_neg (by assumption),if_pos (by assumption)],⟨rfl,rfl,trivial⟩,uK,Ac _⟩;refine gz4 ?_;refine uCo (fun h7=> ?_) fun h8=> ?_
 refine zhu mixed ?_;refine gz1 ?_;refine uB 1 rfl ((by first|exact zi zG rfl ty9 (by decide) rfl|exact zf zG rfl ty9 (by decide) rfl)) ?_;refine gz1 ?_;refine uB 3 rfl (uCl ztC rfl (zg2 (l:=(rPl k x.Team)) (by have:=(fun t=>(hP t).2) x.Team;omega))) ?_;refine gz1 ?_;refine uB 5 rfl ((by first|exact zi zG rfl ty9 (by decide) rfl|exact zf zG rfl ty9 (by decide) rfl)) ?_;refine gz1 ?_;refine uB 7 rfl (uCl zw6 rfl (zkd (l:=(rHu k x.Team)) (by have:=(hH x.Team).2;omega) (hH x.Team).1)) ?_;refine gz4 ?_;exact ⟨(k,ziB (rPl k x.Team) x.Player,zgi (rHu k x.Team) x.Player),by rw [ziE,if_neg (by simpa using h1),if_neg (by assumption),if_neg (by assumption),if_pos (by assumption)],⟨rfl,rfl,trivial⟩,uK,Ac _⟩;refine gz4 ?_;refine zZ rfl (fun h9=> ?_) (fun h9=> ?_)
 try simp at h9
 refine zhu mixed ?_;refine gz1 ?_;refine uB 1 rfl ((by first|exact zi zG rfl ty9 (by decide) rfl|exact zf zG rfl ty9 (by decide) rfl)) ?_;refine gz1 ?_;refine uB 3 rfl (uCl zw6 rfl (zkd (l:=(rPl k x.Team)) (by have:=(hP x.Team).2;omega) (hP x.Team).1)) ?_;refine gz1 ?_;refine uB 5 rfl ((by first|exact zi zG rfl ty9 (by decide) rfl|exact zf zG rfl ty9 (by decide) rfl)) ?_;refine gz1 ?_;refine uB 7 rfl (uCl ztC rfl (zg2 (l:=(rHu k x.Team)) (by have:=(fun t=>(hH t).2) x.Team;omega))) ?_;refine gz4 ?_;exact ⟨(k,zgi (rPl k x.Team) x.Player,ziB (rHu k x.Team) x.Player),by rw [ziE,if_neg (by simpa using h1),if_neg (by assumption),if_neg (by assumption),if_neg (by assumption)],⟨rfl,rfl,trivial⟩,uK,Ac _⟩
 exfalso
 try simp at h9
 omega
 refine gz1 ?_;exact ⟨(k,(rPl k x.Team),(rHu k x.Team)),by rw [ziE,if_pos (by simpa using h2)],⟨rfl,rfl,trivial⟩,uK,Ac _⟩
 intro q hq
 refine zbW (fun M=>M=(zdy kb pb hb ob db ab b q.1)) [3,9] mixed ?_;refine gz1 ?_;refine uB 1 rfl ((by first|exact zu rfl|exact zl rfl)) ?_;refine gz1 ?_;refine uM 3 rfl rfl (fun M hM=>by subst hM;exact zar (i:=0) zdH rfl rfl (.inl ⟨rfl,rfl⟩) ⟨rfl,rfl⟩) ?_;refine uB 4 rfl ((by first|exact zi zG rfl ty9 (by decide) rfl|exact zf zG rfl ty9 (by decide) rfl)) ?_;refine gz2 ?_;refine uB 7 rfl ((by first|exact zu rfl|exact zl rfl)) ?_;refine gz1 ?_;refine uM 9 rfl rfl (fun M hM=>by subst hM;exact zar (i:=0) zdH rfl rfl (.inl ⟨rfl,rfl⟩) ⟨rfl,rfl⟩) ?_;refine uB 10 rfl ((by first|exact zi zG rfl ty9 (by decide) rfl|exact zf zG rfl ty9 (by decide) rfl)) ?_;refine gz3 ?_;refine uF 14 ?_;refine zt rfl (znm (i:=1) (s:=x.Team) (f:=eSs) (L:=q.1.P) zdH ty9 zq rfl rfl rfl fun j115 st115 hj115=> ?_)
 refine ⟨uE,?_⟩
 refine gz1 ?_;refine uF 16 ?_;refine zz (zkU (i:=1) (s:=x.Team) (f:=eSs) (L:=q.1.P) (v:=q.2.1) rfl rfl rfl rfl hj115 ?_)
 refine ⟨uE,?_⟩
 refine uF 17 ?_;refine zt rfl (znm (i:=2) (s:=x.Team) (f:=eSs) (L:=q.1.H) zdH ty9 zq rfl rfl rfl fun j117 st117 hj117=> ?_)
 refine ⟨uE,?_⟩
 refine gz1 ?_;refine uF 19 ?_;refine zz (zkU (i:=2) (s:=x.Team) (f:=eSs) (L:=q.1.H) (v:=q.2.2) rfl rfl rfl rfl hj117 ?_)
 refine ⟨uE,?_⟩
 refine gz6 ?_;refine zah rfl ⟨rfl,?_⟩
 rw [hq];rfl
theorem zth [Tracks] {i e:Int}:ConP prog 223 [.int .i64 i,.int .i64 e] (.tup []):=by
 refine uOb func223 ntmps223 ?_;refine gz1 ?_;refine zxR rfl ?_
 rfl
theorem zqv [Tracks] {b:BoundS} {l:List MoveS} {n:Int} {fid:FuncId} (hm:zfi l=0) (hca:Callable prog fid) (hp: ∀i e:Int,ConP prog fid [.int .i64 i,.int .i64 e] (.tup [])):Con prog 222 [zgc b,zck l,.int .i64 n,.fn (.func fid) [] []] [] (fun x M'=> ∃kb pb hb ob db ab:Nat,x= .raw (.pointer (some ⟨kb,0,none⟩))/\M'=(zdy kb pb hb ob db ab b (zfU b l n))):=by
 obtain ⟨hl,hml⟩:=zyU hm;have hmk: ∀x∈l,(0<=x.At/\x.At<=345686399999)/\(1<=x.Kind/\x.Kind<=4)/\x.Team≠[]:=fun x hx=>⟨(hml x hx).1,(hml x hx).2.1,fun e=>by have:=(hml x hx).2.2.1;rw [e] at this;cases this⟩
 refine uOb func222 ntmps222 ?_;refine gz6 ?_;refine de rfl (zaI fun m13=> ?_)
 refine de rfl (zaI fun m14=> ?_)
 refine de rfl (zaI fun m15=> ?_)
 refine de rfl (zaI fun m16=> ?_)
 refine de rfl (zaI fun m17=> ?_)
 refine dq (zB (cs:=[_,_,_,_,_,_,_,_,_]) zB6 zGG rfl) ?_;refine de rfl (zv5 rfl rfl fun kb=> ?_)
 refine gz2 ?_;refine ze (Ghost.perm (M':=zdy kb m13 m14 m15 m16 m17 b zr8) uQ) ?_;refine gz7 ?_;refine uT1 [10,2,22,16] (fun i=>[(22,.int .i64 i)]) (fun i=>zdy kb m13 m14 m15 m16 m17 b (ziD b n zr8 (l.take i))) (fun i=>i<=l.length/\(True)) (fun i=>l.length-i) (0) ?_ ?_;exact ⟨Ad _,trivial⟩;rintro i ⟨hi,-⟩;refine gz4 ?_;refine uCo (fun h1=> ?_) fun h2=> ?_
 obtain ⟨x,hx⟩: ∃x,l[i]? =some x:=⟨_,Aa h1⟩
 have hdx:=zk hx;obtain ⟨hx1,hx2,_⟩:=hmk x (Ab hx);have hok:=zzc (b:=b) (n:=n) hmk hl i;refine gz8 ?_;refine de rfl (zj zG rfl fun b11=> ?_)
 refine gz1 ?_;refine de0 (zn zG rfl rfl rfl rfl rfl ?_)
 refine gz1 ?_;refine ze (zm 11 rfl) ?_;refine gz6 ?_;refine uCo (fun h3=> ?_) fun h4=> ?_
 refine gz5 ?_;refine de rfl (za8 (M1:=zdy kb m13 m14 m15 m16 m17 b (ziD b n zr8 (l.take i))) (R:=[]) zF5 rfl (WeakL.refl _) (by rw [Bf]) (zmB hx1 hx2 hok.p hok.h hok.a hok.dr hok.dj) ?_)
 rintro _ _ ⟨rfl,rfl⟩;refine dq (zap hca rfl rfl (WeakL.refl _) (hp _ _)) ?_;refine gz7 ?_;exact ⟨i+1,⟨by omega,trivial⟩,uD,⟨rfl,trivial⟩,uK,zo (by dsimp only;rw [zoH hx,if_pos (by assumption)];try rfl)⟩;refine gz7 ?_;exact ⟨i+1,⟨by omega,trivial⟩,uD,⟨rfl,trivial⟩,uK,zo (by dsimp only;rw [zoH hx,if_neg uO];try rfl)⟩;have hni:l.length<=i:=by omega
 obtain rfl:i=l.length:=by omega
 rw [Ak];refine gz2 ?_;refine zv ?_;refine gz7 ?_;exact zah rfl ⟨_,_,_,_,_,_,rfl,rfl⟩
theorem zvC [Tracks] {b:BoundS} {l:List MoveS} {n:Int} (hm:zfi l=0):Con prog 139 [zgc b,zck l,.int .i64 n] [] (fun x M'=> ∃kb pb hb ob db ab:Nat,x= .raw (.pointer (some ⟨kb,0,none⟩))/\M'=(zdy kb pb hb ob db ab b (zfU b l n))):=by
 refine uOb func139 ntmps139 ?_;refine gz8 ?_;refine de rfl (za8 (M1:=[]) (R:=[]) zFu rfl (WeakL.refl _) (Ac _) (zqv hm zFv (fun _ _=>zth)) ?_)
 rintro _ _ ⟨kb,pb,hb,ob,db,ab,rfl,rfl⟩;refine gz3 ?_;exact zah rfl ⟨_,_,_,_,_,_,rfl,rfl⟩
theorem zrA [Tracks] {b:BoundS} {l:List MoveS} (hl:l.length<=1000000):ConP prog 221 [zgc b,zck l] (.int .i64 (orI [zdU b,zfi l])):=by
 refine uOb func221 ntmps221 ?_;refine gz6 ?_;refine dq (uCl zBz rfl zhQ) ?_;refine gz1 ?_;refine dq (uCl zBg rfl (zio uS)) ?_;refine dq (za (hs:=[_,_]) zd9 zgp rfl rfl (by decide) (by decide) rfl) ?_;refine dq (uCl zkf rfl (zb0 (l:=[_,_]) (by simp))) ?_;refine gz3 ?_;refine zw rfl ?_
 rfl
theorem znw [Tracks] {b:BoundS} {l:List MoveS} {p:Str} {n:Int} (hl:l.length<=1000000):ConP prog 138 [zgc b,zck l,.str p,.int .i64 n] (.int .i64 (zk9 b l p n)):=by
 refine uOb func138 ntmps138 ?_;refine gz8 ?_;refine dq (uCl zFt rfl (zrA uS)) ?_;refine gz6 ?_;refine uCo (fun h1=> ?_) fun h2=> ?_
 refine gz5 ?_;refine uRp ?_;unfold zk9
 simp_all
 refine gz6 ?_;refine dq (uCl zcD rfl zak) ?_;refine gz3 ?_;refine uCo (fun h3=> ?_) fun h4=> ?_
 refine gz4 ?_;refine uRp ?_;unfold zk9
 simp_all
 refine gz2 ?_;refine dq (uCl zkh rfl zbC) ?_;refine gz3 ?_;refine uCo (fun h5=> ?_) fun h6=> ?_
 refine gz4 ?_;refine uRp ?_;unfold zk9
 simp_all
 refine gz7 ?_;refine uRp ?_;unfold zk9
 simp_all
end
end Go.Proofs.YtpgopgjleokciaaGreatDoor
namespace Go.Proofs
section
open Go.Shelf
def Tryz.g229_ren:Go.Shelf.Ren:=⟨fun|7=>229|10=>283|n=>n,fun|23=>206|26=>9|3=>4|28=>305|0=>0|27=>304|33=>163|4=>4|n=>n,fun|n=>n⟩
theorem zsf:Go.Proofs.SlLaysZ.n7 Tryz.prog Tryz.g229_ren:={
 mixed:=by kernel_rfl
 f7:=⟨Tryz.f229.name,by decide,Tryz.func229.trans (congrArg some (by kernel_rfl))⟩
 f10:=⟨Tryz.f283.name,by decide,Tryz.func283.trans (congrArg some (by kernel_rfl))⟩
 t0:=Tryz.underlying0
 a0:=Tryz.isAgg0
 z0:=Tryz.sizeOf0
 v0:=Tryz.zeroValue0
 t4:=Tryz.underlying4
 a4:=Tryz.isAgg4
 z4:=Tryz.sizeOf4
 v4:=Tryz.zeroValue4
 t23:=Tryz.underlying206
 a23:=Tryz.isAgg206
 z23:=Tryz.sizeOf206
 v23:=Tryz.zeroValue206
 t26:=Tryz.underlying9
 a26:=Tryz.isAgg9
 z26:=Tryz.sizeOf9
 v26:=Tryz.zeroValue9
 t27:=Tryz.underlying304
 a27:=Tryz.isAgg304
 z27:=Tryz.sizeOf304
 v27:=Tryz.zeroValue304
 t28:=Tryz.underlying305
 a28:=Tryz.isAgg305
 z28:=Tryz.sizeOf305
 v28:=Tryz.zeroValue305
 t33:=Tryz.underlying163
 a33:=Tryz.isAgg163
 z33:=Tryz.sizeOf163
 v33:=Tryz.zeroValue163}
def Tryz.g228_ren:Go.Shelf.Ren:=⟨fun|6=>228|8=>282|9=>163|11=>320|13=>184|12=>237|23=>251|24=>252|14=>286|15=>287|16=>288|17=>289|18=>290|19=>291|20=>292|21=>293|22=>294|25=>337|26=>300|27=>301|28=>338|29=>339|30=>297|31=>367|n=>n,fun|26=>9|28=>305|24=>33|0=>0|3=>3|37=>271|48=>324|50=>312|4=>4|40=>318|39=>317|45=>221|5=>5|9=>9|51=>361|55=>365|57=>407|58=>408|33=>163|n=>n,fun|n=>n⟩
theorem zx9:Go.Proofs.SlLaysZ.n6 Tryz.prog Tryz.g228_ren:={
 mixed:=by kernel_rfl
 f6:=⟨Tryz.f228.name,by decide,Tryz.func228.trans (congrArg some (by kernel_rfl))⟩
 f8:=⟨Tryz.f282.name,by decide,Tryz.func282.trans (congrArg some (by kernel_rfl))⟩
 f11:=⟨Tryz.f320.name,by decide,Tryz.func320.trans (congrArg some (by kernel_rfl))⟩
 t0:=Tryz.underlying0
 a0:=Tryz.isAgg0
 z0:=Tryz.sizeOf0
 v0:=Tryz.zeroValue0
 t24:=Tryz.underlying33
 a24:=Tryz.isAgg33
 z24:=Tryz.sizeOf33
 v24:=Tryz.zeroValue33
 t26:=Tryz.underlying9
 a26:=Tryz.isAgg9
 z26:=Tryz.sizeOf9
 v26:=Tryz.zeroValue9
 t28:=Tryz.underlying305
 a28:=Tryz.isAgg305
 z28:=Tryz.sizeOf305
 v28:=Tryz.zeroValue305
 i26:=by kernel_rfl}
def Tryz.g163_ren:Go.Shelf.Ren:=⟨fun|6=>163|8=>184|9=>237|19=>251|20=>252|21=>286|22=>287|23=>288|24=>289|25=>290|26=>291|27=>292|28=>293|29=>294|36=>337|31=>300|32=>301|37=>338|38=>339|39=>297|41=>367|n=>n,fun|27=>33|29=>9|3=>3|32=>271|26=>33|0=>0|44=>324|46=>312|4=>4|36=>318|35=>317|41=>221|5=>5|9=>9|53=>361|57=>365|63=>407|64=>408|n=>n,fun|n=>n⟩
theorem zse:Go.Proofs.SlLaysM.n6 Tryz.prog Tryz.g163_ren:={
 mixed:=by kernel_rfl
 f6:=⟨Tryz.f163.name,by decide,Tryz.func163.trans (congrArg some (by kernel_rfl))⟩
 f8:=Tryz.func184.trans (congrArg some (by kernel_rfl))
 f9:=⟨Tryz.f237.name,by decide,Tryz.func237.trans (congrArg some (by kernel_rfl))⟩
 f19:=Tryz.func251.trans (congrArg some (by kernel_rfl))
 f20:=Tryz.func252.trans (congrArg some (by kernel_rfl))
 f21:=⟨Tryz.f286.name,by decide,Tryz.func286.trans (congrArg some (by kernel_rfl))⟩
 f22:=⟨Tryz.f287.name,by decide,Tryz.func287.trans (congrArg some (by kernel_rfl))⟩
 f23:=⟨Tryz.f288.name,by decide,Tryz.func288.trans (congrArg some (by kernel_rfl))⟩
 f24:=⟨Tryz.f289.name,by decide,Tryz.func289.trans (congrArg some (by kernel_rfl))⟩
 f25:=⟨Tryz.f290.name,by decide,Tryz.func290.trans (congrArg some (by kernel_rfl))⟩
 f26:=⟨Tryz.f291.name,by decide,Tryz.func291.trans (congrArg some (by kernel_rfl))⟩
 f27:=⟨Tryz.f292.name,by decide,Tryz.func292.trans (congrArg some (by kernel_rfl))⟩
 f28:=⟨Tryz.f293.name,by decide,Tryz.func293.trans (congrArg some (by kernel_rfl))⟩
 f29:=⟨Tryz.f294.name,by decide,Tryz.func294.trans (congrArg some (by kernel_rfl))⟩
 f31:=Tryz.func300.trans (congrArg some (by kernel_rfl))
 f32:=Tryz.func301.trans (congrArg some (by kernel_rfl))
 f36:=⟨Tryz.f337.name,by decide,Tryz.func337.trans (congrArg some (by kernel_rfl))⟩
 f37:=⟨Tryz.f338.name,by decide,Tryz.func338.trans (congrArg some (by kernel_rfl))⟩
 f38:=⟨Tryz.f339.name,by decide,Tryz.func339.trans (congrArg some (by kernel_rfl))⟩
 f39:=⟨Tryz.f297.name,by decide,Tryz.func297.trans (congrArg some (by kernel_rfl))⟩
 f41:=⟨Tryz.f367.name,by decide,Tryz.func367.trans (congrArg some (by kernel_rfl))⟩
 t0:=Tryz.underlying0
 a0:=Tryz.isAgg0
 z0:=Tryz.sizeOf0
 v0:=Tryz.zeroValue0
 t3:=Tryz.underlying3
 a3:=Tryz.isAgg3
 z3:=Tryz.sizeOf3
 v3:=Tryz.zeroValue3
 t4:=Tryz.underlying4
 a4:=Tryz.isAgg4
 z4:=Tryz.sizeOf4
 v4:=Tryz.zeroValue4
 t5:=Tryz.underlying5
 a5:=Tryz.isAgg5
 z5:=Tryz.sizeOf5
 v5:=Tryz.zeroValue5
 t9:=Tryz.underlying9
 a9:=Tryz.isAgg9
 z9:=Tryz.sizeOf9
 v9:=Tryz.zeroValue9
 t26:=Tryz.underlying33
 a26:=Tryz.isAgg33
 z26:=Tryz.sizeOf33
 v26:=Tryz.zeroValue33
 t27:=Tryz.underlying33
 a27:=Tryz.isAgg33
 z27:=Tryz.sizeOf33
 v27:=Tryz.zeroValue33
 t29:=Tryz.underlying9
 a29:=Tryz.isAgg9
 z29:=Tryz.sizeOf9
 v29:=Tryz.zeroValue9
 t32:=Tryz.underlying271
 a32:=Tryz.isAgg271
 z32:=Tryz.sizeOf271
 v32:=Tryz.zeroValue271
 t35:=Tryz.underlying317
 a35:=Tryz.isAgg317
 z35:=Tryz.sizeOf317
 v35:=Tryz.zeroValue317
 t36:=Tryz.underlying318
 a36:=Tryz.isAgg318
 z36:=Tryz.sizeOf318
 v36:=Tryz.zeroValue318
 t41:=Tryz.underlying221
 a41:=Tryz.isAgg221
 z41:=Tryz.sizeOf221
 v41:=Tryz.zeroValue221
 t44:=Tryz.underlying324
 a44:=Tryz.isAgg324
 z44:=Tryz.sizeOf324
 v44:=Tryz.zeroValue324
 t46:=Tryz.underlying312
 a46:=Tryz.isAgg312
 z46:=Tryz.sizeOf312
 v46:=Tryz.zeroValue312
 t53:=Tryz.underlying361
 a53:=Tryz.isAgg361
 z53:=Tryz.sizeOf361
 v53:=Tryz.zeroValue361
 t57:=Tryz.underlying365
 a57:=Tryz.isAgg365
 z57:=Tryz.sizeOf365
 v57:=Tryz.zeroValue365
 t63:=Tryz.underlying407
 a63:=Tryz.isAgg407
 z63:=Tryz.sizeOf407
 v63:=Tryz.zeroValue407
 t64:=Tryz.underlying408
 a64:=Tryz.isAgg408
 z64:=Tryz.sizeOf408
 v64:=Tryz.zeroValue408}
def Tryz.g95_ren:Go.Shelf.Ren:=⟨fun|6=>95|15=>184|14=>183|28=>251|29=>252|20=>243|21=>244|22=>245|23=>246|24=>247|25=>248|26=>249|27=>250|46=>299|47=>300|48=>301|49=>302|50=>303|57=>341|n=>n,fun|22=>34|24=>182|25=>184|3=>3|39=>271|0=>0|53=>324|55=>312|4=>4|46=>318|45=>317|50=>221|5=>5|9=>9|66=>361|70=>365|76=>407|77=>408|n=>n,fun|n=>n⟩
theorem zzs:Go.Proofs.SlLaysF0.n6 Tryz.prog Tryz.g95_ren:={
 mixed:=by kernel_rfl
 f6:=⟨Tryz.f95.name,by decide,Tryz.func95.trans (congrArg some (by kernel_rfl))⟩
 f14:=⟨Tryz.f183.name,by decide,Tryz.func183.trans (congrArg some (by kernel_rfl))⟩
 f15:=Tryz.func184.trans (congrArg some (by kernel_rfl))
 f20:=⟨Tryz.f243.name,by decide,Tryz.func243.trans (congrArg some (by kernel_rfl))⟩
 f21:=⟨Tryz.f244.name,by decide,Tryz.func244.trans (congrArg some (by kernel_rfl))⟩
 f22:=⟨Tryz.f245.name,by decide,Tryz.func245.trans (congrArg some (by kernel_rfl))⟩
 f23:=⟨Tryz.f246.name,by decide,Tryz.func246.trans (congrArg some (by kernel_rfl))⟩
 f24:=⟨Tryz.f247.name,by decide,Tryz.func247.trans (congrArg some (by kernel_rfl))⟩
 f25:=⟨Tryz.f248.name,by decide,Tryz.func248.trans (congrArg some (by kernel_rfl))⟩
 f26:=⟨Tryz.f249.name,by decide,Tryz.func249.trans (congrArg some (by kernel_rfl))⟩
 f27:=⟨Tryz.f250.name,by decide,Tryz.func250.trans (congrArg some (by kernel_rfl))⟩
 f28:=Tryz.func251.trans (congrArg some (by kernel_rfl))
 f29:=Tryz.func252.trans (congrArg some (by kernel_rfl))
 f46:=⟨Tryz.f299.name,by decide,Tryz.func299.trans (congrArg some (by kernel_rfl))⟩
 f47:=Tryz.func300.trans (congrArg some (by kernel_rfl))
 f48:=Tryz.func301.trans (congrArg some (by kernel_rfl))
 f49:=⟨Tryz.f302.name,by decide,Tryz.func302.trans (congrArg some (by kernel_rfl))⟩
 f50:=⟨Tryz.f303.name,by decide,Tryz.func303.trans (congrArg some (by kernel_rfl))⟩
 f57:=⟨Tryz.f341.name,by decide,Tryz.func341.trans (congrArg some (by kernel_rfl))⟩
 t0:=Tryz.underlying0
 a0:=Tryz.isAgg0
 z0:=Tryz.sizeOf0
 v0:=Tryz.zeroValue0
 t3:=Tryz.underlying3
 a3:=Tryz.isAgg3
 z3:=Tryz.sizeOf3
 v3:=Tryz.zeroValue3
 t4:=Tryz.underlying4
 a4:=Tryz.isAgg4
 z4:=Tryz.sizeOf4
 v4:=Tryz.zeroValue4
 t5:=Tryz.underlying5
 a5:=Tryz.isAgg5
 z5:=Tryz.sizeOf5
 v5:=Tryz.zeroValue5
 t9:=Tryz.underlying9
 a9:=Tryz.isAgg9
 z9:=Tryz.sizeOf9
 v9:=Tryz.zeroValue9
 t22:=Tryz.underlying34
 a22:=Tryz.isAgg34
 z22:=Tryz.sizeOf34
 v22:=Tryz.zeroValue34
 t25:=Tryz.underlying184
 a25:=Tryz.isAgg184
 z25:=Tryz.sizeOf184
 v25:=Tryz.zeroValue184
 t39:=Tryz.underlying271
 a39:=Tryz.isAgg271
 z39:=Tryz.sizeOf271
 v39:=Tryz.zeroValue271
 t45:=Tryz.underlying317
 a45:=Tryz.isAgg317
 z45:=Tryz.sizeOf317
 v45:=Tryz.zeroValue317
 t46:=Tryz.underlying318
 a46:=Tryz.isAgg318
 z46:=Tryz.sizeOf318
 v46:=Tryz.zeroValue318
 t50:=Tryz.underlying221
 a50:=Tryz.isAgg221
 z50:=Tryz.sizeOf221
 v50:=Tryz.zeroValue221
 t53:=Tryz.underlying324
 a53:=Tryz.isAgg324
 z53:=Tryz.sizeOf324
 v53:=Tryz.zeroValue324
 t55:=Tryz.underlying312
 a55:=Tryz.isAgg312
 z55:=Tryz.sizeOf312
 v55:=Tryz.zeroValue312
 t66:=Tryz.underlying361
 a66:=Tryz.isAgg361
 z66:=Tryz.sizeOf361
 v66:=Tryz.zeroValue361
 t70:=Tryz.underlying365
 a70:=Tryz.isAgg365
 z70:=Tryz.sizeOf365
 v70:=Tryz.zeroValue365
 t76:=Tryz.underlying407
 a76:=Tryz.isAgg407
 z76:=Tryz.sizeOf407
 v76:=Tryz.zeroValue407
 t77:=Tryz.underlying408
 a77:=Tryz.isAgg408
 z77:=Tryz.sizeOf408
 v77:=Tryz.zeroValue408}
def Tryz.g230_ren:Go.Shelf.Ren:=⟨fun|6=>230|15=>184|14=>284|28=>251|29=>252|20=>321|21=>322|22=>323|23=>324|24=>325|25=>326|26=>327|27=>328|46=>361|47=>300|48=>301|49=>362|50=>363|57=>381|n=>n,fun|22=>94|24=>302|25=>308|3=>3|39=>271|0=>0|53=>324|55=>312|4=>4|46=>318|45=>317|50=>221|5=>5|9=>9|66=>361|70=>365|76=>407|77=>408|n=>n,fun|n=>n⟩
theorem zya:Go.Proofs.SlLaysF0.n6 Tryz.prog Tryz.g230_ren:={
 mixed:=by kernel_rfl
 f6:=⟨Tryz.f230.name,by decide,Tryz.func230.trans (congrArg some (by kernel_rfl))⟩
 f14:=⟨Tryz.f284.name,by decide,Tryz.func284.trans (congrArg some (by kernel_rfl))⟩
 f15:=Tryz.func184.trans (congrArg some (by kernel_rfl))
 f20:=⟨Tryz.f321.name,by decide,Tryz.func321.trans (congrArg some (by kernel_rfl))⟩
 f21:=⟨Tryz.f322.name,by decide,Tryz.func322.trans (congrArg some (by kernel_rfl))⟩
 f22:=⟨Tryz.f323.name,by decide,Tryz.func323.trans (congrArg some (by kernel_rfl))⟩
 f23:=⟨Tryz.f324.name,by decide,Tryz.func324.trans (congrArg some (by kernel_rfl))⟩
 f24:=⟨Tryz.f325.name,by decide,Tryz.func325.trans (congrArg some (by kernel_rfl))⟩
 f25:=⟨Tryz.f326.name,by decide,Tryz.func326.trans (congrArg some (by kernel_rfl))⟩
 f26:=⟨Tryz.f327.name,by decide,Tryz.func327.trans (congrArg some (by kernel_rfl))⟩
 f27:=⟨Tryz.f328.name,by decide,Tryz.func328.trans (congrArg some (by kernel_rfl))⟩
 f28:=Tryz.func251.trans (congrArg some (by kernel_rfl))
 f29:=Tryz.func252.trans (congrArg some (by kernel_rfl))
 f46:=⟨Tryz.f361.name,by decide,Tryz.func361.trans (congrArg some (by kernel_rfl))⟩
 f47:=Tryz.func300.trans (congrArg some (by kernel_rfl))
 f48:=Tryz.func301.trans (congrArg some (by kernel_rfl))
 f49:=⟨Tryz.f362.name,by decide,Tryz.func362.trans (congrArg some (by kernel_rfl))⟩
 f50:=⟨Tryz.f363.name,by decide,Tryz.func363.trans (congrArg some (by kernel_rfl))⟩
 f57:=⟨Tryz.f381.name,by decide,Tryz.func381.trans (congrArg some (by kernel_rfl))⟩
 t0:=Tryz.underlying0
 a0:=Tryz.isAgg0
 z0:=Tryz.sizeOf0
 v0:=Tryz.zeroValue0
 t3:=Tryz.underlying3
 a3:=Tryz.isAgg3
 z3:=Tryz.sizeOf3
 v3:=Tryz.zeroValue3
 t4:=Tryz.underlying4
 a4:=Tryz.isAgg4
 z4:=Tryz.sizeOf4
 v4:=Tryz.zeroValue4
 t5:=Tryz.underlying5
 a5:=Tryz.isAgg5
 z5:=Tryz.sizeOf5
 v5:=Tryz.zeroValue5
 t9:=Tryz.underlying9
 a9:=Tryz.isAgg9
 z9:=Tryz.sizeOf9
 v9:=Tryz.zeroValue9
 t22:=Tryz.underlying94
 a22:=Tryz.isAgg94
 z22:=Tryz.sizeOf94
 v22:=Tryz.zeroValue94
 t25:=Tryz.underlying308
 a25:=Tryz.isAgg308
 z25:=Tryz.sizeOf308
 v25:=Tryz.zeroValue308
 t39:=Tryz.underlying271
 a39:=Tryz.isAgg271
 z39:=Tryz.sizeOf271
 v39:=Tryz.zeroValue271
 t45:=Tryz.underlying317
 a45:=Tryz.isAgg317
 z45:=Tryz.sizeOf317
 v45:=Tryz.zeroValue317
 t46:=Tryz.underlying318
 a46:=Tryz.isAgg318
 z46:=Tryz.sizeOf318
 v46:=Tryz.zeroValue318
 t50:=Tryz.underlying221
 a50:=Tryz.isAgg221
 z50:=Tryz.sizeOf221
 v50:=Tryz.zeroValue221
 t53:=Tryz.underlying324
 a53:=Tryz.isAgg324
 z53:=Tryz.sizeOf324
 v53:=Tryz.zeroValue324
 t55:=Tryz.underlying312
 a55:=Tryz.isAgg312
 z55:=Tryz.sizeOf312
 v55:=Tryz.zeroValue312
 t66:=Tryz.underlying361
 a66:=Tryz.isAgg361
 z66:=Tryz.sizeOf361
 v66:=Tryz.zeroValue361
 t70:=Tryz.underlying365
 a70:=Tryz.isAgg365
 z70:=Tryz.sizeOf365
 v70:=Tryz.zeroValue365
 t76:=Tryz.underlying407
 a76:=Tryz.isAgg407
 z76:=Tryz.sizeOf407
 v76:=Tryz.zeroValue407
 t77:=Tryz.underlying408
 a77:=Tryz.isAgg408
 z77:=Tryz.sizeOf408
 v77:=Tryz.zeroValue408}
def Tryz.g280_ren:Go.Shelf.Ren:=⟨fun|6=>280|15=>184|14=>316|28=>251|29=>252|20=>348|21=>349|22=>350|23=>351|24=>352|25=>353|26=>354|27=>355|46=>375|47=>300|48=>301|49=>376|50=>377|57=>384|n=>n,fun|22=>77|24=>96|25=>342|3=>3|39=>271|0=>0|53=>324|55=>312|4=>4|46=>318|45=>317|50=>221|5=>5|9=>9|66=>361|70=>365|76=>407|77=>408|n=>n,fun|n=>n⟩
theorem zyb:Go.Proofs.SlLaysF0.n6 Tryz.prog Tryz.g280_ren:={
 mixed:=by kernel_rfl
 f6:=⟨Tryz.f280.name,by decide,Tryz.func280.trans (congrArg some (by kernel_rfl))⟩
 f14:=⟨Tryz.f316.name,by decide,Tryz.func316.trans (congrArg some (by kernel_rfl))⟩
 f15:=Tryz.func184.trans (congrArg some (by kernel_rfl))
 f20:=⟨Tryz.f348.name,by decide,Tryz.func348.trans (congrArg some (by kernel_rfl))⟩
 f21:=⟨Tryz.f349.name,by decide,Tryz.func349.trans (congrArg some (by kernel_rfl))⟩
 f22:=⟨Tryz.f350.name,by decide,Tryz.func350.trans (congrArg some (by kernel_rfl))⟩
 f23:=⟨Tryz.f351.name,by decide,Tryz.func351.trans (congrArg some (by kernel_rfl))⟩
 f24:=⟨Tryz.f352.name,by decide,Tryz.func352.trans (congrArg some (by kernel_rfl))⟩
 f25:=⟨Tryz.f353.name,by decide,Tryz.func353.trans (congrArg some (by kernel_rfl))⟩
 f26:=⟨Tryz.f354.name,by decide,Tryz.func354.trans (congrArg some (by kernel_rfl))⟩
 f27:=⟨Tryz.f355.name,by decide,Tryz.func355.trans (congrArg some (by kernel_rfl))⟩
 f28:=Tryz.func251.trans (congrArg some (by kernel_rfl))
 f29:=Tryz.func252.trans (congrArg some (by kernel_rfl))
 f46:=⟨Tryz.f375.name,by decide,Tryz.func375.trans (congrArg some (by kernel_rfl))⟩
 f47:=Tryz.func300.trans (congrArg some (by kernel_rfl))
 f48:=Tryz.func301.trans (congrArg some (by kernel_rfl))
 f49:=⟨Tryz.f376.name,by decide,Tryz.func376.trans (congrArg some (by kernel_rfl))⟩
 f50:=⟨Tryz.f377.name,by decide,Tryz.func377.trans (congrArg some (by kernel_rfl))⟩
 f57:=⟨Tryz.f384.name,by decide,Tryz.func384.trans (congrArg some (by kernel_rfl))⟩
 t0:=Tryz.underlying0
 a0:=Tryz.isAgg0
 z0:=Tryz.sizeOf0
 v0:=Tryz.zeroValue0
 t3:=Tryz.underlying3
 a3:=Tryz.isAgg3
 z3:=Tryz.sizeOf3
 v3:=Tryz.zeroValue3
 t4:=Tryz.underlying4
 a4:=Tryz.isAgg4
 z4:=Tryz.sizeOf4
 v4:=Tryz.zeroValue4
 t5:=Tryz.underlying5
 a5:=Tryz.isAgg5
 z5:=Tryz.sizeOf5
 v5:=Tryz.zeroValue5
 t9:=Tryz.underlying9
 a9:=Tryz.isAgg9
 z9:=Tryz.sizeOf9
 v9:=Tryz.zeroValue9
 t22:=Tryz.underlying77
 a22:=Tryz.isAgg77
 z22:=Tryz.sizeOf77
 v22:=Tryz.zeroValue77
 t25:=Tryz.underlying342
 a25:=Tryz.isAgg342
 z25:=Tryz.sizeOf342
 v25:=Tryz.zeroValue342
 t39:=Tryz.underlying271
 a39:=Tryz.isAgg271
 z39:=Tryz.sizeOf271
 v39:=Tryz.zeroValue271
 t45:=Tryz.underlying317
 a45:=Tryz.isAgg317
 z45:=Tryz.sizeOf317
 v45:=Tryz.zeroValue317
 t46:=Tryz.underlying318
 a46:=Tryz.isAgg318
 z46:=Tryz.sizeOf318
 v46:=Tryz.zeroValue318
 t50:=Tryz.underlying221
 a50:=Tryz.isAgg221
 z50:=Tryz.sizeOf221
 v50:=Tryz.zeroValue221
 t53:=Tryz.underlying324
 a53:=Tryz.isAgg324
 z53:=Tryz.sizeOf324
 v53:=Tryz.zeroValue324
 t55:=Tryz.underlying312
 a55:=Tryz.isAgg312
 z55:=Tryz.sizeOf312
 v55:=Tryz.zeroValue312
 t66:=Tryz.underlying361
 a66:=Tryz.isAgg361
 z66:=Tryz.sizeOf361
 v66:=Tryz.zeroValue361
 t70:=Tryz.underlying365
 a70:=Tryz.isAgg365
 z70:=Tryz.sizeOf365
 v70:=Tryz.zeroValue365
 t76:=Tryz.underlying407
 a76:=Tryz.isAgg407
 z76:=Tryz.sizeOf407
 v76:=Tryz.zeroValue407
 t77:=Tryz.underlying408
 a77:=Tryz.isAgg408
 z77:=Tryz.sizeOf408
 v77:=Tryz.zeroValue408}
end
end Go.Proofs
namespace Go.HL
section
variable {P:Program}
open Go.Sort Go.Proofs Go.Shelf Go.RowKit
theorem zuG [Tracks] {w w':World} {J:Imm} {M:List MObj} (hT:Tracks.on=true) (hl:Le (zcC w) J) (hs:Sat P J M w'): ∃q os,w'=grow (w.drewN q) os:=by
 have hb:=znM hl hs;have hd:w.drawn<=w'.drawn:=Aq (hl.low hT) (hs.low hT);refine ⟨w'.drawn-w.drawn,w'.heap.extract w.heap.size w'.heap.size,?_⟩
 have hh:w'.heap=w.heap++w'.heap.extract w.heap.size w'.heap.size:=by
  apply Array.ext_getElem?
  intro i
  by_cases hi:i<w.heap.size
  rw [AG hi];exact hb.block i hi;rw [Array.getElem?_append_right (by omega),Array.getElem?_extract];have:=hb.size
  split
  congr 1;omega
  rw [As (by omega)]
 have h1:=hb.os;have h2:=hb.tape;have h3:=hb.output;obtain ⟨a1,a2,a3,a4,a5⟩:=w';obtain ⟨b1,b2,b3,b4,b5⟩:=w;simp only at h1 h2 h3 hd hh;subst h1 h2 h3;simp only [grow,World.drewN,World.mk.injEq];exact ⟨hh,trivial,by omega,trivial,trivial⟩
theorem ConP.calls [Tracks] {f:FuncId} {hargs:List HVal} {h:HVal} (hT:Tracks.on=true) (hc:ConP P f hargs h) {w:World} (ht:TabI P (zcC w)) {args:List Value} (ha:VL (zcC w) hargs args):
 Calls P f args.toArray w fun e w'=> ∃v,e= .returned v/\V (zcC w') h v/\∃q os,w'=grow (w.drewN q) os:=by
 refine (hc (zcC w) [] w args ha (zwA ht)).mono ?_;rintro e w' ⟨v,x,M',J,rfl,hle,⟨rfl,rfl⟩,hV,hs⟩;exact ⟨v,rfl,hV.mono hs.le_all,zuG hT hle hs⟩
@[reducible] def zhK:Tracks:=⟨true⟩
abbrev zfF {A:Type} (I:Imm) (e:A->HVal) (k:Nat):Type:={p:A×List Value//p.2.length=k/\(∀v∈p.2,v.oneCell'=true)/\VL I (zd (e p.1)) p.2}
theorem zwy [Tracks] {A:Type} {I:Imm} {e:A->HVal} {k:Nat} (hk: ∀x,(zd (e x)).length=k) (hf: ∀x,zaq (zd (e x))=true) {rc:Array Value}: ∀(l:List A) (off:Nat),off+l.length*k<=rc.size->
 (∀(i j:Nat) (x:A) (c:HVal) (v:Value),l[i]? =some x->(zd (e x))[j]? =some c->rc[off+i*k+j]? =some v->V I c v)->
 ∃d:List (zfF I e k),d.map (·.1.1)=l/\∀(i j:Nat) (p:zfF I e k),d[i]? =some p->j<k->rc[off+i*k+j]? =p.1.2[j]?
 |[],off,_,_=>⟨[],rfl,fun i j p h=>by simp at h⟩
 |x::l,off,hb,hV=>by
   have hb':off+k+l.length*k<=rc.size:=by simp [AQ] at hb;omega
   obtain ⟨d,h1,h2⟩:=zwy hk hf l (off+k) hb' fun i j y c v a1 a2 a3=>hV (i+1) j y c v (by simpa using a1) a2 (by rw [AQ,Nat.one_mul];rw [show off+(i*k+k)+j=off+k+i*k+j by omega];exact a3)
   have hlen:(rc.extract off (off+k)).toList.length=k:=by simp;omega
   have hg: ∀j,j<k->(rc.extract off (off+k)).toList[j]? =rc[off+j]?:=fun j hj=>by
    rw [AS,Array.getElem?_extract,if_pos (by omega)]
   have hvl:VL I (zd (e x)) (rc.extract off (off+k)).toList:=⟨by rw [hlen,hk],fun j c v a1 a2=>by
    have hj:j<k:=by have:=zp a1;rw [hk] at this;exact this
    rw [hg j hj] at a2;exact hV 0 j x c v rfl a1 (by simpa using a2)⟩
   refine ⟨⟨(x,(rc.extract off (off+k)).toList),hlen,zmP hvl (hf x),hvl⟩::d,by simp [h1],fun i j p hp hj=> ?_⟩
   cases i with
   |zero=>
     simp only [AW,AA] at hp;subst hp;simp only [Nat.zero_mul,BR];exact (hg j hj).symm
   |succ i=>
     simp only [AP] at hp;rw [<-h2 i j p hp hj,AQ,Nat.one_mul]
     congr 1;omega
section
variable {A:Type} {e:A->HVal} {k:Nat}
theorem zs1 {α:Type} [Inhabited α] {enc:α->List Value} {w:World} {b off m:Nat} {dk:Array α} {os:Array Obj} {c:Nat} (hc:c<w.heap.size) (hb:c≠b):(sortWorldK enc k w b off m dk os).heap[c]? =w.heap[c]?:=by
 simp only [sortWorldK,grow,putRowK,putRow,mapBlock,Sort.ahead];rw [AG (by simpa using hc),AJ,if_neg (Ne.symm hb)]
theorem zoP {α:Type} [Inhabited α] {enc:α->List Value} {w:World} {b off m:Nat} {dk:Array α} {os:Array Obj} {rc:Array Value} {el:TypeId} {fr:Nat×Nat} (hb:w.heap[b]? =some (.cells rc el fr)):
 (sortWorldK enc k w b off m dk os).heap[b]? =some (.cells (putCells id off (flatK enc k dk) rc) el fr):=by
 have hlt:b<w.heap.size:=lt_of_get' hb;simp only [sortWorldK,grow,putRowK,putRow,mapBlock,Sort.ahead];rw [AG (by simpa using hlt),AJ,if_pos rfl,hb]
 rfl
where
 lt_of_get' {α:Type} {a:Array α} {i:Nat} {x:α} (h:a[i]? =some x):i<a.size:=by
  rcases AD i a.size with h'|h'
  exact h'
  simp [As h'] at h
theorem zss {α:Type} [Inhabited α] {enc:α->List Value} (hk: ∀x,(enc x).length=k) {dk:Array α} {i j:Nat} {x:α} (hx:dk[i]? =some x) (hj:j<k):some ((flatK enc k dk)[i*k+j]!)=(enc x)[j]?:=by
 have hi:i<dk.size:=by
  rcases AD i dk.size with h'|h'
  exact h'
  simp [As h'] at hx
 have hle:(i+1)*k<=dk.size*k:=AB _ hi;rw [AQ,Nat.one_mul] at hle;rw [get_flatK enc k dk _ (by omega)];have e1:(i*k+j)/k=i:=by rw [BE,Nat.mul_add_div (by omega),Nat.div_eq_of_lt hj];rfl
 have e2:(i*k+j)%k=j:=by rw [BE,Nat.mul_add_mod,Nat.mod_eq_of_lt hj]
 rw [e1,e2];have e3:dk[i]! =x:=by rw [getElem!_pos dk i hi];rw [Ar hi] at hx;exact Aw hx
 rw [e3];have hjl:j<(enc x).length:=by rw [hk];exact hj
 rw [Aa hjl,getElem!_pos (enc x) j hjl]
theorem zoc [Tracks] {ρ:Ren} (L:SlLaysF0.n6 P ρ) (aE: ∀w,(isAgg (ρ.t 24)).run P w= .ok true w) (zE: ∀w,(Go.sizeOf (ρ.t 24)).run P w= .ok k w) (hk: ∀x,(zd (e x)).length=k) (ha: ∀x,e x= .agg (zd (e x))) (hf: ∀x,zaq (zd (e x))=true)
 {c:A->A->Int} (hO:SWO (ltOf c)) {g:FuncId} (hg:Callable P g) {cap:List HVal} (hc: ∀x y, @ConP zhK P g (e x::e y::cap) (.int .i64 (c x y))) {l:List A} (hl:l.length<=1000000) {v:Value}:
 Con P (ρ.f 6) [.raw v,.fn (.func g) [] cap] [.arr v k (l.map e)] fun x M'=> ∃l':List A,x= .tup []/\l'.Perm l/\l'.Pairwise (fun a b=> ¬c b a<0)/\M'=[.arr v k (l'.map e)]:=by
 intro I F w args hargs hs
 obtain ⟨n1,n2⟩:=hargs
 match args,n1,n2 with
 |[u,fv],_,n2=>
   obtain rfl:u=v:=(n2 0 _ _ rfl rfl).raw_inv;obtain ⟨f1,cb,rfl,f2,f3⟩:=(n2 1 _ _ rfl rfl).fn_inv;have hf1:f1= #[]:=by have:=f2.1;simp at this;exact this
   subst hf1
   by_cases h0:l=[]
   subst h0;have hu: ∃p cp,u= .slice p 0 cp:=by
    rcases hs.obj (.arr u k (([]:List A).map e)) (by simp) with ⟨rfl,_⟩|⟨b,off,cp,rc,el,fr,rfl,_⟩
    exact ⟨_,_,rfl⟩;exact ⟨_,_,rfl⟩
   obtain ⟨p,cp,rfl⟩:=hu;refine (AnyF.slices_SortFunc_none L p cp _ w).mono ?_;rintro _ _ ⟨rfl,rfl⟩;exact ⟨_,.tup [],_,I,rfl,.refl I,⟨[],rfl,.refl _,.nil,rfl⟩,.tup (by simp) (fun j c v h _=>by simp at h),hs⟩
   rcases hs.obj (.arr u k (l.map e)) (by simp) with ⟨_,hn⟩|⟨b,off,cp,rc,el,fr,rfl,_⟩
   simp at hn;exact absurd hn h0
   rw [Ah] at hs⊢;obtain ⟨_,rc,el,fr,h2,h3,h4,h5,h6,h7⟩:=zj0 hs;rw [Ah] at h5;have hblt:b<w.heap.size:=zoP.lt_of_get' h2;have hsz:off+l.length*k<=rc.size:=by
    have:l.length*k<=cp*k:=AB _ h5.1
    omega
   obtain ⟨d,d1,d2⟩:=zwy (I:=I) (e:=e) hk hf (rc:=rc) l off hsz fun i j x c v a1 a2 a3=>h7 i j (e x) c v (by simp [a1]) a2 a3
   have dl:d.length=l.length:=by rw [<-d1];simp
   obtain ⟨p0,hp0⟩: ∃p,d[0]? =some p:=⟨_,Aa (by have:=List.length_pos_iff.2 h0;omega)⟩
   haveI:Inhabited (zfF I e k):=⟨p0⟩
   have hkr: ∀x:zfF I e k,(x.1.2).length=k:=fun x=>x.2.1
   have hH:HoldsK (fun x:zfF I e k=>x.1.2) k w b off d.toArray:=fun j hj=>by
    simp only [size_flatK,BK,dl] at hj;have hk0:0<k:=by rcases A8 k with h|h;(subst h;simp at hj);exact h
    have hi:j/k<d.length:=by rw [dl];exact Nat.div_lt_of_lt_mul (by rw [BE];exact hj)
    have hjk:=BW j hk0;have hdj:j/k*k+j%k=j:=by rw [BE];exact Nat.div_add_mod j k
    have hg1:=d2 (j/k) (j%k) d[j/k] (Aa hi) hjk;have hg2:=zss (enc:=fun x:zfF I e k=>x.1.2) (k:=k) hkr (dk:=d.toArray) (i:=j/k) (j:=j%k) (x:=d[j/k]) (by simp [hi]) hjk;rw [hdj] at hg2
    constructor
    rw [zcj h2];rw [show off+j=off+j/k*k+j%k by omega,hg1,<-hg2];rfl;simp only [World.frozen?,h2];have:=h3 (off+j) (by omega)
    simpa using this
   have hle: ∀(m:Nat) (dk:Array (zfF I e k)) (os:Array Obj),Le I (zcC (sortWorldK (fun x:zfF I e k=>x.1.2) k w b off m dk os)):=fun m dk os=>
    ⟨fun c o ho=>by
     have hcb:c≠b:=fun hh=>by
      subst hh;have:=hs.apart c (by simp [blocks,MObj.blocks]);rw [this] at ho;cases ho
     have h9:=hs.imm c o ho
     show (sortWorldK _ k w b off m dk os).heap[c]? =some o
     rw [zs1 (zoP.lt_of_get' h9) hcb];exact h9,hs.os,hs.output,hs.tape,fun ht=>Aq (hs.low ht) (Cv _ _)⟩
   have hcmp:CmpLays P g cb (fun x:zfF I e k=>x.1.2) k (fun x y=>c x.1.1 y.1.1) b off d.toArray.size w:=fun m os dk _ x y=>by
    have hI:=hle m dk os;have hxa: ∀z:zfF I e k,V (zcC (sortWorldK (fun x:zfF I e k=>x.1.2) k w b off m dk os)) (e z.1.1) (.agg z.1.2.toArray):=fun z=>by
     rw [ha];exact zmi (by simpa using z.2.2.2.mono hI)
    have e9:(#[Value.agg x.1.2.toArray,.agg y.1.2.toArray]++cb)=(Value.agg x.1.2.toArray:: .agg y.1.2.toArray::cb.toList).toArray:=by simp
    rw [e9];refine (@ConP.calls P zhK g _ _ rfl (hc x.1.1 y.1.1) _ (hs.tab.mono hI) _ (VL.cons (hxa x) (VL.cons (hxa y) (f3.mono hI)))).mono ?_;rintro _ w' ⟨u,rfl,hu,q,os',rfl⟩;exact ⟨by rw [hu.int_inv],q,os',rfl⟩
   have hO':SWO (ltOf fun x y:zfF I e k=>c x.1.1 y.1.1):=⟨fun x=>hO.irrefl x.1.1,fun x y z=>hO.trans x.1.1 y.1.1 z.1.1,fun x y z=>hO.ntrans x.1.1 y.1.1 z.1.1⟩;have hrun:=AnyQ.slices_SortFunc L k aE zE (fun x:zfF I e k=>x.1.2) hkr (fun x=>x.2.2.1) (fun x y=>c x.1.1 y.1.1) hO' g cb b off cp d.toArray w (zig hg) hcmp hH hblt (by simp;omega);rw [BK,dl] at hrun;refine hrun.mono ?_;rintro _ w' ⟨rfl,d',m,os,⟨q1,_,q3⟩,q4,rfl⟩;simp only [BK,dl] at q1;have q3':d'.toList.Perm d:=by
    have e1:(d'.extract 0 l.length)=d':=by rw [<-q1];exact Array.extract_size
    have e2:(d.toArray.extract 0 l.length)=d.toArray:=by have:=Array.extract_size (xs:=d.toArray);rw [BK,dl] at this;exact this
    rw [e1,e2] at q3;simpa using q3
   refine ⟨_,.tup [],[.arr (.slice (some ⟨b,off,none⟩) l.length cp) k ((d'.toList.map (·.1.1)).map e)],I,rfl,.refl I,⟨d'.toList.map (·.1.1),rfl,by rw [<-d1];exact q3'.map _,?_,rfl⟩,.tup (by simp) (fun j c v h _=>by simp at h),?_⟩
   refine List.pairwise_iff_getElem.2 fun i j hi hj hij=> ?_
   simp only [Ah,AO] at hi hj;have:=q4 i j (Ad _) hij (by omega);rw [getElem!_pos d' i hi,getElem!_pos d' j hj] at this;simp only [ltOf,decide_eq_false_iff_not] at this
   simpa using this
   have hchg: ∀x,x<w.heap.size->x∉(MObj.arr (.slice (some ⟨b,off,none⟩) l.length cp) k (l.map e)).blocks->(sortWorldK (fun x:zfF I e k=>x.1.2) k w b off m d' os).heap[x]? =w.heap[x]?:=fun x hx hnx=>zs1 hx fun hh=>hnx (by rw [hh];simp [MObj.blocks])
   refine hs.change (m':= .arr (.slice (some ⟨b,off,none⟩) l.length cp) k ((d'.toList.map (·.1.1)).map e)) hchg (fun x hx=> .inl hx) (by simp [MObj.blocks]) ?_ rfl rfl rfl (fun _=>Cv _ _)
   refine .inr ⟨b,off,cp,putCells id off (flatK (fun x:zfF I e k=>x.1.2) k d') rc,el,fr,by simp [q1],zoP h2,by simpa [putCells] using h3,?_,by simp [q1];exact h5,by simpa [putCells] using h6,?_⟩
   intro y hy;obtain ⟨z,_,rfl⟩:=List.mem_map.1 hy;exact hk z
   intro i j y z v a1 a2 a3
   rw [AX,Ag] at a1
   cases hq:d'.toList[i]? with
   |none=>rw [hq] at a1;simp at a1
   |some r=>
     rw [hq] at a1;simp only [AI,Function.comp_apply,AA] at a1;subst a1;have hj:j<k:=by have:=zp a2;rw [hk] at this;exact this
     have hi:i<l.length:=by have:=zp hq;simp at this;omega
     have hle:(i+1)*k<=l.length*k:=AB _ hi;rw [AQ,Nat.one_mul] at hle;have hr:off+i*k+j<rc.size:=by omega
     rw [putCells,Array.getElem?_mapIdx,Ar hr,AI,if_pos ⟨by omega,by rw [size_flatK,q1];omega⟩] at a3;rw [show off+i*k+j-off=i*k+j by omega] at a3;have hg2:=zss (enc:=fun x:zfF I e k=>x.1.2) (k:=k) hkr (dk:=d') (i:=i) (j:=j) (x:=r) (by simpa using hq) hj;rw [show (id (flatK (fun x:zfF I e k=>x.1.2) k d')[i*k+j]!)=(flatK (fun x:zfF I e k=>x.1.2) k d')[i*k+j]! from rfl,hg2] at a3;exact r.2.2.2.2 j z v a2 a3
end
end
section
variable {P:Program}
theorem zqc [Tracks] {e:Env} {M:List MObj} {o:Oper} {K:HVal->List MObj->Prop} {sz:Nat} {es:List HVal} (h:EOp P e M o fun x M'=> ∃v,x= .raw v/\M'= .arr v sz es::M) (hk:K (.slice sz es) M):EOp P e M o K:=fun I F a w ho hs=>
 zba (fun _ _ ⟨v,x,M',J,h1,h2,⟨u,h3,h4⟩,h5,h6⟩=>by
  subst h3 h4;obtain ⟨J',g1,g2,g3⟩:=Sat.freeze_arr (M:=M++F) h6;exact ⟨v,_,M,J',h1,h2.trans g1,hk,by rw [h5.raw_inv];exact g3,g2⟩) (h I F a w ho hs)
theorem zlO [Tracks] {e:Env} {M N:List MObj} {o:Oper} {K:HVal->List MObj->Prop} {sz:Nat} {es:List HVal} (i:Nat) (h:EOp P e M o fun x M'=> ∃v,x= .raw v/\M'[i]? =some (.arr v sz es)/\M'.eraseIdx i=N) (hk:K (.slice sz es) N):EOp P e M o K:=fun I F a w ho hs=>
 zba (fun _ _ ⟨v,x,M',J,h1,h2,⟨u,h3,h4,h5⟩,h6,h7⟩=>by
  subst h3 h5;obtain ⟨J',g1,g2,g3⟩:=(h7.pull h4).freeze_arr;exact ⟨v,_,_,J',h1,h2.trans g1,hk,by rw [h6.raw_inv];exact g3,g2⟩) (h I F a w ho hs)
end
end Go.HL
namespace Go.Proofs.YtpgopgjleokciaaGreatDoor
set_option maxRecDepth 100000
set_option linter.unusedVariables false
set_option linter.unusedSimpArgs false
section
open Go.Proofs.Tryz
open Go.HL
theorem ztg [Tracks] {l:List Play} {n:Int} (hl:l.length<=1000000):Con prog 153 [zbE l,.int .i64 n] [] (fun x M'=> ∃b,x= .raw (.map (some b))/\M'=[.map b (kk ziz (em HVal.bool (zmR l n)))]):=by
 refine uOb func153 ntmps153 ?_;refine gz4 ?_;refine de rfl (zaI fun m14=> ?_)
 refine gz9 ?_;refine uT1 [7,1,17,16] (fun k=>[(17,.int .i64 k)]) (fun k=>[.map m14 (kk ziz (em zau (zp3 (l.take k) n)))]) (fun k=>k<=l.length/\(True)) (fun k=>l.length-k) (0) ?_ ?_;exact ⟨Ad _,trivial⟩;rintro k ⟨hk,-⟩;refine gz4 ?_;refine uCo (fun h1=> ?_) fun h2=> ?_
 obtain ⟨x,hx⟩: ∃x,l[k]? =some x:=⟨_,Aa h1⟩
 have hdx:=zk hx;refine gz7 ?_;refine de rfl (zj zb3 rfl fun b7=> ?_)
 refine de0 (zn zb3 rfl rfl rfl rfl rfl ?_)
 refine gz1 ?_;refine ze (zm 7 rfl) ?_;refine gz6 ?_;refine uCo (fun h3=> ?_) fun h4=> ?_
 refine gz6 ?_;refine dq (zB (cs:=[_,_]) zm9 zxJ rfl) ?_;refine gz1 ?_;refine de0 (zge (i:=0) (s:=(x.Source,x.No)) (v:=x) zB7 ztO rfl rfl rfl rfl ?_)
 refine gz7 ?_;exact ⟨k+1,⟨by omega,trivial⟩,uD,⟨rfl,trivial⟩,uK,zo (by dsimp only;rw [zsO hx,zo4,if_pos (by simpa using h3)];try rfl)⟩;refine gz7 ?_;exact ⟨k+1,⟨by omega,trivial⟩,uD,⟨rfl,trivial⟩,uK,zo (by dsimp only;rw [zsO hx,zo4,if_neg (by simpa using h4)];try rfl)⟩;have hnk:l.length<=k:=by omega
 obtain rfl:k=l.length:=by omega
 refine gz2 ?_;refine zv ?_;refine gz2 ?_;rw [Ak];refine gz1 ?_;refine de rfl (zaI fun m33=> ?_)
 refine gz9 ?_;refine uT1 [10,4,36,54] (fun k=>[(36,.int .i64 k)]) (fun k=>[.map m33 (kk ziz (em HVal.bool (zop (zp3 l n) n (l.take k)))),.map m14 (kk ziz (em zau (zp3 l n)))]) (fun k=>k<=l.length/\(True)) (fun k=>l.length-k) (0) ?_ ?_;exact ⟨Ad _,trivial⟩;rintro k ⟨hk,-⟩;refine gz4 ?_;refine uCo (fun h5=> ?_) fun h6=> ?_
 obtain ⟨x,hx⟩: ∃x,l[k]? =some x:=⟨_,Aa h5⟩
 have hdx:=zk hx;refine gz7 ?_;refine de rfl (zj zb3 rfl fun b10=> ?_)
 refine de0 (zn zb3 rfl rfl rfl rfl rfl ?_)
 refine gz1 ?_;refine ze (zm 10 rfl) ?_;refine zdl ?_;refine uCo (fun h7=> ?_) fun h8=> ?_
 refine gz8 ?_;exact ⟨k+1,⟨by omega,trivial⟩,uD,⟨rfl,trivial⟩,uK,zo (by dsimp only;rw [zlu hx,zkm,if_pos (by simpa using h7)];try rfl)⟩;refine gz7 ?_;refine dq (zB (cs:=[_,_]) zm9 zxJ rfl) ?_;refine de rfl (zj zm9 rfl fun b11=> ?_)
 refine de0 (zn zm9 rfl rfl rfl rfl rfl ?_)
 refine gz1 ?_;refine ze (zm 11 rfl) ?_;refine gz3 ?_;refine de rfl (ztp (i:=1) (s:=(x.Source,x.Undo)) (z0:=zmY) zB7 ztO zb3 rfl rfl rfl rfl ?_)
 refine gz3 ?_;refine de rfl (zj zb3 rfl fun b12=> ?_)
 refine de0 (zn zb3 rfl rfl rfl rfl rfl ?_)
 refine gz2 ?_;refine ze (zm 12 rfl) ?_;refine gz29 ?_;refine uCo (fun h9=> ?_) fun h10=> ?_
 refine gz3 ?_;refine de0 (zge (i:=0) (s:=(x.Source,x.Undo)) (v:=true) zB5 ztO rfl rfl rfl rfl ?_)
 refine gz7 ?_;exact ⟨k+1,⟨by omega,trivial⟩,uD,⟨rfl,trivial⟩,uK,zo (by dsimp only;rw [zlu hx,zkm,if_neg (by simp_all;try omega),if_pos (by simp_all [zvs])];try rfl)⟩;refine gz7 ?_;exact ⟨k+1,⟨by omega,trivial⟩,uD,⟨rfl,trivial⟩,uK,zo (by dsimp only;rw [zlu hx,zkm,if_neg (by simp_all;try omega),if_neg (by simp_all [zvs])];try rfl)⟩;have hnk:l.length<=k:=by omega
 obtain rfl:k=l.length:=by omega
 refine gz2 ?_;refine zv ?_;refine gz2 ?_;rw [Ak];refine ze (Ghost.only (i:=0) rfl) ?_;refine gz5 ?_;exact zah rfl ⟨_,rfl,rfl⟩
theorem znh [Tracks] {a b:StatS}:ConP prog 231 [zbf a,zbf b] (.int .i64 (zbc a b)):=by
 refine uOb func231 ntmps231 ?_;refine zaw ?_;refine dq (uCl zcf rfl zM) ?_;refine gz3 ?_;refine zw rfl ?_
 rfl
theorem zpu [Tracks] {c:StatS->StatS->Int} (hO:Go.Sort.SWO (Go.Proofs.ltOf c)) {g:FuncId} (hg:Callable prog g) {cap:List HVal} (hc: ∀x y, @ConP zhK prog g (zbf x::zbf y::cap) (.int .i64 (c x y))) {l:List StatS} (hl:l.length<=1000000) {v:Value}:
 Con prog 230 [.raw v,.fn (.func g) [] cap] [.arr v 2 (l.map zbf)] fun x M'=> ∃l':List StatS,x= .tup []/\l'.Perm l/\l'.Pairwise (fun a b=> ¬c b a<0)/\M'=[.arr v 2 (l'.map zbf)]:=
 zoc (e:=zbf) zya (Tryz.isAgg302) (Tryz.sizeOf302) (fun _=>rfl) (fun _=>rfl) (fun _=>rfl) hO hg hc hl
theorem zDh [Tracks] (m:Nat):Go.Proofs.AnyZ.SortsIn prog Tryz.g228_ren Fence.wide m:=
 ⟨fun blk off cap ss W hH hblk hsz=>callsIn_wide.2 (AnyM.slices_Sort_string zse blk off cap ss W hH hblk hsz),fun p cap W=>callsIn_wide.2 (AnyM.slices_Sort_string_none zse p cap W)⟩
theorem zwU [Tracks] {b:Nat}:Con prog 229 [.raw (.map (some b))] [] fun x M'=> ∃bx,x= .fn (.func 283) [] [.raw (.pointer (some ⟨bx,0,none⟩))]/\M'=[.cells bx [.raw (.map (some b))]]:=
 zzQ (ρ:=Tryz.g229_ren) zsf
theorem zqx [Tracks] (hT:Tracks.on=false) {S:List Str} (hn:S.Nodup) (hl: ∀s∈S,s.length<=1000000) (hs:S.length<=1000000) {b bx:Nat}:
 Con prog 228 [.fn (.func 283) [] [.raw (.pointer (some ⟨bx,0,none⟩))]] [.cells bx [.raw (.map (some b))],.map b (sk (zaY S))] fun x M'=> ∃v,x= .raw v/\M'=[.arr v 1 ((zbh S).map .str),.map b (sk (zaY S))]:=
 ztm hT (ρ:=Tryz.g228_ren) (ρk:=Tryz.g229_ren) zx9 zsf zDh (enters_of func163 (by kernel_rfl) rfl) (enters_of func283 (by kernel_rfl) rfl) hn hl hs
theorem zmy [Tracks] {b0 b1:Nat} {c:List (Of2×Int)} {S:List Str} {week:Int} (hT:Tracks.on=false) (hn:ANodup c) (hSn:S.Nodup) (hSk: ∀s∈S,s.length<=40) (hc:c.length<=1000000) (hSl:S.length<=1000000):Con prog 154 [.raw (.map (some b0)),.raw (.map (some b1)),.int .i64 week] [.map b0 (kk eOf (em (HVal.int .i64) c)),.map b1 (sk (zaY S))] (fun x M'=>x= .tup [zfs (zhF c S week),.int .i64 (zix c S)]/\M'=[]):=by
 refine uOb func154 ntmps154 ?_;refine gz5 ?_;refine de rfl (zaI fun m15=> ?_)
 refine gz5 ?_;refine de rfl (zoh (i:=1) ztU rfl rfl fun r=> ?_)
 refine gz2 ?_;refine uV3 [6,2,9,2,18,24] (fun (vis:List Nat) (E:List (Of2×Int)) (G:Grp StatS)=>[]) (fun (vis:List Nat) (E:List (Of2×Int)) (G:Grp StatS)=>[.map m15 (sk (em fG G)),.iter r b0 (kk eOf (em (HVal.int .i64) c)) vis,.map b1 (sk (zaY S))]++grp 2 zbf G) (fun (vis:List Nat) (E:List (Of2×Int)) (G:Grp StatS)=>VisOk (c) vis E/\(GOk E G/\∀y∈E,out y.2 (-100000) 100000=false)) (fun (vis:List Nat) (E:List (Of2×Int)) (G:Grp StatS)=>(c).length-vis.length) ([]) ([]) ([]) ?_ ?_ ?_ ?_;exact ⟨VisOk.nil _,GOk.nil,fun y h=>by cases h⟩;exact trivial;exact zo rfl
 intro vis E G hinv
 obtain ⟨hvis,hG,hO⟩:=hinv;refine gz1 ?_;refine de rfl (zog (i:=1) (L:=c) (enc:=(fun p:Of2×Int=>(eOf p.1,HVal.int .i64 p.2))) rfl rfl (ztI _ _ _) hvis.nd hvis.lt fun cb R vis' hnx=> ?_)
 refine gz3 ?_;refine uCo (fun h1=> ?_) fun h2=> ?_
 obtain ⟨j,q,hq,hj,rfl⟩:=hnx.t h1;have hroom:=hvis.room hq hj;have hstep:=hvis.step hq hj;have hqm:=Ab hq;refine gz4 ?_;refine de rfl (zmN (i:=1) (L:=c) (enc:=(fun p:Of2×Int=>(eOf p.1,HVal.int .i64 p.2))) rfl rfl (ztI _ _ _) hq ?_)
 refine gz2 ?_;refine de rfl (zj zro rfl fun b9=> ?_)
 refine de0 (zn zro rfl rfl rfl rfl rfl ?_)
 refine gz2 ?_;refine ze (zm 9 rfl) ?_;refine gz3 ?_;refine dq (uCl zbH rfl zal) ?_;refine gz2 ?_;refine uCo (fun h3=> ?_) fun h4=> ?_
 refine gz5 ?_;exact ⟨_,[],Ghost.clear,_,_,rfl,zai (z7 3) (Weak.refl _),by have hf:=zxm (S:=S) hqm (by simpa using h3);rw [zhF,zix,hf];rfl,rfl⟩;refine gz5 ?_;refine uCo (fun h5=> ?_) fun h6=> ?_
 refine ze (zaH (M':=[.map m15 (sk (em fG G)),.iter r b0 (kk eOf (em (HVal.int .i64) c)) (vis++[j]),.map b1 (sk (zaY S))]++grp 2 zbf G) rfl) ?_;refine zhu mixed ?_;refine gz6 ?_;refine uA 7 ?_;refine gz2 ?_;refine uB 10 rfl (zB (cs:=[_,_]) zci zBX rfl) ?_;refine uB 11 rfl (za (hs:=[_]) zc9 zci rfl rfl (by decide) (by decide) rfl) ?_;refine uF 6 ?_;refine zt rfl (zfB (i:=0) (z0:=gZ StatS) zx2 ty9 zc9 rfl rfl rfl rfl ?_)
 refine ⟨uE,?_⟩
 refine uF 12 ?_;refine zt rfl (zrN (A:=[.map m15 (sk (em fG G)),.iter r b0 (kk eOf (em (HVal.int .i64) c)) (vis++[j]),.map b1 (sk (zaY S))]) (G:=G) (s:=q.1.1) (ys:=[⟨q.1.2,q.2⟩]) (eb:=zbf) zc9 zci rfl rfl rfl rfl (by simp [zaq,zd]) (by have:=zlF E q.1.1;rw [<-hG.raw] at this;have:=hvis.len;simp only [Ai,AC];omega) fun v41=> ?_)
 refine ⟨uE,?_⟩
 refine uF 13 ?_;refine zz (zdK (i:=0) (f:=fG) (L:=G) (v:=(v41,gL q.1.1 G++[⟨q.1.2,q.2⟩])) zx2 ty9 rfl rfl rfl rfl ?_)
 refine ⟨uE,?_⟩
 refine gz3 ?_;have hO': ∀y∈E++[q],out y.2 (-100000) 100000=false:=fun y hy=>by
  rcases List.mem_append.1 hy with hy|hy
  exact hO y hy;rw [List.mem_singleton.1 hy];simpa using h4
 exact ⟨_,E++[q],_,⟨hstep,hG.put (by simpa using h5) v41,hO'⟩,by dsimp only;rw [Av];simp only [Ai,AC];omega,trivial,uK,zo rfl⟩;refine gz3 ?_;have hO': ∀y∈E++[q],out y.2 (-100000) 100000=false:=fun y hy=>by
  rcases List.mem_append.1 hy with hy|hy
  exact hO y hy;rw [List.mem_singleton.1 hy];simpa using h4
 exact ⟨_,E++[q],G,⟨hstep,hG.skip (by simpa using h6),hO'⟩,by dsimp only;rw [Av];simp only [Ai,AC];omega,trivial,uK,zo rfl⟩;obtain ⟨rfl,hlen⟩:=hnx.f h2;have hEp:=hvis.done hlen;refine gz2 ?_;refine zcK ?_;refine gz2 ?_;refine ze (zlP (i:=1) rfl) ?_;refine ze (zaH (M':=[.map m15 (sk (em fG G)),.map b0 (kk eOf (em (HVal.int .i64) c)),.map b1 (sk (zaY S))]++grp 2 zbf G) rfl) ?_;refine gz6 ?_;refine de rfl (za8 (M1:=[]) (R:=_) zFB rfl (WeakL.refl _) (Ac _) zwU ?_)
 rintro _ _ ⟨bx,rfl,rfl⟩;refine de rfl (zlO (N:=[.map b1 (sk (zaY S)),.map b0 (kk eOf (em (HVal.int .i64) c))]++([.map m15 (sk (em fG G))]++grp 2 zbf G)) (sz:=1) (es:=(zbh S).map .str) 0 (za8 (M1:=[.cells bx [.raw (.map (some b1))],.map b1 (sk (zaY S))]) (R:=[.map b0 (kk eOf (em (HVal.int .i64) c))]++([.map m15 (sk (em fG G))]++grp 2 zbf G)) zFA rfl (WeakL.refl _) (by exact zGu) (zqx hT hSn (fun s hs=>Aq (hSk s hs) (by decide)) hSl) (by rintro _ _ ⟨v,rfl,rfl⟩;exact ⟨v,rfl,rfl,rfl⟩)) ?_)
 refine gz3 ?_;refine ze (znD (R:=[_,_])) ?_;refine ze (zL 3) ?_;have hSSl:(zbh S).length<=1000000:=by rw [zk2];exact hSl
 have hSS:(zbh S).Nodup:=(zih S).nodup_iff.2 hSn;refine gz1 ?_;refine uV2 [6,2,11,1,13,2,46,20] (fun (k:Nat) (u:Value)=>[(46,.int .i64 k),(11,.raw u)]) (fun (k:Nat) (u:Value)=>[.arr u 3 (((zbh S).take k).map fun s=>zbQ ⟨s,week,zdR c s⟩),.map m15 (sk (em fG G))]++grp 2 zbf (zif G ((zbh S).take k))) (fun (k:Nat) (u:Value)=>k<=(zbh S).length/\(∀s∈(zbh S).take k,¬40<(zbl c s).length)) (fun (k:Nat) (u:Value)=>(zbh S).length-k) (0) (.slice none 0 0) ?_ ?_ ?_ ?_;exact ⟨Ad _,fun s h=>by simp at h⟩;exact ⟨rfl,rfl,trivial⟩;exact zo (by simp [zAO])
 intro k u hinv
 obtain ⟨hk,hg⟩:=hinv;refine gz4 ?_;refine uCo (fun h7=> ?_) fun h8=> ?_
 obtain ⟨x,hx⟩: ∃x,(zbh S)[k]? =some x:=⟨_,Aa h7⟩
 have hdx:=zk hx;refine zdl ?_;refine de rfl (zfB (i:=1) (z0:=gZ StatS) zx2 ty9 zc9 rfl rfl rfl rfl ?_)
 refine gz2 ?_;have hnx:=zxX hSS hx;have hxS:x∈S:=(zih S).mem_iff.1 (Ab hx);refine ze (zrt (A:=[.arr u 3 (((zbh S).take k).map fun s=>zbQ ⟨s,week,zdR c s⟩),.map m15 (sk (em fG G))]) (G:=zif G ((zbh S).take k)) (G':=G) (s:=x) (zxP hG.nd) (zAN hnx)) ?_;rw [zza];refine gz3 ?_;refine de rfl (zaX (i:=0) (es:=gL x G) zc9 rfl rfl ?_)
 refine gz2 ?_;refine uCo (fun h9=> ?_) fun h10=> ?_
 refine gz5 ?_;exact ⟨_,[],Ghost.clear,_,_,rfl,zai (z7 3) (Weak.refl _),by have hf:=zxn (c:=c) hxS (by rw [<-zuD hEp hG];omega);rw [zhF,zix,hf];rfl,rfl⟩;refine gz4 ?_;refine de rfl (za8 (M1:=[.arr (gV x G) 2 ((gL x G).map zbf)]) (R:=[.arr u 3 (((zbh S).take k).map fun s=>zbQ ⟨s,week,zdR c s⟩),.map m15 (sk (em fG G))]++grp 2 zbf (zif G ((zbh S).take k++[x]))) zBC rfl (WeakL.refl _) (Ac _) (zpu (c:=zbc) (zpb zdr) zBD (fun _ _=> @znh zhK _ _) (l:=gL x G) (by have:=zlF c x;rw [zuD hEp hG];omega)) ?_)
 rintro _ _ ⟨l',rfl,hp',hw',rfl⟩;obtain rfl:=zvn hEp hn hG hp' hw';refine gz1 ?_;refine ze (zaR 14 (i:=0) rfl rfl) ?_;refine gz5 ?_;refine dq (zB (cs:=[_,_,_]) zcY pl96 rfl) ?_;refine dq (za (hs:=[_]) znc zcY rfl rfl (by decide) (by decide) rfl) ?_;refine de rfl (zI (i:=0) znc zcY rfl rfl rfl rfl rfl (by simp [zaq,zd]) (by have:=zk2 S;simp only [Ah,Ai,AC,Az];omega) fun v64=> ?_)
 refine gz8 ?_;refine ⟨k+1,v64,⟨by omega,fun s hs=> ?_⟩,uD,⟨rfl,rfl,trivial⟩,uK,zo (by dsimp only;rw [zaf hx,Ay];rfl)⟩
 rw [zaf hx] at hs
 rcases List.mem_append.1 hs with hs|hs
 exact hg s hs;rw [List.mem_singleton.1 hs,<-zuD hEp hG];omega;have hnk:(zbh S).length<=k:=by omega
 obtain rfl:k=(zbh S).length:=by omega
 refine gz2 ?_;refine zN ?_;refine gz2 ?_;rw [Ak] at hg⊢;refine ze (Ghost.only (i:=0) rfl) ?_;refine gz6 ?_
 (refine zl7 (M:=[]) 6 rfl rfl ?_
  have hf:=zyA (c:=c) (S:=S) (fun y hy=>hO y (hEp.mem_iff.2 hy)) (fun s hs=>hg s ((zih S).mem_iff.2 hs));rw [zhF,zix,hf];simp [Function.comp_def,zaB,za6])
end
section
open Go.Proofs.Tryz
open Go.HL
theorem zui [Tracks] {l:List Play} {trust:List Str} {week n:Int} (hT:Tracks.on=false) (hl:l.length<=3000) (ht:trust.length<=1000000) (ok: ∀x∈l,playFault x=0):ConP prog 69 [zbE l,eSs trust,.int .i64 week,.int .i64 n] (.tup [zfs (zd1 l trust week n),.int .i64 (zh3 l trust week n)]):=by
 refine uOb func69 ntmps69 ?_;refine gz8 ?_;refine de rfl (za8 (M1:=[]) (R:=[]) zEN rfl (WeakL.refl _) (Ac _) (zvA (l:=l) (trust:=trust) (n:=n) uO ht) ?_)
 rintro _ _ ⟨b19,O19,rfl,hn19,hO19,rfl⟩;refine gz2 ?_;refine de rfl (za8 (M1:=[]) (R:=_) zEO rfl (WeakL.refl _) (Ac _) (ztg (l:=l) (n:=n) uO) ?_)
 rintro _ _ ⟨b22,rfl,rfl⟩;refine gz4 ?_;refine de rfl (zaI fun m23=> ?_)
 refine de rfl (zaI fun m24=> ?_)
 refine zaw ?_;refine uV1 [15,1,27,53] (fun (k:Nat)=>[(27,.int .i64 k)]) (fun (k:Nat)=>[.map m24 (kk eOf (em (HVal.int .i64) (zcJ l trust week n (l.take k)).c)),.map m23 (sk (zaY (zcJ l trust week n (l.take k)).S)),.map b22 (kk ziz (em HVal.bool (zmR l n))),.map b19 (sk (em HVal.str O19))]) (fun (k:Nat)=>k<=l.length/\(True)) (fun (k:Nat)=>l.length-k) (0) ?_ ?_ ?_ ?_;exact ⟨Ad _,trivial⟩;exact ⟨rfl,trivial⟩;exact zo rfl
 intro k hinv
 obtain ⟨hk,-⟩:=hinv;refine gz4 ?_;refine uCo (fun h1=> ?_) fun h2=> ?_
 obtain ⟨x,hx⟩: ∃x,l[k]? =some x:=⟨_,Aa h1⟩
 have hdx:=zk hx;refine gz7 ?_;refine de rfl (zj zb3 rfl fun b15=> ?_)
 refine de0 (zn zb3 rfl rfl rfl rfl rfl ?_)
 refine gz1 ?_;refine ze (zm 15 rfl) ?_;refine gz23 ?_;refine uGr rfl (fun hc=>zB (cs:=[_,_]) zm9 zxJ rfl) ?_;refine dgl rfl rfl (fun hc=>⟨_,OpenTo.upd (t:=52) rfl (hc) (OpenTo.upd (t:=47) rfl (hc) (OpenTo.refl _)),zeV (i:=2) (s:=(x.Source,x.No)) (z0:=false) zB5 ztO ty4 rfl rfl rfl rfl ⟨rfl,rfl⟩⟩) ?_;refine gz5 ?_;refine dgl rfl rfl (fun hc=>⟨_,OpenTo.upd (t:=58) rfl (hc) (OpenTo.upd (t:=56) rfl (hc) (OpenTo.refl _)),zfB (i:=3) (z0:=([]:Str)) ziR ty9 ty9 rfl rfl rfl rfl ⟨rfl,rfl⟩⟩) ?_;refine gz5 ?_;refine uCo (fun h3=> ?_) fun h4=> ?_
 refine gz8 ?_;exact ⟨k+1,⟨by omega,trivial⟩,uD,⟨rfl,trivial⟩,uK,zo (by dsimp only;rw [zsF hx,zh4,if_neg (by rw [zz6 hO19 h3];simp)])⟩;refine gz6 ?_;refine de0 (zc3 (i:=1) ziQ ty9 rfl rfl rfl rfl ?_)
 refine gz1 ?_;have hpx:=ok x (Ab hx);obtain ⟨_,_,_,_,_,hcb,_⟩:=zeY hpx;have hlk:=ztM (l:=l) (m:=l.take k) (trust:=trust) (week:=week) (n:=n) (fun y hy=>ok y (AL hy));have hvb:=hlk.val (x.Player,x.Stat);have hlt:((l.take k).length:Int)<=3000:=by rw [Az];omega
 refine zbk (fun M=>M=[MObj.map m24 (kk eOf (em (HVal.int .i64) (zcJ l trust week n (l.take k)).c)),MObj.map m23 (sk (zaY (zb8 x.Player (zcJ l trust week n (l.take k)).S))),MObj.map b22 (kk ziz (em HVal.bool (zmR l n))),MObj.map b19 (sk (em HVal.str O19))]\/∃j st,zbG (x.Player,x.Stat) (zdv (x.Player,x.Stat) (HVal.int .i64 0) (em (HVal.int .i64) (zcJ l trust week n (l.take k)).c))=some j/\M=[MObj.mape m24 (kk eOf (zdv (x.Player,x.Stat) (HVal.int .i64 0) (em (HVal.int .i64) (zcJ l trust week n (l.take k)).c))) j st,MObj.map m23 (sk (zaY (zb8 x.Player (zcJ l trust week n (l.take k)).S))),MObj.map b22 (kk ziz (em HVal.bool (zmR l n))),MObj.map b19 (sk (em HVal.str O19))]) [6] mixed ?_;refine gz5 ?_;refine uB 5 rfl (zB (cs:=[_,_]) zro zGC rfl) ?_;refine uM 6 rfl (.inl rfl) (fun M hM=>by
 rcases hM with rfl|⟨j,st,hj,rfl⟩
 exact zeV (i:=0) (s:=(x.Player,x.Stat)) (z0:=(0:Int)) ztU zxH ty3 rfl rfl rfl rfl ⟨rfl,rfl⟩;exact zoe (i:=0) (s:=(x.Player,x.Stat)) (z0:=(0:Int)) (f:=HVal.int .i64) ztU zxH ty3 rfl rfl rfl rfl ⟨rfl,rfl⟩) ?_
 refine uA 7 ?_;refine gz2 ?_;refine uF 10 ?_;refine zt rfl (znl (i:=0) (s:=(x.Player,x.Stat)) (z0:=(0:Int)) (f:=HVal.int .i64) ztU zxH ty3 rfl rfl rfl rfl fun j77 st77 hj77=> ?_)
 refine ⟨fun _=> .inl (.inr ⟨j77,st77,hj77,rfl⟩),?_⟩
 refine gz1 ?_;refine uF 12 ?_;refine zz (zkT (i:=0) (s:=(x.Player,x.Stat)) (f:=HVal.int .i64) (z0:=(0:Int)) (v:=(alk (x.Player,x.Stat) (zcJ l trust week n (l.take k)).c).getD 0+x.Count) rfl rfl rfl rfl hj77 ?_)
 refine ⟨uE,?_⟩
 refine gz7 ?_;exact ⟨k+1,⟨by omega,trivial⟩,uD,⟨rfl,trivial⟩,uK,zo (by dsimp only;rw [zsF hx,zh4,if_pos (zz7 hO19 h4)];rfl)⟩;have hnk:l.length<=k:=by omega
 obtain rfl:k=l.length:=by omega
 refine gz2 ?_;refine zv ?_;refine gz2 ?_;rw [Ak];have hok:=ztM (l:=l) (m:=l) (trust:=trust) (week:=week) (n:=n) ok;refine gz4 ?_;refine de rfl (za8 (M1:=[_,_]) (R:=[_,_]) zEP rfl (WeakL.refl _) (Ac _) (zmy hT hok.c hok.S hok.k (Aq hok.cl uO) (Aq hok.Sl uO)) ?_)
 rintro _ _ ⟨rfl,rfl⟩;refine gz6 ?_;exact zav Ghost.clear rfl ⟨rfl,rfl⟩
theorem zn0 [Tracks] {l:List Play} {trust:List Str} {week n:Int} (hT:Tracks.on=false) (hl:l.length<=1000000) (ht:trust.length<=1000000):ConP prog 22 [zbE l,eSs trust,.int .i64 week,.int .i64 n] (.tup [zfs (ziU l trust week n),.int .i64 (ziT l trust week n)]):=by
 refine uOb func22 ntmps22 ?_;refine gz7 ?_;refine dq (uCl ca67 rfl (zjs (by assumption))) ?_;refine gz1 ?_;refine dq (uCl ca68 rfl (zjt (by assumption))) ?_;refine dq (za (hs:=[_,_]) zd9 zgp rfl rfl (by decide) (by decide) rfl) ?_;refine dq (uCl zkf rfl (zb0 (l:=[_,_]) (by simp))) ?_;refine gz6 ?_;refine uCo (fun h1=> ?_) fun h2=> ?_
 refine gz6 ?_;exact zcA rfl (zai (by rw [ziU,if_pos (by simpa using h1)];exact z7 3) (by rw [ziT,if_pos (by simpa using h1)];exact Weak.refl _));refine gz5 ?_;refine dq (uCl zlq rfl zcG) ?_;refine gz3 ?_;refine uGr rfl (fun hc=>uCl zkh rfl zbC) ?_;refine gz3 ?_;refine uCo (fun h3=> ?_) fun h4=> ?_
 refine gz5 ?_;exact zcA rfl (zai (by rw [ziU,if_neg (by simpa using h2),if_pos uSa];exact z7 3) (by rw [ziT,if_neg (by simpa using h2),if_pos uSa];exact Weak.refl _));refine gz7 ?_;refine dq (uCl ca69 rfl (zui hT (zsQ (okPT h2).1).1 ht (ziO (okPT h2).1))) ?_;refine gz6 ?_
 (refine zw rfl ?_
  rw [ziU,ziT,if_neg (by simpa using h2),if_neg uSa,if_neg (by simpa using h2),if_neg uSa])
end
end Go.Proofs.YtpgopgjleokciaaGreatDoor
namespace Go.Proofs
section
open Go.Shelf
def Tryz.lays190_ren:Go.Shelf.Ren:=⟨fun|190=>163|125=>184|258=>237|128=>251|129=>252|302=>286|303=>287|304=>288|305=>289|306=>290|307=>291|308=>292|309=>293|310=>294|333=>337|329=>300|330=>301|334=>338|335=>339|336=>297|344=>367|n=>n,fun|31=>33|9=>9|3=>3|46=>271|0=>0|51=>324|53=>312|4=>4|183=>318|182=>317|131=>221|5=>5|218=>361|222=>365|228=>407|229=>408|n=>n,fun|n=>n⟩
theorem zt4:Go.Proofs.Lays.n190 Tryz.prog Tryz.lays190_ren:={
 mixed:=by kernel_rfl
 f125:=Tryz.func184.trans (congrArg some (by kernel_rfl))
 f128:=Tryz.func251.trans (congrArg some (by kernel_rfl))
 f129:=Tryz.func252.trans (congrArg some (by kernel_rfl))
 f190:=Tryz.func163.trans (congrArg some (by kernel_rfl))
 f258:=Tryz.func237.trans (congrArg some (by kernel_rfl))
 f302:=Tryz.func286.trans (congrArg some (by kernel_rfl))
 f303:=Tryz.func287.trans (congrArg some (by kernel_rfl))
 f304:=Tryz.func288.trans (congrArg some (by kernel_rfl))
 f305:=Tryz.func289.trans (congrArg some (by kernel_rfl))
 f306:=Tryz.func290.trans (congrArg some (by kernel_rfl))
 f307:=Tryz.func291.trans (congrArg some (by kernel_rfl))
 f308:=Tryz.func292.trans (congrArg some (by kernel_rfl))
 f309:=Tryz.func293.trans (congrArg some (by kernel_rfl))
 f310:=Tryz.func294.trans (congrArg some (by kernel_rfl))
 f329:=Tryz.func300.trans (congrArg some (by kernel_rfl))
 f330:=Tryz.func301.trans (congrArg some (by kernel_rfl))
 f333:=Tryz.func337.trans (congrArg some (by kernel_rfl))
 f334:=Tryz.func338.trans (congrArg some (by kernel_rfl))
 f335:=Tryz.func339.trans (congrArg some (by kernel_rfl))
 f336:=Tryz.func297.trans (congrArg some (by kernel_rfl))
 f344:=Tryz.func367.trans (congrArg some (by kernel_rfl))
 t0:=Tryz.underlying0
 a0:=Tryz.isAgg0
 z0:=Tryz.sizeOf0
 v0:=Tryz.zeroValue0
 t3:=Tryz.underlying3
 a3:=Tryz.isAgg3
 z3:=Tryz.sizeOf3
 v3:=Tryz.zeroValue3
 t4:=Tryz.underlying4
 a4:=Tryz.isAgg4
 z4:=Tryz.sizeOf4
 v4:=Tryz.zeroValue4
 t5:=Tryz.underlying5
 a5:=Tryz.isAgg5
 z5:=Tryz.sizeOf5
 v5:=Tryz.zeroValue5
 t9:=Tryz.underlying9
 a9:=Tryz.isAgg9
 z9:=Tryz.sizeOf9
 v9:=Tryz.zeroValue9
 t31:=Tryz.underlying33
 a31:=Tryz.isAgg33
 z31:=Tryz.sizeOf33
 v31:=Tryz.zeroValue33
 t46:=Tryz.underlying271
 a46:=Tryz.isAgg271
 z46:=Tryz.sizeOf271
 v46:=Tryz.zeroValue271
 t51:=Tryz.underlying324
 a51:=Tryz.isAgg324
 z51:=Tryz.sizeOf324
 v51:=Tryz.zeroValue324
 t53:=Tryz.underlying312
 a53:=Tryz.isAgg312
 z53:=Tryz.sizeOf312
 v53:=Tryz.zeroValue312
 t131:=Tryz.underlying221
 a131:=Tryz.isAgg221
 z131:=Tryz.sizeOf221
 v131:=Tryz.zeroValue221
 t182:=Tryz.underlying317
 a182:=Tryz.isAgg317
 z182:=Tryz.sizeOf317
 v182:=Tryz.zeroValue317
 t183:=Tryz.underlying318
 a183:=Tryz.isAgg318
 z183:=Tryz.sizeOf318
 v183:=Tryz.zeroValue318
 t218:=Tryz.underlying361
 a218:=Tryz.isAgg361
 z218:=Tryz.sizeOf361
 v218:=Tryz.zeroValue361
 t222:=Tryz.underlying365
 a222:=Tryz.isAgg365
 z222:=Tryz.sizeOf365
 v222:=Tryz.zeroValue365
 t228:=Tryz.underlying407
 a228:=Tryz.isAgg407
 z228:=Tryz.sizeOf407
 v228:=Tryz.zeroValue407
 t229:=Tryz.underlying408
 a229:=Tryz.isAgg408
 z229:=Tryz.sizeOf408
 v229:=Tryz.zeroValue408}
end
end Go.Proofs
namespace Go.Proofs.YtpgopgjleokciaaGreatDoor
set_option maxRecDepth 100000
set_option linter.unusedVariables false
set_option linter.unusedSimpArgs false
section
open Go.Proofs.Tryz
open Go.HL
theorem zpk [Tracks]:ConP prog 252 [.int .u64 0] (.int .i64 0):=by
 refine uOb func252 ntmps252 ?_;refine gz8 ?_;refine zdL rfl ?_;refine gz7 ?_;refine zdL rfl ?_;refine gz7 ?_;refine zdL rfl ?_;refine gz5 ?_;refine dq (zcd zpe ty5 rfl) ?_;refine dq (zaO (j:=0) (b:=0) ty9 rfl rfl rfl rfl) ?_;refine dq (zcd ty5 ty3 rfl) ?_;refine dq (zaZ rfl rfl (by decide) (by decide)) ?_;refine gz3 ?_;refine zw rfl ?_
 rfl
theorem zqr [Tracks]:ConP prog 184 [.int .u64 0] (.int .i64 0):=by
 refine uOb func184 ntmps184 ?_;refine gz4 ?_;refine zdL rfl ?_;refine gz4 ?_;refine dq (uCl zBG rfl zpk) ?_;refine gz3 ?_;refine zw rfl ?_
 rfl
theorem zga [Tracks]:ConP prog 286 [eSs [],.int .i64 0,.int .i64 0] (.tup []):=by
 refine uOb func286 ntmps286 ?_;refine gz6 ?_;refine uU1 [6,2,10,39] (fun (u:Unit)=>[(6,.int .i64 1)]) (fun (u:Unit)=>[]) (fun (u:Unit)=>True) (fun (u:Unit)=>0) (()) ?_ ?_
 trivial
 intro u hu
 refine gz6 ?_;refine zdL rfl ?_;refine gz2 ?_;refine zv ?_;refine gz1 ?_;refine zxR rfl ?_
 rfl
theorem zhT [Tracks]:ConP prog 237 [eSs [],.int .i64 0,.int .i64 0,.int .i64 0] (.tup []):=by
 refine uOb func237 ntmps237 ?_;refine gz7 ?_;refine uU1 [1,3,8,126] (fun (u:Unit)=>[(1,.int .i64 0),(2,.int .i64 0)]) (fun (u:Unit)=>[]) (fun (u:Unit)=>True) (fun (u:Unit)=>0) (()) ?_ ?_
 trivial
 intro u hu
 refine zdl ?_;refine zsv rfl ?_;refine gz4 ?_;refine dq (uCl zF7 rfl zga) ?_;refine gz2 ?_;refine zw rfl ?_
 rfl
theorem zpr [Tracks]:ConP prog 163 [eSs []] (.tup []):=by
 refine uOb func163 ntmps163 ?_;refine gz9 ?_;refine dq (zcd ty3 zk4 rfl) ?_;refine dq (uCl zBq rfl zqr) ?_;refine dq (uCl zFG rfl zhT) ?_;refine gz1 ?_;refine zxR rfl ?_
 rfl
theorem ztk [Tracks] {l:List Str} {v:Value} (hl:l.length<=1000000):Con prog 163 [.raw v] [.arr v 1 (l.map .str)] fun x M'=>x= .tup []/\M'=[.arr v 1 ((zbh l).map .str)]:=
 zCj (zk2 l) (fun b off cap w h1 h2 _=>Any.slices_Sort_string zt4 b off cap l w h1 h2 uO) (fun _=>zpr)
end
end Go.Proofs.YtpgopgjleokciaaGreatDoor
