/- Part 5 of the proof: a program logic, contracts of functions and plain facts; no conditions. -/
import Derived.Test.YtnfmbjchkjijpaaGreatDoorQTopTableIsOfResults4
set_option linter.unusedVariables false
set_option linter.unusedSimpArgs false
set_option maxHeartbeats 16000000
namespace Go.HL
section
open Go Op
structure BookX (b:BookS):Prop where
 w:BookW b
 gm: ∀x∈b.League.Games,za4 x.Week=true/\b.League.Teams.contains x.Home=true/\b.League.Teams.contains x.Away=true/\x.Played=false
 st:0<=b.League.Start/\b.League.Start+36288000000<=345686400000
 ru:zg5 b.League.Rules=0
 sl:zdK b.League.Slots=0
 pl:zcj b.Plays=0
 tr:zb5 b.League.Trust=0
 me:zbH b.Mends=0
 po: ∀p∈b.League.Players,zdq p.Positions=0
theorem zuT {b:BookS} (h:zdt b=0):BookX b:=by
 obtain ⟨h1,h2⟩:=zqS h;have h3:=zf7 (zrs h1);have hW:=zDR h;unfold zcu at h1;rw [if_neg (fun q=>q (zrs h1))] at h1
 split at h1
 cases h1
 rename_i hp
 split at h1
 rename_i q;exact absurd h1 q
 rename_i h4
 split at h1
 cases h1
 rename_i h5
 rw [not_or] at h5;have h6:zc7 b.League.Teams b.League.Games=0:=h3 _ (by simp);have h7:zen 1000 (zcd b.League.Teams) zeg b.League.Games=0:=by
  unfold zc7 at h6
  split at h6
  rename_i q;exact absurd h6 q
  unfold zd7 at h6
  split at h6
  rename_i q;exact absurd h6 q
  rename_i q
  exact Decidable.not_not.1 q
 obtain ⟨_,h8⟩:=zfS h7;have h9:=zf7 (l:=[zd0 b.League.Breaks,zb5 b.League.Trust]) (Decidable.not_not.1 h4);refine ⟨hW,fun x hx=> ?_,?_,h3 _ (by simp),h3 _ (by simp),zf7 h2 _ (by simp),h9 _ (by simp),zf7 h2 _ (by simp),fun p hp=> ?_⟩
 obtain ⟨i,hi,rfl⟩:=AS hx;have h10:=h8 i _ (Aa hi);unfold zcd at h10
 split at h10
 cases h10
 rename_i a1
 split at h10
 cases h10
 rename_i a2
 rw [not_or] at a2;refine ⟨by simpa using a1,by simpa using a2.1,by simpa using a2.2,?_⟩
 have:zdc b.League.Games=false:=by simpa using hp
 unfold zdc at this;have:=List.any_eq_false.1 this _ hx
 simpa using this
 have:zac b.League.Start=true:=by simpa using h5.1
 unfold zac out at this
 simp at this
 omega
 obtain ⟨i,hi,rfl⟩:=AS hp;have h10:=(zfS hW.py).2 i _ (Aa hi);unfold zcS at h10
 split at h10
 cases h10
 split at h10
 cases h10
 exact h10
theorem zyM {b:BookS} (h:BookX b) {w:Int} (hw:za4 w=true):zac (zbq b.League w)=true/\0<=zbq b.League w/\zbq b.League w<=345686400000/\zbq b.League (w+1)<=345686400000/\zbq b.League (w+1)=zbq b.League w+604800000:=by
 have h1:=h.st;have h2:1<=w/\w<=60:=by unfold za4 out at hw;simp at hw;omega
 have h3:0<=zbq b.League w/\zbq b.League w+604800000<=345686400000:=by unfold zbq;omega
 refine ⟨?_,by omega,by omega,?_,?_⟩
 unfold zac out;simp;omega;unfold zbq;omega;unfold zbq;omega
/-! the lines of a week,and scorers-/
abbrev wlL (b:BookS) (w n:Int):List LineS:=knL b.Plays b.League.Trust (zgx b.Mends w) w n
abbrev wlE (b:BookS) (w n:Int):Int:=zid b.Plays b.League.Trust w n
def zma (g:LeagueS) (L:List LineS) (s:Str):Option ScorerS:=
 match plO g.Players s with
 |none=>none
 |some p=>match L.find? (fun x=>x.Player==s) with
   |none=>some ⟨s,p.Positions,0,1,false⟩
   |some x=>some ⟨s,p.Positions,(ofH (zhC g.Rules p.Positions x)).Num,(ofH (zhC g.Rules p.Positions x)).Den,true⟩
def zkW (g:LeagueS) (L:List LineS) (own:List Str):List ScorerS:=own.filterMap (zma g L)
theorem zqF {g:LeagueS} {L:List LineS} {own:List Str} {k:Nat} {s:Str} (h:own[k]? =some s):zkW g L (own.take (k+1))=zkW g L (own.take k)++(zma g L s).toList:=by
 unfold zkW;rw [zR h,List.filterMap_append]
 cases e:zma g L s<;>simp [e]
theorem zpD (g:LeagueS) (L:List LineS) (own:List Str):(zkW g L own).length<=own.length:=List.length_filterMap_le _ _
theorem zEq {L:List PlayerS} {s:Str} (h: ∃x,x∈L/\x.Key=s): ∃p,plO L s=some p:=by
 obtain ⟨x,hx,e⟩:=h
 cases hq:plO L s with
 |none=>have:=List.find?_eq_none.1 hq x hx;simp [e] at this
 |some p=>exact ⟨p,rfl⟩
theorem zvR {g:LeagueS} {L:List LineS} {s:Str} (h:plO g.Players s=none):zma g L s=none:=by unfold zma;rw [h]
theorem zmD {g:LeagueS} {L:List LineS} {s:Str} {p:PlayerS} (h:plO g.Players s=some p) (h2:L.find? (fun x=>x.Player==s)=none):zma g L s=some ⟨s,p.Positions,0,1,false⟩:=by
 unfold zma;rw [h];dsimp only;rw [h2]
theorem zmE {g:LeagueS} {L:List LineS} {s:Str} {p:PlayerS} {x:LineS} (h:plO g.Players s=some p) (h2:L.find? (fun x=>x.Player==s)=some x):
 zma g L s=some ⟨s,p.Positions,(ofH (zhC g.Rules p.Positions x)).Num,(ofH (zhC g.Rules p.Positions x)).Den,true⟩:=by
 unfold zma;rw [h];dsimp only;rw [h2]
theorem zvi {l:List Play} {t:List Str} {w n:Int} (h1:zcj l=0) (h2:zb5 t=0) (h3:za4 w=true) (h4:zac n=true):zi4 l t w n=zea l t w n/\zi3 l t w n=zid l t w n:=by
 have e:orI [zcj l,zb5 t]=0:=by rw [zeo,h1,h2];rfl
 unfold zi4 zi3;rw [e,h3,h4];exact ⟨rfl,rfl⟩
theorem ztn {l:List LineS} {m:List MendS} {n:Int} (h1:zaC l=0) (h2:zbH m=0) (h3:zac n=true):zes l m n=mdL l m n/\zer l m n=0:=by
 have e:orI [zaC l,zbH m]=0:=by rw [zeo,h1,h2];rfl
 unfold zes zer;rw [e,h3];exact ⟨rfl,rfl⟩
theorem zEw {g:LeagueS} {L:List LineS} {s:Str} {p:PlayerS} (h:plO g.Players s=some p): ∃sc,zma g L s=some sc:=by
 cases hq:L.find? (fun x=>x.Player==s) with
 |none=>exact ⟨_,zmD h hq⟩
 |some x=>exact ⟨_,zmE h hq⟩
theorem zzR {g:LeagueS} {L:List LineS} {own:List Str} (hr:zg5 g.Rules=0) (hL: ∀x∈L,zlk x): ∀y∈zkW g L own,(-1000000000000000<=y.Num/\y.Num<=1000000000000000)/\ -1000000000<=y.Den/\y.Den<=1000000000:=by
 intro y hy
 obtain ⟨s,_,he⟩:=List.mem_filterMap.1 hy;obtain ⟨r1,r2⟩:=zzO hr
 cases hp:plO g.Players s with
 |none=>rw [zvR hp] at he;cases he
 |some p=>
   cases hq:L.find? (fun x=>x.Player==s) with
   |none=>rw [zmD hp hq] at he;cases he;dsimp only;omega
   |some x=>
     rw [zmE hp hq] at he
     cases he
     have h1:=zrL r1 r2 (hL x (Br hq)) p.Positions g.Rules.length;rw [Ai] at h1;have h2:=zrF h1
     dsimp only
     omega
theorem zxg {g:LeagueS} {L:List LineS} {own:List Str} (hp: ∀p∈g.Players,p.Positions.length<=1000000): ∀y∈zkW g L own,y.Positions.length<=1000000:=by
 intro y hy
 obtain ⟨s,_,he⟩:=List.mem_filterMap.1 hy
 cases hq:plO g.Players s with
 |none=>rw [zvR hq] at he;cases he
 |some p=>
   have hm:=hp p (Br hq)
   cases hl:L.find? (fun x=>x.Player==s) with
   |none=>rw [zmD hq hl] at he;cases he;exact hm
   |some x=>rw [zmE hq hl] at he;cases he;exact hm
abbrev zfZ (b:BookS) (t:Str) (w:Int):List Str:=rPl (zho b.League.Bounds b.Moves (zbq b.League w)) t
abbrev dsL (b:BookS) (t:Str) (w n:Int):List ScorerS:=zkW b.League (wlL b w n) (zfZ b t w)
def zr6 (b:BookS) (t:Str) (w n:Int):List ScorerS:=if wlE b w n≠0 then [] else dsL b t w n
def fdE (b:BookS) (t:Str) (w n:Int):Int:=if wlE b w n≠0 then wlE b w n else ziM (dsL b t w n)
abbrev fdC (b:BookS) (t:Str) (w n:Int):Option ChoiceS:=zxO b.Choices t w n (zbq b.League w)
abbrev fdF (b:BookS) (t:Str) (w n:Int):List FillS:=zc6 (dsL b t w n) (fdC b t w n) b.League.Slots b.League.Slots.length
abbrev fdP (b:BookS) (t:Str) (w n:Int):Str:=zoC (fdC b t w n) (fdF b t w n)
def ptV (b:BookS) (t:Str) (w n:Int):Int:=sfL (dsL b t w n) (fdF b t w n) (fdP b t w n)
def FdL (b:BookS) (t:Str) (w n:Int):List ScorerS:=if fdE b t w n≠0 then [] else dsL b t w n
def FdF (b:BookS) (t:Str) (w n:Int):List FillS:=if fdE b t w n≠0 then [] else fdF b t w n
def FdP (b:BookS) (t:Str) (w n:Int):Str:=if fdE b t w n≠0 then [] else fdP b t w n
def PtF (b:BookS) (t:Str) (w n:Int):FracS:=if fdE b t w n≠0 then ⟨0,0⟩ else ofH (ptV b t w n)
abbrev ze6 (o:Option ChoiceS):ChoiceS:=o.getD zfM
theorem zqE {o:Option ChoiceS} (h:o.isSome=true):pCh o= .vptr (zb (zaq (ze6 o))) 0:=by
 cases o with
 |none=>cases h
 |some c=>rfl
theorem zCD {o:Option ChoiceS} {f:List FillS} (h1:o.isSome=true) (h2:(ze6 o).Captain≠[]) (h3:f.any (fun x=>x.Player==(ze6 o).Captain)=true):zoC o f=(ze6 o).Captain:=by
 cases o with
 |none=>cases h1
 |some c=>exact if_pos ⟨h2,h3⟩
theorem zm9 {o:Option ChoiceS} {f:List FillS} (h:(o.isSome=true/\¬(ze6 o).Captain=[])/\∃x,x∈f/\x.Player=(ze6 o).Captain):zoC o f=(ze6 o).Captain:=by
 obtain ⟨⟨h1,h2⟩,x,h3,h4⟩:=h;exact zCD h1 h2 (List.any_eq_true.2 ⟨x,h3,by simpa using h4⟩)
theorem zDT {o:Option ChoiceS} {f:List FillS} (h: ¬((o.isSome=true/\(ze6 o).Captain≠[])/\f.any (fun x=>x.Player==(ze6 o).Captain)=true)):zoC o f=[]:=by
 cases o with
 |none=>rfl
 |some c=>exact if_neg fun q=>h ⟨⟨rfl,q.1⟩,q.2⟩
theorem zpq {o:Option ChoiceS} {f:List FillS} (h:o.isSome=true->¬(ze6 o).Captain=[]->∀x,x∈f->¬x.Player=(ze6 o).Captain):zoC o f=[]:=by
 refine zDT fun q=> ?_
 obtain ⟨x,h3,h4⟩:=List.any_eq_true.1 q.2;exact h q.1.1 q.1.2 x h3 (by simpa using h4)
theorem zCd {b:BookS} {t:Str} {w n:Int} (h:fdE b t w n=0):wlE b w n=0/\ziM (dsL b t w n)=0/\ScoOk (dsL b t w n):=by
 unfold fdE at h
 split at h
 rename_i q;exact absurd h q
 rename_i q
 exact ⟨Decidable.not_not.1 q,h,zvQ h⟩
theorem zrj {b:BookS} {t:Str} {w n:Int} (h:wlE b w n≠0):fdE b t w n=wlE b w n:=by unfold fdE;rw [if_pos h]
theorem zoP {b:BookS} {t:Str} {w n:Int} (h:wlE b w n=0):fdE b t w n=ziM (dsL b t w n):=by unfold fdE;rw [if_neg (fun q=>q h)]
theorem zCK {b:BookS} (hb:BookW b) {t:Str} {w n f:Int} {c:ChoiceS} (h:zxO b.Choices t w n f=some c):c.Players.length=b.League.Slots.length:=by
 rcases zxN h with q|q
 cases q
 exact (hb.ch c q.1).1
theorem zCq {b:BookS} (hb:BookW b) {t:Str} {w n:Int} (h:fdE b t w n=0): -24000000<=ptV b t w n/\ptV b t w n<=24000000:=by
 obtain ⟨_,_,h3⟩:=zCd h;have h4:(fdF b t w n).length=b.League.Slots.length:=zfw (dsL b t w n) (fdC b t w n) b.League.Slots b.League.Slots.length;have h5:=zys h3 (f:=fdF b t w n) (by have:=hb.sl;omega) (fdP b t w n) (fdF b t w n).length;rw [Ai] at h5;exact h5
/-! results-/
def gaE (b:BookS) (n:Int) (x:GameS):Int:=if n<zbq b.League (x.Week+1) then 0 else if fdE b x.Home x.Week n≠0 then fdE b x.Home x.Week n else fdE b x.Away x.Week n
def gaV (b:BookS) (n:Int) (x:GameS):GameS:=
 if n<zbq b.League (x.Week+1) then x
 else ⟨x.Week,x.Home,x.Away,true,(ofH (ptV b x.Home x.Week n)).Num,(ofH (ptV b x.Home x.Week n)).Den,(ofH (ptV b x.Away x.Week n)).Num,(ofH (ptV b x.Away x.Week n)).Den⟩
abbrev znh (b:BookS) (n:Int) (l:List GameS):Int:=orI (l.map (gaE b n))
abbrev zeR (b:BookS) (n:Int):List GameS:=b.League.Games.map (gaV b n)
def zeQ (b:BookS) (n:Int):Int:=if znh b n b.League.Games≠0 then znh b n b.League.Games else zc7 b.League.Teams (zeR b n)
def zeK (b:BookS) (n:Int):Int:=if mfE b n≠0 then mfE b n else zeQ b n
def zqe (b:BookS) (n:Int):List GameS:=if zeK b n≠0 then [] else zeR b n
theorem zvb {b:BookS} {n:Int} {l:List GameS} (h: ∀x∈l,gaE b n x=0):znh b n l=0:=by
 induction l with
 |nil=>rfl
 |cons x r ih=>
   show orI (gaE b n x::r.map (gaE b n))=0
   rw [orI,if_neg (fun q=>q (h x Al))];exact ih fun y hy=>h y (Ao _ hy)
theorem zwL {b:BookS} {n:Int} {l:List GameS} {k:Nat} {x:GameS} (hx:l[k]? =some x) (h: ∀y∈l.take k,gaE b n y=0) (hn:gaE b n x≠0):znh b n l=gaE b n x:=by
 have e:l=l.take k++x::l.drop (k+1):=by rw [<-zg hx,A0]
 show orI (l.map (gaE b n))=_
 rw [e,Aq,zcs,if_neg (fun q=>q (zvb h)),Aw,orI,if_pos hn]
theorem zzb {l:List GameS} {b:BookS} {n:Int} {k:Nat} {x:GameS} (hx:l[k]? =some x) (h: ∀y∈l.take k,gaE b n y=0) (h0:gaE b n x=0): ∀y∈l.take (k+1),gaE b n y=0:=by
 rw [zR hx]
 intro y hy
 rcases List.mem_append.1 hy with hy|hy
 exact h y hy;rw [List.mem_singleton.1 hy];exact h0
theorem zxa {b:BookS} {n:Int} (h:znh b n b.League.Games≠0):zeQ b n=znh b n b.League.Games:=by unfold zeQ;rw [if_pos h]
theorem zhV {b:BookS} {n:Int} (h:znh b n b.League.Games=0):zeQ b n=zc7 b.League.Teams (zeR b n):=by unfold zeQ;rw [if_neg (fun q=>q h)]
theorem znt {b:BookS} {n:Int} {k:Nat} {x:GameS} (hx:b.League.Games[k]? =some x) (h: ∀y∈b.League.Games.take k,gaE b n y=0) (hn: ¬n<zbq b.League (x.Week+1)) (h1:fdE b x.Home x.Week n≠0):zeQ b n=fdE b x.Home x.Week n/\zeQ b n≠0:=by
 have q0:gaE b n x=fdE b x.Home x.Week n:=by unfold gaE;rw [if_neg hn,if_pos h1]
 have q1:znh b n b.League.Games=fdE b x.Home x.Week n:=(zwL hx h (by rw [q0];exact h1)).trans q0;have q2:zeQ b n=fdE b x.Home x.Week n:=(zxa (by rw [q1];exact h1)).trans q1;exact ⟨q2,by rw [q2];exact h1⟩
theorem zns {b:BookS} {n:Int} {k:Nat} {x:GameS} (hx:b.League.Games[k]? =some x) (h: ∀y∈b.League.Games.take k,gaE b n y=0) (hn: ¬n<zbq b.League (x.Week+1)) (h0:fdE b x.Home x.Week n=0) (h1:fdE b x.Away x.Week n≠0):zeQ b n=fdE b x.Away x.Week n/\zeQ b n≠0:=by
 have q0:gaE b n x=fdE b x.Away x.Week n:=by unfold gaE;rw [if_neg hn,if_neg (fun q=>q h0)]
 have q1:znh b n b.League.Games=fdE b x.Away x.Week n:=(zwL hx h (by rw [q0];exact h1)).trans q0;have q2:zeQ b n=fdE b x.Away x.Week n:=(zxa (by rw [q1];exact h1)).trans q1;exact ⟨q2,by rw [q2];exact h1⟩
theorem zG5 {b:BookS} {n:Int} {x:GameS} (h:gaE b n x=0) (hn: ¬n<zbq b.League (x.Week+1)):fdE b x.Home x.Week n=0/\fdE b x.Away x.Week n=0:=by
 unfold gaE at h;rw [if_neg hn] at h
 split at h
 rename_i q;exact absurd h q
 rename_i q;exact ⟨Decidable.not_not.1 q,h⟩
def zpn (n d:Int):Prop:=(-1000000000<=n/\n<=1000000000)/\ -1000000000<=d/\d<=1000000000
theorem zzB {n:Int} (h: -24000000<=n/\n<=24000000):zpn (ofH n).Num (ofH n).Den:=by
 have:=zrF h;unfold zpn;omega
theorem zG4 {b:BookS} (hb:BookC b) (hw:BookW b) {n:Int} {x:GameS} (hx:x∈b.League.Games) (h:gaE b n x=0):zpn (gaV b n x).FNum (gaV b n x).FDen/\zpn (gaV b n x).ONum (gaV b n x).ODen:=by
 unfold gaV
 split
 have:=hb.bb.lea.gb x hx;exact this
 rename_i q
 obtain ⟨h1,h2⟩:=zG5 h q;exact ⟨zzB (zCq hw h1),zzB (zCq hw h2)⟩
theorem zvM {b:BookS} (hb:BookC b) (hw:BookW b) {n:Int} (h: ∀x∈b.League.Games,gaE b n x=0): ∀y∈zeR b n,zpn y.FNum y.FDen/\zpn y.ONum y.ODen:=by
 intro y hy
 obtain ⟨x,hx,rfl⟩:=List.mem_map.1 hy;exact zG4 hb hw hx (h x hx)
/-! games that turned-/
theorem zAr {x:GameS} (hp:x.Played=true) (h:zgr x=0):zbA x.FNum x.FDen 1000000=0/\zbA x.ONum x.ODen 1000000=0:=by
 unfold zgr at h;rw [if_neg (by rw [hp];simp)] at h
 split at h
 cases h
 have:=zf7 h;exact ⟨this _ (by simp),this _ (by simp)⟩
theorem zCj {b:BookS} {n:Int} (h:mfE b n=0):zdt b=0/\zac n=true:=by
 unfold mfE at h
 by_cases h1:zdt b≠0
 rw [if_pos h1] at h;exact absurd h h1;rw [if_neg h1] at h;refine ⟨Decidable.not_not.1 h1,?_⟩
 cases hm:zac n with
 |true=>rfl
 |false=>rw [hm] at h;cases h
theorem zCh {b:BookS} (hX:BookX b) (hb:BookC b) {w:Int} (hwk:za4 w=true) (n:Int): ∀x∈wlL b w n,zlk x:=by
 have h1:=zkS b.Mends w;have h2:=hb.l2;have h3:=hb.l3;have h:=(zqz (t:=b.League.Trust) (m:=zgx b.Mends w) (week:=w) (n:=n) (ziW hX.pl) h2 (by omega) hwk (zpa (week:=w) hX.me)).1;exact fun x hx=>(zwU h hx).sb
theorem zCR {b:BookS} {n:Int} {l:List GameS} {k:Nat} {x:GameS} (hx:l[k]? =some x) (h:gaV b n x=x):(l.take (k+1)).map (gaV b n)++l.drop (k+1)=(l.take k).map (gaV b n)++l.drop k:=by
 rw [zR hx,Aq,zg hx];simp [h]
theorem zD3 {b:BookS} {n:Int} {l:List GameS} {k:Nat} {x y:GameS} (hx:l[k]? =some x) (h:gaV b n x=y):(((l.take k).map (gaV b n)++l.drop k).map zam).set k (zam y)=((l.take (k+1)).map (gaV b n)++l.drop (k+1)).map zam:=by
 have hl:=zm hx;rw [zR hx,Aq,zg hx,<-h];have e:((l.take k).map (gaV b n)).length=k:=by rw [Af,Am];omega
 rw [Aq,BC _ _ (by rw [Af];omega),Af,e,BB]
 simp
end
section
open Go Op
structure SideS where
 Other:Str
 Won:Int
 Own:Int
 Oth:Int
abbrev zlr (x:SideS):HVal:= .agg [.str x.Other,.int .i64 x.Won,.int .i64 x.Own,.int .i64 x.Oth]
abbrev zre (l:List SideS):HVal:= .slice 4 (l.map zlr)
structure StandS where
 Rank:Int
 Team:Str
 Wins:Int
 Draws:Int
 Lost:Int
 Points:Int
 FNum:Int
 FDen:Int
 ANum:Int
 ADen:Int
deriving DecidableEq
abbrev zS (x:StandS):HVal:= .agg [.int .i64 x.Rank,.str x.Team,.int .i64 x.Wins,.int .i64 x.Draws,.int .i64 x.Lost,.int .i64 x.Points,.int .i64 x.FNum,.int .i64 x.FDen,.int .i64 x.ANum,.int .i64 x.ADen]
abbrev zc4 (l:List StandS):HVal:= .slice 10 (l.map zS)
def zEC:StandS:=⟨0,[],0,0,0,0,0,0,0,0⟩
/-! the games of a team-/
def znc (x:GameS):Int:=1+zab (zaJ x.FNum x.FDen) (zaJ x.ONum x.ODen)
def zjy (t:Str) (x:GameS):Option SideS:=
 if x.Played=false then none
 else if t=x.Home then some ⟨x.Away,znc x,zaJ x.FNum x.FDen,zaJ x.ONum x.ODen⟩
 else if t=x.Away then some ⟨x.Home,2-znc x,zaJ x.ONum x.ODen,zaJ x.FNum x.FDen⟩ else none
def zaX (g:List GameS) (t:Str):List SideS:=g.filterMap (zjy t)
def zxm (x:GameS):Prop:=x.Played=true->((1<=x.FDen/\x.FDen<=100)/\ -100000000<=zaJ x.FNum x.FDen/\zaJ x.FNum x.FDen<=100000000)/\(1<=x.ODen/\x.ODen<=100)/\ -100000000<=zaJ x.ONum x.ODen/\zaJ x.ONum x.ODen<=100000000
structure SideB (x:SideS):Prop where
 won:0<=x.Won/\x.Won<=2
 own: -100000000<=x.Own/\x.Own<=100000000
 oth: -100000000<=x.Oth/\x.Oth<=100000000
theorem zps (a b:Int): -1<=zab a b/\zab a b<=1:=by unfold zab;split<;>(try split)<;>omega
theorem zCs {g:List GameS} (hg: ∀x∈g,zxm x) (t:Str): ∀y∈zaX g t,SideB y:=by
 intro y hy
 obtain ⟨x,hx,he⟩:=List.mem_filterMap.1 hy;unfold zjy at he
 split at he
 cases he
 rename_i h1
 have hp:=hg x hx (by simpa using h1);have hc:=zps (zaJ x.FNum x.FDen) (zaJ x.ONum x.ODen)
 split at he
 cases he
 exact ⟨by unfold znc;dsimp only;omega,hp.1.2,hp.2.2⟩
 split at he
 cases he
 exact ⟨by unfold znc;dsimp only;omega,hp.2.2,hp.1.2⟩
 cases he
theorem zpE (g:List GameS) (t:Str):(zaX g t).length<=g.length:=List.length_filterMap_le _ _
theorem znx {g:List GameS} {t:Str} {k:Nat} {x:GameS} (h:g[k]? =some x):zaX (g.take (k+1)) t=zaX (g.take k) t++(zjy t x).toList:=by
 unfold zaX;rw [zR h,List.filterMap_append]
 cases e:zjy t x<;>simp [e]
/-! standings-/
structure TalS where
 w:Int
 d:Int
 l:Int
 p:Int
 own:Int
 oth:Int
def zgU (a:TalS) (x:SideS):TalS:=
 ⟨if x.Won=2 then a.w+1 else a.w,if x.Won=1 then a.d+1 else a.d,if x.Won=2 then a.l else if x.Won=1 then a.l else a.l+1,a.p+x.Won,a.own+x.Own,a.oth+x.Oth⟩
def zeq (l:List SideS):TalS:=l.foldl zgU ⟨0,0,0,0,0,0⟩
theorem znA {l:List SideS} {k:Nat} {x:SideS} (h:l[k]? =some x):zeq (l.take (k+1))=zgU (zeq (l.take k)) x:=by
 unfold zeq;rw [zR h,A2];rfl
structure TalB (n:Int) (a:TalS):Prop where
 w:0<=a.w/\a.w<=n
 d:0<=a.d/\a.d<=n
 l:0<=a.l/\a.l<=n
 p:0<=a.p/\a.p<=2*n
 own: -(100000000*n)<=a.own/\a.own<=100000000*n
 oth: -(100000000*n)<=a.oth/\a.oth<=100000000*n
theorem zv0 {l:List SideS} (hl: ∀x∈l,SideB x):TalB l.length (zeq l):=by
 have key: ∀k,k<=l.length->TalB k (zeq (l.take k)):=by
  intro k
  induction k with
  |zero=>intro _;rw [B6];exact ⟨by decide,by decide,by decide,by decide,by decide,by decide⟩
  |succ k ih=>
    intro hk
    have hx:l[k]? =some (l[k]'(by omega)):=Aa (by omega);have hb:=hl _ (Ab hx);obtain ⟨h1,h2,h3,h4,h5,h6⟩:=ih (by omega);have b1:=hb.won;have b2:=hb.own;have b3:=hb.oth;rw [znA hx];unfold zgU;refine ⟨?_,?_,?_,?_,?_,?_⟩<;>dsimp only<;>(repeat' split)<;>omega
 have:=key l.length (Ae _)
 rwa [Ai] at this
def zpj (g:List GameS) (t:Str):StandS:=
 ⟨0,t,(zeq (zaX g t)).w,(zeq (zaX g t)).d,(zeq (zaX g t)).l,(zeq (zaX g t)).p,(ofH (zeq (zaX g t)).own).Num,(ofH (zeq (zaX g t)).own).Den,(ofH (zeq (zaX g t)).oth).Num,(ofH (zeq (zaX g t)).oth).Den⟩
structure StdB (x:StandS):Prop where
 f:(1<=x.FDen/\x.FDen<=100)/\ -1000000000000<=zaJ x.FNum x.FDen/\zaJ x.FNum x.FDen<=1000000000000
 a:(1<=x.ADen/\x.ADen<=100)/\ -1000000000000<=zaJ x.ANum x.ADen/\zaJ x.ANum x.ADen<=1000000000000
 w:0<=x.Wins/\x.Wins<=1000000
 p:0<=x.Points/\x.Points<=1000000
theorem zHr {g:List GameS} (hg: ∀x∈g,zxm x) (hl:g.length<=1000) (t:Str):StdB (zpj g t):=by
 have h:=zv0 (zCs hg t);have hn:=zpE g t;obtain ⟨h1,h2,h3,h4,h5,h6⟩:=h;have a1:=zrF (n:=(zeq (zaX g t)).own) (B:=1000000000000) (by omega);have a2:=zrF (n:=(zeq (zaX g t)).oth) (B:=1000000000000) (by omega);refine ⟨⟨a1.1,?_⟩,⟨a2.1,?_⟩,?_,?_⟩
 show-1000000000000<=zaJ (ofH _).Num (ofH _).Den/\zaJ (ofH _).Num (ofH _).Den<=1000000000000
 rw [zwZ];omega
 show-1000000000000<=zaJ (ofH _).Num (ofH _).Den/\zaJ (ofH _).Num (ofH _).Den<=1000000000000
 rw [zwZ];omega
 show 0<=(zeq (zaX g t)).w/\(zeq (zaX g t)).w<=1000000;omega
 show 0<=(zeq (zaX g t)).p/\(zeq (zaX g t)).p<=1000000;omega
/-! tie-breaks-/
def zeh (by':Int) (l:List SideS):List SideS:=if by'=5 then l.drop (l.length-3) else l
def zv6 (by':Int) (G:List StandS) (x:SideS):Int:=if by'=5\/G.any (fun y=>y.Team==x.Other)=true then x.Won else 0
def zqJ (by':Int) (G:List StandS) (l:List SideS):Int:=(l.map (zv6 by' G)).sum
def znH (g:List GameS) (G:List StandS) (by':Int) (s:StandS):Int:=
 if by'=2 then zaJ s.FNum s.FDen else if by'=3 then zaJ s.FNum s.FDen-zaJ s.ANum s.ADen else if by'=4 then s.Wins else zqJ by' G (zeh by' (zaX g s.Team))
def zbI (f:StandS->Int) (G:List StandS):List Int:=G.foldl (fun N s=>if N.contains (f s) then N else N++[f s]) []
def zfB (N:List Int):List Int:=zQ (fun a b=>zab b a) N
def zvy (rk:List StandS->Int->List StandS) (f:StandS->Int) (G:List StandS) (first:Int):List StandS:=
 (zfB (zbI f G)).foldl (fun out n=>out++rk (G.filter fun s=>decide (f s=n)) (first+out.length)) []
def zh1 (a b:StandS):Int:=zZ a.Team b.Team
def rkA (G:List StandS) (first:Int):List StandS:=(zQ zh1 G).map fun s=>{s with Rank:=first}
def rkT (g:List GameS):List Int->List StandS->Int->List StandS
 |[],G,first=>rkA G first
 |b::bs,G,first=>if G.length=1 then rkA G first else zvy (rkT g bs) (znH g G b) G first
def tabV (T:List Str) (g:List GameS) (B:List Int):List StandS:=zvy (rkT g B) (fun s=>s.Points) (T.map (zpj g)) 1
end
section
open Go Op
abbrev GrT:=zgX Int StandS
structure PartG (f:StandS->Int) (l:List StandS) (G:GrT):Prop where
 nd:ANodup G
 ls: ∀n,gLK n G=l.filter fun s=>decide (f s=n)
 ne: ∀n v,alk n G=some v->v.2≠[]
theorem zCP {n s:Int} {v:Value} {l:List StandS} {G:GrT}:gLK n (zz s (v,l) G)=if n=s then l else gLK n G:=by
 unfold gLK;rw [zc1];split<;>rfl
theorem zA3 (f:StandS->Int):PartG f [] []:=⟨ANodup.nil,fun _=>rfl,fun _ _ h=>by cases h⟩
theorem zA4 {f:StandS->Int} {l:List StandS} {G:GrT} {k:Nat} {x:StandS} (h:PartG f (l.take k) G) (hx:l[k]? =some x) (v:Value):PartG f (l.take (k+1)) (zz (f x) (v,gLK (f x) G++[x]) G):=by
 refine ⟨h.nd.put,fun n=> ?_,fun n w hw=> ?_⟩
 rw [zCP,zR hx,Bq]
 by_cases e:n=f x
 rw [if_pos e,h.ls,<-e];simp [e];rw [if_neg e,h.ls];have e2: ¬f x=n:=fun q=>e q.symm
 simp [e2]
 rw [zc1] at hw
 split at hw
 cases hw;simp
 exact h.ne n w hw
theorem zze {A:List MObj} {G:GrT} {s:Int} {v:Value} {l:List StandS} {x:StandS} (hn:ANodup G):(.arr v 10 (l.map zS++[zS x])::(A++zd8 10 zS (G.filter fun q=>decide (q.1≠s)))).Perm (A++zd8 10 zS (zz s (v,l++[x]) G)):=by
 have q:=zqw (sz:=10) (e:=zS) (A:=A) (s:=s) (v:=v) (l:=l++[x]) hn;rw [Aq] at q;exact q
theorem zDn {f:StandS->Int} {l:List StandS} {G:GrT} (h:PartG f l G) {n:Int} (hn:gLK n G=[]):gVK n G= .slice none 0 0:=by
 unfold gLK at hn;unfold gVK
 cases e:alk n G with
 |none=>rfl
 |some q=>rw [e] at hn;exact absurd hn (h.ne n q e)
theorem zlA {f:StandS->Int} {l:List StandS} {k:Nat} {x:StandS} (h:l[k]? =some x):zbI f (l.take (k+1))=if (zbI f (l.take k)).contains (f x) then zbI f (l.take k) else zbI f (l.take k)++[f x]:=by
 unfold zbI;rw [zR h,A2];rfl
theorem zAV {f:StandS->Int} (l:List StandS) (n:Int):n∈zbI f l↔∃s∈l,f s=n:=by
 have key: ∀k,k<=l.length->(n∈zbI f (l.take k)↔∃s∈l.take k,f s=n):=by
  intro k
  induction k with
  |zero=>intro _;simp [zbI]
  |succ k ih=>
    intro hk
    have hx:l[k]? =some (l[k]'(by omega)):=Aa (by omega);rw [zlA hx,zR hx]
    generalize l[k]'(by omega)=x
    have ih:=ih (by omega)
    split
    rename_i q
    have q:f x∈zbI f (l.take k):=by simpa using q
    rw [ih]
    constructor
    rintro ⟨s,h1,h2⟩;exact ⟨s,An _ h1,h2⟩;rintro ⟨s,h1,h2⟩
    rcases List.mem_append.1 h1 with h1|h1
    exact ⟨s,h1,h2⟩;rw [List.mem_singleton.1 h1] at h2;rw [h2] at q;exact ih.1 q;rw [Cg,ih,List.mem_singleton]
    constructor
    rintro (⟨s,h1,h2⟩|h);exact ⟨s,An _ h1,h2⟩;exact ⟨x,by simp,h.symm⟩;rintro ⟨s,h1,h2⟩
    rcases List.mem_append.1 h1 with h1|h1
    exact .inl ⟨s,h1,h2⟩;rw [List.mem_singleton.1 h1] at h2;exact .inr h2.symm
 have:=key l.length (Ae _)
 rwa [Ai] at this
theorem zjU (f:StandS->Int) (l:List StandS):(zbI f l).Nodup/\(zbI f l).length<=l.length:=by
 have key: ∀k,k<=l.length->(zbI f (l.take k)).Nodup/\(zbI f (l.take k)).length<=k:=by
  intro k
  induction k with
  |zero=>intro _;exact ⟨Bz,Ad _⟩
  |succ k ih=>
    intro hk
    have hx:l[k]? =some (l[k]'(by omega)):=Aa (by omega);rw [zlA hx];obtain ⟨h1,h2⟩:=ih (by omega)
    split
    exact ⟨h1,by omega⟩
    rename_i q
    refine ⟨?_,by rw [Ax,B5];omega⟩
    rw [List.nodup_append];refine ⟨h1,by simp,fun a ha b hb e=>q ?_⟩
    rw [List.mem_singleton.1 hb] at e;rw [e] at ha
    simpa using ha
 have:=key l.length (Ae _)
 rwa [Ai] at this
theorem zA2 {f:StandS->Int} {l:List StandS} {G:GrT} (h:PartG f l G) (n:Int):(gLK n G).isEmpty= !((zbI f l).contains n):=by
 rw [h.ls,AF];simp only [List.isEmpty_iff,Cp,decide_eq_true_eq,BY,BJ,decide_eq_false_iff_not,zAV]
 constructor
 rintro q ⟨s,h1,h2⟩;exact q s h1 h2
 intro q s h1 h2;exact q ⟨s,h1,h2⟩
theorem zvA {f:StandS->Int} {l:List StandS} {G:GrT} (h:PartG f l G) (n:Int):(gLK n G).length<=l.length:=by rw [h.ls];exact AV _ _
/-! parts in order-/
def zju (rk:List StandS->Int->List StandS) (f:StandS->Int) (G:List StandS) (first:Int) (N:List Int):List StandS:=
 N.foldl (fun out n=>out++rk (G.filter fun s=>decide (f s=n)) (first+out.length)) []
theorem zvx {rk:List StandS->Int->List StandS} {f:StandS->Int} {G:List StandS} {first:Int} {N:List Int} {k:Nat} {n:Int} (h:N[k]? =some n):
 zju rk f G first (N.take (k+1))=zju rk f G first (N.take k)++rk (G.filter fun s=>decide (f s=n)) (first+(zju rk f G first (N.take k)).length):=by
 unfold zju;rw [zR h,A2];rfl
theorem ztG (N:List Int):(zfB N).Perm N:=zbh _ N
theorem zrV {N:List Int} (h:N.Nodup):(zfB N).Nodup:=(ztG N).nodup_iff.2 h
theorem zCM {G:List StandS} {p q r:StandS->Bool} (h: ∀s,r s=(p s||q s)) (hd: ∀s,¬(p s=true/\q s=true)):(G.filter r).length=(G.filter p).length+(G.filter q).length:=by
 induction G with
 |nil=>rfl
 |cons s G ih=>
   have h1:=hd s;simp only [AT,h]
   cases e1:p s<;>cases e2:q s<;>simp_all<;>omega
theorem zvt {N:List Int} (hN:N.Nodup) {k:Nat} {n:Int} (h:N[k]? =some n):n∉N.take k:=fun q=>by
 obtain ⟨i,hi⟩:=Bd q;have hl:=zm hi;rw [Am] at hl;rw [Ba,if_pos (by omega)] at hi;have h1:=(List.getElem?_inj (by omega) hN).1 (hi.trans h.symm)
 omega
theorem zDl {rk:List StandS->Int->List StandS} (hrk: ∀G n,(rk G n).length<=G.length) {f:StandS->Int} {G:List StandS} {first:Int} {N:List Int} (hN:N.Nodup) (k:Nat) (hk:k<=N.length):(zju rk f G first (N.take k)).length<=(G.filter fun s=>decide (f s∈N.take k)).length:=by
 induction k with
 |zero=>exact Ad _
 |succ k ih=>
   have hx:N[k]? =some (N[k]'(by omega)):=Aa (by omega);have ih:=ih (by omega);have hn:=zvt hN hx;rw [zvx hx,Ax];have h1:=hrk (G.filter fun s=>decide (f s=N[k]'(by omega))) (first+(zju rk f G first (N.take k)).length);have h2:=zCM (G:=G) (p:=fun s=>decide (f s∈N.take k)) (q:=fun s=>decide (f s=N[k]'(by omega))) (r:=fun s=>decide (f s∈N.take (k+1))) (fun s=>by rw [AF,Bk,decide_eq_true_eq,decide_eq_true_eq,decide_eq_true_eq,zR hx,Cg,List.mem_singleton]) (fun s ⟨a,c⟩=>by
    have c:f s=N[k]'(by omega):=by simpa using c
    have a:f s∈N.take k:=by simpa using a
    rw [c] at a;exact hn a)
   omega
theorem zzD {rk:List StandS->Int->List StandS} (hrk: ∀G n,(rk G n).length<=G.length) {f:StandS->Int} {G:List StandS} {first:Int} {N:List Int} (hN:N.Nodup) (k:Nat) (hk:k<=N.length):(zju rk f G first (N.take k)).length<=G.length:=
 Ar (zDl hrk hN k hk) (AV _ _)
theorem zxb (G:List StandS) (first:Int):(rkA G first).length=G.length:=by unfold rkA;rw [Af,zaw]
theorem zvz {rk:List StandS->Int->List StandS} (hrk: ∀G n,(rk G n).length<=G.length) (f:StandS->Int) (G:List StandS) (first:Int):(zvy rk f G first).length<=G.length:=by
 have hN:=zrV (zjU f G).1;have:=zzD hrk (f:=f) (G:=G) (first:=first) hN (zfB (zbI f G)).length (Ae _)
 rwa [Ai] at this
theorem zsM (g:List GameS): ∀(bs:List Int) (G:List StandS) (n:Int),(rkT g bs G n).length<=G.length
 |[],G,n=>Bv (zxb G n)
 |b::bs,G,n=>by
   unfold rkT
   split
   exact Bv (zxb G n);exact zvz (zsM g bs) _ _ _
theorem zvN {g:List GameS} {bs:List Int} {G:List StandS} {n:Int} (h:bs=[]\/G.length=1):rkT g bs G n=rkA G n:=by
 cases bs with
 |nil=>rfl
 |cons b r=>
   unfold rkT
   rcases h with h|h
   cases h
   rw [if_pos h]
theorem zvO {g:List GameS} {b:Int} {bs:List Int} {G:List StandS} {n:Int} (h: ¬G.length=1):rkT g (b::bs) G n=zvy (rkT g bs) (znH g G b) G n:=by
 conv=>lhs;unfold rkT
 rw [if_neg h]
/-! ranks given one after the other-/
def zjx (n:Int) (s:StandS):StandS:={s with Rank:=n}
theorem zxc (G:List StandS) (n:Int):rkA G n=(zQ zh1 G).map (zjx n):=rfl
theorem zDE {l:List StandS} {n:Int}:((l.take 0).map (zjx n)++l.drop 0).map zS=l.map zS:=by simp
theorem zzM {l:List StandS} {n:Int}:(l.take l.length).map (zjx n)++l.drop l.length=l.map (zjx n):=by simp
theorem zEu {l:List StandS} {n:Int} {k:Nat} {x:StandS} (hx:l[k]? =some x):(((l.take k).map (zjx n)++l.drop k).map zS).set k (zS (zjx n x))=((l.take (k+1)).map (zjx n)++l.drop (k+1)).map zS:=by
 have hl:=zm hx;rw [zR hx,Aq,zg hx];have e:((l.take k).map (zjx n)).length=k:=by rw [Af,Am];omega
 rw [Aq,BC _ _ (by rw [Af];omega),Af,e,BB]
 simp
theorem zEt {l:List StandS} {n:Int} {k:Nat} {x:StandS} (hx:l[k]? =some x):((l.take k).map (zjx n)++l.drop k)[k]? =some x:=by
 have hl:=zm hx;rw [Ap (by rw [Af,Am];omega),Af,Am,BF (by omega),BB,zg hx];rfl
/-! what a break is worth-/
theorem zqK {by':Int} {G:List StandS} {l:List SideS} {k:Nat} {x:SideS} (h:l[k]? =some x):zqJ by' G (l.take (k+1))=zqJ by' G (l.take k)+zv6 by' G x:=by
 unfold zqJ;rw [zR h,Aq];simp
theorem zEF {by':Int} {G:List StandS} {l:List SideS} (h: ∀x∈l,SideB x) (k:Nat) (hk:k<=l.length):0<=zqJ by' G (l.take k)/\zqJ by' G (l.take k)<=2*k:=by
 induction k with
 |zero=>rw [B6];exact ⟨Int.le_refl _,Int.le_refl _⟩
 |succ k ih=>
   have hx:l[k]? =some (l[k]'(by omega)):=Aa (by omega);have hb:=(h _ (Ab hx)).won;have ih:=ih (by omega);rw [zqK hx];unfold zv6
   split<;>omega
theorem zEc {by':Int} {l:List SideS} (h: ∀x∈l,SideB x): ∀x∈zeh by' l,SideB x:=by
 intro x hx
 unfold zeh at hx
 split at hx
 exact h x (Cw hx);exact h x hx
theorem zAK (by':Int) (l:List SideS):(zeh by' l).length<=l.length:=by
 unfold zeh;split;rw [A5];omega;exact Ae _
structure GamsP (g:List GameS):Prop where
 len:g.length<=1000
 ok: ∀x∈g,zxm x
theorem zzT {g:List GameS} (h:GamsP g) (t:Str):(∀y∈zaX g t,SideB y)/\(zaX g t).length<=1000:=⟨zCs h.ok t,Ar (zpE g t) h.len⟩
/-! tables of leagues-/
abbrev zr5 (T:List Str) (g:List GameS) (B:List Int):Int:=orI [zc7 T g,zd0 B]
def zkg (T:List Str) (g:List GameS) (B:List Int):List StandS:=if zr5 T g B≠0 then [] else tabV T g B
theorem zAt {T:List Str} {g:List GameS} (h1:zc7 T g=0):zen 1000 (zcd T) zeg g=0:=by
 unfold zc7 at h1
 split at h1
 rename_i q;exact absurd h1 q
 unfold zd7 at h1
 split at h1
 rename_i q;exact absurd h1 q
 rename_i q
 exact Decidable.not_not.1 q
theorem zD1 {T:List Str} {g:List GameS} (h:zc7 T g=0):GamsP g:=by
 obtain ⟨h2,h3⟩:=zfS (zAt h);refine ⟨h2,fun x hx hp=> ?_⟩
 obtain ⟨i,hi,e⟩:=AS hx;have h4:=h3 i _ (Aa hi);rw [e] at h4;unfold zcd at h4
 split at h4
 cases h4
 split at h4
 cases h4
 split at h4
 cases h4
 split at h4
 rename_i q;exact absurd h4 q
 rename_i q
 have h5:zgr x=0:=Decidable.not_not.1 q;have h6:=zAr hp h5;have h7:=zj5 h6.1 (by decide);have h8:=zj5 h6.2 (by decide);exact ⟨⟨h7.1,h7.2.2⟩,h8.1,h8.2.2⟩
theorem zDK {g:List GameS} (h:GamsP g) (T:List Str): ∀s∈T.map (zpj g),StdB s:=by
 intro s hs
 obtain ⟨t,_,rfl⟩:=List.mem_map.1 hs;exact zHr h.ok h.len t
def zuG (b:BookS) (n:Int):Int:=if zeK b n≠0 then zeK b n else zr5 b.League.Teams (zeR b n) b.League.Breaks
def zuH (b:BookS) (n:Int):List StandS:=if zeK b n≠0 then [] else zkg b.League.Teams (zeR b n) b.League.Breaks
end
end Go.HL
namespace Go.Proofs.YtnfmbjchkjijpaaGreatDoor
set_option maxRecDepth 100000
set_option linter.unusedVariables false
set_option linter.unusedSimpArgs false
section
open Go.Proofs.Tryz
open Go.HL
theorem ok3 [Tracks]:KeyOk prog 3 (fun x:Int=>HVal.int .i64 x):=zzl ty3
theorem ze5 [Tracks] {l:List StandS} {v:Value} {fid:FuncId} {caps:List HVal} {c:StandS->StandS->Int} {n:Int} (hca:Callable prog fid) (hp: ∀x y,ConP prog fid ([zS x,zS y]++caps) (.int .i64 (c x y))) (hn:n=l.length) (hl:l.length<=1000000):Con prog 345 [.raw v,.int .i64 0,.int .i64 n,.fn (.func fid) [] caps] [.arr v 10 (l.map zS)] (fun x M'=>x= .tup []/\M'=[.arr v 10 ((zQ c l).map zS)]):=by
 subst hn;refine uOb func345 ntmps345 ?_;refine gz6 ?_;refine uV1 [8,2,12,41] (fun (k:Nat)=>[(8,.int .i64 (k:Int))]) (fun (k:Nat)=>[.arr v 10 ((zQ c (l.take k)++l.drop k).map zS)]) (fun (k:Nat)=>1<=k) (fun (k:Nat)=>l.length-k) (1) ?_ ?_ ?_ ?_;exact Ae _;exact ⟨rfl,trivial⟩;exact zk (by rw [zhe])
 intro k hk
 refine gz6 ?_;refine uCo (fun h1=> ?_) fun h2=> ?_
 obtain ⟨x,hx⟩: ∃x,l[k]? =some x:=⟨_,Aa uO⟩
 refine zbV (i:=0) rfl (fun h0 he=> ?_) (fun b off cap hv hcap=> ?_)
 exfalso;have:=congrArg List.length he;simp [zaw] at this;omega
 rw [show ((zQ c (l.take k)++l.drop k).map zS).length=l.length by simp [zaw];omega] at hv;subst hv;refine gz9 ?_;refine uV2 [9,1,18,35] (fun (A:List StandS) (B:List StandS)=>[(9,.int .i64 (A.length:Int))]) (fun (A:List StandS) (B:List StandS)=>[.arr (.slice (some ⟨b,off,none⟩) l.length cap) 10 ((A++x::(B++l.drop (k+1))).map zS)]) (fun (A:List StandS) (B:List StandS)=>A.length+B.length=k/\zcY c x (zQ c (l.take k))=zcY c x A++B) (fun (A:List StandS) (B:List StandS)=>A.length) (zQ c (l.take k)) ([]) ?_ ?_ ?_ ?_;exact ⟨by simp [zaw];omega,by simp⟩;exact ⟨zP (by simp [zaw];omega),trivial⟩;exact zk (by rw [zg hx];rfl)
 intro A B hinv
 obtain ⟨hA,hB⟩:=hinv;have hlA:A.length<l.length:=by omega
 have hll:((A++x::(B++l.drop (k+1)))).length=l.length:=by simp;omega
 refine gz1 ?_;refine zbb (fun M=>M=[.arr (.slice (some ⟨b,off,none⟩) l.length cap) 10 ((A++x::(B++l.drop (k+1))).map zS)]) [8,13] mixed ?_;refine gz7 ?_;refine ahg 7 rfl rfl (by kernel_rfl) (by kernel_rfl) rfl (fun hc=>by
  have hq:0<A.length:=by simpa using hc
  exact ⟨_,OpenTo.upd (t:=24) rfl uC (OpenTo.upd (t:=23) rfl uC (OpenTo.refl _)),zv (j:=A.length) zcp zcq rfl rfl (by rfl) uO⟩) ?_
 refine zkj 8 rfl rfl (by kernel_rfl) (by kernel_rfl) (by simp) rfl rfl (fun hc=>⟨_,OpenTo.upd (t:=25) rfl uC (OpenTo.refl _),fun M hM=>by
  subst hM;exact z6 (i:=0) (j:=A.length) zcq rfl rfl rfl zc8 rfl rfl rfl ⟨rfl,rfl⟩
  ⟩) ?_
 refine gz2 ?_;refine ahg 11 rfl rfl (by kernel_rfl) (by kernel_rfl) rfl (fun hc=>by
  have hq:0<A.length:=by simpa using hc
  exact ⟨_,OpenTo.upd (t:=28) rfl uC (OpenTo.refl _),zeH rfl rfl uO uO⟩) ?_
 refine ahg 12 rfl rfl (by kernel_rfl) (by kernel_rfl) rfl (fun hc=>by
  have hq:0<A.length:=by simpa using hc
  exact ⟨_,OpenTo.upd (t:=29) rfl uC (OpenTo.upd (t:=27) rfl uC (OpenTo.refl _)),zv (j:=A.length-1) zcp zcq rfl rfl uO uO⟩) ?_
 refine zkj 13 rfl rfl (by kernel_rfl) (by kernel_rfl) (by simp) rfl rfl (fun hc=>⟨_,OpenTo.upd (t:=30) rfl uC (OpenTo.refl _),fun M hM=>by
  have hq:0<A.length:=by simpa using hc
  subst hM;exact z6 (i:=0) (j:=A.length-1) zcq rfl rfl rfl (zcL hq) rfl rfl rfl ⟨rfl,rfl⟩
  ⟩) ?_
 refine uGy 14 rfl rfl (fun hc=>zag hca rfl rfl (WeakL.refl _) (hp _ _)) ?_;refine gz3 ?_;refine uCo (fun h3=> ?_) fun h4=> ?_
 obtain ⟨hA0,hcx⟩:=h3;obtain ⟨A1,y,rfl⟩:=zkd hA0;rw [zdp] at hcx;refine gz4 ?_;refine zba (fun M=>M=[.arr (.slice (some ⟨b,off,none⟩) l.length cap) 10 (((A1++[y])++x::(B++l.drop (k+1))).map zS)]) [9,13] mixed ?_;refine gz8 ?_;refine uB 8 rfl (zv (j:=(A1++[y]).length-1) zcp zcq rfl rfl uO uO) ?_;refine uM 9 rfl rfl (uW (z6 (i:=0) (j:=(A1++[y]).length-1) zcq rfl rfl rfl ((zcL hA0).trans (by rw [zdp])) rfl rfl rfl ⟨rfl,rfl⟩)) ?_;refine gz2 ?_;refine uB 12 rfl (zv (j:=(A1++[y]).length) zcp zcq rfl rfl rfl uO) ?_;refine uM 13 rfl rfl (uW (z6 (i:=0) (j:=(A1++[y]).length) zcq rfl rfl rfl zc8 rfl rfl rfl ⟨rfl,rfl⟩)) ?_;refine uB 14 rfl (zv (j:=(A1++[y]).length) zcp zcq rfl rfl rfl uO) ?_;refine uF 15 ?_;refine zy (zaH (i:=0) (j:=(A1++[y]).length) (y:=x) (y':=y) zcq rfl rfl rfl rfl zc8 rfl rfl rfl ?_)
 refine ⟨uE,?_⟩
 refine uB 16 rfl (zv (j:=(A1++[y]).length-1) zcp zcq rfl rfl uO uO) ?_;refine uF 17 ?_;refine zy (zaH (i:=0) (j:=(A1++[y]).length-1) (y:=y) (y':=x) zcq rfl rfl rfl rfl (by rw [A3 (by simp)];exact (zcL hA0).trans (by rw [zdp])) rfl rfl rfl ?_)
 refine ⟨uE,?_⟩
 refine gz8 ?_;exact ⟨A1,y::B,⟨by simp at hA⊢;omega,zkP hB hcx⟩,by dsimp only;simp,⟨zP (by simp),trivial⟩,uK,zk (by rw [zkY];rfl)⟩;have hins:=zkO (l:=l) (k:=k) hx hB (by intro h0;have:=h4 h0;omega);refine gz2 ?_;refine zI ?_;refine gz8 ?_;refine ⟨k+1,?_,?_,⟨rfl,trivial⟩,uK,zk (by rw [hins])⟩
 omega
 dsimp only;omega
 have hend:zQ c (l.take k)++l.drop k=zQ c l:=by rw [A4 uO,zC uO];simp
 refine gz2 ?_;refine zu ?_;refine gz1 ?_;exact ⟨_,_,Ghost.sub (Sub.refl _),_,_,rfl,Weak.refl _,rfl,by rw [hend]⟩
theorem zbf [Tracks] {l:List StandS} {v:Value} {fid:FuncId} {caps:List HVal} {c:StandS->StandS->Int} {lim:Int} (hca:Callable prog fid) (hp: ∀x y,ConP prog fid ([zS x,zS y]++caps) (.int .i64 (c x y))) (hl:l.length<=12):Con prog 289 [.raw v,.int .i64 0,.int .i64 (l.length:Int),.int .i64 lim,.fn (.func fid) [] caps] [.arr v 10 (l.map zS)] (fun x M'=>x= .tup []/\M'=[.arr v 10 ((zQ c l).map zS)]):=by
 refine uOb func289 ntmps289 ?_;refine gz7 ?_;refine uU1 [1,3,10,138] (fun (u:Unit)=>[(1,.int .i64 0),(2,.int .i64 (l.length:Int))]) (fun (u:Unit)=>[.arr v 10 (l.map zS)]) (fun (u:Unit)=>True) (fun (u:Unit)=>0) (()) ?_ ?_
 trivial
 intro u hu
 refine zc9 ?_;refine z7 rfl (fun h1=> ?_) (fun h1=> ?_)
 try simp at h1
 refine gz5 ?_;refine de rfl (uCx 0 zGB rfl rfl (ze5 (l:=l) hca hp uO uO) ?_)
 rintro _ _ ⟨rfl,rfl⟩;refine gz2 ?_;exact zah rfl ⟨rfl,rfl⟩
 exfalso
 try simp at h1
 omega
theorem zeU [Tracks] {l:List StandS} {v:Value} {fid:FuncId} {caps:List HVal} {c:StandS->StandS->Int} (hca:Callable prog fid) (hp: ∀x y,ConP prog fid ([zS x,zS y]++caps) (.int .i64 (c x y))) (hl:l.length<=12):Con prog 215 [.raw v,.fn (.func fid) [] caps] [.arr v 10 (l.map zS)] (fun x M'=>x= .tup []/\M'=[.arr v 10 ((zQ c l).map zS)]):=by
 refine uOb func215 ntmps215 ?_;refine gz2 ?_
 focus first
 |refine de rfl (zau (i:=0) zcp rfl rfl ?_)
 |refine de rfl (zau (i:=1) zcp rfl rfl ?_)
 |refine de rfl (zau (i:=2) zcp rfl rfl ?_)
 |refine de rfl (zau (i:=3) zcp rfl rfl ?_)
 refine gz6 ?_;refine dq (zY (zbO ty3 zi1 rfl) (congrArg _ (zsT uO))) ?_;refine de rfl (zaV (M1:=[]) (R:=[_]) zuf rfl (WeakL.refl _) (Ac _) (zkx (x:=l.length) uO) ?_)
 rintro _ _ ⟨n11,rfl,rfl⟩;refine gz1 ?_
 focus first
 |refine de rfl (uCx 0 zuh rfl rfl (zbf hca hp hl) ?_)
 |refine de rfl (uCx 1 zuh rfl rfl (zbf hca hp hl) ?_)
 |refine de rfl (uCx 2 zuh rfl rfl (zbf hca hp hl) ?_)
 |refine de rfl (uCx 3 zuh rfl rfl (zbf hca hp hl) ?_)
 rintro _ _ ⟨rfl,rfl⟩;refine gz1 ?_;exact ⟨_,_,Ghost.sub (Sub.refl _),_,_,rfl,Weak.refl _,rfl,rfl⟩
theorem zg1 [Tracks] {l:List Int} {v:Value} {fid:FuncId} {caps:List HVal} {c:Int->Int->Int} {n:Int} (hca:Callable prog fid) (hp: ∀x y,ConP prog fid ([(HVal.int .i64) x,(HVal.int .i64) y]++caps) (.int .i64 (c x y))) (hn:n=l.length) (hl:l.length<=1000000):Con prog 281 [.raw v,.int .i64 0,.int .i64 n,.fn (.func fid) [] caps] [.arr v 1 (l.map (HVal.int .i64))] (fun x M'=>x= .tup []/\M'=[.arr v 1 ((zQ c l).map (HVal.int .i64))]):=by
 subst hn;refine uOb func281 ntmps281 ?_;refine gz6 ?_;refine uV1 [8,2,12,41] (fun (k:Nat)=>[(8,.int .i64 (k:Int))]) (fun (k:Nat)=>[.arr v 1 ((zQ c (l.take k)++l.drop k).map (HVal.int .i64))]) (fun (k:Nat)=>1<=k) (fun (k:Nat)=>l.length-k) (1) ?_ ?_ ?_ ?_;exact Ae _;exact ⟨rfl,trivial⟩;exact zk (by rw [zhe])
 intro k hk
 refine gz6 ?_;refine uCo (fun h1=> ?_) fun h2=> ?_
 obtain ⟨x,hx⟩: ∃x,l[k]? =some x:=⟨_,Aa uO⟩
 refine zbV (i:=0) rfl (fun h0 he=> ?_) (fun b off cap hv hcap=> ?_)
 exfalso;have:=congrArg List.length he;simp [zaw] at this;omega
 rw [show ((zQ c (l.take k)++l.drop k).map (HVal.int .i64)).length=l.length by simp [zaw];omega] at hv;subst hv;refine gz9 ?_;refine uV2 [9,1,18,35] (fun (A:List Int) (B:List Int)=>[(9,.int .i64 (A.length:Int))]) (fun (A:List Int) (B:List Int)=>[.arr (.slice (some ⟨b,off,none⟩) l.length cap) 1 ((A++x::(B++l.drop (k+1))).map (HVal.int .i64))]) (fun (A:List Int) (B:List Int)=>A.length+B.length=k/\zcY c x (zQ c (l.take k))=zcY c x A++B) (fun (A:List Int) (B:List Int)=>A.length) (zQ c (l.take k)) ([]) ?_ ?_ ?_ ?_;exact ⟨by simp [zaw];omega,by simp⟩;exact ⟨zP (by simp [zaw];omega),trivial⟩;exact zk (by rw [zg hx];rfl)
 intro A B hinv
 obtain ⟨hA,hB⟩:=hinv;have hlA:A.length<l.length:=by omega
 have hll:((A++x::(B++l.drop (k+1)))).length=l.length:=by simp;omega
 refine gz1 ?_;refine zbb (fun M=>M=[.arr (.slice (some ⟨b,off,none⟩) l.length cap) 1 ((A++x::(B++l.drop (k+1))).map (HVal.int .i64))]) [8,13] mixed ?_;refine gz7 ?_;refine ahg 7 rfl rfl (by kernel_rfl) (by kernel_rfl) rfl (fun hc=>by
  have hq:0<A.length:=by simpa using hc
  exact ⟨_,OpenTo.upd (t:=24) rfl uC (OpenTo.upd (t:=23) rfl uC (OpenTo.refl _)),zv (j:=A.length) zX ty3 rfl rfl (by rfl) uO⟩) ?_
 refine zkj 8 rfl rfl (by kernel_rfl) (by kernel_rfl) (by simp) rfl rfl (fun hc=>⟨_,OpenTo.upd (t:=25) rfl uC (OpenTo.refl _),fun M hM=>by
  subst hM;exact zae (i:=0) (j:=A.length) 0 ty3 rfl rfl rfl zc8 rfl rfl ⟨rfl,rfl⟩
  ⟩) ?_
 refine gz2 ?_;refine ahg 11 rfl rfl (by kernel_rfl) (by kernel_rfl) rfl (fun hc=>by
  have hq:0<A.length:=by simpa using hc
  exact ⟨_,OpenTo.upd (t:=28) rfl uC (OpenTo.refl _),zeH rfl rfl uO uO⟩) ?_
 refine ahg 12 rfl rfl (by kernel_rfl) (by kernel_rfl) rfl (fun hc=>by
  have hq:0<A.length:=by simpa using hc
  exact ⟨_,OpenTo.upd (t:=29) rfl uC (OpenTo.upd (t:=27) rfl uC (OpenTo.refl _)),zv (j:=A.length-1) zX ty3 rfl rfl uO uO⟩) ?_
 refine zkj 13 rfl rfl (by kernel_rfl) (by kernel_rfl) (by simp) rfl rfl (fun hc=>⟨_,OpenTo.upd (t:=30) rfl uC (OpenTo.refl _),fun M hM=>by
  have hq:0<A.length:=by simpa using hc
  subst hM;exact zae (i:=0) (j:=A.length-1) 0 ty3 rfl rfl rfl (zcL hq) rfl rfl ⟨rfl,rfl⟩
  ⟩) ?_
 refine uGy 14 rfl rfl (fun hc=>zag hca rfl rfl (WeakL.refl _) (hp _ _)) ?_;refine gz3 ?_;refine uCo (fun h3=> ?_) fun h4=> ?_
 obtain ⟨hA0,hcx⟩:=h3;obtain ⟨A1,y,rfl⟩:=zkd hA0;rw [zdp] at hcx;refine gz4 ?_;refine zba (fun M=>M=[.arr (.slice (some ⟨b,off,none⟩) l.length cap) 1 (((A1++[y])++x::(B++l.drop (k+1))).map (HVal.int .i64))]) [9,13] mixed ?_;refine gz8 ?_;refine uB 8 rfl (zv (j:=(A1++[y]).length-1) zX ty3 rfl rfl uO uO) ?_;refine uM 9 rfl rfl (fun M hM=>by subst hM;exact zae (i:=0) (j:=(A1++[y]).length-1) 0 ty3 rfl rfl rfl ((zcL hA0).trans (by rw [zdp])) rfl rfl ⟨rfl,rfl⟩) ?_;refine gz2 ?_;refine uB 12 rfl (zv (j:=(A1++[y]).length) zX ty3 rfl rfl rfl uO) ?_;refine uM 13 rfl rfl (fun M hM=>by subst hM;exact zae (i:=0) (j:=(A1++[y]).length) 0 ty3 rfl rfl rfl zc8 rfl rfl ⟨rfl,rfl⟩) ?_;refine uB 14 rfl (zv (j:=(A1++[y]).length) zX ty3 rfl rfl rfl uO) ?_;refine uF 15 ?_;refine zy (zaH (i:=0) (j:=(A1++[y]).length) (y:=x) (y':=y) ty3 rfl rfl rfl rfl zc8 rfl rfl rfl ?_)
 refine ⟨uE,?_⟩
 refine uB 16 rfl (zv (j:=(A1++[y]).length-1) zX ty3 rfl rfl uO uO) ?_;refine uF 17 ?_;refine zy (zaH (i:=0) (j:=(A1++[y]).length-1) (y:=y) (y':=x) ty3 rfl rfl rfl rfl (by rw [A3 (by simp)];exact (zcL hA0).trans (by rw [zdp])) rfl rfl rfl ?_)
 refine ⟨uE,?_⟩
 refine gz8 ?_;exact ⟨A1,y::B,⟨by simp at hA⊢;omega,zkP hB hcx⟩,by dsimp only;simp,⟨zP (by simp),trivial⟩,uK,zk (by rw [zkY];rfl)⟩;have hins:=zkO (l:=l) (k:=k) hx hB (by intro h0;have:=h4 h0;omega);refine gz2 ?_;refine zI ?_;refine gz8 ?_;refine ⟨k+1,?_,?_,⟨rfl,trivial⟩,uK,zk (by rw [hins])⟩
 omega
 dsimp only;omega
 have hend:zQ c (l.take k)++l.drop k=zQ c l:=by rw [A4 uO,zC uO];simp
 refine gz2 ?_;refine zu ?_;refine gz1 ?_;exact ⟨_,_,Ghost.sub (Sub.refl _),_,_,rfl,Weak.refl _,rfl,by rw [hend]⟩
theorem zb8 [Tracks] {l:List Int} {v:Value} {fid:FuncId} {caps:List HVal} {c:Int->Int->Int} {lim:Int} (hca:Callable prog fid) (hp: ∀x y,ConP prog fid ([(HVal.int .i64) x,(HVal.int .i64) y]++caps) (.int .i64 (c x y))) (hl:l.length<=12):Con prog 214 [.raw v,.int .i64 0,.int .i64 (l.length:Int),.int .i64 lim,.fn (.func fid) [] caps] [.arr v 1 (l.map (HVal.int .i64))] (fun x M'=>x= .tup []/\M'=[.arr v 1 ((zQ c l).map (HVal.int .i64))]):=by
 refine uOb func214 ntmps214 ?_;refine gz7 ?_;refine uU1 [1,3,10,138] (fun (u:Unit)=>[(1,.int .i64 0),(2,.int .i64 (l.length:Int))]) (fun (u:Unit)=>[.arr v 1 (l.map (HVal.int .i64))]) (fun (u:Unit)=>True) (fun (u:Unit)=>0) (()) ?_ ?_
 trivial
 intro u hu
 refine zc9 ?_;refine z7 rfl (fun h1=> ?_) (fun h1=> ?_)
 try simp at h1
 refine gz5 ?_;refine de rfl (uCx 0 zGl rfl rfl (zg1 (l:=l) hca hp uO uO) ?_)
 rintro _ _ ⟨rfl,rfl⟩;refine gz2 ?_;exact zah rfl ⟨rfl,rfl⟩
 exfalso
 try simp at h1
 omega
theorem zlV [Tracks] {l:List Int} {v:Value} {fid:FuncId} {caps:List HVal} {c:Int->Int->Int} (hca:Callable prog fid) (hp: ∀x y,ConP prog fid ([(HVal.int .i64) x,(HVal.int .i64) y]++caps) (.int .i64 (c x y))) (hl:l.length<=12):Con prog 141 [.raw v,.fn (.func fid) [] caps] [.arr v 1 (l.map (HVal.int .i64))] (fun x M'=>x= .tup []/\M'=[.arr v 1 ((zQ c l).map (HVal.int .i64))]):=by
 refine uOb func141 ntmps141 ?_;refine gz2 ?_
 focus first
 |refine de rfl (zau (i:=0) zX rfl rfl ?_)
 |refine de rfl (zau (i:=1) zX rfl rfl ?_)
 |refine de rfl (zau (i:=2) zX rfl rfl ?_)
 |refine de rfl (zau (i:=3) zX rfl rfl ?_)
 refine gz6 ?_;refine dq (zY (zbO ty3 zi1 rfl) (congrArg _ (zsT uO))) ?_;refine de rfl (zaV (M1:=[]) (R:=[_]) zuf rfl (WeakL.refl _) (Ac _) (zkx (x:=l.length) uO) ?_)
 rintro _ _ ⟨n11,rfl,rfl⟩;refine gz1 ?_
 focus first
 |refine de rfl (uCx 0 zug rfl rfl (zb8 hca hp hl) ?_)
 |refine de rfl (uCx 1 zug rfl rfl (zb8 hca hp hl) ?_)
 |refine de rfl (uCx 2 zug rfl rfl (zb8 hca hp hl) ?_)
 |refine de rfl (uCx 3 zug rfl rfl (zb8 hca hp hl) ?_)
 rintro _ _ ⟨rfl,rfl⟩;refine gz1 ?_;exact ⟨_,_,Ghost.sub (Sub.refl _),_,_,rfl,Weak.refl _,rfl,rfl⟩
theorem zeN [Tracks] {l:List StandS} {fid:FuncId} {caps:List HVal} {p:StandS->Bool} (hca:Callable prog fid) (hp: ∀x,ConP prog fid ([zS x]++caps) (.bool (p x))) (hl:l.length<=1000000):ConP prog 353 [.slice 10 (l.map zS),.fn (.func fid) [] caps] (.int .i64 (zW p l 0)):=by
 refine uOb func353 ntmps353 ?_;refine zay ?_;refine uT1 [4,2,8,11] (fun k=>[(8,.int .i64 k)]) (fun k=>[]) (fun k=>k<=l.length/\(zW p l 0=zW p (l.drop k) k)) (fun k=>l.length-k) (0) ?_ ?_;exact ⟨Ad _,rfl⟩;rintro k ⟨hk,hg⟩;refine gz4 ?_;refine uCo (fun h1=> ?_) fun h2=> ?_
 obtain ⟨x,hx⟩: ∃x,l[k]? =some x:=⟨_,Aa h1⟩
 have hdx:=zg hx;rw [hdx] at hg;refine zda ?_;refine dq (zag hca rfl rfl (WeakL.refl _) (hp _)) ?_;refine gz1 ?_;refine uCo (fun h3=> ?_) fun h4=> ?_
 refine gz5 ?_;refine uRp ?_
 first|(rw [hg];rfl)|(rw [hg];simp_all [zW])
 refine gz7 ?_;refine ⟨k+1,?_,?_,⟨rfl,trivial⟩,uK,Ac _⟩
 refine ⟨by omega,?_⟩
 rw [hg,zW,if_neg uSa];rfl
 dsimp only;omega
 have hnk:l.length<=k:=by omega
 obtain rfl:k=l.length:=by omega
 rw [zC (Ae _)] at hg;refine gz2 ?_;refine zu ?_;refine gz6 ?_;refine uRp ?_
 first|(rw [hg];rfl)|(rw [hg];simp_all [zW])
theorem zek [Tracks] {l:List StandS} {fid:FuncId} {caps:List HVal} {p:StandS->Bool} (hca:Callable prog fid) (hp: ∀x,ConP prog fid ([zS x]++caps) (.bool (p x))) (hl:l.length<=1000000):ConP prog 290 [.slice 10 (l.map zS),.fn (.func fid) [] caps] (.bool (l.any p)):=by
 refine uOb func290 ntmps290 ?_;refine gz6 ?_;refine dq (uCl zGC rfl (zeN hca hp hl)) ?_;refine gz4 ?_;refine zt rfl ?_
 congr 1;exact zcH p l 0 uO
theorem zpZ [Tracks] {x:GameS} (hg:zxm x) (hp:x.Played=true):ConP prog 212 [zam x] (.int .i64 (znc x)):=by
 obtain ⟨⟨a1,a2⟩,a3,a4⟩:=hg hp;refine uOb func212 ntmps212 ?_;refine gz4 ?_;refine uDr mixed ?_;refine gz1 ?_;refine uB 1 rfl (zY (h':= .agg [.int .i64 x.FNum,.int .i64 x.FDen]) (zaF zaj rfl rfl (Ak rfl)) rfl) ?_;refine uB 2 rfl (uCl zjM rfl (zbu (n:=x.FNum) (d:=x.FDen) a1 uO)) ?_;refine gz1 ?_;refine uB 4 rfl (zY (h':= .agg [.int .i64 x.ONum,.int .i64 x.ODen]) (zaF zaj rfl rfl (Ak rfl)) rfl) ?_;refine uB 5 rfl (uCl zjM rfl (zbu (n:=x.ONum) (d:=x.ODen) a3 uO)) ?_;refine uB 6 rfl (uCl zd4 rfl (zU (a:=zaJ x.FNum x.FDen) (b:=zaJ x.ONum x.ODen))) ?_;refine uB 7 rfl (zY (h':= .int .i64 (znc x)) (zbi rfl rfl (by have q:=zps (zaJ x.FNum x.FDen) (zaJ x.ONum x.ODen);omega) (by have q:=zps (zaJ x.FNum x.FDen) (zaJ x.ONum x.ODen);omega)) rfl) ?_;refine gz3 ?_;refine zt rfl ?_
 rfl
theorem znK [Tracks] {g:List GameS} {t:Str} (hg:GamsP g):ConP prog 139 [zb3 g,.str t] (zre (zaX g t)):=by
 have hgl:=hg.len;refine uOb func139 ntmps139 ?_;refine gz6 ?_;refine ze (zK 4) ?_;refine gz7 ?_;refine uV2 [5,1,7,3,12,44] (fun (k:Nat) (u:Value)=>[(12,.int .i64 k),(5,.raw u)]) (fun (k:Nat) (u:Value)=>[.arr u 4 ((zaX (g.take k) t).map zlr)]) (fun (k:Nat) (u:Value)=>k<=g.length/\(True)) (fun (k:Nat) (u:Value)=>g.length-k) (0) (.slice none 0 0) ?_ ?_ ?_ ?_;exact ⟨Ad _,trivial⟩;exact ⟨rfl,rfl,trivial⟩;exact uP
 intro k u hinv
 obtain ⟨hk,-⟩:=hinv;refine gz4 ?_;refine uCo (fun h1=> ?_) fun h2=> ?_
 obtain ⟨x,hx⟩: ∃x,g[k]? =some x:=⟨_,Aa h1⟩
 have hdx:=zg hx;have hkl:=zm hx;refine gz7 ?_;refine de rfl (zj za8 rfl fun b7=> ?_)
 refine de0 (zn za8 rfl rfl rfl rfl rfl ?_)
 refine gz1 ?_;refine ze (zo 7 rfl) ?_;refine gz2 ?_;refine dq ((by first|exact zh za8 rfl ty4 (by decide) rfl|exact zd za8 rfl ty4 (by decide) rfl)) ?_;refine gz3 ?_;refine uCo (fun h3=> ?_) fun h4=> ?_
 refine gz8 ?_;exact ⟨k+1,u,⟨by omega,trivial⟩,uD,⟨rfl,rfl,trivial⟩,uK,zk (by dsimp only;rw [znx hx,show zjy t x=none by unfold zjy;simp_all];simp)⟩;refine gz2 ?_;have hpx:x.Played=true:=by simp_all
 obtain ⟨⟨a1,a2⟩,a3,a4⟩:=hg.ok x (Ab hx) hpx;have hcm:=zps (zaJ x.FNum x.FDen) (zaJ x.ONum x.ODen);have hem:znc x=1+zab (zaJ x.FNum x.FDen) (zaJ x.ONum x.ODen):=rfl;refine uDr mixed ?_;refine uB 0 rfl ((by first|exact zh za8 rfl zaj (by decide) rfl|exact zd za8 rfl zaj (by decide) rfl)) ?_;refine uB 1 rfl (zY (h':= .agg [.int .i64 x.FNum,.int .i64 x.FDen]) (zaF zaj rfl rfl (Ak rfl)) rfl) ?_;refine uB 2 rfl (uCl zjM rfl (zbu (n:=x.FNum) (d:=x.FDen) a1 uO)) ?_;refine uB 3 rfl ((by first|exact zh za8 rfl zaj (by decide) rfl|exact zd za8 rfl zaj (by decide) rfl)) ?_;refine uB 4 rfl (zY (h':= .agg [.int .i64 x.ONum,.int .i64 x.ODen]) (zaF zaj rfl rfl (Ak rfl)) rfl) ?_;refine uB 5 rfl (uCl zjM rfl (zbu (n:=x.ONum) (d:=x.ODen) a3 uO)) ?_;refine gz8 ?_;refine dq ((by first|exact zh za8 rfl ty9 (by decide) rfl|exact zd za8 rfl ty9 (by decide) rfl)) ?_;refine gz4 ?_;refine uCo (fun h5=> ?_) fun h6=> ?_
 refine zgC mixed ?_;refine gz1 ?_;refine uB 1 rfl ((by first|exact zh za8 rfl ty9 (by decide) rfl|exact zd za8 rfl ty9 (by decide) rfl)) ?_;refine gz1 ?_;refine uB 3 rfl (zax (h:=zam x) za8 rfl rfl rfl rfl) ?_;refine uB 4 rfl (uCl zB2 rfl (zpZ (x:=x) (hg.ok x (Ab hx)) hpx)) ?_;refine gz2 ?_;refine uB 7 rfl (zF (cs:=[_,_,_,_]) zf9 zCl rfl) ?_;refine uB 8 rfl (za (hs:=[_]) zi0 zf9 rfl rfl (by decide) (by decide) rfl) ?_;refine uF 9 ?_;refine zx rfl (zL (i:=0) zi0 zf9 rfl rfl rfl rfl rfl (by simp [zat,zb]) (by have q:=zpE (g.take k) t;rw [Am] at q;simp only [Af,Aj,AA];omega) fun v39=> ?_)
 refine ⟨uE,?_⟩
 refine gz9 ?_;exact ⟨k+1,v39,⟨by omega,trivial⟩,uD,⟨rfl,rfl,trivial⟩,uK,zk (by dsimp only;rw [znx hx,show zjy t x=some ⟨x.Away,znc x,zaJ x.FNum x.FDen,zaJ x.ONum x.ODen⟩ by unfold zjy;simp_all,Aq];rfl)⟩;refine gz1 ?_;refine dq ((by first|exact zh za8 rfl ty9 (by decide) rfl|exact zd za8 rfl ty9 (by decide) rfl)) ?_;refine gz4 ?_;refine uCo (fun h7=> ?_) fun h8=> ?_
 refine zgC mixed ?_;refine gz1 ?_;refine uB 1 rfl ((by first|exact zh za8 rfl ty9 (by decide) rfl|exact zd za8 rfl ty9 (by decide) rfl)) ?_;refine gz1 ?_;refine uB 3 rfl (zax (h:=zam x) za8 rfl rfl rfl rfl) ?_;refine uB 4 rfl (uCl zB2 rfl (zpZ (x:=x) (hg.ok x (Ab hx)) hpx)) ?_;refine gz3 ?_;refine uB 8 rfl (zF (cs:=[_,_,_,_]) zf9 zCl rfl) ?_;refine uB 9 rfl (za (hs:=[_]) zi0 zf9 rfl rfl (by decide) (by decide) rfl) ?_;refine uF 10 ?_;refine zx rfl (zL (i:=0) zi0 zf9 rfl rfl rfl rfl rfl (by simp [zat,zb]) (by have q:=zpE (g.take k) t;rw [Am] at q;simp only [Af,Aj,AA];omega) fun v54=> ?_)
 refine ⟨uE,?_⟩
 refine gz9 ?_;exact ⟨k+1,v54,⟨by omega,trivial⟩,uD,⟨rfl,rfl,trivial⟩,uK,zk (by dsimp only;rw [znx hx,show zjy t x=some ⟨x.Home,2-znc x,zaJ x.ONum x.ODen,zaJ x.FNum x.FDen⟩ by unfold zjy;simp_all,Aq];rfl)⟩;refine gz8 ?_;exact ⟨k+1,u,⟨by omega,trivial⟩,uD,⟨rfl,rfl,trivial⟩,uK,zk (by dsimp only;rw [znx hx,show zjy t x=none by unfold zjy;simp_all];simp)⟩;have hnk:g.length<=k:=by omega
 obtain rfl:k=g.length:=by omega
 rw [Ai];refine gz2 ?_;refine zI ?_;refine gz2 ?_;refine ze (zaD 5 (i:=0) rfl rfl) ?_;refine gz5 ?_;exact zao Ghost.clear rfl ⟨rfl,rfl⟩
theorem zqn [Tracks] {g:List GameS} {t:Str} (hg:GamsP g):ConP prog 69 [zb3 g,.str t] (zS (zpj g t)):=by
 obtain ⟨hsb,hsl⟩:=zzT hg t;have htb:=zv0 hsb;refine za5 func69 rfl ntmps69 rfl rfl ?_;refine gz1 ?_;refine de rfl (zj zcq rfl fun b4=> ?_)
 refine gz3 ?_;refine dq (zF (cs:=[_,_,_,_,_,_,_,_,_,_]) zcq pl59 rfl) ?_;refine de rfl (zj zcq rfl fun b5=> ?_)
 focus first
 |refine de0 (uY 0 ?_)
 |refine de0 (uY 1 ?_)
 |refine de0 (uY 2 ?_)
 |refine de0 (uY 3 ?_)
 refine gz9 ?_;refine dq (uCl zBG rfl (znK (g:=g) (t:=t) hg)) ?_;refine dq (zav (f:=zlr) (l:=(zaX g t)) zi0 rfl) ?_;refine gz3 ?_;refine uV2 [6,2,9,1,16,37] (fun (k:Nat) (a:TalS)=>[(16,.int .i64 k),(6,.int .i64 a.own),(7,.int .i64 a.oth)]) (fun (k:Nat) (a:TalS)=>[.cells b5 [.int .i64 0,.str t,.int .i64 a.w,.int .i64 a.d,.int .i64 a.l,.int .i64 a.p,.int .i64 0,.int .i64 0,.int .i64 0,.int .i64 0],.cells b4 (zb (zS zEC))]) (fun (k:Nat) (a:TalS)=>k<=(zaX g t).length/\(a=zeq ((zaX g t).take k))) (fun (k:Nat) (a:TalS)=>(zaX g t).length-k) (0) (⟨0,0,0,0,0,0⟩) ?_ ?_ ?_ ?_;exact ⟨Ad _,rfl⟩;exact ⟨rfl,rfl,rfl,trivial⟩;exact uP
 intro k a hinv
 obtain ⟨hk,ha⟩:=hinv;refine gz4 ?_;refine uCo (fun h1=> ?_) fun h2=> ?_
 obtain ⟨x,hx⟩: ∃x,(zaX g t)[k]? =some x:=⟨_,Aa h1⟩
 have hdx:=zg hx;have hkl:=zm hx;have hxb:=hsb x (Ab hx);have hta:=zv0 (l:=(zaX g t).take k) (fun y hy=>hsb y (AJ hy));rw [<-ha,Am,BF uO] at hta;obtain ⟨t1,t2,t3,t4,t5,t6⟩:=hta;obtain ⟨x1,x2,x3⟩:=hxb;refine gz5 ?_;refine dq (zB zi0 zf9 rfl rfl rfl (by first|assumption|simp_all)) ?_;refine gz1 ?_;refine de rfl (zj zf9 rfl fun b9=> ?_)
 refine de0 (zn zf9 rfl rfl rfl rfl rfl ?_)
 refine gz1 ?_;refine ze (zo 9 rfl) ?_;refine zay ?_;refine uCo (fun h3=> ?_) fun h4=> ?_
 refine gz2 ?_
 focus first
 |refine de rfl (uZ 0 ?_)
 |refine de rfl (uZ 1 ?_)
 |refine de rfl (uZ 2 ?_)
 |refine de rfl (uZ 3 ?_)
 refine gz2 ?_
 focus first
 |refine de0 (uY 0 ?_)
 |refine de0 (uY 1 ?_)
 |refine de0 (uY 2 ?_)
 |refine de0 (uY 3 ?_)
 refine gz5 ?_
 focus first
 |refine de rfl (uZ 0 ?_)
 |refine de rfl (uZ 1 ?_)
 |refine de rfl (uZ 2 ?_)
 |refine de rfl (uZ 3 ?_)
 refine gz4 ?_
 focus first
 |refine de0 (uY 0 ?_)
 |refine de0 (uY 1 ?_)
 |refine de0 (uY 2 ?_)
 |refine de0 (uY 3 ?_)
 refine zAz ?_;exact ⟨k+1,zgU a x,⟨by omega,by rw [znA hx,<-ha]⟩,uD,⟨rfl,rfl,rfl,trivial⟩,uK,zk (by dsimp only;simp_all [zgU,zaG,zb])⟩;refine gz4 ?_;refine uCo (fun h5=> ?_) fun h6=> ?_
 refine gz2 ?_
 focus first
 |refine de rfl (uZ 0 ?_)
 |refine de rfl (uZ 1 ?_)
 |refine de rfl (uZ 2 ?_)
 |refine de rfl (uZ 3 ?_)
 refine gz2 ?_
 focus first
 |refine de0 (uY 0 ?_)
 |refine de0 (uY 1 ?_)
 |refine de0 (uY 2 ?_)
 |refine de0 (uY 3 ?_)
 refine gz5 ?_
 focus first
 |refine de rfl (uZ 0 ?_)
 |refine de rfl (uZ 1 ?_)
 |refine de rfl (uZ 2 ?_)
 |refine de rfl (uZ 3 ?_)
 refine gz4 ?_
 focus first
 |refine de0 (uY 0 ?_)
 |refine de0 (uY 1 ?_)
 |refine de0 (uY 2 ?_)
 |refine de0 (uY 3 ?_)
 refine zAz ?_;exact ⟨k+1,zgU a x,⟨by omega,by rw [znA hx,<-ha]⟩,uD,⟨rfl,rfl,rfl,trivial⟩,uK,zk (by dsimp only;simp_all [zgU,zaG,zb])⟩;refine gz2 ?_
 focus first
 |refine de rfl (uZ 0 ?_)
 |refine de rfl (uZ 1 ?_)
 |refine de rfl (uZ 2 ?_)
 |refine de rfl (uZ 3 ?_)
 refine gz2 ?_
 focus first
 |refine de0 (uY 0 ?_)
 |refine de0 (uY 1 ?_)
 |refine de0 (uY 2 ?_)
 |refine de0 (uY 3 ?_)
 refine gz5 ?_
 focus first
 |refine de rfl (uZ 0 ?_)
 |refine de rfl (uZ 1 ?_)
 |refine de rfl (uZ 2 ?_)
 |refine de rfl (uZ 3 ?_)
 refine gz4 ?_
 focus first
 |refine de0 (uY 0 ?_)
 |refine de0 (uY 1 ?_)
 |refine de0 (uY 2 ?_)
 |refine de0 (uY 3 ?_)
 refine zAz ?_;exact ⟨k+1,zgU a x,⟨by omega,by rw [znA hx,<-ha]⟩,uD,⟨rfl,rfl,rfl,trivial⟩,uK,zk (by dsimp only;simp_all [zgU,zaG,zb])⟩;have hnk:(zaX g t).length<=k:=by omega
 obtain rfl:k=(zaX g t).length:=by omega
 rw [Ai] at ha;subst ha;refine gz2 ?_;refine zI ?_;refine gz2 ?_;obtain ⟨t1,t2,t3,t4,t5,t6⟩:=htb;refine gz2 ?_;refine dq (uCl zue rfl (zed (n:=(zeq (zaX g t)).own) uO)) ?_;refine gz1 ?_;refine dq (uCl zue rfl (zed (n:=(zeq (zaX g t)).oth) uO)) ?_;refine gz1 ?_
 focus first
 |refine de0 (uY 0 ?_)
 |refine de0 (uY 1 ?_)
 |refine de0 (uY 2 ?_)
 |refine de0 (uY 3 ?_)
 refine gz1 ?_
 focus first
 |refine de0 (uY 0 ?_)
 |refine de0 (uY 1 ?_)
 |refine de0 (uY 2 ?_)
 |refine de0 (uY 3 ?_)
 refine gz2 ?_;refine de rfl (zhS (i:=0) (h:=zS (zpj g t)) zcq rfl rfl rfl rfl rfl ?_)
 focus first
 |refine de0 (uY 0 ?_)
 |refine de0 (uY 1 ?_)
 |refine de0 (uY 2 ?_)
 |refine de0 (uY 3 ?_)
 refine gz2 ?_
 focus first
 |exact ⟨_,_,(zbC 4 (i:=1) rfl rfl).trans Ghost.clear,[_],_,⟨⟨_,_,_,_,_,rfl,zcq,.inr ⟨rfl,rfl,rfl⟩⟩,trivial⟩,Weak.refl _,rfl,rfl⟩
 |exact ⟨_,_,(zbC 4 (i:=0) rfl rfl).trans Ghost.clear,[_],_,⟨⟨_,_,_,_,_,rfl,zcq,.inr ⟨rfl,rfl,rfl⟩⟩,trivial⟩,Weak.refl _,rfl,rfl⟩
theorem zqZ [Tracks] {y:StandS} {x:SideS}:ConP prog 291 [zS y,.vptr (zb (zlr x)) 0] (.bool (y.Team==x.Other)):=by
 refine uOb func291 ntmps291 ?_;refine zdy ?_;refine zt rfl ?_
 rfl
theorem ztU [Tracks] {g:List GameS} {s:StandS} {G:List StandS} {bk:Int} (hg:GamsP g) (hs:StdB s) (hG:G.length<=1000000):ConP prog 218 [zb3 g,zS s,zc4 G,.int .i64 bk] (.int .i64 (znH g G bk s)):=by
 obtain ⟨hsb,hsl⟩:=zzT hg s.Team;obtain ⟨⟨f1,f2⟩,⟨a1,a2⟩,w1,p1⟩:=hs;refine uOb func218 ntmps218 ?_;refine zdy ?_;refine uCo (fun h1=> ?_) fun h2=> ?_
 refine gz2 ?_;refine dq (zY (h':= .agg [.int .i64 s.FNum,.int .i64 s.FDen]) (zaF zaj rfl rfl (Ak rfl)) rfl) ?_;refine dq (uCl zjM rfl (zbu (n:=s.FNum) (d:=s.FDen) f1 f2)) ?_;refine gz3 ?_;refine zt rfl ?_
 show HVal.int .i64 _=HVal.int .i64 _
 unfold znH
 focus first
 |(rw [if_pos (by assumption)];done)
 |(rw [if_neg (by assumption),if_pos (by assumption)];done)
 |(rw [if_neg (by assumption),if_neg (by assumption),if_pos (by assumption)];done)
 |(rw [if_neg (by assumption),if_neg (by assumption),if_neg (by assumption),Ai];done)
 refine gz4 ?_;refine uCo (fun h3=> ?_) fun h4=> ?_
 refine uDr mixed ?_;refine gz1 ?_;refine uB 1 rfl (zY (h':= .agg [.int .i64 s.FNum,.int .i64 s.FDen]) (zaF zaj rfl rfl (Ak rfl)) rfl) ?_;refine uB 2 rfl (uCl zjM rfl (zbu (n:=s.FNum) (d:=s.FDen) f1 f2)) ?_;refine gz1 ?_;refine uB 4 rfl (zY (h':= .agg [.int .i64 s.ANum,.int .i64 s.ADen]) (zaF zaj rfl rfl (Ak rfl)) rfl) ?_;refine uB 5 rfl (uCl zjM rfl (zbu (n:=s.ANum) (d:=s.ADen) a1 a2)) ?_;refine gz4 ?_;refine zt rfl ?_
 show HVal.int .i64 _=HVal.int .i64 _
 unfold znH
 focus first
 |(rw [if_pos (by assumption)];done)
 |(rw [if_neg (by assumption),if_pos (by assumption)];done)
 |(rw [if_neg (by assumption),if_neg (by assumption),if_pos (by assumption)];done)
 |(rw [if_neg (by assumption),if_neg (by assumption),if_neg (by assumption),Ai];done)
 refine gz4 ?_;refine uCo (fun h5=> ?_) fun h6=> ?_
 refine gz6 ?_;refine zt rfl ?_
 show HVal.int .i64 _=HVal.int .i64 _
 unfold znH
 focus first
 |(rw [if_pos (by assumption)];done)
 |(rw [if_neg (by assumption),if_pos (by assumption)];done)
 |(rw [if_neg (by assumption),if_neg (by assumption),if_pos (by assumption)];done)
 |(rw [if_neg (by assumption),if_neg (by assumption),if_neg (by assumption),Ai];done)
 refine gz7 ?_;refine dq (uCl zBG rfl (znK (g:=g) (t:=s.Team) hg)) ?_;refine gz2 ?_;refine uVj [9,1,37,8] (fun (z0:Unit)=>[(9,zre (zeh bk (zaX g s.Team)))]) (fun (z0:Unit)=>[]) (fun (z0:Unit)=>True) ?_ ?_
 skip
 refine gz4 ?_;refine uCo (fun h7=> ?_) fun h8=> ?_
 refine gz3 ?_;refine dq (zav (f:=zlr) (l:=(zaX g s.Team)) zi0 rfl) ?_;refine gz1 ?_;refine dq (zpB rfl rfl) ?_;refine dq (zaK (es:=zaX g s.Team) (f:=zlr) (l:=(zaX g s.Team).length-3) (h:=(zaX g s.Team).length) zi0 zf9 rfl ⟨_,_,rfl,by split<;>omega⟩ rfl uO uO) ?_;refine gz2 ?_;exact ⟨(),trivial,⟨congrArg some (show _=zre (zeh bk (zaX g s.Team)) by unfold zeh;rw [if_pos (by assumption),Ai]),trivial⟩,uK,Ac _⟩;refine gz1 ?_;exact ⟨(),trivial,⟨congrArg some (show _=zre (zeh bk (zaX g s.Team)) by unfold zeh;rw [if_neg (by assumption)]),trivial⟩,uK,Ac _⟩
 intro z0 _
 have hlb:=zEc (by':=bk) hsb;have hll:=zAK bk (zaX g s.Team);refine gz6 ?_;refine dq (zav (f:=zlr) (l:=(zeh bk (zaX g s.Team))) zi0 rfl) ?_;refine gz3 ?_;refine uT1 [10,1,12,2,47,17] (fun k=>[(47,.int .i64 k),(10,.int .i64 (zqJ bk G ((zeh bk (zaX g s.Team)).take k)))]) (fun k=>[]) (fun k=>k<=(zeh bk (zaX g s.Team)).length/\(True)) (fun k=>(zeh bk (zaX g s.Team)).length-k) (0) ?_ ?_;exact ⟨Ad _,trivial⟩;rintro k ⟨hk,-⟩;refine gz4 ?_;refine uCo (fun h9=> ?_) fun h10=> ?_
 obtain ⟨x,hx⟩: ∃x,(zeh bk (zaX g s.Team))[k]? =some x:=⟨_,Aa h9⟩
 have hdx:=zg hx;have hkl:=zm hx;have hwb:=zEF (by':=bk) (G:=G) hlb k uO;have hxb:=(hlb x (Ab hx)).won;refine gz5 ?_;refine dq (zB (f:=zlr) (l:=(zeh bk (zaX g s.Team))) (j:=k) (a:=x) zi0 zf9 rfl rfl rfl hx) ?_;refine gz1 ?_;refine de rfl (zj zf9 rfl fun b12=> ?_)
 refine de0 (zn zf9 rfl rfl rfl rfl rfl ?_)
 refine gz1 ?_;refine ze (zo 12 rfl) ?_;refine gz3 ?_;refine dq (uCl zGm rfl (zek (l:=G) (p:=fun y=>y.Team==x.Other) zGn (fun _=>zqZ) hG)) ?_;refine gz9 ?_;refine uCo (fun h11=> ?_) fun h12=> ?_
 refine zdy ?_;exact ⟨k+1,⟨by omega,trivial⟩,uD,⟨rfl,zP (by rw [zqK hx,zv6,if_pos uSa]),trivial⟩,uK,Ac _⟩;refine gz7 ?_;exact ⟨k+1,⟨by omega,trivial⟩,uD,⟨rfl,zP (by rw [zqK hx,zv6,if_neg uSa];omega),trivial⟩,uK,Ac _⟩;have hnk:(zeh bk (zaX g s.Team)).length<=k:=by omega
 obtain rfl:k=(zeh bk (zaX g s.Team)).length:=by omega
 refine gz2 ?_;refine zu ?_;refine gz7 ?_;refine zt rfl ?_
 show HVal.int .i64 _=HVal.int .i64 _
 unfold znH
 focus first
 |(rw [if_pos (by assumption)];done)
 |(rw [if_neg (by assumption),if_pos (by assumption)];done)
 |(rw [if_neg (by assumption),if_neg (by assumption),if_pos (by assumption)];done)
 |(rw [if_neg (by assumption),if_neg (by assumption),if_neg (by assumption),Ai];done)
end
end Go.Proofs.YtnfmbjchkjijpaaGreatDoor
namespace Go.HL
section
section
variable {P:Program} {e:Env}
theorem zDO {J:Imm} {v:Value} {sz:Nat} {es:List HVal} {off:Nat} (hv:V J (.slice sz es) v): ∀x,V J (.vptr [.raw v] off) x->V J (.vptr [.slice sz es] off) x:=by
 intro x hx
 cases hx with
 |vptr hI hb ih=>
   refine .vptr hI (by simpa using hb) fun j c u h1 h2=> ?_
   cases j with
   |zero=>
     simp only [AW,Az] at h1;subst h1;have:=ih 0 (.raw v) u rfl h2;rw [this.raw_inv];exact hv
   |succ j=>simp at h1
theorem zyG [Tracks] {M:List MObj} {i off:Nat} {v:Value} {sz:Nat} {es:List HVal} (t:Nat) (hm:M[i]? =some (.arr v sz es)) (ht:e t=some (.vptr [.raw v] off)):
 Ghost e M (upd e t (.vptr [.slice sz es] off)) (M.eraseIdx i):=
 Ghost.freeze_arr hm fun _ hv=>zu9 ht (zDO hv) zsx
theorem zCT [Tracks] {n:Nat} {M:List MObj} {c:Code} {Q:Exit->Env->List MObj->Prop} {i:Nat} {v:Value} {sz:Nat} {es:List HVal} (hm:M[i]? =some (.arr v sz es))
 (k: ∀a cap,v= .slice a es.length cap->HWp P n c e M Q):HWp P n c e M Q:=
 zbV hm (fun h0 he=>k none 0 (by rw [h0,he];rfl)) fun b off cap hv _=>k _ _ hv
end
end
section
open Go Op
theorem zz6 {b:BookS} (h:zdt b=0):zd0 b.League.Breaks=0:=by
 obtain ⟨h1,h2⟩:=zqS h;unfold zcu at h1;rw [if_neg (fun q=>q (zrs h1))] at h1
 split at h1
 cases h1
 split at h1
 rename_i q;exact absurd h1 q
 rename_i h4
 have h9:=zf7 (l:=[zd0 b.League.Breaks,zb5 b.League.Trust]) (Decidable.not_not.1 h4);exact h9 _ (by simp)
theorem zCA {l:List Int} (h:zd0 l=0):l.length<=5:=by
 unfold zd0 at h
 split at h
 cases h
 omega
theorem zEs {b:BookS} {n:Int} (h:zeQ b n=0):zc7 b.League.Teams (zeR b n)=0/\∀x∈b.League.Games,gaE b n x=0:=by
 unfold zeQ at h
 split at h
 rename_i q;exact absurd h q
 rename_i q
 exact ⟨h,fun x hx=>zf7 (Decidable.not_not.1 q) _ (List.mem_map.2 ⟨x,hx,rfl⟩)⟩
theorem zuF {b:BookS} {n:Int} (h:zeK b n=0):zdt b=0/\zc7 b.League.Teams (zeR b n)=0/\∀x∈b.League.Games,gaE b n x=0:=by
 unfold zeK at h
 split at h
 rename_i q;exact absurd h q
 rename_i q
 obtain ⟨h1,h2⟩:=zEs h;exact ⟨(zCj (Decidable.not_not.1 q)).1,h1,h2⟩
theorem zrX {b:BookS} {n:Int} (h:zeK b n=0):zuG b n=0/\zr5 b.League.Teams (zeR b n) b.League.Breaks=0/\zuH b n=zkg b.League.Teams (zeR b n) b.League.Breaks:=by
 obtain ⟨h1,h2,_⟩:=zuF h;have h3:zr5 b.League.Teams (zeR b n) b.League.Breaks=0:=by
  show orI [_,_]=0
  rw [h2,zz6 h1];decide
 refine ⟨?_,h3,?_⟩
 unfold zuG;rw [if_neg (fun q=>q h)];exact h3;unfold zuH;rw [if_neg (fun q=>q h)]
theorem zsS {b:BookS} {n:Int} (h:zeK b n≠0):zuG b n=zeK b n:=by unfold zuG;rw [if_pos h]
theorem zG2 (l:List StandS):zgM zS l l=true:=zri (by intro x;simp [zqu,zb,zca,eqH]) l
theorem zDb {T:List Str} {g:List GameS} {B:List Int}:(zkg T g B).length<=T.length:=by
 unfold zkg
 split
 exact Ad _;have:=zvz (zsM g B) (fun s=>s.Points) (T.map (zpj g)) 1;rw [Af] at this;exact this
end
end Go.HL
namespace Go.Proofs.YtnfmbjchkjijpaaGreatDoor
set_option maxRecDepth 100000
set_option linter.unusedVariables false
set_option linter.unusedSimpArgs false
section
open Go.Proofs.Tryz
open Go.HL
theorem zqm [Tracks] {a b:Int}:ConP prog 142 [.int .i64 a,.int .i64 b] (.int .i64 (zab b a)):=by
 refine uOb func142 ntmps142 ?_;refine gz6 ?_;refine dq (uCl zd4 rfl (zU (a:=b) (b:=a))) ?_;refine gz3 ?_;refine zt rfl ?_
 rfl
theorem zmo [Tracks] {g:List GameS} {L:List StandS} {bs:List Int} {n0:Int} {fid:FuncId} {caps:List HVal} {f:StandS->Int} (hca:Callable prog fid) (hp: ∀x∈L,ConP prog fid ([zS x]++caps) (.int .i64 (f x))) (hL:L.length<=12) (hS: ∀s∈L,StdB s) (h0:0<=n0) (h1:n0+12*((bs.length:Int)+1)<=1000) (ih: ∀(G:List StandS) (v:Value) (n1:Int),G.length<=12->(∀s∈G,StdB s)->0<=n1->n1+12*(bs.length:Int)<=1000->Con prog 143 [zb3 g,.raw v,.slice 1 (bs.map (HVal.int .i64)),.int .i64 n1] [.arr v 10 (G.map zS)] (fun x M'=>x=zc4 (rkT g bs G n1)/\M'=[])):ConP prog 70 [zb3 g,zc4 L,.slice 1 (bs.map (HVal.int .i64)),.int .i64 n0,.fn (.func fid) [] caps] (zc4 (zvy (rkT g bs) f L n0)):=by
 have hNn:=zrV (zjU f L).1;have hNl:=(zjU f L).2;have hSl:(zfB (zbI f L)).length=(zbI f L).length:=(ztG _).length_eq;have hrk:=zsM g bs;refine uOb func70 ntmps70 ?_;refine gz4 ?_;refine de rfl (zaN fun m19=> ?_)
 refine gz5 ?_;refine ze (zK 1) ?_;refine ze (Ghost.perm (M':=[.map m19 (kk (fun x:Int=>HVal.int .i64 x) (em fG ([]:GrT))),.arr (.slice none 0 0) 1 ((zbI f (L.take 0)).map (HVal.int .i64))]++zd8 10 zS ([]:GrT)) (List.Perm.swap _ _ _)) ?_;refine gz7 ?_;refine uV3 [12,1,14,2,22,24] (fun (k:Nat) (u:Value) (G:GrT)=>[(22,.int .i64 k),(12,.raw u)]) (fun (k:Nat) (u:Value) (G:GrT)=>[.map m19 (kk (fun x:Int=>HVal.int .i64 x) (em fG G)),.arr u 1 ((zbI f (L.take k)).map (HVal.int .i64))]++zd8 10 zS G) (fun (k:Nat) (u:Value) (G:GrT)=>k<=L.length/\(PartG f (L.take k) G)) (fun (k:Nat) (u:Value) (G:GrT)=>L.length-k) (0) (.slice none 0 0) ([]) ?_ ?_ ?_ ?_
 ·exact ⟨Ad _,zA3 f⟩
 ·exact ⟨rfl,rfl,trivial⟩
 ·exact zk rfl
 ·intro k u G hinv
  obtain ⟨hk,hP⟩:=hinv;refine gz4 ?_;refine uCo (fun h1=> ?_) fun h2=> ?_
  ·obtain ⟨x,hx⟩: ∃x,L[k]? =some x:=⟨_,Aa h1⟩
   have hdx:=zg hx;have hkl:=zm hx;refine gz5 ?_;refine dq (zB zcp zcq rfl rfl rfl (by first|assumption|simp_all)) ?_;refine gz1 ?_;refine de rfl (zj zcq rfl fun b14=> ?_)
   refine de0 (zn zcq rfl rfl rfl rfl rfl ?_)
   refine gz1 ?_;refine ze (zo 14 rfl) ?_;refine gz3 ?_;refine dq (zag hca rfl rfl (WeakL.refl _) (hp x (Ab hx))) ?_;refine gz2 ?_;refine ze (zf1 (A:=[.map m19 (kk (fun x:Int=>HVal.int .i64 x) (em fG G)),.arr u 1 ((zbI f (L.take k)).map (HVal.int .i64))]) (G:=G) (G':=G) (s:=(f x)) hP.nd rfl) ?_;have hgl:=zvA hP (f x);rw [Am] at hgl;have hNk:=(zjU f (L.take k)).2;rw [Am] at hNk;have hhas:=zA2 hP (f x);refine zCX (i:=0) rfl (fun he=>zDn hP (List.map_eq_nil_iff.1 he)) (fun hnv=> ?_)
   rw [show ((gLK (f x) G).map zS).isEmpty=(gLK (f x) G).isEmpty by cases gLK (f x) G<;>rfl,hhas] at hnv;refine uVj [12,1,29,8] (fun (w:Value)=>[(12,.raw w)]) (fun (w:Value)=> .arr (gVK (f x) G) 10 ((gLK (f x) G).map zS)::([.map m19 (kk (fun x:Int=>HVal.int .i64 x) (em fG G)),.arr w 1 ((zbI f (L.take (k+1))).map (HVal.int .i64))]++zd8 10 zS (G.filter fun q=>decide (q.1≠(f x))))) (fun (w:Value)=>True) ?_ ?_
   ·skip
    refine gz3 ?_;refine de rfl (zcK (i:=1) (s:=(f x)) (z0:=gZ StandS) zuy ok3 zcp rfl rfl rfl rfl ?_)
    refine dq (zym hnv zcp rfl rfl) ?_;refine gz1 ?_;refine uCo (fun h3=> ?_) fun h4=> ?_
    ·refine gz3 ?_;refine dq (za (hs:=[_]) zX ty3 rfl rfl (by decide) (by decide) rfl) ?_;refine de rfl (zL (i:=2) zX ty3 rfl rfl rfl rfl rfl (by simp [zat,zb]) (by simp only [Af,Aj,AA];omega) fun v36=> ?_)
     refine gz2 ?_;exact ⟨v36,trivial,⟨rfl,trivial⟩,uK,zk (by rw [zlA hx,if_neg uSa,Aq];rfl)⟩
    ·refine gz1 ?_;exact ⟨u,trivial,⟨rfl,trivial⟩,uK,zk (by rw [zlA hx,if_pos uSa])⟩
   ·intro w _
    refine gz5 ?_;refine de rfl (zcK (i:=1) (s:=(f x)) (z0:=gZ StandS) zuy ok3 zcp rfl rfl rfl rfl ?_)
    refine gz1 ?_;refine dq (za (hs:=[_]) zcp zcq rfl rfl (by decide) (by decide) rfl) ?_;refine de rfl (zL (i:=0) zcp zcq rfl rfl rfl rfl rfl (by simp [zat,zb]) (by simp only [Af,Aj,AA];omega) fun v44=> ?_)
    refine de0 (zjo (zfa (i:=1) (s:=(f x)) (f:=fG) (L:=G) (v:=(v44,gLK (f x) G++[x])) zuy ok3 rfl rfl rfl rfl ⟨_,zze (A:=[.map m19 (kk (fun x:Int=>HVal.int .i64 x) (em fG (zz (f x) (v44,gLK (f x) G++[x]) G))),.arr w 1 ((zbI f (L.take (k+1))).map (HVal.int .i64))]) (s:=(f x)) (v:=v44) (l:=gLK (f x) G) (x:=x) hP.nd,?_⟩))
    refine gz7 ?_;exact ⟨k+1,w,zz (f x) (v44,gLK (f x) G++[x]) G,⟨by omega,zA4 hP hx v44⟩,uD,⟨rfl,rfl,trivial⟩,uK,zk rfl⟩
  ·have hnk:L.length<=k:=by omega
   obtain rfl:k=L.length:=by omega
   rw [Ai] at hP;rw [Ai];refine gz2 ?_;refine zcN ?_;refine gz4 ?_;refine de rfl (uCx 1 zE7 rfl rfl (zlV (l:=zbI f L) (c:=fun a b=>zab b a) zE8 (fun _ _=>zqm) uO) ?_)
   rintro _ _ ⟨rfl,rfl⟩;refine gz1 ?_;have hPL:=hP;refine ze (zaD 12 (i:=0) rfl rfl) ?_;refine gz3 ?_;refine ze (zK 10) ?_;refine gz3 ?_;refine dq (zav (f:=(HVal.int .i64)) (l:=(zfB (zbI f L))) zX rfl) ?_;refine gz3 ?_;refine uV2 [16,1,18,1,50,17] (fun (k:Nat) (u:Value)=>[(50,.int .i64 k),(16,.raw u)]) (fun (k:Nat) (u:Value)=>[.arr u 10 ((zju (rkT g bs) f L n0 ((zfB (zbI f L)).take k)).map zS),.map m19 (kk (fun x:Int=>HVal.int .i64 x) (em fG G))]++zd8 10 zS (ze0 G ((zfB (zbI f L)).take k))) (fun (k:Nat) (u:Value)=>k<=(zfB (zbI f L)).length/\(True)) (fun (k:Nat) (u:Value)=>(zfB (zbI f L)).length-k) (0) (.slice none 0 0) ?_ ?_ ?_ ?_
   ·exact ⟨Ad _,trivial⟩
   ·exact ⟨rfl,rfl,trivial⟩
   ·exact zk (by rw [B6,ztx];rfl)
   ·intro k u hinv
    obtain ⟨hk,-⟩:=hinv;refine gz4 ?_;refine uCo (fun h5=> ?_) fun h6=> ?_
    ·obtain ⟨x,hx⟩: ∃x,(zfB (zbI f L))[k]? =some x:=⟨_,Aa h5⟩
     have hdx:=zg hx;have hkl:=zm hx;refine gz5 ?_;refine dq (zB (f:=(HVal.int .i64)) (l:=(zfB (zbI f L))) (j:=k) (a:=x) zX ty3 rfl rfl rfl hx) ?_;refine gz3 ?_;have hgl:=zvA hP x;have hou:=zzD hrk (f:=f) (G:=L) (first:=n0) hNn k uO;refine ze (zf1 (A:=[.arr u 10 ((zju (rkT g bs) f L n0 ((zfB (zbI f L)).take k)).map zS),.map m19 (kk (fun x:Int=>HVal.int .i64 x) (em fG G))]) (G:=ze0 G ((zfB (zbI f L)).take k)) (G':=G) (s:=x) (zp7 hP.nd) (ztw (zvt hNn hx))) ?_;rw [zrO];refine gz5 ?_;refine de rfl (zcK (i:=2) (s:=x) (z0:=gZ StandS) zuy ok3 zcp rfl rfl rfl rfl ?_)
     refine gz3 ?_;refine de rfl (zau (i:=1) (es:=zju (rkT g bs) f L n0 ((zfB (zbI f L)).take k)) zcp rfl rfl ?_)
     refine gz1 ?_;refine de rfl (uCx 0 zE9 rfl rfl (ih (gLK x G) _ (n0+((zju (rkT g bs) f L n0 ((zfB (zbI f L)).take k)).length:Int)) uO (fun s hs=>hS s (by rw [hP.ls] at hs;exact (List.mem_filter.1 hs).1)) uO uO) ?_)
     rintro _ _ ⟨rfl,rfl⟩;refine de rfl (zL (i:=0) zcp zcq rfl rfl rfl rfl rfl (by simp [zat,zb]) (by have q:=hrk (gLK x G) (n0+((zju (rkT g bs) f L n0 ((zfB (zbI f L)).take k)).length:Int));simp only [Af];omega) fun v65=> ?_)
     refine gz8 ?_;exact ⟨k+1,v65,⟨by omega,trivial⟩,uD,⟨rfl,rfl,trivial⟩,uK,zk (by dsimp only;rw [zvx hx,<-hP.ls,zR hx,Aq];rfl)⟩
    ·have hnk:(zfB (zbI f L)).length<=k:=by omega
     obtain rfl:k=(zfB (zbI f L)).length:=by omega
     rw [Ai];refine gz2 ?_;refine zI ?_;refine gz2 ?_;refine ze (zaD 16 (i:=0) rfl rfl) ?_;refine gz5 ?_;exact zao Ghost.clear rfl ⟨rfl,rfl⟩
theorem zse [Tracks] {a b:StandS}:ConP prog 216 [zS a,zS b] (.int .i64 (zh1 a b)):=by
 refine uOb func216 ntmps216 ?_;refine zay ?_;refine dq (uCl zc3 rfl zN) ?_;refine gz3 ?_;refine zt rfl ?_
 rfl
theorem zsf [Tracks] {g:List GameS} {G:List StandS} {bk:Int} {br:List Int} {s:StandS} (hg:GamsP g) (hs:StdB s) (hG:G.length<=1000000):ConP prog 217 [zS s,.vptr [zb3 g] 0,.vptr [zc4 G] 0,.vptr [.slice 1 ((bk::br).map (HVal.int .i64))] 0] (.int .i64 (znH g G bk s)):=by
 refine uOb func217 ntmps217 ?_;refine gz4 ?_;refine uDr mixed ?_;refine uB 0 rfl (zJ (h:=zb3 g) zcG rfl rfl rfl) ?_;refine uB 1 rfl (zax (h:=zS s) zcq rfl rfl rfl rfl) ?_;refine uB 2 rfl (zJ (h:=zc4 G) zcp rfl rfl rfl) ?_;refine uB 3 rfl (zJ (h:= .slice 1 ((bk::br).map (HVal.int .i64))) zX rfl rfl rfl) ?_;refine uB 4 rfl (zB (f:=(HVal.int .i64)) (l:=bk::br) (j:=0) (a:=bk) zX ty3 rfl rfl rfl rfl) ?_;refine gz1 ?_;refine uB 6 rfl (uCl zFP rfl (ztU (g:=g) (s:=s) (G:=G) (bk:=bk) hg hs hG)) ?_;refine gz3 ?_;refine zt rfl ?_
 rfl
theorem zoq [Tracks] {g:List GameS} {bs:List Int} {G:List StandS} {v:Value} {n1:Int} (hg:GamsP g) (hG:G.length<=12) (hS: ∀s∈G,StdB s) (h0:0<=n1) (h1:n1+12*(bs.length:Int)<=1000) (hbl:bs.length<=1000000) (ih: ∀bk br,bs=bk::br->∀(G:List StandS) (v:Value) (n1:Int),G.length<=12->(∀s∈G,StdB s)->0<=n1->n1+12*(br.length:Int)<=1000->Con prog 143 [zb3 g,.raw v,.slice 1 (br.map (HVal.int .i64)),.int .i64 n1] [.arr v 10 (G.map zS)] (fun x M'=>x=zc4 (rkT g br G n1)/\M'=[])):Con prog 143 [zb3 g,.raw v,.slice 1 (bs.map (HVal.int .i64)),.int .i64 n1] [.arr v 10 (G.map zS)] (fun x M'=>x=zc4 (rkT g bs G n1)/\M'=[]):=by
 have hil:=zaw zh1 G;refine uOb func143 ntmps143 ?_;refine gz7 ?_;refine zCT (i:=0) rfl (fun sa scap hv=> ?_)
 rw [Af] at hv;subst hv;refine gz1 ?_;refine dq (zJ (h:= .slice 1 (bs.map (HVal.int .i64))) zX rfl rfl rfl) ?_;refine dq (zav (f:=(HVal.int .i64)) (l:=bs) zX rfl) ?_;refine gz2 ?_;refine uGr rfl (fun hc=>zJ (h:= .raw (.slice sa G.length scap)) zcp rfl rfl rfl) ?_;refine uGr rfl (fun hc=>zdR zcp rfl) ?_;refine gz3 ?_;refine uCo (fun h1=> ?_) fun h2=> ?_
 ·refine gz1 ?_;refine dq (zJ (h:= .raw (.slice sa G.length scap)) zcp rfl rfl rfl) ?_;refine de rfl (uCx 0 zFM rfl rfl (zeU (l:=G) (c:=zh1) zFN (fun _ _=>zse) hG) ?_)
  rintro _ _ ⟨rfl,rfl⟩;refine gz2 ?_;refine ze (zbl (M':=[.arr (.slice sa G.length scap) 10 ((((zQ zh1 G).take 0).map (zjx n1)++(zQ zh1 G).drop 0).map zS)]) (by rw [zDE];rfl)) ?_;refine gz1 ?_;refine dq (zJ (h:= .raw (.slice sa G.length scap)) zcp rfl rfl rfl) ?_;refine dq (zdR zcp rfl) ?_;refine gz3 ?_;refine uT1 [9,1,22,9] (fun k=>[(22,.int .i64 k)]) (fun k=>[.arr (.slice sa G.length scap) 10 ((((zQ zh1 G).take k).map (zjx n1)++(zQ zh1 G).drop k).map zS)]) (fun k=>k<=(zQ zh1 G).length/\(True)) (fun k=>(zQ zh1 G).length-k) (0) ?_ ?_
  ·exact ⟨Ad _,trivial⟩
  ·rintro k ⟨hk,-⟩;refine gz4 ?_;refine uCo (fun h3=> ?_) fun h4=> ?_
   ·obtain ⟨x,hx⟩: ∃x,(zQ zh1 G)[k]? =some x:=⟨_,Aa uO⟩
    have hdx:=zg hx;have hkl:=zm hx;refine gz4 ?_;refine zbV (i:=0) rfl (fun q0 he=> ?_) (fun ob off cap hv hcap=> ?_)
    ·exfalso;have q:=congrArg List.length he;simp at q;omega
    obtain ⟨rfl,-,rfl⟩:sa=some ⟨ob,off,none⟩/\True/\scap=cap:=by injection hv with q1 q2 q3;exact ⟨q1,trivial,q3⟩
    refine gz5 ?_;refine dq (zJ (h:= .raw (.slice (some ⟨ob,off,none⟩) G.length scap)) zcp rfl rfl rfl) ?_;refine gz2 ?_;refine dq (zv (j:=k) zcp zcq rfl rfl rfl uO) ?_;refine dq ((by first|exact zh zcq rfl ty3 (by decide) rfl|exact zd zcq rfl ty3 (by decide) rfl)) ?_;refine de0 (zV (i:=0) (j:=k) (f:=0) (y:=zS x) (y':=zS (zjx n1 x)) ty3 rfl uO rfl rfl (za3 (zEt hx)) rfl rfl (by simp [zb]) rfl ?_)
    refine gz7 ?_;exact ⟨k+1,⟨by omega,trivial⟩,uD,⟨rfl,trivial⟩,uK,zk (by dsimp only;simp only [Ck];rw [zEu hx])⟩
   ·have hnk:(zQ zh1 G).length<=k:=by omega
    obtain rfl:k=(zQ zh1 G).length:=by omega
    refine gz2 ?_;refine zu ?_;refine gz3 ?_;refine dq (zJ (h:= .raw (.slice sa G.length scap)) zcp rfl rfl rfl) ?_;refine gz3 ?_
    first
    | (refine zao ((zaD 8 (i:=0) rfl rfl).trans Ghost.clear) rfl ⟨?_,rfl⟩
       rw [zvN (by rcases h1 with q|q;exact .inl q;exact .inr uO),zxc,zzM]
       done)
    | (refine zao Ghost.clear rfl ⟨?_,rfl⟩
       rw [zvO hG1])
 ·refine gz2 ?_;obtain ⟨bk,br,rfl⟩: ∃bk br,bs=bk::br:=by
   cases bs with
   |nil=>simp_all
   |cons a r=>exact ⟨a,r,rfl⟩
  have hG1: ¬G.length=1:=by omega
  refine ze (zyG 5 (i:=0) rfl rfl) ?_;refine uDr mixed ?_;refine uB 0 rfl (zJ (h:=zb3 g) zcG rfl rfl rfl) ?_;refine uB 1 rfl (zJ (h:=zc4 G) zcp rfl rfl rfl) ?_;refine uB 2 rfl (zJ (h:= .slice 1 ((bk::br).map (HVal.int .i64))) zX rfl rfl rfl) ?_;refine uB 3 rfl (zY (h':= .slice 1 (br.map (HVal.int .i64))) (zaK (es:=bk::br) (f:=(HVal.int .i64)) (l:=1) (h:=(bk::br).length) zX ty3 rfl ⟨_,_,rfl,rfl⟩ rfl (by simp) (by simp)) (by simp)) ?_;refine gz2 ?_;refine uB 6 rfl (uCl ca70 rfl (zmo (g:=g) (L:=G) (bs:=br) (n0:=n1) (f:=znH g G bk) zFO (fun x hx=>zsf hg (hS x hx) uO) hG hS h0 (by simp only [Aj] at h1;omega) (ih bk br rfl))) ?_;refine gz3 ?_
  first
  | (refine zao ((zaD 8 (i:=0) rfl rfl).trans Ghost.clear) rfl ⟨?_,rfl⟩
     rw [zvN (by rcases h1 with q|q;exact .inl q;exact .inr uO),zxc,zzM]
     done)
  | (refine zao Ghost.clear rfl ⟨?_,rfl⟩
     rw [zvO hG1])
theorem zkz [Tracks] {g:List GameS} (hg:GamsP g): ∀(bs:List Int),bs.length<=1000000->∀(G:List StandS) (v:Value) (n1:Int),G.length<=12->(∀s∈G,StdB s)->0<=n1->n1+12*(bs.length:Int)<=1000->Con prog 143 [zb3 g,.raw v,.slice 1 (bs.map (HVal.int .i64)),.int .i64 n1] [.arr v 10 (G.map zS)] (fun x M'=>x=zc4 (rkT g bs G n1)/\M'=[])
 |[],hb,G,v,n1,h1,h2,h3,h4=>zoq hg h1 h2 h3 h4 hb (fun _ _ h=>by cases h)
 |bk::br,hb,G,v,n1,h1,h2,h3,h4=>zoq hg h1 h2 h3 h4 hb (fun bk' br' h=>by cases h;exact zkz hg br (by simp only [Aj] at hb;omega))
theorem zqY [Tracks] {s:StandS}:ConP prog 71 [zS s] (.int .i64 s.Points):=by
 refine uOb func71 ntmps71 ?_;refine zay ?_;refine zt rfl ?_
 rfl
theorem ztT [Tracks] {T:List Str} {g:List GameS} {bs:List Int} (hg:GamsP g) (hT:T.length<=12) (hb:bs.length<=50):ConP prog 28 [eSs T,zb3 g,.slice 1 (bs.map (HVal.int .i64))] (zc4 (tabV T g bs)):=by
 refine uOb func28 ntmps28 ?_;refine gz6 ?_;refine ze (zK 10) ?_;refine gz7 ?_;refine uV2 [7,1,9,1,12,11] (fun (k:Nat) (u:Value)=>[(12,.int .i64 k),(7,.raw u)]) (fun (k:Nat) (u:Value)=>[.arr u 10 (((T.take k).map (zpj g)).map zS)]) (fun (k:Nat) (u:Value)=>k<=T.length/\(True)) (fun (k:Nat) (u:Value)=>T.length-k) (0) (.slice none 0 0) ?_ ?_ ?_ ?_;exact ⟨Ad _,trivial⟩;exact ⟨rfl,rfl,trivial⟩;exact uP
 intro k u hinv
 obtain ⟨hk,-⟩:=hinv;refine gz4 ?_;refine uCo (fun h1=> ?_) fun h2=> ?_
 obtain ⟨x,hx⟩: ∃x,T[k]? =some x:=⟨_,Aa h1⟩
 have hdx:=zg hx;have hkl:=zm hx;refine zdy ?_;refine dq (uCl ca69 rfl (zqn (g:=g) (t:=x) hg)) ?_;refine dq (za (hs:=[_]) zcp zcq rfl rfl (by decide) (by decide) rfl) ?_;refine de rfl (zL (i:=0) zcp zcq rfl rfl rfl rfl rfl (by simp [zat,zb]) (by simp only [Af,Am,Aj,AA];omega) fun v21=> ?_)
 refine gz8 ?_;exact ⟨k+1,v21,⟨by omega,trivial⟩,uD,⟨rfl,rfl,trivial⟩,uK,zk (by dsimp only;rw [zR hx,Aq,Aq];rfl)⟩;have hnk:T.length<=k:=by omega
 obtain rfl:k=T.length:=by omega
 rw [Ai];refine gz2 ?_;refine zI ?_;refine gz2 ?_;refine ze (zaD 7 (i:=0) rfl rfl) ?_;refine gz4 ?_;refine dq (uCl ca70 rfl (zmo (g:=g) (L:=T.map (zpj g)) (bs:=bs) (n0:=1) (f:=fun s=>s.Points) (caps:=[]) ca71 (fun x _=>zqY) (by rw [Af];exact hT) (zDK hg T) (by decide) uO (zkz hg bs uO))) ?_;refine gz3 ?_;exact zao Ghost.clear rfl ⟨rfl,rfl⟩
theorem znZ [Tracks] {l:List Int} (hl:l.length<=1000000):ConP prog 27 [.slice 1 (l.map (HVal.int .i64))] (.int .i64 (zd0 l)):=by
 refine uOb func27 ntmps27 ?_;refine gz9 ?_;refine uCo (fun h1=> ?_) fun h2=> ?_
 ·refine gz4 ?_;refine uRp ?_
  first
  |(rw [zd0,if_pos uO];done)
  | (refine congrArg _ (zj6 ?_ hg)
     omega)
  | (refine congrArg _ (zeu (e:=4) ?_ hg ?_)
     ·omega
     ·rw [zbW]
      simp_all
      done)
  | (refine congrArg _ (zeu (e:=6) ?_ hg ?_)
     ·omega
     ·rw [zbW]
      simp_all
      done)
 ·refine gz9 ?_;refine uT1 [2,3,10,13] (fun k=>[(10,.int .i64 k)]) (fun k=>[]) (fun k=>k<=l.length/\(zbW l 0 l=zbW l k (l.drop k))) (fun k=>l.length-k) (0) ?_ ?_
  ·exact ⟨Ad _,rfl⟩
  ·rintro k ⟨hk,hg⟩;refine gz4 ?_;refine uCo (fun h3=> ?_) fun h4=> ?_
   ·obtain ⟨x,hx⟩: ∃x,l[k]? =some x:=⟨_,Aa h3⟩
    have hdx:=zg hx;rw [hdx] at hg;refine zda ?_;refine dq (uCl zct rfl zai) ?_;refine gz1 ?_;refine uCo (fun h5=> ?_) fun h6=> ?_
    ·refine gz4 ?_;refine uRp ?_
     first
     |(rw [zd0,if_pos uO];done)
     | (refine congrArg _ (zj6 ?_ hg)
        omega)
     | (refine congrArg _ (zeu (e:=4) ?_ hg ?_)
        ·omega
        ·rw [zbW]
         simp_all
         done)
     | (refine congrArg _ (zeu (e:=6) ?_ hg ?_)
        ·omega
        ·rw [zbW]
         simp_all
         done)
    ·refine gz5 ?_;refine dq (zaK zX ty3 rfl rfl ⟨_,_,rfl,rfl⟩ uO uO) ?_;refine gz1 ?_;refine dq (uCl zAd rfl (zdG (l:=l.take k) (z:=x) (by rw [Am];omega))) ?_;refine gz1 ?_;refine uCo (fun h7=> ?_) fun h8=> ?_
     ·refine gz4 ?_;refine uRp ?_
      first
      |(rw [zd0,if_pos uO];done)
      | (refine congrArg _ (zj6 ?_ hg)
         omega)
      | (refine congrArg _ (zeu (e:=4) ?_ hg ?_)
         ·omega
         ·rw [zbW]
          simp_all
          done)
      | (refine congrArg _ (zeu (e:=6) ?_ hg ?_)
         ·omega
         ·rw [zbW]
          simp_all
          done)
     ·refine gz7 ?_;refine ⟨k+1,?_,?_,⟨rfl,trivial⟩,uK,Ac _⟩
      ·refine ⟨by omega,?_⟩
       rw [hg,zbW,if_neg uSa,if_neg uSa]
      ·dsimp only;omega
   ·have hnk:l.length<=k:=by omega
    obtain rfl:k=l.length:=by omega
    rw [zC (Ae _)] at hg;refine gz2 ?_;refine zu ?_;refine gz6 ?_;refine uRp ?_
    first
    |(rw [zd0,if_pos uO];done)
    | (refine congrArg _ (zj6 ?_ hg)
       omega)
    | (refine congrArg _ (zeu (e:=4) ?_ hg ?_)
       ·omega
       ·rw [zbW]
        simp_all
        done)
    | (refine congrArg _ (zeu (e:=6) ?_ hg ?_)
       ·omega
       ·rw [zbW]
        simp_all
        done)
theorem znJ [Tracks] {T:List Str} {g:List GameS} {bs:List Int} (hT:T.length<=12) (hgl:g.length<=1000000) (hgb:(∀x∈g,((-1000000000<=x.FNum/\x.FNum<=1000000000)/\ -1000000000<=x.FDen/\x.FDen<=1000000000)/\((-1000000000<=x.ONum/\x.ONum<=1000000000)/\ -1000000000<=x.ODen/\x.ODen<=1000000000))) (hb:bs.length<=1000000):ConP prog 10 [eSs T,zb3 g,.slice 1 (bs.map (HVal.int .i64))] (.tup [zc4 (zkg T g bs),.int .i64 (zr5 T g bs)]):=by
 refine uOb func10 ntmps10 ?_;refine gz8 ?_;refine dq (uCl ca9 rfl (zeB (T:=T) (l:=g) uO hgl hgb)) ?_;refine gz1 ?_;refine dq (uCl ca27 rfl (znZ (l:=bs) uO)) ?_;refine dq (za (hs:=[_,_]) zej zgB rfl rfl (by decide) (by decide) rfl) ?_;refine dq (uCl zkC rfl (zb0 (l:=[_,_]) (by simp))) ?_;refine gz6 ?_;refine uCo (fun h1=> ?_) fun h2=> ?_
 refine gz6 ?_
 focus first
 |exact zbz rfl (zad (by rw [zkg,if_pos uSa];exact zM 10) (Weak.refl _))
 | (refine zt rfl ?_
    rw [zkg,if_neg (fun q=>q hz),hz]
    rfl)
 refine gz2 ?_;have hz:zr5 T g bs=0:=by simp_all
 have hgz:zc7 T g=0:=(zvv hz).1;have hb5:=zCA (zvv hz).2;refine gz4 ?_;refine dq (uCl ca28 rfl (ztT (T:=T) (g:=g) (bs:=bs) (zD1 hgz) hT (Ar hb5 (by decide)))) ?_;refine gz4 ?_
 focus first
 |exact zbz rfl (zad (by rw [zkg,if_pos uSa];exact zM 10) (Weak.refl _))
 | (refine zt rfl ?_
    rw [zkg,if_neg (fun q=>q hz),hz]
    rfl)
end
end Go.Proofs.YtnfmbjchkjijpaaGreatDoor
namespace Go.HL
section
variable {P:Program} {e:Env} {dst:Option Tmp} {ty:TypeId} {pos:String} {af:Array Edge} {g:Option (Nat×Bool)}
theorem zyn [Tracks] {x y:Operand} {t t':TypeId} {fs:List (Nat×Nat)} {s by':Nat} {z:Value} {cs ds:List HVal} (hf:Fits P t (.struct fs) s by' z) (hq:EqOk P t) (hx:zi e x=some (.agg cs)) (hy:zi e y=some (.agg ds)) (hk:zo3 P fs 0 cs ds):
 POp P e ⟨dst,.binOp .neq t x y t',ty,pos,af,g⟩ (.bool (!(zca cs ds))):=
 zD fun I a w ho=>by
  obtain ⟨xs,h1,h2⟩:=(ho.one (x:=x) (by simp [Op.operands]) hx).agg_inv;obtain ⟨ys,h3,h4⟩:=(ho.one (x:=y) (by simp [Op.operands]) hy).agg_inv;refine ⟨_,?_,.bool _⟩
  simp only [execOp,h1,h3,Sem.run_bind,zgy hq,Result.andThen_ok,binOp,zpX hf hq h2 h4 hk,Sem.run_pure]
end
end Go.HL
namespace Go.Proofs.YtnfmbjchkjijpaaGreatDoor
set_option maxRecDepth 100000
set_option linter.unusedVariables false
set_option linter.unusedSimpArgs false
section
open Go.Proofs.Tryz
open Go.HL
theorem zhv [Tracks] {b:BookS} {w:Int} (hs: -1000000000000000<=b.League.Start/\b.League.Start<=1000000000000000) (hw: -1000<=w/\w<=1000):ConP prog 51 [.vptr (zxv b) 0,.int .i64 w] (.int .i64 (zbq b.League w)):=by
 refine uOb func51 ntmps51 ?_;refine zay ?_;refine dq (zcA rfl rfl uO uO) ?_;refine gz4 ?_;refine zt rfl ?_
 rfl
theorem zou [Tracks] {S:List SlotS} {l:List ScorerS} {f:List FillS} (hz:zdK S=0) (hS0:S.length<=1000000) (hsp: ∀x∈S,x.Positions.length<=1000000) (hsc:ziM l=0) (hl:l.length<=1000000) (hb:(∀x∈l,(-1000000000000000<=x.Num/\x.Num<=1000000000000000)/\ -1000000000<=x.Den/\x.Den<=1000000000)) (hf:FillOk l S S.length f):ConP prog 198 [ze8 S,zfv l,zmt f] (.int .i64 0):=by
 have hS:=zvQ hsc;have hfl:=hf.len;have hlp: ∀x∈l,x.Positions.length<=1000000:=fun x hx=>Ar (hS.po x hx) (by decide)
 refine uOb func198 ntmps198 ?_;refine gz6 ?_;refine dq (uCl zBT rfl (zje (l:=S) hS0 hsp)) ?_;refine gz1 ?_;refine dq (uCl zBX rfl (zh4 (l:=l) hl hlp hb)) ?_;refine dq (za (hs:=[_,_]) zej zgB rfl rfl (by decide) (by decide) rfl) ?_;refine dq (uCl zkC rfl (zb0 (l:=[_,_]) (by simp))) ?_;refine gz6 ?_;refine z7 rfl (fun h1=> ?_) (fun h1=> ?_)
 exfalso
 try simp at h1
 simp [orI,hz,hsc] at h1
 try simp at h1
 refine zay ?_;refine z7 rfl (fun h2=> ?_) (fun h2=> ?_)
 exfalso
 try simp at h2
 omega
 try simp at h2
 refine gz9 ?_;refine uT1 [6,1,8,3,27,44] (fun k=>[(27,.int .i64 k)]) (fun k=>[]) (fun k=>k<=f.length/\(True)) (fun k=>f.length-k) (0) ?_ ?_;exact ⟨Ad _,trivial⟩;rintro k ⟨hk,-⟩;refine gz4 ?_;refine uCo (fun h3=> ?_) fun h4=> ?_
 obtain ⟨x,hx⟩: ∃x,f[k]? =some x:=⟨_,Aa h3⟩
 have hdx:=zg hx;have hx0:=hx;have hxl:=zm hx;refine gz8 ?_;refine de rfl (zj zga rfl fun b9=> ?_)
 refine gz1 ?_;refine de0 (zn zga rfl rfl rfl rfl rfl ?_)
 refine gz1 ?_;refine ze (zo 9 rfl) ?_;refine gz1 ?_;refine uDr mixed ?_;refine gz4 ?_;refine uB 4 rfl (zB (f:=zbZ) (l:=S) (j:=k) (a:=S.getD k zfA) zf0 zdM rfl rfl rfl (getD_some uO)) ?_;refine gz4 ?_;refine z7 rfl (fun h5=> ?_) (fun h5=> ?_)
 exfalso
 try simp at h5
 have q:=hf.key k x hx0;simp_all
 try simp at h5
 refine gz8 ?_;refine uCo (fun h6=> ?_) fun h7=> ?_
 refine gz8 ?_;refine ⟨k+1,?_,?_,⟨rfl,trivial⟩,uK,Ac _⟩
 exact ⟨by omega,trivial⟩
 dsimp only;omega
 refine gz2 ?_;obtain ⟨hno,y,hy,hcm⟩:=hf.who k x hx0 (by assumption);obtain ⟨hc1,hc2⟩:=zCr hS.so hy;have hfn:zf5 (l.map (·.Player)) x.Player=((zck (l.map (·.Player)) x.Player:Nat):Int):=by unfold zf5;rw [if_pos hc1]
 refine gz4 ?_;refine dq (zY (h':= .int .i64 ((zck (l.map (·.Player)) x.Player:Nat):Int)) (uCl zB8 rfl (zov (l:=l) (s:=x.Player) hl hS.so)) (by rw [hfn])) ?_;refine gz8 ?_;refine z7 rfl (fun h8=> ?_) (fun h8=> ?_)
 exfalso
 try simp at h8
 omega
 try simp at h8
 refine uDr mixed ?_;refine gz2 ?_;refine uB 2 rfl (zaK zlF zga rfl rfl ⟨_,_,rfl,rfl⟩ uO uO) ?_;refine gz2 ?_;refine uB 5 rfl (uCl zBZ rfl (zow (f:=f.take k) (s:=x.Player) (by rw [Am];omega))) ?_;refine gz2 ?_;refine z7 rfl (fun h9=> ?_) (fun h9=> ?_)
 exfalso
 try simp at h9
 obtain ⟨z,hz1,hz2⟩:=h9;have q:=List.any_eq_false.1 hno z hz1
 simp [hz2] at q
 try simp at h9
 refine uDr mixed ?_;refine gz2 ?_;refine uB 2 rfl (zB (f:=zcz) (l:=l) (j:=zck (l.map (·.Player)) x.Player) (a:=y) ziq zdl rfl rfl rfl hc2) ?_;refine gz1 ?_;refine uB 4 rfl (zJ (h:=eSs y.Positions) zp rfl rfl rfl) ?_;refine gz2 ?_;refine uB 7 rfl (zB (f:=zbZ) (l:=S) (j:=k) (a:=S.getD k zfA) zf0 zdM rfl rfl rfl (getD_some uO)) ?_;refine gz1 ?_;refine uB 9 rfl (zJ (h:=eSs (S.getD k zfA).Positions) zp rfl rfl rfl) ?_;refine uB 10 rfl (uCl zxG rfl (zjq (a:=y.Positions) (b:=(S.getD k zfA).Positions) (hlp y (zmC hy).1) (hsp _ (Ab (getD_some (d:=zfA) uO))))) ?_;refine gz3 ?_;refine z7 rfl (fun h10=> ?_) (fun h10=> ?_)
 exfalso
 try simp at h10
 simp_all
 try simp at h10
 refine gz8 ?_;refine ⟨k+1,?_,?_,⟨rfl,trivial⟩,uK,Ac _⟩
 exact ⟨by omega,trivial⟩
 dsimp only;omega
 have hnk:f.length<=k:=by omega
 obtain rfl:k=f.length:=by omega
 refine gz2 ?_;refine zu ?_;refine gz6 ?_;refine zt rfl ?_
 rfl
theorem zwe [Tracks] {S:List SlotS} {l:List ScorerS} {f:List FillS} {c:Str} (hS:ScoOk l) (hf:FillOk l S S.length f) (hS12:S.length<=12) (hl:l.length<=1000000):ConP prog 200 [zfv l,zmt f,.str c] (.int .i64 (sfL l f c)):=by
 have hfl:=hf.len;refine uOb func200 ntmps200 ?_;refine zdy ?_;refine uT1 [7,1,9,2,13,26] (fun k=>[(13,.int .i64 k),(7,.int .i64 (sfL l (f.take k) c))]) (fun k=>[]) (fun k=>k<=f.length/\(True)) (fun k=>f.length-k) (0) ?_ ?_;exact ⟨Ad _,trivial⟩;rintro k ⟨hk,-⟩;refine gz4 ?_;refine uCo (fun h1=> ?_) fun h2=> ?_
 obtain ⟨x,hx⟩: ∃x,f[k]? =some x:=⟨_,Aa h1⟩
 have hdx:=zg hx;have hx0:=hx;refine gz7 ?_;refine de rfl (zj zga rfl fun b9=> ?_)
 refine de0 (zn zga rfl rfl rfl rfl rfl ?_)
 refine gz1 ?_;refine ze (zo 9 rfl) ?_;refine gz6 ?_;refine uCo (fun h3=> ?_) fun h4=> ?_
 refine gz8 ?_;exact ⟨k+1,⟨by omega,trivial⟩,uD,⟨rfl,by rw [zsQ hx0,zmb,if_pos (by assumption),Int.add_zero];rfl,trivial⟩,uK,Ac _⟩;refine gz2 ?_;obtain ⟨hno,y,hy,hcm⟩:=hf.who k x hx0 (by assumption);obtain ⟨hc1,hc2⟩:=zCr hS.so hy;have hfn:zf5 (l.map (·.Player)) x.Player=((zck (l.map (·.Player)) x.Player:Nat):Int):=by unfold zf5;rw [if_pos hc1]
 have hb2:=hS.w y (zmC hy).1;have hb1:=zys hS (f:=f) uO c k;have hho:zqx l x.Player=zaJ y.Num y.Den:=by unfold zqx;rw [hy];rfl
 refine gz5 ?_;refine dq (zY (h':= .int .i64 ((zck (l.map (·.Player)) x.Player:Nat):Int)) (uCl zB8 rfl (zov (l:=l) (s:=x.Player) hl hS.so)) (by rw [hfn])) ?_;refine dq (zB (f:=zcz) (l:=l) (j:=zck (l.map (·.Player)) x.Player) (a:=y) ziq zdl rfl rfl rfl hc2) ?_;refine gz1 ?_;refine dq (zY (h':= .agg [.int .i64 y.Num,.int .i64 y.Den]) (zaF zaj rfl rfl (Ak rfl)) rfl) ?_;refine dq (uCl zjM rfl (zbu (n:=y.Num) (d:=y.Den) (hS.dn y (zmC hy).1) uO)) ?_;refine gz9 ?_;refine uCo (fun h5=> ?_) fun h6=> ?_
 refine gz2 ?_;refine dq (zcA rfl rfl uO uO) ?_;refine ziG ?_;exact ⟨k+1,⟨by omega,trivial⟩,uD,⟨rfl,by rw [zsQ hx0,zmb,if_neg (by assumption),if_pos (by assumption),hho];rfl,trivial⟩,uK,Ac _⟩;refine zda ?_;exact ⟨k+1,⟨by omega,trivial⟩,uD,⟨rfl,by rw [zsQ hx0,zmb,if_neg (by assumption),if_neg (by assumption),hho];rfl,trivial⟩,uK,Ac _⟩;have hnk:f.length<=k:=by omega
 obtain rfl:k=f.length:=by omega
 rw [Ai];refine gz2 ?_;refine zu ?_;refine gz7 ?_;refine zt rfl ?_
 rfl
theorem zwd [Tracks] {S:List SlotS} {l:List ScorerS} {f:List FillS} {c:Str} (hz:zdK S=0) (hS0:S.length<=1000000) (hsp: ∀x∈S,x.Positions.length<=1000000) (hsc:ziM l=0) (hl:l.length<=1000000) (hb:(∀x∈l,(-1000000000000000<=x.Num/\x.Num<=1000000000000000)/\ -1000000000<=x.Den/\x.Den<=1000000000)) (hf:FillOk l S S.length f) (hS12:S.length<=12) (hc:c≠[]->f.any (fun x=>x.Player==c)=true):ConP prog 121 [ze8 S,zfv l,zmt f,.str c] (.tup [ziT (ofH (sfL l f c)),.int .i64 0]):=by
 have hS:=zvQ hsc;have hfl:=hf.len;have hbd:=zys hS (f:=f) uO c f.length;rw [Ai] at hbd;refine za5 func121 rfl ntmps121 rfl rfl ?_;refine gz1 ?_;refine de rfl (zj zaj rfl fun b8=> ?_)
 refine gz7 ?_;refine dq (uCl zFC rfl (zou (S:=S) (l:=l) (f:=f) hz hS0 hsp hsc hl hb hf)) ?_;refine gz6 ?_;refine z7 rfl (fun h1=> ?_) (fun h1=> ?_)
 ·exfalso
  try simp at h1
  done
 ·try simp at h1
  refine gz9 ?_;refine uGr rfl (fun hc=>by have hq:=hc;(try simp at hq);exact uCl zBZ rfl (zow (f:=f) (s:=c) uO)) ?_;refine gz3 ?_;refine z7 rfl (fun h2=> ?_) (fun h2=> ?_)
  ·exfalso
   try simp at h2
   obtain ⟨q1,q2⟩:=h2;obtain ⟨z,hz1,hz2⟩:=List.any_eq_true.1 (hc q1);exact q2 z hz1 (by simpa using hz2)
  ·try simp at h2
   refine gz6 ?_;refine dq (uCl zFD rfl (zwe (S:=S) (l:=l) (f:=f) (c:=c) hS hf hS12 hl)) ?_;refine dq (uCl zue rfl (zed (n:=sfL l f c) uO)) ?_;refine de0 (zn (h:=ziT (ofH (sfL l f c))) zaj rfl rfl rfl rfl rfl ?_)
   refine gz3 ?_;exact ⟨_,_,zo 8 rfl,[_,_],_,⟨⟨_,_,_,_,_,rfl,zaj,.inr ⟨rfl,rfl,rfl⟩⟩,⟨rfl,trivial⟩⟩,Weak.refl _,rfl,rfl⟩
theorem znY [Tracks] {b:BookS} {n w:Int} (hT:Tracks.on=false) (hb:BookC b) (hX:BookX b) (hwk:za4 w=true) (hnm:zac n=true):ConP prog 255 [zf4 b n,.int .i64 w] (.tup [zfG (wlL b w n),.int .i64 (wlE b w n)]):=by
 have hla:=hb.bb.lea;have hok:=ziW hX.pl;have hpl:=hb.l2;have hmd:=hb.l3;have hom:=zpa (week:=w) hX.me;have hol:=zkS b.Mends w;have h40:=zqA (l:=b.Plays) (t:=b.League.Trust) (m:=zgx b.Mends w) (week:=w) (n:=n) hok hpl uO;obtain ⟨hsl,hsn⟩:=zkQ (t:=b.League.Trust) (week:=w) (n:=n) hok hpl;obtain ⟨hk1,hk2,hk3⟩:=zqz (t:=b.League.Trust) (m:=zgx b.Mends w) (week:=w) (n:=n) hok hpl uO hwk hom;have hwl:(wlL b w n).length<=40:=hk2;refine uOb func255 ntmps255 ?_;refine gz5 ?_;refine uDr mixed ?_;refine uB 0 rfl ((by first|exact zh zb6 rfl zbJ (by decide) rfl|exact zd zb6 rfl zbJ (by decide) rfl)) ?_;refine uB 1 rfl (zJ (h:= .vptr (zb (zbp b)) 0) zbJ rfl rfl rfl) ?_;refine uB 2 rfl ((by first|exact zw rfl|exact zl rfl)) ?_;refine uB 3 rfl ((by first|exact zh zbo rfl zhH (by decide) rfl|exact zd zbo rfl zhH (by decide) rfl)) ?_;refine uB 4 rfl (zJ (h:=zb4 b.Plays) zhH rfl rfl rfl) ?_;refine uB 5 rfl ((by first|exact zh zb6 rfl zbJ (by decide) rfl|exact zd zb6 rfl zbJ (by decide) rfl)) ?_;refine uB 6 rfl (zJ (h:= .vptr (zb (zbp b)) 0) zbJ rfl rfl rfl) ?_;refine uB 7 rfl ((by first|exact zw rfl|exact zl rfl)) ?_;refine uB 8 rfl ((by first|exact zh zbo rfl zaS (by decide) rfl|exact zd zbo rfl zaS (by decide) rfl)) ?_;refine uB 9 rfl ((by first|exact zh zaS rfl zp (by decide) rfl|exact zd zaS rfl zp (by decide) rfl)) ?_;refine uB 10 rfl (zJ (h:=eSs b.League.Trust) zp rfl rfl rfl) ?_;refine gz1 ?_;refine uB 12 rfl ((by first|exact zh zb6 rfl ty3 (by decide) rfl|exact zd zb6 rfl ty3 (by decide) rfl)) ?_;refine gz1 ?_;refine uB 14 rfl (zY (h':= .tup [zfG (zea b.Plays b.League.Trust w n),.int .i64 (wlE b w n)]) (uCl ca17 rfl (zos (l:=b.Plays) (trust:=b.League.Trust) (week:=w) (n:=n) hT uO hla.tr)) (by rw [(zvi hX.pl hX.tr hwk hnm).1,(zvi hX.pl hX.tr hwk hnm).2])) ?_;refine zco ?_;refine uCo (fun h1=> ?_) fun h2=> ?_
 refine gz6 ?_
 focus first
 |exact zbz rfl (zad (by rw [wlL,knL,if_pos (by simpa using h1)];exact zM 3) (Weak.refl _))
 |exact zt rfl rfl
 refine gz5 ?_;refine ze (zK 7) ?_;refine gz2 ?_;refine dq ((by first|exact zh zb6 rfl zbJ (by decide) rfl|exact zd zb6 rfl zbJ (by decide) rfl)) ?_;refine dq (zJ (h:= .vptr (zb (zbp b)) 0) zbJ rfl rfl rfl) ?_;refine dq ((by first|exact zw rfl|exact zl rfl)) ?_;refine dq ((by first|exact zh zbo rfl zg7 (by decide) rfl|exact zd zbo rfl zg7 (by decide) rfl)) ?_;refine dq (zJ (h:=zcy b.Mends) zg7 rfl rfl rfl) ?_;refine dq (zav (f:=zbY) (l:=b.Mends) zg7 rfl) ?_;refine gz3 ?_;refine uV2 [8,1,10,1,38,13] (fun (k:Nat) (u:Value)=>[(38,.int .i64 k),(8,.raw u)]) (fun (k:Nat) (u:Value)=>[.arr u 7 ((zgx (b.Mends.take k) w).map zbY)]) (fun (k:Nat) (u:Value)=>k<=b.Mends.length/\(True)) (fun (k:Nat) (u:Value)=>b.Mends.length-k) (0) (.slice none 0 0) ?_ ?_ ?_ ?_;exact ⟨Ad _,trivial⟩;exact ⟨rfl,rfl,trivial⟩;exact zk rfl
 intro k u hinv
 obtain ⟨hk,-⟩:=hinv;refine gz4 ?_;refine uCo (fun h3=> ?_) fun h4=> ?_
 obtain ⟨x,hx⟩: ∃x,b.Mends[k]? =some x:=⟨_,Aa h3⟩
 have hdx:=zg hx;refine gz5 ?_;refine dq (zB (f:=zbY) (l:=b.Mends) (j:=k) (a:=x) zg7 zbv rfl rfl rfl hx) ?_;refine gz1 ?_;refine de rfl (zj zbv rfl fun b10=> ?_)
 refine de0 (zn zbv rfl rfl rfl rfl rfl ?_)
 refine gz1 ?_;refine ze (zo 10 rfl) ?_;refine gz1 ?_;refine dq ((by first|exact zh zbv rfl ty3 (by decide) rfl|exact zd zbv rfl ty3 (by decide) rfl)) ?_;refine gz4 ?_;refine uCo (fun h5=> ?_) fun h6=> ?_
 refine gz2 ?_;refine dq (zax (h:=zbY x) zbv rfl rfl rfl rfl) ?_;refine dq (za (hs:=[_]) zg7 zbv rfl rfl (by decide) (by decide) rfl) ?_;refine de rfl (zL (i:=0) zg7 zbv rfl rfl rfl rfl rfl (by simp [zat,zb]) (by have:=zt8 b.Mends w k;simp only [Af,Aj,AA];omega) fun v49=> ?_)
 refine gz8 ?_;exact ⟨k+1,v49,⟨by omega,trivial⟩,uD,⟨rfl,rfl,trivial⟩,uK,zk (by dsimp only;rw [zAZ hx (by assumption),Aq];rfl)⟩;refine gz7 ?_;exact ⟨k+1,u,⟨by omega,trivial⟩,uD,⟨rfl,rfl,trivial⟩,uK,zk (by dsimp only;rw [zDm hx (by assumption)])⟩;have hnk:b.Mends.length<=k:=by omega
 obtain rfl:k=b.Mends.length:=by omega
 rw [Ai];refine gz2 ?_;refine zI ?_;refine gz2 ?_;refine ze (zaD 8 (i:=0) rfl rfl) ?_;have hz:wlE b w n=0:=by simpa using h2
 refine gz3 ?_;refine dq ((by first|exact zh zb6 rfl ty3 (by decide) rfl|exact zd zb6 rfl ty3 (by decide) rfl)) ?_;refine gz1 ?_;refine dq (zY (h':= .tup [zfG (wlL b w n),.int .i64 (wlE b w n)]) (uCl zGq rfl (ztV (l:=(zea b.Plays b.League.Trust w n)) (m:=zgx b.Mends w) (n:=n) uO uO (fun x hx=>Ar (hsn x hx).1 (by decide)) (fun _=>h40))) (by rw [hz,(ztn (zl5 hok hpl hwk hz) hom hnm).1,(ztn (zl5 hok hpl hwk hz) hom hnm).2,wlL,knL,if_neg (fun q=>q hz)])) ?_;refine gz6 ?_
 focus first
 |exact zbz rfl (zad (by rw [wlL,knL,if_pos (by simpa using h1)];exact zM 3) (Weak.refl _))
 |exact zt rfl rfl
theorem zk6 [Tracks] {x:LineS} {s:Str}:ConP prog 259 [zbT x,.vptr [.str s] 0] (.bool (x.Player==s)):=by
 refine uOb func259 ntmps259 ?_;refine zc9 ?_;refine zt rfl ?_
 rfl
theorem zmn [Tracks] {b:BookS} {n w:Int} {t:Str} (hT:Tracks.on=false) (hb:BookC b) (hX:BookX b) (hwk:za4 w=true) (hnm:zac n=true) (htm:b.League.Teams.contains t=true):ConP prog 192 [zf4 b n,.str t,.int .i64 w] (.tup [zfv (zr6 b t w n),.int .i64 (wlE b w n)]):=by
 have hla:=hb.bb.lea;have hok:=ziW hX.pl;have hpl:=hb.l2;have hmd:=hb.l3;have hom:=zpa (week:=w) hX.me;have hol:=zkS b.Mends w;have h40:=zqA (l:=b.Plays) (t:=b.League.Trust) (m:=zgx b.Mends w) (week:=w) (n:=n) hok hpl uO;obtain ⟨hsl,hsn⟩:=zkQ (t:=b.League.Trust) (week:=w) (n:=n) hok hpl;obtain ⟨hk1,hk2,hk3⟩:=zqz (t:=b.League.Trust) (m:=zgx b.Mends w) (week:=w) (n:=n) hok hpl uO hwk hom;have hwl:(wlL b w n).length<=40:=hk2;obtain ⟨hbm,hb0,hb1,hb2,hb3⟩:=zyM hX hwk;have hW:=hX.w;have hwr:1<=w/\w<=60:=by unfold za4 out at hwk;simp at hwk;omega
 have hok2:=zpC (b:=b.League.Bounds) (n:=zbq b.League w) hW.f.mo;have hown:(zfZ b t w).length<=1000000:=by
  have q:=(hok2.p t).2
  show (rPl (zho b.League.Bounds b.Moves (zbq b.League w)) t).length<=1000000
  omega
 have hask:zlI b.League.Bounds b.Moves t (zbq b.League w)=0:=by
  unfold zlI;rw [if_neg (by simp [orI,hW.f.bo,hW.f.mo]),if_neg (by rw [hW.tm t htm];simp),if_neg (by rw [hbm];simp)]
 refine uOb func192 ntmps192 ?_;refine gz6 ?_;refine dq (zax (h:=zf4 b n) zb6 rfl rfl rfl rfl) ?_;refine gz1 ?_;refine dq (uCl zF7 rfl (znY (b:=b) (n:=n) (w:=w) hT hb hX hwk hnm)) ?_;refine zco ?_;refine uCo (fun h1=> ?_) fun h2=> ?_
 ·refine gz6 ?_
  first
  |exact zbz rfl (zad (by rw [zr6,if_pos (by simpa using h1)];exact zM 5) (Weak.refl _))
  | (refine zao (zaD 6 (i:=0) rfl rfl) rfl ⟨?_,rfl⟩
     rw [zr6,if_neg (fun q=>q hz),hz]
     rfl)
 ·refine gz2 ?_;refine uDr mixed ?_;refine uB 0 rfl ((by first|exact zh zb6 rfl zbJ (by decide) rfl|exact zd zb6 rfl zbJ (by decide) rfl)) ?_;refine uB 1 rfl (zJ (h:= .vptr (zb (zbp b)) 0) zbJ rfl rfl rfl) ?_;refine uB 2 rfl ((by first|exact zw rfl|exact zl rfl)) ?_;refine uB 3 rfl ((by first|exact zh zbo rfl zaS (by decide) rfl|exact zd zbo rfl zaS (by decide) rfl)) ?_;refine uB 4 rfl ((by first|exact zh zaS rfl zjB (by decide) rfl|exact zd zaS rfl zjB (by decide) rfl)) ?_;refine uB 5 rfl (zY (h':=zgo b.League.Bounds) (zaF zjB rfl rfl (Ak rfl)) rfl) ?_;refine uB 6 rfl ((by first|exact zh zb6 rfl zbJ (by decide) rfl|exact zd zb6 rfl zbJ (by decide) rfl)) ?_;refine uB 7 rfl (zJ (h:= .vptr (zb (zbp b)) 0) zbJ rfl rfl rfl) ?_;refine uB 8 rfl ((by first|exact zw rfl|exact zl rfl)) ?_;refine uB 9 rfl ((by first|exact zh zbo rfl zcv (by decide) rfl|exact zd zbo rfl zcv (by decide) rfl)) ?_;refine uB 10 rfl (zJ (h:=zcJ b.Moves) zcv rfl rfl rfl) ?_;refine gz1 ?_;refine uB 12 rfl ((by first|exact zh zb6 rfl zbJ (by decide) rfl|exact zd zb6 rfl zbJ (by decide) rfl)) ?_;refine uB 13 rfl (zJ (h:= .vptr (zb (zbp b)) 0) zbJ rfl rfl rfl) ?_;refine uB 14 rfl ((by first|exact zw rfl|exact zl rfl)) ?_;refine uB 15 rfl ((by first|exact zh zbo rfl zaS (by decide) rfl|exact zd zbo rfl zaS (by decide) rfl)) ?_;refine gz1 ?_;refine uB 17 rfl (uCl zAc rfl (zhv (b:=b) hla.sta uO)) ?_;refine uB 18 rfl (uCl zF8 rfl (zwb (b:=b.League.Bounds) (l:=b.Moves) (t:=t) (n:=zbq b.League w) hb.bb.mv hask)) ?_;refine gz3 ?_;refine uF 22 ?_;refine zx rfl (zj zir rfl fun b10=> ?_)
  refine ⟨uE,?_⟩
  refine uF 23 ?_;refine zy (zn zir rfl rfl rfl rfl rfl ?_)
  refine ⟨uE,?_⟩
  refine gz2 ?_;refine ze (zo 10 rfl) ?_;have hz:wlE b w n=0:=by simpa using h2
  refine gz3 ?_;refine ze (zK 5) ?_;refine gz2 ?_;refine dq ((by first|exact zh zir rfl zp (by decide) rfl|exact zd zir rfl zp (by decide) rfl)) ?_;refine dq (zJ (h:=eSs (zfZ b t w)) zp rfl rfl rfl) ?_;refine dq (zav (f:=HVal.str) (l:=(zfZ b t w)) zp rfl) ?_;refine gz3 ?_;refine uV2 [6,2,9,1,12,1,14,4,52,50] (fun (k:Nat) (u:Value)=>[(52,.int .i64 k),(12,.raw u)]) (fun (k:Nat) (u:Value)=>[.arr u 5 ((zkW b.League (wlL b w n) ((zfZ b t w).take k)).map zcz)]) (fun (k:Nat) (u:Value)=>k<=(zfZ b t w).length/\(True)) (fun (k:Nat) (u:Value)=>(zfZ b t w).length-k) (0) (.slice none 0 0) ?_ ?_ ?_ ?_
  ·exact ⟨Ad _,trivial⟩
  ·exact ⟨rfl,rfl,trivial⟩
  ·exact zk rfl
  ·intro k u hinv
   obtain ⟨hk,-⟩:=hinv;refine gz4 ?_;refine uCo (fun h3=> ?_) fun h4=> ?_
   ·obtain ⟨s,hs⟩: ∃s,(zfZ b t w)[k]? =some s:=⟨_,Aa h3⟩
    have hds:=zg hs;refine gz5 ?_;refine dq (zB (f:=HVal.str) (l:=(zfZ b t w)) (j:=k) (a:=s) zp ty9 rfl rfl rfl hs) ?_;refine gz1 ?_;refine de rfl (zj ty9 rfl fun b14=> ?_)
    refine de0 (zn ty9 rfl rfl rfl rfl rfl ?_)
    refine gz1 ?_;refine ze (zo 14 rfl) ?_;refine gz1 ?_;refine dq (zax (h:=zf4 b n) zb6 rfl rfl rfl rfl) ?_;refine gz1 ?_;refine dq (uCl zF9 rfl (zoo (b:=b) (n:=n) (s:=s) hla.pl hW.so)) ?_;refine gz5 ?_;refine dq (zyl (o:=(plO b.League.Players s).map fun p=>zb (ze7 p)) zHu rfl rfl) ?_;refine gz1 ?_;refine uCo (fun h5=> ?_) fun h6=> ?_
    ·refine gz8 ?_;exact ⟨k+1,u,⟨by omega,trivial⟩,uD,⟨rfl,rfl,trivial⟩,uK,zk (by dsimp only;rw [zqF hs,zvR uSa];simp)⟩
    ·refine gz2 ?_;obtain ⟨p,hp⟩:=zEq (L:=b.League.Players) (s:=s) (by assumption);have hpm:=Br hp;rw [hp];refine uVj [16,1,61,8] (fun (b16:Nat)=>[(16,pAt b16)]) (fun (b16:Nat)=>[.cells b16 [.str s,eSs p.Positions,.int .i64 0,.int .i64 1,.bool false],.arr u 5 ((zkW b.League (wlL b w n) ((zfZ b t w).take k)).map zcz)]) (fun (b16:Nat)=>True) ?_ ?_
     ·skip
      refine zgC mixed ?_;refine gz2 ?_;refine uB 2 rfl ((by first|exact zw rfl|exact zl rfl)) ?_;refine uB 3 rfl ((by first|exact zh ze2 rfl zp (by decide) rfl|exact zd ze2 rfl zp (by decide) rfl)) ?_;refine uB 4 rfl (zJ (h:=eSs p.Positions) zp rfl rfl rfl) ?_;refine uB 6 rfl (zF (cs:=[_,_]) zaj zl8 rfl) ?_;refine ziz 5 8 rfl rfl (by kernel_rfl) ?_ ?_
      ·skip
       refine zx rfl (zqL (uCa zkD rfl (zaf (l:=p.Positions) (hla.po p hpm)) fun v=>⟨v,rfl,rfl⟩) ?_)
       refine ⟨uE,?_⟩
       refine uB 7 rfl (zF (cs:=[_,_,_,_,_]) zdl zCn rfl) ?_;refine uF 8 ?_;refine zx rfl (zj zdl rfl fun b16=> ?_)
       refine ⟨uE,?_⟩
       refine uF 9 ?_
       first
       |refine zy (uY 0 ?_)
       |refine zy (uY 1 ?_)
       |refine zy (uY 2 ?_)
       |refine zy (uY 3 ?_)
       refine ⟨uE,?_⟩
       refine uAz ?_;refine ⟨b16,?_,⟨rfl,trivial⟩,uK,zk rfl⟩
       ·trivial
      ·skip
       refine zx rfl (zj zdl rfl fun b16=> ?_)
       refine ⟨uE,?_⟩
       refine uF 5 ?_;refine zx rfl (zqL (uCa zkD rfl (zaf (l:=p.Positions) (hla.po p hpm)) fun v=>⟨v,rfl,rfl⟩) ?_)
       refine ⟨uE,?_⟩
       refine uB 7 rfl (zF (cs:=[_,_,_,_,_]) zdl zCn rfl) ?_;refine uF 9 ?_
       first
       |refine zy (uY 0 ?_)
       |refine zy (uY 1 ?_)
       |refine zy (uY 2 ?_)
       |refine zy (uY 3 ?_)
       refine ⟨uE,?_⟩
       refine uAz ?_;refine ⟨b16,?_,⟨rfl,trivial⟩,uK,zk rfl⟩
       ·trivial
     ·intro b16 _
      refine gz1 ?_;obtain ⟨sc,hsc⟩:=zEw (L:=wlL b w n) hp;refine gz3 ?_;refine dq (uCl zGa rfl (zgj (l:=wlL b w n) (p:=fun x=>x.Player==s) zGb (fun _=>zk6) uO)) ?_;refine gz6 ?_;refine uCo (fun h7=> ?_) fun h8=> ?_
      ·obtain ⟨i0,x0,e1,e2,e3⟩:=ztb (p:=fun x:LineS=>x.Player==s) (l:=wlL b w n) (by assumption);rw [e1];refine gz2 ?_
       first
       |refine de0 (uY 0 ?_)
       |refine de0 (uY 1 ?_)
       |refine de0 (uY 2 ?_)
       |refine de0 (uY 3 ?_)
       refine gz1 ?_;refine uDr mixed ?_;refine uB 0 rfl ((by first|exact zh zb6 rfl zbJ (by decide) rfl|exact zd zb6 rfl zbJ (by decide) rfl)) ?_;refine uB 1 rfl (zJ (h:= .vptr (zb (zbp b)) 0) zbJ rfl rfl rfl) ?_;refine uB 2 rfl ((by first|exact zw rfl|exact zl rfl)) ?_;refine uB 3 rfl ((by first|exact zh zbo rfl zaS (by decide) rfl|exact zd zbo rfl zaS (by decide) rfl)) ?_;refine uB 4 rfl ((by first|exact zh zaS rfl zpl (by decide) rfl|exact zd zaS rfl zpl (by decide) rfl)) ?_;refine uB 5 rfl (zJ (h:=zgp b.League.Rules) zpl rfl rfl rfl) ?_;refine gz1 ?_;refine uB 7 rfl ((by first|exact zw rfl|exact zl rfl)) ?_;refine uB 8 rfl ((by first|exact zh ze2 rfl zp (by decide) rfl|exact zd ze2 rfl zp (by decide) rfl)) ?_;refine uB 9 rfl (zJ (h:=eSs p.Positions) zp rfl rfl rfl) ?_;refine gz2 ?_;refine uB 12 rfl (zB (f:=zbT) (l:=wlL b w n) (j:=i0) (a:=x0) znE zcZ rfl rfl rfl e2) ?_;refine uB 13 rfl (zax (h:=zbT x0) zcZ rfl rfl rfl rfl) ?_;refine uB 14 rfl (uCl zGc rfl (zsh (R:=b.League.Rules) (pos:=p.Positions) (x:=x0) hla.ru hla.rw' hX.ru (hX.po p hpm) (zwU hk1 (Ab e2)))) ?_;refine gz4 ?_;refine uF 19 ?_
       first
       |refine zy (uY 0 ?_)
       |refine zy (uY 1 ?_)
       |refine zy (uY 2 ?_)
       |refine zy (uY 3 ?_)
       refine ⟨uE,?_⟩
       refine gz6 ?_;refine z7 rfl (fun h9=> ?_) (fun h9=> ?_)
       ·exfalso
        try simp at h9
        done
       ·try simp at h9
        refine gz2 ?_;refine ze (Ghost.perm (M':=[.cells b16 (zb (zcz sc)),.arr u 5 ((zkW b.League (wlL b w n) ((zfZ b t w).take k)).map zcz)]) (zk (by first|(rw [zmE hp e3] at hsc;cases hsc;rfl)|(rw [zmD hp (zoZ uO)] at hsc;cases hsc;rfl)))) ?_;refine ze (zbC 16 (i:=0) rfl rfl) ?_;refine gz2 ?_;refine dq (zax (h:=zcz sc) zdl rfl rfl rfl rfl) ?_;refine dq (za (hs:=[_]) ziq zdl rfl rfl (by decide) (by decide) rfl) ?_;refine de rfl (zL (i:=0) ziq zdl rfl rfl rfl rfl rfl (by simp [zat,zb]) (by have:=zpD b.League (wlL b w n) ((zfZ b t w).take k);simp only [Af,Aj,AA,Am] at*;omega) fun v100=> ?_)
        refine gz8 ?_;exact ⟨k+1,v100,⟨by omega,trivial⟩,uD,⟨rfl,rfl,trivial⟩,uK,zk (by dsimp only;rw [zqF hs,hsc];simp)⟩
      ·refine gz2 ?_;refine ze (Ghost.perm (M':=[.cells b16 (zb (zcz sc)),.arr u 5 ((zkW b.League (wlL b w n) ((zfZ b t w).take k)).map zcz)]) (zk (by first|(rw [zmE hp e3] at hsc;cases hsc;rfl)|(rw [zmD hp (zoZ uO)] at hsc;cases hsc;rfl)))) ?_;refine ze (zbC 16 (i:=0) rfl rfl) ?_;refine gz2 ?_;refine dq (zax (h:=zcz sc) zdl rfl rfl rfl rfl) ?_;refine dq (za (hs:=[_]) ziq zdl rfl rfl (by decide) (by decide) rfl) ?_;refine de rfl (zL (i:=0) ziq zdl rfl rfl rfl rfl rfl (by simp [zat,zb]) (by have:=zpD b.League (wlL b w n) ((zfZ b t w).take k);simp only [Af,Aj,AA,Am] at*;omega) fun v100=> ?_)
       refine gz8 ?_;exact ⟨k+1,v100,⟨by omega,trivial⟩,uD,⟨rfl,rfl,trivial⟩,uK,zk (by dsimp only;rw [zqF hs,hsc];simp)⟩
   ·have hnk:(zfZ b t w).length<=k:=by omega
    obtain rfl:k=(zfZ b t w).length:=by omega
    rw [Ai];refine gz2 ?_;refine zI ?_;refine gz8 ?_
    first
    |exact zbz rfl (zad (by rw [zr6,if_pos (by simpa using h1)];exact zM 5) (Weak.refl _))
    | (refine zao (zaD 6 (i:=0) rfl rfl) rfl ⟨?_,rfl⟩
       rw [zr6,if_neg (fun q=>q hz),hz]
       rfl)
end
end Go.Proofs.YtnfmbjchkjijpaaGreatDoor
namespace Go.HL
section
section
variable {fit:Nat->Nat->Bool} {w:Nat->Int} {T:Nat->Bool} {fr m:Nat}
end
section
variable {fit:Nat->Nat->Bool} {w:Nat->Int} {n N:Nat} {T:Nat->Bool} {fr:Nat}
end
end
section
open Go Op
end
end Go.HL
namespace Go.Proofs.YtnfmbjchkjijpaaGreatDoor
set_option maxRecDepth 100000
set_option linter.unusedVariables false
set_option linter.unusedSimpArgs false
section
open Go.Proofs.Tryz
open Go.HL
theorem zhx [Tracks] {l:List GameS} (hl:l.length<=1000000):zuB prog 50 [.slice 8 (l.map zam)] 8 (l.map zam):=by
 refine uOb func50 ntmps50 ?_;refine gz6 ?_;refine de rfl (zoI zcG rfl rfl fun b4 hb4=> ?_)
 refine gz1 ?_;refine uCo (fun h1=> ?_) fun h2=> ?_
 refine gz4 ?_;exact zao (zK 8) rfl ⟨_,rfl,by simp_all⟩;refine gz3 ?_;refine de rfl (zsu zcG za8 fun v5=> ?_)
 refine gz1 ?_;refine de rfl (zL (i:=0) zcG za8 rfl rfl rfl rfl rfl (by simp [zat,zb]) uSo fun v7=> ?_)
 refine gz3 ?_;exact zuu rfl rfl
theorem zql [Tracks] {x:ScorerS} {s:Str}:ConP prog 262 [zcz x,.vptr [.str s] 0] (.bool (x.Player==s)):=by
 refine uOb func262 ntmps262 ?_;refine zc9 ?_;refine zt rfl ?_
 rfl
theorem zsc [Tracks] {S:List SlotS} {l:List ScorerS} {c:Option ChoiceS} (hS:S.length<=1000000) (hsp: ∀x∈S,x.Positions.length<=1000000) (hl:l.length<=1000000) (hlp: ∀x∈l,x.Positions.length<=1000000) (hcl: ∀c0,c=some c0->c0.Players.length=S.length):ConP prog 195 [ze8 S,zfv l,pCh c] (zmt (zc6 l c S S.length)):=by
 refine uOb func195 ntmps195 ?_;refine gz6 ?_;refine ze (zK 2) ?_;refine gz1 ?_;refine de rfl (zaN fun m14=> ?_)
 refine gz9 ?_;refine uV2 [7,1,9,5,17,47] (fun (k:Nat) (u:Value)=>[(17,.int .i64 k),(7,.raw u)]) (fun (k:Nat) (u:Value)=>[.arr u 2 ((zc6 l c S k).map zb9),.map m14 (sk (zaY (zcb l c S k).2))]) (fun (k:Nat) (u:Value)=>k<=S.length/\(True)) (fun (k:Nat) (u:Value)=>S.length-k) (0) (.slice none 0 0) ?_ ?_ ?_ ?_;exact ⟨Ad _,trivial⟩;exact ⟨rfl,rfl,trivial⟩;exact uP
 intro k u hinv
 obtain ⟨hk,-⟩:=hinv;refine gz4 ?_;refine uCo (fun h1=> ?_) fun h2=> ?_
 obtain ⟨x,hx⟩: ∃x,S[k]? =some x:=⟨_,Aa h1⟩
 have hdx:=zg hx;have hx0:=hx;have hxl:=zm hx;have hsk:S.getD k zfA=x:=by rw [Ag,hx];rfl
 refine gz8 ?_;refine de rfl (zj zdM rfl fun b10=> ?_)
 refine gz1 ?_;refine de0 (zn zdM rfl rfl rfl rfl rfl ?_)
 refine gz1 ?_;refine ze (zo 10 rfl) ?_;refine gz1 ?_;refine dq ((by first|exact zh zdM rfl ty9 (by decide) rfl|exact zd zdM rfl ty9 (by decide) rfl)) ?_;refine gz1 ?_;refine dq (zF (cs:=[_,_]) zga zHn rfl) ?_;refine de rfl (zj zga rfl fun b11=> ?_)
 focus first
 |refine de0 (uY 0 ?_)
 |refine de0 (uY 1 ?_)
 |refine de0 (uY 2 ?_)
 |refine de0 (uY 3 ?_)
 refine gz4 ?_;refine dq (zw4 (o:=c.map fun c=>zb (zaq c)) zj2 rfl rfl) ?_;refine gz1 ?_;refine uCo (fun h3=> ?_) fun h4=> ?_
 obtain ⟨c0,hc0⟩: ∃c0,c=some c0:=by
  cases c with
  |none=>simp_all
  |some c0=>exact ⟨c0,rfl⟩
 subst hc0;have hcn:=hcl c0 rfl;refine gz2 ?_;refine dq ((by first|exact zw rfl|exact zl rfl)) ?_;refine dq ((by first|exact zh zeJ rfl zp (by decide) rfl|exact zd zeJ rfl zp (by decide) rfl)) ?_;refine dq (zJ (h:=eSs c0.Players) zp rfl rfl rfl) ?_;refine gz1 ?_;refine dq (zB (f:=HVal.str) (l:=c0.Players) (j:=k) (a:=zg8 c0 k) zp ty9 rfl rfl rfl (getD_some uO)) ?_;refine gz1 ?_;refine de rfl (zj ty9 rfl fun b12=> ?_)
 refine de0 (zn ty9 rfl rfl rfl rfl rfl ?_)
 refine gz1 ?_;refine ze (zo 12 rfl) ?_;refine gz3 ?_;refine dq (uCl zGd rfl (zft (l:=l) (p:=fun x=>x.Player==zg8 c0 k) zGe (fun _=>zql) hl)) ?_;refine gz2 ?_;obtain ⟨z,i0,hz1,hz2,hz3⟩:=zAD l (zg8 c0 k);rw [hz1];refine zbb (fun M=>M=[.cells b11 [.str x.Key,.str []],.arr u 2 ((zc6 l (some c0) S k).map zb9),.map m14 (sk (zaY (zcb l (some c0) S k).2))]) [5] mixed ?_;refine gz5 ?_;refine zkj 5 rfl rfl (by kernel_rfl) (by kernel_rfl) (by simp) rfl rfl (fun hc=>⟨_,OpenTo.upd (t:=41) rfl uC (OpenTo.upd (t:=40) rfl uC (OpenTo.refl _)),fun M hM=>by
  subst hM;exact zst (i:=2) ziY ty9 ty4 rfl rfl rfl ⟨rfl,rfl⟩
  ⟩) ?_
 refine gz5 ?_;refine ahg 11 rfl rfl (by kernel_rfl) (by kernel_rfl) rfl (fun hc=>by
  have hq:0<=z:=by (have q:=hc;simp at q;omega)
  exact ⟨_,OpenTo.upd (t:=47) rfl uC (OpenTo.upd (t:=46) rfl uC (OpenTo.refl _)),zB (f:=zcz) (l:=l) (j:=i0) (a:=l.getD i0 zcD) ziq zdl rfl (by rw [<-(hz2 hq).1];rfl) rfl (hz2 hq).2.1⟩) ?_
 refine uGy 12 rfl rfl (fun hc=>(by first|exact zh zdl rfl zp (by decide) rfl|exact zd zdl rfl zp (by decide) rfl)) ?_;refine uGy 13 rfl rfl (fun hc=>zJ (h:=eSs (l.getD i0 zcD).Positions) zp rfl rfl rfl) ?_;refine uGy 14 rfl rfl (fun hc=>(by first|exact zh zdM rfl zp (by decide) rfl|exact zd zdM rfl zp (by decide) rfl)) ?_;refine uGy 15 rfl rfl (fun hc=>zJ (h:=eSs x.Positions) zp rfl rfl rfl) ?_;refine ahg 16 rfl rfl (by kernel_rfl) (by kernel_rfl) rfl (fun hc=>by
  have hq:0<=z:=by (have q:=hc;simp at q;omega)
  exact ⟨_,OpenTo.upd (t:=52) rfl uC (OpenTo.upd (t:=50) rfl uC (OpenTo.refl _)),uCl zxG rfl (zjq (a:=(l.getD i0 zcD).Positions) (b:=x.Positions) (hlp _ (Ab (hz2 hq).2.1)) (hsp x (Ab hx0)))⟩) ?_
 refine gz2 ?_;refine uCo (fun h5=> ?_) fun h6=> ?_
 refine zgC mixed ?_;refine gz4 ?_;refine uF 4 ?_
 focus first
 |refine zy (uY 0 ?_)
 |refine zy (uY 1 ?_)
 |refine zy (uY 2 ?_)
 |refine zy (uY 3 ?_)
 refine ⟨uE,?_⟩
 refine uF 5 ?_
 focus first
 |refine zy (zc5 (i:=0) ziY ty9 rfl rfl rfl rfl ?_)
 |refine zy (zc5 (i:=1) ziY ty9 rfl rfl rfl rfl ?_)
 |refine zy (zc5 (i:=2) ziY ty9 rfl rfl rfl rfl ?_)
 |refine zy (zc5 (i:=3) ziY ty9 rfl rfl rfl rfl ?_)
 refine ⟨uE,?_⟩
 refine gz2 ?_
 focus first
 |refine ze (Ghost.perm (M':=[.cells b11 (zb (zb9 ⟨x.Key,zg8 c0 k⟩)),.arr u 2 ((zc6 l (some c0) S k).map zb9),.map m14 (sk (zaY (zci (zg8 c0 k) (zcb l (some c0) S k).2)))]) (zk rfl)) ?_
 |refine ze (Ghost.perm (M':=[.cells b11 (zb (zb9 ⟨x.Key,[]⟩)),.arr u 2 ((zc6 l (some c0) S k).map zb9),.map m14 (sk (zaY (zcb l (some c0) S k).2))]) (zk rfl)) ?_
 |refine ze (Ghost.perm (M':=[.cells b11 (zb (zb9 ⟨x.Key,[]⟩)),.arr u 2 ((zc6 l c S k).map zb9),.map m14 (sk (zaY (zcb l c S k).2))]) (zk rfl)) ?_
 refine ze (zbC 11 (i:=0) rfl rfl) ?_
 first|have hfn:=zfw l (some c0) S k|have hfn:=zfw l c S k
 refine gz3 ?_;refine dq (za (hs:=[_]) zlF zga rfl rfl (by decide) (by decide) rfl) ?_;refine de rfl (zL (i:=0) zlF zga rfl rfl rfl rfl rfl (by simp [zat,zb]) (by simp only [Af,Aj,AA];omega) fun v62=> ?_)
 refine gz8 ?_;have hyes:=zsw (l:=l) (c:=some c0) (S:=S) (n:=k) (by rw [zw1 hz2 hz3,hsk];clear hz2 hz3 hz1 hsp hlp hcl;simp_all);exact ⟨k+1,v62,⟨by omega,trivial⟩,uD,⟨rfl,rfl,trivial⟩,uK,zk (by dsimp only;unfold zc6;rw [hyes,hsk];simp only [Aq];try rfl)⟩;refine gz2 ?_
 focus first
 |refine ze (Ghost.perm (M':=[.cells b11 (zb (zb9 ⟨x.Key,zg8 c0 k⟩)),.arr u 2 ((zc6 l (some c0) S k).map zb9),.map m14 (sk (zaY (zci (zg8 c0 k) (zcb l (some c0) S k).2)))]) (zk rfl)) ?_
 |refine ze (Ghost.perm (M':=[.cells b11 (zb (zb9 ⟨x.Key,[]⟩)),.arr u 2 ((zc6 l (some c0) S k).map zb9),.map m14 (sk (zaY (zcb l (some c0) S k).2))]) (zk rfl)) ?_
 |refine ze (Ghost.perm (M':=[.cells b11 (zb (zb9 ⟨x.Key,[]⟩)),.arr u 2 ((zc6 l c S k).map zb9),.map m14 (sk (zaY (zcb l c S k).2))]) (zk rfl)) ?_
 refine ze (zbC 11 (i:=0) rfl rfl) ?_
 first|have hfn:=zfw l (some c0) S k|have hfn:=zfw l c S k
 refine gz3 ?_;refine dq (za (hs:=[_]) zlF zga rfl rfl (by decide) (by decide) rfl) ?_;refine de rfl (zL (i:=0) zlF zga rfl rfl rfl rfl rfl (by simp [zat,zb]) (by simp only [Af,Aj,AA];omega) fun v62=> ?_)
 refine gz8 ?_;have hno:=zrk (l:=l) (c:=some c0) (S:=S) (n:=k) (by rw [zw1 hz2 hz3,hsk];clear hz2 hz3 hz1 hsp hlp hcl;simp_all);exact ⟨k+1,v62,⟨by omega,trivial⟩,uD,⟨rfl,rfl,trivial⟩,uK,zk (by dsimp only;unfold zc6;rw [hno,hsk];simp only [Aq];try rfl)⟩;refine gz2 ?_
 focus first
 |refine ze (Ghost.perm (M':=[.cells b11 (zb (zb9 ⟨x.Key,zg8 c0 k⟩)),.arr u 2 ((zc6 l (some c0) S k).map zb9),.map m14 (sk (zaY (zci (zg8 c0 k) (zcb l (some c0) S k).2)))]) (zk rfl)) ?_
 |refine ze (Ghost.perm (M':=[.cells b11 (zb (zb9 ⟨x.Key,[]⟩)),.arr u 2 ((zc6 l (some c0) S k).map zb9),.map m14 (sk (zaY (zcb l (some c0) S k).2))]) (zk rfl)) ?_
 |refine ze (Ghost.perm (M':=[.cells b11 (zb (zb9 ⟨x.Key,[]⟩)),.arr u 2 ((zc6 l c S k).map zb9),.map m14 (sk (zaY (zcb l c S k).2))]) (zk rfl)) ?_
 refine ze (zbC 11 (i:=0) rfl rfl) ?_
 first|have hfn:=zfw l (some c0) S k|have hfn:=zfw l c S k
 refine gz3 ?_;refine dq (za (hs:=[_]) zlF zga rfl rfl (by decide) (by decide) rfl) ?_;refine de rfl (zL (i:=0) zlF zga rfl rfl rfl rfl rfl (by simp [zat,zb]) (by simp only [Af,Aj,AA];omega) fun v62=> ?_)
 refine gz8 ?_;have hcn:c=none:=by cases c with|none=>rfl|some c0=>simp_all
 subst hcn;have hno:=zrk (l:=l) (c:=none) (S:=S) (n:=k) rfl;exact ⟨k+1,v62,⟨by omega,trivial⟩,uD,⟨rfl,rfl,trivial⟩,uK,zk (by dsimp only;unfold zc6;rw [hno,hsk];simp only [Aq];try rfl)⟩;have hnk:S.length<=k:=by omega
 obtain rfl:k=S.length:=by omega
 refine gz2 ?_;refine zI ?_;refine gz7 ?_;exact zao ((zaD 6 (i:=0) rfl rfl).trans Ghost.clear) rfl ⟨rfl,rfl⟩
theorem zk5 [Tracks] {x:FillS} {o:Option ChoiceS} (hq:o.isSome=true):ConP prog 197 [zb9 x,.vptr [pCh o] 0] (.bool (x.Player==(ze6 o).Captain)):=by
 refine uOb func197 ntmps197 ?_;refine gz4 ?_;refine uDr mixed ?_;refine gz2 ?_;refine uB 2 rfl (zY (h':= .vptr (zb (zaq (ze6 o))) 0) (zJ (h:=pCh o) zj2 rfl rfl rfl) (zqE hq)) ?_;refine uB 3 rfl ((by first|exact zw rfl|exact zl rfl)) ?_;refine gz6 ?_;refine zt rfl ?_
 rfl
theorem zml [Tracks] {b:BookS} {n w:Int} {t:Str} (hT:Tracks.on=false) (hb:BookC b) (hX:BookX b) (hwk:za4 w=true) (hnm:zac n=true) (htm:b.League.Teams.contains t=true):ConP prog 120 [zf4 b n,.str t,.int .i64 w] (.tup [zfv (FdL b t w n),zmt (FdF b t w n),.str (FdP b t w n),.int .i64 (fdE b t w n)]):=by
 have hW:=hX.w;have hla:=hb.bb.lea;have hdn: ∀y∈dsL b t w n,(-1000000000000000<=y.Num/\y.Num<=1000000000000000)/\ -1000000000<=y.Den/\y.Den<=1000000000:=zzR hX.ru (zCh hX hb hwk n)
 have hdp: ∀y∈dsL b t w n,y.Positions.length<=1000000:=zxg hla.po
 have hdl:(dsL b t w n).length<=1000000:=Ar (zpD b.League (wlL b w n) (zfZ b t w)) (by
  have q2:=((zpC (b:=b.League.Bounds) (n:=zbq b.League w) hW.f.mo).p t).2
  show (rPl (zho b.League.Bounds b.Moves (zbq b.League w)) t).length<=1000000
  omega)
 have hsl:=hW.sl;have hwr:1<=w/\w<=60:=by unfold za4 out at hwk;simp at hwk;omega
 refine uOb func120 ntmps120 ?_;refine gz8 ?_;refine dq (zax (h:=zf4 b n) zb6 rfl rfl rfl rfl) ?_;refine gz2 ?_;refine dq (uCl zFy rfl (zmn (b:=b) (n:=n) (w:=w) (t:=t) hT hb hX hwk hnm htm)) ?_;refine zco ?_;refine uCo (fun h1=> ?_) fun h2=> ?_
 refine gz8 ?_
 focus first
 | (have q1:fdE b t w n=wlE b w n:=zrj (by simpa using h1)
    have q2:fdE b t w n≠0:=by rw [q1];simpa using h1
    refine zbz rfl (zfo (by rw [FdL,if_pos q2];exact zM 5) (by rw [FdF,if_pos q2];exact zM 2) (by rw [FdP,if_pos q2];exact Weak.refl _) (by rw [q1];exact Weak.refl _)))
 | (have q1:fdE b t w n=ziM (dsL b t w n):=zoP hz
    have q2:fdE b t w n≠0:=by rw [q1];simpa using h3
    refine zbz rfl (zfo (by rw [FdL,if_pos q2];exact zM 5) (by rw [FdF,if_pos q2];exact zM 2) (by rw [FdP,if_pos q2];exact Weak.refl _) (by rw [q1];exact Weak.refl _)))
 | (refine zt rfl ?_
    rw [FdL,FdF,FdP,if_neg (fun q=>q hfz),if_neg (fun q=>q hfz),if_neg (fun q=>q hfz),hfz]
    focus first
    |(rw [show fdP b t w n=(ze6 (fdC b t w n)).Captain from zm9 h5];focus first|done|rfl)
    | (rw [show fdP b t w n=[] from zpq h6];focus first|done|rfl))
 refine gz3 ?_;have hz:wlE b w n=0:=by simpa using h2
 rw [zr6,if_neg (fun q=>q hz)];refine gz2 ?_;refine dq (uCl zBX rfl (zh4 (l:=dsL b t w n) hdl hdp hdn)) ?_;refine gz6 ?_;refine uCo (fun h3=> ?_) fun h4=> ?_
 refine gz8 ?_
 focus first
 | (have q1:fdE b t w n=wlE b w n:=zrj (by simpa using h1)
    have q2:fdE b t w n≠0:=by rw [q1];simpa using h1
    refine zbz rfl (zfo (by rw [FdL,if_pos q2];exact zM 5) (by rw [FdF,if_pos q2];exact zM 2) (by rw [FdP,if_pos q2];exact Weak.refl _) (by rw [q1];exact Weak.refl _)))
 | (have q1:fdE b t w n=ziM (dsL b t w n):=zoP hz
    have q2:fdE b t w n≠0:=by rw [q1];simpa using h3
    refine zbz rfl (zfo (by rw [FdL,if_pos q2];exact zM 5) (by rw [FdF,if_pos q2];exact zM 2) (by rw [FdP,if_pos q2];exact Weak.refl _) (by rw [q1];exact Weak.refl _)))
 | (refine zt rfl ?_
    rw [FdL,FdF,FdP,if_neg (fun q=>q hfz),if_neg (fun q=>q hfz),if_neg (fun q=>q hfz),hfz]
    focus first
    |(rw [show fdP b t w n=(ze6 (fdC b t w n)).Captain from zm9 h5];focus first|done|rfl)
    | (rw [show fdP b t w n=[] from zpq h6];focus first|done|rfl))
 refine gz2 ?_;have hs0:ziM (dsL b t w n)=0:=by simp_all
 have hfz:fdE b t w n=0:=(zoP hz).trans hs0;have hfl:(fdF b t w n).length=b.League.Slots.length:=zfw (dsL b t w n) (fdC b t w n) b.League.Slots b.League.Slots.length;refine uDr mixed ?_;refine uB 0 rfl (zax (h:=zf4 b n) zb6 rfl rfl rfl rfl) ?_;refine gz3 ?_;refine uB 4 rfl (zJ (h:= .vptr (zb (zbp b)) 0) zbJ rfl rfl rfl) ?_;refine uB 5 rfl ((by first|exact zw rfl|exact zl rfl)) ?_;refine gz2 ?_;refine uB 8 rfl (uCl zAc rfl (zhv (b:=b) hla.sta uO)) ?_;refine uB 9 rfl (uCl zFz rfl (zmW (b:=b) (n:=n) (w:=w) (t:=t) (f:=zbq b.League w) hb.bb.ch)) ?_;refine uF 10 ?_;refine zx rfl (zj zj2 rfl fun b10=> ?_)
 refine ⟨uE,?_⟩
 refine uF 11 ?_;refine zy (zn (h:=pCh (fdC b t w n)) zj2 rfl rfl (zDi _) (zy9 _) rfl ?_)
 refine ⟨uE,?_⟩
 refine gz1 ?_;refine ze (zo 10 rfl) ?_;rw [show zb (pCh (fdC b t w n))=[pCh (fdC b t w n)] from zxM _];refine uDr mixed ?_;refine gz1 ?_;refine uB 1 rfl (zJ (h:= .vptr (zb (zbp b)) 0) zbJ rfl rfl rfl) ?_;refine uB 2 rfl ((by first|exact zw rfl|exact zl rfl)) ?_;refine gz2 ?_;refine uB 5 rfl (zJ (h:=ze8 b.League.Slots) zf0 rfl rfl rfl) ?_;refine gz2 ?_;refine uB 8 rfl (uCl zFA rfl (zsc (S:=b.League.Slots) (l:=dsL b t w n) (c:=(fdC b t w n)) hla.sl hla.sp hdl hdp (fun c0 e=>zCK hW e))) ?_;refine gz4 ?_;refine dq (zJ (h:=pCh (fdC b t w n)) zj2 rfl rfl rfl) ?_;refine dq (zw4 (o:=(fdC b t w n).map fun c=>zb (zaq c)) zj2 rfl rfl) ?_;refine gz1 ?_;refine dg rfl rfl (fun hc=>by
  have hq:(fdC b t w n).isSome=true:=by (have q:=hc;cases hv:(fdC b t w n)<;>simp_all)
  exact ⟨_,OpenTo.refl _,zY (h':= .vptr (zb (zaq (ze6 (fdC b t w n)))) 0) (zJ (h:=pCh (fdC b t w n)) zj2 rfl rfl rfl) (zqE hq)⟩) ?_
 refine uGr rfl (fun hc=>(by first|exact zw rfl|exact zl rfl)) ?_;refine gz7 ?_;refine dg rfl rfl (fun hc=>by
  have hq:(fdC b t w n).isSome=true:=by (have q:=hc;cases hv:(fdC b t w n)<;>simp_all)
  exact ⟨_,OpenTo.upd (t:=56) rfl uC (OpenTo.upd (t:=55) rfl uC (OpenTo.refl _)),uCl zBY rfl (zcU (l:=fdF b t w n) (p:=fun x=>x.Player==(ze6 (fdC b t w n)).Captain) zFB (fun _=>zk5 hq) uO)⟩) ?_
 refine gz2 ?_;refine uCo (fun h5=> ?_) fun h6=> ?_
 have hq:(fdC b t w n).isSome=true:=by cases hv:(fdC b t w n)<;>simp_all
 refine gz1 ?_;refine dq (zY (h':= .vptr (zb (zaq (ze6 (fdC b t w n)))) 0) (zJ (h:=pCh (fdC b t w n)) zj2 rfl rfl rfl) (zqE hq)) ?_;refine dq ((by first|exact zw rfl|exact zl rfl)) ?_;refine ziG ?_
 focus first
 | (have q1:fdE b t w n=wlE b w n:=zrj (by simpa using h1)
    have q2:fdE b t w n≠0:=by rw [q1];simpa using h1
    refine zbz rfl (zfo (by rw [FdL,if_pos q2];exact zM 5) (by rw [FdF,if_pos q2];exact zM 2) (by rw [FdP,if_pos q2];exact Weak.refl _) (by rw [q1];exact Weak.refl _)))
 | (have q1:fdE b t w n=ziM (dsL b t w n):=zoP hz
    have q2:fdE b t w n≠0:=by rw [q1];simpa using h3
    refine zbz rfl (zfo (by rw [FdL,if_pos q2];exact zM 5) (by rw [FdF,if_pos q2];exact zM 2) (by rw [FdP,if_pos q2];exact Weak.refl _) (by rw [q1];exact Weak.refl _)))
 | (refine zt rfl ?_
    rw [FdL,FdF,FdP,if_neg (fun q=>q hfz),if_neg (fun q=>q hfz),if_neg (fun q=>q hfz),hfz]
    focus first
    |(rw [show fdP b t w n=(ze6 (fdC b t w n)).Captain from zm9 h5];focus first|done|rfl)
    | (rw [show fdP b t w n=[] from zpq h6];focus first|done|rfl))
 refine zc9 ?_
 focus first
 | (have q1:fdE b t w n=wlE b w n:=zrj (by simpa using h1)
    have q2:fdE b t w n≠0:=by rw [q1];simpa using h1
    refine zbz rfl (zfo (by rw [FdL,if_pos q2];exact zM 5) (by rw [FdF,if_pos q2];exact zM 2) (by rw [FdP,if_pos q2];exact Weak.refl _) (by rw [q1];exact Weak.refl _)))
 | (have q1:fdE b t w n=ziM (dsL b t w n):=zoP hz
    have q2:fdE b t w n≠0:=by rw [q1];simpa using h3
    refine zbz rfl (zfo (by rw [FdL,if_pos q2];exact zM 5) (by rw [FdF,if_pos q2];exact zM 2) (by rw [FdP,if_pos q2];exact Weak.refl _) (by rw [q1];exact Weak.refl _)))
 | (refine zt rfl ?_
    rw [FdL,FdF,FdP,if_neg (fun q=>q hfz),if_neg (fun q=>q hfz),if_neg (fun q=>q hfz),hfz]
    focus first
    |(rw [show fdP b t w n=(ze6 (fdC b t w n)).Captain from zm9 h5];focus first|done|rfl)
    | (rw [show fdP b t w n=[] from zpq h6];focus first|done|rfl))
theorem zh2 [Tracks] {b:BookS} {n w:Int} {t:Str} (hT:Tracks.on=false) (hb:BookC b) (hX:BookX b) (hwk:za4 w=true) (hnm:zac n=true) (htm:b.League.Teams.contains t=true):ConP prog 52 [zf4 b n,.str t,.int .i64 w] (.tup [ziT (PtF b t w n),.int .i64 (fdE b t w n)]):=by
 have hW:=hX.w;have hla:=hb.bb.lea;have hdn: ∀y∈dsL b t w n,(-1000000000000000<=y.Num/\y.Num<=1000000000000000)/\ -1000000000<=y.Den/\y.Den<=1000000000:=zzR hX.ru (zCh hX hb hwk n)
 have hdp: ∀y∈dsL b t w n,y.Positions.length<=1000000:=zxg hla.po
 have hdl:(dsL b t w n).length<=1000000:=Ar (zpD b.League (wlL b w n) (zfZ b t w)) (by
  have q2:=((zpC (b:=b.League.Bounds) (n:=zbq b.League w) hW.f.mo).p t).2
  show (rPl (zho b.League.Bounds b.Moves (zbq b.League w)) t).length<=1000000
  omega)
 have hsl:=hW.sl;refine za5 func52 rfl ntmps52 rfl rfl ?_;refine gz2 ?_;refine de rfl (zj zaj rfl fun b6=> ?_)
 refine gz3 ?_;refine dq (zax (h:=zf4 b n) zb6 rfl rfl rfl rfl) ?_;refine gz2 ?_;refine dq (uCl zER rfl (zml (b:=b) (n:=n) (w:=w) (t:=t) hT hb hX hwk hnm htm)) ?_;refine ziG ?_;refine uCo (fun h1=> ?_) fun h2=> ?_
 refine gz1 ?_;refine dq (zF (cs:=[_,_]) zaj zl8 rfl) ?_;refine gz1 ?_
 focus first
 |refine de0 (uY 0 ?_)
 |refine de0 (uY 1 ?_)
 |refine de0 (uY 2 ?_)
 |refine de0 (uY 3 ?_)
 refine gz3 ?_
 focus first
 |exact ⟨_,_,zo 6 rfl,[_,_],_,⟨⟨_,_,_,_,_,rfl,zaj,.inr ⟨rfl,rfl,rfl⟩⟩,⟨rfl,trivial⟩⟩,zad (by rw [PtF,if_pos (by simpa using h1)];exact Weak.refl _) (Weak.refl _),rfl,rfl⟩
 |exact ⟨_,_,zo 6 rfl,[_,_],_,⟨⟨_,_,_,_,_,rfl,zaj,.inr ⟨rfl,rfl,rfl⟩⟩,⟨rfl,trivial⟩⟩,zad (by rw [PtF,if_neg (fun q=>q hfz)];exact Weak.refl _) (by rw [hfz];exact Weak.refl _),rfl,rfl⟩
 refine gz2 ?_;have hfz:fdE b t w n=0:=by simpa using h2
 obtain ⟨hz,hs0,hsk⟩:=zCd hfz;rw [FdL,FdF,FdP,if_neg (fun q=>q hfz),if_neg (fun q=>q hfz),if_neg (fun q=>q hfz)];refine gz2 ?_;refine dq (zJ (h:= .vptr (zb (zbp b)) 0) zbJ rfl rfl rfl) ?_;refine dq ((by first|exact zw rfl|exact zl rfl)) ?_;refine gz2 ?_;refine dq (zJ (h:=ze8 b.League.Slots) zf0 rfl rfl rfl) ?_;refine gz3 ?_;refine dq (uCl zES rfl (zwd (S:=b.League.Slots) (l:=dsL b t w n) (f:=fdF b t w n) (c:=fdP b t w n) hX.sl hla.sl hla.sp hs0 hdl hdn (zDZ hsk (fdC b t w n) b.League.Slots b.League.Slots.length) hsl (fun q=>zDS q))) ?_;refine gz2 ?_;refine de0 (zn (h:=ziT (ofH (ptV b t w n))) zaj rfl rfl rfl rfl rfl ?_)
 refine gz3 ?_
 focus first
 |exact ⟨_,_,zo 6 rfl,[_,_],_,⟨⟨_,_,_,_,_,rfl,zaj,.inr ⟨rfl,rfl,rfl⟩⟩,⟨rfl,trivial⟩⟩,zad (by rw [PtF,if_pos (by simpa using h1)];exact Weak.refl _) (Weak.refl _),rfl,rfl⟩
 |exact ⟨_,_,zo 6 rfl,[_,_],_,⟨⟨_,_,_,_,_,rfl,zaj,.inr ⟨rfl,rfl,rfl⟩⟩,⟨rfl,trivial⟩⟩,zad (by rw [PtF,if_neg (fun q=>q hfz)];exact Weak.refl _) (by rw [hfz];exact Weak.refl _),rfl,rfl⟩
theorem zmm [Tracks] {b:BookS} {n:Int} (hT:Tracks.on=false) (hb:BookC b) (hX:BookX b) (hnm:zac n=true):ConP prog 16 [zf4 b n] (.tup [zb3 (if zeQ b n≠0 then [] else zeR b n),.int .i64 (zeQ b n)]):=by
 have hla:=hb.bb.lea;have hW:=hX.w;have hga:=hla.ga;refine uOb func16 ntmps16 ?_;refine gz6 ?_;refine dq ((by first|exact zh zb6 rfl zbJ (by decide) rfl|exact zd zb6 rfl zbJ (by decide) rfl)) ?_;refine dq (zJ (h:= .vptr (zb (zbp b)) 0) zbJ rfl rfl rfl) ?_;refine dq ((by first|exact zw rfl|exact zl rfl)) ?_;refine dq ((by first|exact zh zbo rfl zaS (by decide) rfl|exact zd zbo rfl zaS (by decide) rfl)) ?_;refine dq ((by first|exact zh zaS rfl zcG (by decide) rfl|exact zd zaS rfl zcG (by decide) rfl)) ?_;refine dq (zJ (h:=zb3 b.League.Games) zcG rfl rfl rfl) ?_;refine de rfl (uCa ca50 rfl (zhx (l:=b.League.Games) hga) fun v17=> ?_)
 refine gz5 ?_;refine de rfl (zau (i:=0) (es:=b.League.Games) zcG rfl rfl ?_)
 refine gz3 ?_;refine uV1 [2,2,5,5,20,63] (fun (k:Nat)=>[(20,.int .i64 k)]) (fun (k:Nat)=>[.arr v17 8 (((b.League.Games.take k).map (gaV b n)++b.League.Games.drop k).map zam)]) (fun (k:Nat)=>k<=b.League.Games.length/\(∀y∈(b.League.Games.take k),gaE b n y=0)) (fun (k:Nat)=>b.League.Games.length-k) (0) ?_ ?_ ?_ ?_;exact ⟨Ad _,fun y hy=>by simp at hy⟩;exact ⟨rfl,trivial⟩;exact zk (by simp)
 intro k hinv
 obtain ⟨hk,hall⟩:=hinv;refine gz4 ?_;refine uCo (fun h1=> ?_) fun h2=> ?_
 obtain ⟨x,hx⟩: ∃x,b.League.Games[k]? =some x:=⟨_,Aa h1⟩
 have hdx:=zg hx;have hkl:=zm hx;refine gz8 ?_;have hgm:=hX.gm x (Ab hx);have hwr:1<=x.Week/\x.Week<=60:=by have q:=hgm.1;unfold za4 out at q;simp at q;omega
 have hgl:((b.League.Games.take k).map (gaV b n)++b.League.Games.drop k).length=b.League.Games.length:=by rw [Ax,Af,Am,A5];omega
 have hgk:((b.League.Games.take k).map (gaV b n)++b.League.Games.drop k)[k]? =some x:=by rw [Ap (by rw [Af,Am];omega),Af,Am,BF uO,AG,BB];exact hx
 refine zbV (i:=0) rfl (fun h0 he=> ?_) (fun ob off cap hv hcap=> ?_)
 exfalso;have q:=congrArg List.length he;rw [Af,AA] at q;omega
 rw [Af,hgl] at hv hcap;subst hv;refine gz3 ?_;refine dq (zv (j:=k) zcG za8 rfl rfl rfl uO) ?_;refine gz3 ?_;refine zbb (fun M=> ∃i:Nat,M[i]? =some (.arr (.slice (some ⟨ob,off,none⟩) b.League.Games.length cap) 8 (((b.League.Games.take k).map (gaV b n)++b.League.Games.drop k).map zam))) [7] mixed ?_;refine uB 0 rfl ((by first|exact zh zb6 rfl zbJ (by decide) rfl|exact zd zb6 rfl zbJ (by decide) rfl)) ?_;refine uB 1 rfl (zJ (h:= .vptr (zb (zbp b)) 0) zbJ rfl rfl rfl) ?_;refine uB 2 rfl ((by first|exact zw rfl|exact zl rfl)) ?_;refine uB 3 rfl ((by first|exact zh zbo rfl zaS (by decide) rfl|exact zd zbo rfl zaS (by decide) rfl)) ?_;refine gz1 ?_;refine uB 5 rfl ((by first|exact zw rfl|exact zl rfl)) ?_;refine gz1 ?_;refine uM 7 rfl ⟨0,rfl⟩ (fun M hM=>by obtain ⟨i,hi⟩:=hM;exact zae (i:=i) (j:=k) 0 ty3 rfl uO hi hgk rfl rfl ⟨rfl,rfl⟩) ?_;refine gz1 ?_;refine uB 9 rfl (uCl zAc rfl (zhv (b:=b) hla.sta uO)) ?_;refine uB 10 rfl ((by first|exact zh zb6 rfl ty3 (by decide) rfl|exact zd zb6 rfl ty3 (by decide) rfl)) ?_;refine gz3 ?_;refine uCo (fun h3=> ?_) fun h4=> ?_
 refine gz8 ?_;exact ⟨k+1,⟨by omega,zzb hx hall (by unfold gaE;rw [if_pos uO])⟩,uD,⟨rfl,trivial⟩,uK,zk (by dsimp only;rw [zCR hx (by unfold gaV;rw [if_pos uO])])⟩;refine gz2 ?_;refine zbb (fun M=> ∃i:Nat,M[i]? =some (.arr (.slice (some ⟨ob,off,none⟩) b.League.Games.length cap) 8 (((b.League.Games.take k).map (gaV b n)++b.League.Games.drop k).map zam))) [4,8] mixed ?_;refine uB 0 rfl (zax (h:=zf4 b n) zb6 rfl rfl rfl rfl) ?_;refine gz1 ?_;refine uB 2 rfl ((by first|exact zw rfl|exact zl rfl)) ?_;refine gz1 ?_;refine uM 4 rfl ⟨0,rfl⟩ (fun M hM=>by obtain ⟨i,hi⟩:=hM;exact zae (i:=i) (j:=k) 1 ty9 rfl uO hi hgk rfl rfl ⟨rfl,rfl⟩) ?_;refine gz1 ?_;refine uB 6 rfl ((by first|exact zw rfl|exact zl rfl)) ?_;refine gz1 ?_;refine uM 8 rfl ⟨0,rfl⟩ (fun M hM=>by obtain ⟨i,hi⟩:=hM;exact zae (i:=i) (j:=k) 0 ty3 rfl uO hi hgk rfl rfl ⟨rfl,rfl⟩) ?_;refine uB 9 rfl (uCl ca52 rfl (zh2 (b:=b) (n:=n) (w:=x.Week) (t:=x.Home) hT hb hX hgm.1 hnm hgm.2.1)) ?_;refine gz3 ?_;refine uF 13 ?_;refine zx rfl (zj zaj rfl fun b7=> ?_)
 refine ⟨uE,?_⟩
 refine uF 14 ?_;refine zy (zn zaj rfl rfl rfl rfl rfl ?_)
 refine ⟨uE,?_⟩
 refine gz2 ?_;refine ze (zo 7 rfl) ?_;refine gz5 ?_;refine uCo (fun h5=> ?_) fun h6=> ?_
 refine gz6 ?_
 focus first
 | (obtain ⟨q1,q2⟩:=znt hx hall (Int.not_lt.2 h4) h5
    exact zjm Ghost.clear rfl (zad (by rw [if_pos q2];exact zM 8) (by rw [q1];exact Weak.refl _)) ⟨rfl,rfl⟩)
 | (obtain ⟨q1,q2⟩:=zns hx hall (Int.not_lt.2 h4) hf1 h7
    exact zjm Ghost.clear rfl (zad (by rw [if_pos q2];exact zM 8) (by rw [q1];exact Weak.refl _)) ⟨rfl,rfl⟩)
 | (have q1:=zhV hgz
    refine zbz rfl (zad (by rw [if_pos (by rw [q1];assumption)];exact zM 8) (by rw [q1];exact Weak.refl _)))
 | (have q1:zeQ b n=0:=(zhV hgz).trans uSa
    refine zt rfl ?_;rw [if_neg (fun q=>q q1),q1]
    rfl)
 refine gz2 ?_;have hf1:fdE b x.Home x.Week n=0:=by simp_all
 refine zbb (fun M=> ∃i:Nat,M[i]? =some (.arr (.slice (some ⟨ob,off,none⟩) b.League.Games.length cap) 8 (((b.League.Games.take k).map (gaV b n)++b.League.Games.drop k).map zam))) [4,8] mixed ?_;refine uB 0 rfl (zax (h:=zf4 b n) zb6 rfl rfl rfl rfl) ?_;refine gz1 ?_;refine uB 2 rfl ((by first|exact zw rfl|exact zl rfl)) ?_;refine gz1 ?_;refine uM 4 rfl ⟨0,rfl⟩ (fun M hM=>by obtain ⟨i,hi⟩:=hM;exact zae (i:=i) (j:=k) 2 ty9 rfl uO hi hgk rfl rfl ⟨rfl,rfl⟩) ?_;refine gz1 ?_;refine uB 6 rfl ((by first|exact zw rfl|exact zl rfl)) ?_;refine gz1 ?_;refine uM 8 rfl ⟨0,rfl⟩ (fun M hM=>by obtain ⟨i,hi⟩:=hM;exact zae (i:=i) (j:=k) 0 ty3 rfl uO hi hgk rfl rfl ⟨rfl,rfl⟩) ?_;refine uB 9 rfl (uCl ca52 rfl (zh2 (b:=b) (n:=n) (w:=x.Week) (t:=x.Away) hT hb hX hgm.1 hnm hgm.2.2.1)) ?_;refine gz3 ?_;refine uF 13 ?_;refine zx rfl (zj zaj rfl fun b9=> ?_)
 refine ⟨uE,?_⟩
 refine uF 14 ?_;refine zy (zn zaj rfl rfl rfl rfl rfl ?_)
 refine ⟨uE,?_⟩
 refine gz2 ?_;refine ze (zo 9 rfl) ?_;refine gz5 ?_;refine uCo (fun h7=> ?_) fun h8=> ?_
 refine gz6 ?_
 focus first
 | (obtain ⟨q1,q2⟩:=znt hx hall (Int.not_lt.2 h4) h5
    exact zjm Ghost.clear rfl (zad (by rw [if_pos q2];exact zM 8) (by rw [q1];exact Weak.refl _)) ⟨rfl,rfl⟩)
 | (obtain ⟨q1,q2⟩:=zns hx hall (Int.not_lt.2 h4) hf1 h7
    exact zjm Ghost.clear rfl (zad (by rw [if_pos q2];exact zM 8) (by rw [q1];exact Weak.refl _)) ⟨rfl,rfl⟩)
 | (have q1:=zhV hgz
    refine zbz rfl (zad (by rw [if_pos (by rw [q1];assumption)];exact zM 8) (by rw [q1];exact Weak.refl _)))
 | (have q1:zeQ b n=0:=(zhV hgz).trans uSa
    refine zt rfl ?_;rw [if_neg (fun q=>q q1),q1]
    rfl)
 refine gz2 ?_;have hf2:fdE b x.Away x.Week n=0:=by simp_all
 have hga0:gaE b n x=0:=by unfold gaE;rw [if_neg uO,if_neg (fun q=>q hf1)];exact hf2
 have hgv:gaV b n x=⟨x.Week,x.Home,x.Away,true,(ofH (ptV b x.Home x.Week n)).Num,(ofH (ptV b x.Home x.Week n)).Den,(ofH (ptV b x.Away x.Week n)).Num,(ofH (ptV b x.Away x.Week n)).Den⟩:=by unfold gaV;rw [if_neg uO]
 rw [PtF,if_neg (fun q=>q hf1),PtF,if_neg (fun q=>q hf2)];refine zgC mixed ?_;refine gz3 ?_;refine uB 3 rfl (zax (h:=ziT (ofH (ptV b x.Home x.Week n))) zaj rfl rfl rfl rfl) ?_;refine uB 4 rfl (zax (h:=ziT (ofH (ptV b x.Away x.Week n))) zaj rfl rfl rfl rfl) ?_;refine uB 5 rfl ((by first|exact zw rfl|exact zl rfl)) ?_;refine gz1 ?_;refine uF 7 ?_;refine zy (zV (i:=0) (j:=k) (f:=3) (y:=zam x) (y':=zam ⟨x.Week,x.Home,x.Away,true,x.FNum,x.FDen,x.ONum,x.ODen⟩) ty4 rfl uO rfl rfl (za3 hgk) rfl rfl (by simp [zb]) rfl ?_)
 refine ⟨uE,?_⟩
 refine uB 8 rfl ((by first|exact zw rfl|exact zl rfl)) ?_;refine gz1 ?_;refine uF 10 ?_;refine zy (zV (i:=0) (j:=k) (f:=4) (y:=zam ⟨x.Week,x.Home,x.Away,true,x.FNum,x.FDen,x.ONum,x.ODen⟩) (y':=zam ⟨x.Week,x.Home,x.Away,true,(ofH (ptV b x.Home x.Week n)).Num,(ofH (ptV b x.Home x.Week n)).Den,x.ONum,x.ODen⟩) zaj rfl uO rfl rfl (zaL (za3 hgk)) rfl rfl (by simp [zb]) rfl ?_)
 refine ⟨uE,?_⟩
 refine uB 11 rfl ((by first|exact zw rfl|exact zl rfl)) ?_;refine gz1 ?_;refine uF 13 ?_;refine zy (zV (i:=0) (j:=k) (f:=6) (y:=zam ⟨x.Week,x.Home,x.Away,true,(ofH (ptV b x.Home x.Week n)).Num,(ofH (ptV b x.Home x.Week n)).Den,x.ONum,x.ODen⟩) (y':=zam ⟨x.Week,x.Home,x.Away,true,(ofH (ptV b x.Home x.Week n)).Num,(ofH (ptV b x.Home x.Week n)).Den,(ofH (ptV b x.Away x.Week n)).Num,(ofH (ptV b x.Away x.Week n)).Den⟩) zaj rfl uO rfl rfl (zaL (zaL (za3 hgk))) rfl rfl (by simp [zb]) rfl ?_)
 refine ⟨uE,?_⟩
 refine gz7 ?_;exact ⟨k+1,⟨by omega,zzb hx hall hga0⟩,uD,⟨rfl,trivial⟩,uK,zk (by dsimp only;simp only [Ck,List.set_set];rw [zD3 hx hgv])⟩;have hnk:b.League.Games.length<=k:=by omega
 obtain rfl:k=b.League.Games.length:=by omega
 refine gz2 ?_;refine zu ?_;refine gz3 ?_;refine ze (zbl (M':=[.arr v17 8 ((zeR b n).map zam)]) (by rw [Ai,Bm (Ae _),A9])) ?_;refine ze (zaD 4 (i:=0) rfl rfl) ?_;rw [Ai] at hall;have hgz:=zvb hall;refine gz1 ?_;refine dq ((by first|exact zh zb6 rfl zbJ (by decide) rfl|exact zd zb6 rfl zbJ (by decide) rfl)) ?_;refine dq (zJ (h:= .vptr (zb (zbp b)) 0) zbJ rfl rfl rfl) ?_;refine dq ((by first|exact zw rfl|exact zl rfl)) ?_;refine dq ((by first|exact zh zbo rfl zaS (by decide) rfl|exact zd zbo rfl zaS (by decide) rfl)) ?_;refine dq ((by first|exact zh zaS rfl zp (by decide) rfl|exact zd zaS rfl zp (by decide) rfl)) ?_;refine dq (zJ (h:=eSs b.League.Teams) zp rfl rfl rfl) ?_;refine gz1 ?_;refine dq (uCl ca9 rfl (zeB (T:=b.League.Teams) (l:=zeR b n) hla.tm (by rw [Af];exact hga) (zvM hb hW hall))) ?_;refine gz6 ?_;refine uCo (fun h9=> ?_) fun h10=> ?_
 refine gz6 ?_
 focus first
 | (obtain ⟨q1,q2⟩:=znt hx hall (Int.not_lt.2 h4) h5
    exact zjm Ghost.clear rfl (zad (by rw [if_pos q2];exact zM 8) (by rw [q1];exact Weak.refl _)) ⟨rfl,rfl⟩)
 | (obtain ⟨q1,q2⟩:=zns hx hall (Int.not_lt.2 h4) hf1 h7
    exact zjm Ghost.clear rfl (zad (by rw [if_pos q2];exact zM 8) (by rw [q1];exact Weak.refl _)) ⟨rfl,rfl⟩)
 | (have q1:=zhV hgz
    refine zbz rfl (zad (by rw [if_pos (by rw [q1];assumption)];exact zM 8) (by rw [q1];exact Weak.refl _)))
 | (have q1:zeQ b n=0:=(zhV hgz).trans uSa
    refine zt rfl ?_;rw [if_neg (fun q=>q q1),q1]
    rfl)
 refine gz8 ?_
 focus first
 | (obtain ⟨q1,q2⟩:=znt hx hall (Int.not_lt.2 h4) h5
    exact zjm Ghost.clear rfl (zad (by rw [if_pos q2];exact zM 8) (by rw [q1];exact Weak.refl _)) ⟨rfl,rfl⟩)
 | (obtain ⟨q1,q2⟩:=zns hx hall (Int.not_lt.2 h4) hf1 h7
    exact zjm Ghost.clear rfl (zad (by rw [if_pos q2];exact zM 8) (by rw [q1];exact Weak.refl _)) ⟨rfl,rfl⟩)
 | (have q1:=zhV hgz
    refine zbz rfl (zad (by rw [if_pos (by rw [q1];assumption)];exact zM 8) (by rw [q1];exact Weak.refl _)))
 | (have q1:zeQ b n=0:=(zhV hgz).trans uSa
    refine zt rfl ?_;rw [if_neg (fun q=>q q1),q1]
    rfl)
theorem zky [Tracks] {b:BookS} {n:Int} (hT:Tracks.on=false) (hb:BookC b):ConP prog 6 [zbp b,.int .i64 n] (.tup [zb3 (zqe b n),.int .i64 (zeK b n)]):=by
 refine uOb func6 ntmps6 ?_;refine gz8 ?_;refine dq (uCl ca15 rfl (zmY (b:=b) hT hb)) ?_;refine gz6 ?_;refine uCo (fun h1=> ?_) fun h2=> ?_
 refine gz6 ?_
 focus first
 |exact zbz rfl (zad (by rw [zqe,if_pos (by rw [zeK,if_pos (by simpa using h1)];simpa using h1)];exact zM 8) (by rw [zeK,if_pos (by simpa using h1)];exact Weak.refl _))
 | (have q:zeK b n=zeQ b n:=by rw [zeK,if_neg (fun z=>z (by simpa using h2))]
    refine zt rfl ?_;rw [zqe,q])
 refine gz2 ?_;obtain ⟨hbz,hnm⟩:=zCj (b:=b) (n:=n) (by simpa using h2);have hX:=zuT hbz;refine gz2 ?_;refine dq (zF (cs:=[_,_]) zb6 pl68 rfl) ?_;refine dq (uCl ca16 rfl (zmm (b:=b) (n:=n) hT hb hX hnm)) ?_;refine gz6 ?_
 focus first
 |exact zbz rfl (zad (by rw [zqe,if_pos (by rw [zeK,if_pos (by simpa using h1)];simpa using h1)];exact zM 8) (by rw [zeK,if_pos (by simpa using h1)];exact Weak.refl _))
 | (have q:zeK b n=zeQ b n:=by rw [zeK,if_neg (fun z=>z (by simpa using h2))]
    refine zt rfl ?_;rw [zqe,q])
end
section
open Go.Proofs.Tryz
open Go.HL
theorem zaB [Tracks] {b:Nat} {l:List Int} {a:Nat} (ha:a<=800000):Con prog 78 [pAt b] [St b l a] (fun x M'=> ∃t a',x=eSs t/\GoodTr t/\a'<=a+10/\M'=[St b l a']):=by
 refine uOb func78 ntmps78 ?_;refine gz6 ?_;refine ze (zK 1) ?_;refine gz3 ?_;refine de rfl (uCx 1 zBI rfl rfl (zgd (n:=3) uO uO uO) ?_)
 rintro _ _ ⟨L7,a7,rfl,hL7,ha7,rfl⟩;refine gz3 ?_;obtain ⟨hLn,hLb⟩:=hL7;refine gz1 ?_;refine uV2 [3,1,5,1,9,15] (fun (k:Nat) (q:GL Str)=>[(9,.int .i64 k),(3,.raw q.u)]) (fun (k:Nat) (q:GL Str)=>[St b l q.a,.arr q.u 1 (q.out.map .str)]) (fun (k:Nat) (q:GL Str)=>k<=L7.length/\(GLok Sh k (a7+k) q)) (fun (k:Nat) (q:GL Str)=>L7.length-k) (0) (⟨.slice none 0 0,[],a7⟩) ?_ ?_ ?_ ?_;exact ⟨Ad _,⟨by simp,by simp,uD⟩⟩;exact ⟨rfl,rfl,trivial⟩;exact uP
 intro k q hinv
 obtain ⟨hk,hq⟩:=hinv;obtain ⟨u,out,a2⟩:=q;obtain ⟨g1,g2,g3⟩:=id hq;dsimp only at g1 g2 g3;refine gz4 ?_;refine uCo (fun h1=> ?_) fun h2=> ?_
 obtain ⟨y,hy⟩: ∃y,L7[k]? =some y:=⟨_,Aa h1⟩
 have hdy:=zg hy;refine zco ?_;refine de rfl (uCx 0 zeO rfl rfl (zH uSo uO) ?_)
 rintro _ _ ⟨y14,rfl,rfl⟩;refine gz2 ?_;refine uCo (fun h3=> ?_) fun h4=> ?_
 refine gz2 ?_;refine dq (za (hs:=[_,_,_]) zp ty9 rfl rfl (by decide) (by decide) rfl) ?_;refine gz1 ?_;refine dq (zB (f:=HVal.str) (l:=zg6) (j:=y.toNat) (a:=zg6.getD y.toNat []) zp ty9 rfl rfl (by have:=hLb y (Ab hy);omega) (getD_some (by have:=hLb y (Ab hy);simp [zg6];omega))) ?_;refine gz1 ?_;refine dq (za (hs:=[_]) zp ty9 rfl rfl (by decide) (by decide) rfl) ?_;refine de rfl (zL (i:=1) zp ty9 rfl rfl rfl rfl rfl (by simp [zat,zb]) uSo fun v22=> ?_)
 refine gz8 ?_;exact ⟨k+1,⟨v22,out++[zg6.getD y.toNat []],a2+1⟩,⟨by omega,hq.add (x:=zg6.getD y.toNat []) (zmG _ (zAx (by have:=hLb y (Ab hy);simp [zg6];omega))) uO⟩,uD,⟨rfl,rfl,trivial⟩,uK,uP⟩;refine gz7 ?_;exact ⟨k+1,⟨u,out,a2+1⟩,⟨by omega,hq.same uO⟩,uD,⟨rfl,rfl,trivial⟩,uK,uP⟩;have hnk:L7.length<=k:=by omega
 obtain rfl:k=L7.length:=by omega
 refine gz2 ?_;refine zI ?_;refine gz3 ?_
 dsimp only
 refine gz2 ?_;refine de rfl (uCx 0 zeO rfl rfl (zH uO uO) ?_)
 rintro _ _ ⟨y25,rfl,rfl⟩;refine gz1 ?_;refine uCo (fun h5=> ?_) fun h6=> ?_
 refine gz3 ?_;refine dq (za (hs:=[_,_,_]) zp ty9 rfl rfl (by decide) (by decide) rfl) ?_;refine de rfl (uCx 0 zcn rfl rfl (zq (L:=[_,_,_]) uO uSa uSa) ?_)
 rintro _ _ ⟨y29,rfl,hy29,rfl⟩;refine dq (za (hs:=[_]) zp ty9 rfl rfl (by decide) (by decide) rfl) ?_;refine de rfl (zL (i:=1) zp ty9 rfl rfl rfl rfl rfl (by simp [zat,zb]) uSo fun v31=> ?_)
 refine gz8 ?_;exact zao (zaD 2 (i:=1) rfl rfl) rfl ⟨out++[y29],_,by simp,⟨by simp;omega,fun s hs=>by
  rcases List.mem_append.1 hs with hs|hs
  exact g2 s hs;rw [List.mem_singleton.1 hs];simp at hy29;rcases hy29 with rfl|rfl|rfl<;>(unfold Sh;simp)⟩,by omega,rfl⟩
 refine gz7 ?_;exact zao (zaD 2 (i:=1) rfl rfl) rfl ⟨out,_,rfl,⟨by omega,g2⟩,by omega,rfl⟩
theorem zkZ [Tracks] {b:Nat} {l:List Int} {a:Nat} (ha:a<=700000):Con prog 30 [pAt b] [St b l a] (fun x M'=> ∃k a',x=zb4 k/\GoodPl k/\a'<=a+500/\M'=[St b l a']):=by
 refine uOb func30 ntmps30 ?_;refine gz6 ?_;refine ze (zK 9) ?_;refine gz2 ?_;refine dq (za (hs:=[_,_,_]) zp ty9 rfl rfl (by decide) (by decide) rfl) ?_;refine dq (zav (f:=HVal.str) (l:=zg6) zp rfl) ?_;refine gz3 ?_;refine uV2 [3,1,5,5,11,1,15,97] (fun (k:Nat) (q:GL Play)=>[(15,.int .i64 k),(3,.raw q.u)]) (fun (k:Nat) (q:GL Play)=>[St b l q.a,.arr q.u 9 (q.out.map zaA)]) (fun (k:Nat) (q:GL Play)=>k<=zg6.length/\(GLok zds (5*k) (a+130*k) q)) (fun (k:Nat) (q:GL Play)=>zg6.length-k) (0) (⟨.slice none 0 0,[],a⟩) ?_ ?_ ?_ ?_;exact ⟨by decide,⟨by simp,by simp,uD⟩⟩;exact ⟨rfl,rfl,trivial⟩;exact uP
 intro k q hinv
 obtain ⟨hk,hq⟩:=hinv;obtain ⟨u,out,a1⟩:=q;obtain ⟨g1,g2,g3⟩:=id hq;dsimp only at g1 g2 g3;have h3:zg6.length=3:=rfl;refine gz4 ?_;refine uCo (fun h1=> ?_) fun h2=> ?_
 obtain ⟨x,hx⟩: ∃x,zg6[k]? =some x:=⟨_,Aa h1⟩
 have hdx:=zg hx;refine gz5 ?_;refine dq (zB (f:=HVal.str) (l:=zg6) (j:=k) (a:=x) zp ty9 rfl rfl rfl hx) ?_;refine gz5 ?_;refine dq (za (hs:=[_,_]) zX ty3 rfl rfl (by decide) (by decide) rfl) ?_;refine de rfl (uCx 0 ca5 rfl rfl (zf (L:=[_,_]) uSo uSa uSa) ?_)
 rintro _ _ ⟨y21,rfl,hy21,rfl⟩;refine gz5 ?_;refine de rfl (uCx 0 zg2 rfl rfl (zT uSo uO uO uO) ?_)
 rintro _ _ ⟨y23,rfl,hy23,rfl⟩;refine gz3 ?_;refine zzg (3::6::7::8::9::11::24::25::26::27::28::29::30::31::32::33::34::35::36::37::38::39::40::41::42::43::44::45::46::47::48::49::50::51::52::53::54::55::56::57::58::59::60::61::62::63::64::65::66::67::68::69::70::71::72::73::74::75::76::77::78::79::80::81::82::83::84::85::86::87::88::89::90::91::92::93::94::95::96::97::98::99::100::101::102::103::104::105::106::107::108::109::110::[]) (fun (n:Nat) (no:Int) (at1:Int) (q2:GL Play)=>[(24,.int .i64 (n:Int)),(6,.int .i64 no),(7,.int .i64 at1),(3,.raw q2.u)]) (fun (n:Nat) (no:Int) (at1:Int) (q2:GL Play)=>[St b l q2.a,.arr q2.u 9 (q2.out.map zaA)]) (fun (n:Nat) (no:Int) (at1:Int) (q2:GL Play)=>(n:Int)<=y23/\(0<=no/\no<=2*n)/\(0<=at1/\at1<=5+40*n)/\GLok zds (5*k+n) (a1+2+25*n) q2) (fun (n:Nat) (no:Int) (at1:Int) (q2:GL Play)=>y23.toNat-n) (0) (0) (y21) (⟨u,out,a1+2⟩) ?_ ?_ ?_ ?_;exact ⟨by omega,⟨by omega,by omega⟩,⟨by simp at hy21;omega,by simp at hy21;omega⟩,⟨uD,g2,uD⟩⟩;exact ⟨rfl,rfl,rfl,rfl,trivial⟩;exact uP
 intro n no at1 q2 hinv
 obtain ⟨hn,hno,hat,hq2⟩:=hinv;obtain ⟨u,out,a2⟩:=q2;obtain ⟨g1,g2,g3⟩:=id hq2;dsimp only at g1 g2 g3;refine gz4 ?_;refine uCo (fun h3=> ?_) fun h4=> ?_
 refine gz7 ?_;refine dq (za (hs:=[_,_,_]) zX ty3 rfl rfl (by decide) (by decide) rfl) ?_;refine de rfl (uCx 0 ca5 rfl rfl (zf (L:=[_,_,_]) uSo uSa uSa) ?_)
 rintro _ _ ⟨y29,rfl,hy29,rfl⟩;refine dq (zbi rfl rfl (by simp at hy29;omega) (by simp at hy29;omega)) ?_;refine gz4 ?_;refine de rfl (uCx 0 zjr rfl rfl (zap uSo uO) ?_)
 rintro _ _ ⟨y32,rfl,hy32,rfl⟩;refine gz2 ?_;have hyb:1<=y29/\y29<=2:=by simp at hy29;omega
 refine uVj [9,1,33,21] (fun (q9:Nat×Play)=>[(9,pAt q9.1)]) (fun (q9:Nat×Play)=>[St b l (a2+5),.arr u 9 (out.map zaA),.cells q9.1 (zb (zaA q9.2))]) (fun (q9:Nat×Play)=>zds q9.2) ?_ ?_
 skip
 refine zgC mixed ?_;refine gz3 ?_;refine uB 3 rfl (za (hs:=[_,_,_]) zX ty3 rfl rfl (by decide) (by decide) rfl) ?_;refine gz1 ?_;refine uB 5 rfl (zB (f:=HVal.int .i64) (l:=znF) (j:=y32) (a:=znF.getD y32 0) zX ty3 rfl rfl rfl (getD_some (by simp [znF];omega))) ?_;refine gz1 ?_;refine uB 7 rfl (za (hs:=[_,_,_]) zp ty9 rfl rfl (by decide) (by decide) rfl) ?_;refine gz1 ?_;refine uB 9 rfl (zB (f:=HVal.str) (l:=zfI) (j:=y32) (a:=zfI.getD y32 []) zp ty9 rfl rfl rfl (getD_some (by simp [zfI];omega))) ?_;refine gz2 ?_;refine uB 12 rfl (za (hs:=[_,_,_]) zp ty9 rfl rfl (by decide) (by decide) rfl) ?_;refine uA 14 ?_;refine uB 15 rfl (za (hs:=[_,_,_,_]) zp ty9 rfl rfl (by decide) (by decide) rfl) ?_;refine uA 17 ?_;refine uB 18 rfl (za (hs:=[_,_,_,_,_]) zX ty3 rfl rfl (by decide) (by decide) rfl) ?_;refine ziz 13 21 rfl rfl (by kernel_rfl) ?_ ?_
 skip
 refine zx rfl (uCx 0 zcn rfl rfl (zq (L:=[_,_,_]) uSo uSa uSa) ?_)
 rintro _ _ ⟨y46,rfl,hy46,rfl⟩;refine ⟨uE,?_⟩
 refine ziz 16 21 rfl rfl (by kernel_rfl) ?_ ?_
 skip
 refine zx rfl (uCx 0 zcn rfl rfl (zq (L:=[_,_,_,_]) uSo uSa uSa) ?_)
 rintro _ _ ⟨y49,rfl,hy49,rfl⟩;refine ⟨uE,?_⟩
 refine ziz 19 21 rfl rfl (by kernel_rfl) ?_ ?_
 skip
 refine zx rfl (uCx 0 ca5 rfl rfl (zf (L:=[_,_,_,_,_]) uSo uSa uSa) ?_)
 rintro _ _ ⟨y52,rfl,hy52,rfl⟩;refine ⟨uE,?_⟩
 refine uB 20 rfl (zF (cs:=[_,_,_,_,_,_,_,_,_]) zb7 zvC rfl) ?_;refine uF 21 ?_;refine zx rfl (zj zb7 rfl fun b9=> ?_)
 refine ⟨uE,?_⟩
 refine uF 22 ?_;refine zy (uY 0 ?_)
 refine ⟨uE,?_⟩
 refine uAz ?_;refine ⟨(b9,(⟨x,no+y29,at1,znF.getD y32 0,zfI.getD y32 [],y46,y49,y52,0⟩:Play)),?_,⟨rfl,trivial⟩,uK,?_⟩
 exact ⟨zmG x (Ab hx),zly y32,by simp at hy46;rcases hy46 with rfl|rfl|rfl<;>(unfold Sh;simp),by simp at hy49;rcases hy49 with rfl|rfl|rfl<;>(unfold Sh;simp)⟩;exact uP
 skip
 refine zx rfl (zj zb7 rfl fun b9=> ?_)
 refine ⟨uE,?_⟩
 refine uF 19 ?_;refine zx rfl (uCx 1 ca5 rfl rfl (zf (L:=[_,_,_,_,_]) uSo uSa uSa) ?_)
 rintro _ _ ⟨y52,rfl,hy52,rfl⟩;refine ⟨uE,?_⟩
 refine uB 20 rfl (zF (cs:=[_,_,_,_,_,_,_,_,_]) zb7 zvC rfl) ?_;refine uF 22 ?_;refine zy (uY 1 ?_)
 refine ⟨uE,?_⟩
 refine uAz ?_;refine ⟨(b9,(⟨x,no+y29,at1,znF.getD y32 0,zfI.getD y32 [],y46,y49,y52,0⟩:Play)),?_,⟨rfl,trivial⟩,uK,?_⟩
 exact ⟨zmG x (Ab hx),zly y32,by simp at hy46;rcases hy46 with rfl|rfl|rfl<;>(unfold Sh;simp),by simp at hy49;rcases hy49 with rfl|rfl|rfl<;>(unfold Sh;simp)⟩;exact uP
 skip
 refine zx rfl (zj zb7 rfl fun b9=> ?_)
 refine ⟨uE,?_⟩
 refine uF 16 ?_;refine zx rfl (uCx 1 zcn rfl rfl (zq (L:=[_,_,_,_]) uSo uSa uSa) ?_)
 rintro _ _ ⟨y49,rfl,hy49,rfl⟩;refine ⟨uE,?_⟩
 refine uF 19 ?_;refine zx rfl (uCx 0 ca5 rfl rfl (zf (L:=[_,_,_,_,_]) uSo uSa uSa) ?_)
 rintro _ _ ⟨y52,rfl,hy52,rfl⟩;refine ⟨uE,?_⟩
 refine uB 20 rfl (zF (cs:=[_,_,_,_,_,_,_,_,_]) zb7 zvC rfl) ?_;refine uF 22 ?_;refine zy (uY 1 ?_)
 refine ⟨uE,?_⟩
 refine uAz ?_;refine ⟨(b9,(⟨x,no+y29,at1,znF.getD y32 0,zfI.getD y32 [],y46,y49,y52,0⟩:Play)),?_,⟨rfl,trivial⟩,uK,?_⟩
 exact ⟨zmG x (Ab hx),zly y32,by simp at hy46;rcases hy46 with rfl|rfl|rfl<;>(unfold Sh;simp),by simp at hy49;rcases hy49 with rfl|rfl|rfl<;>(unfold Sh;simp)⟩;exact uP
 skip
 refine zx rfl (zj zb7 rfl fun b9=> ?_)
 refine ⟨uE,?_⟩
 refine uF 13 ?_;refine zx rfl (uCx 1 zcn rfl rfl (zq (L:=[_,_,_]) uSo uSa uSa) ?_)
 rintro _ _ ⟨y46,rfl,hy46,rfl⟩;refine ⟨uE,?_⟩
 refine uF 16 ?_;refine zx rfl (uCx 0 zcn rfl rfl (zq (L:=[_,_,_,_]) uSo uSa uSa) ?_)
 rintro _ _ ⟨y49,rfl,hy49,rfl⟩;refine ⟨uE,?_⟩
 refine uF 19 ?_;refine zx rfl (uCx 0 ca5 rfl rfl (zf (L:=[_,_,_,_,_]) uSo uSa uSa) ?_)
 rintro _ _ ⟨y52,rfl,hy52,rfl⟩;refine ⟨uE,?_⟩
 refine uB 20 rfl (zF (cs:=[_,_,_,_,_,_,_,_,_]) zb7 zvC rfl) ?_;refine uF 22 ?_;refine zy (uY 1 ?_)
 refine ⟨uE,?_⟩
 refine uAz ?_;refine ⟨(b9,(⟨x,no+y29,at1,znF.getD y32 0,zfI.getD y32 [],y46,y49,y52,0⟩:Play)),?_,⟨rfl,trivial⟩,uK,?_⟩
 exact ⟨zmG x (Ab hx),zly y32,by simp at hy46;rcases hy46 with rfl|rfl|rfl<;>(unfold Sh;simp),by simp at hy49;rcases hy49 with rfl|rfl|rfl<;>(unfold Sh;simp)⟩;exact uP
 intro q9 hq9
 obtain ⟨b9,x9⟩:=q9;dsimp only at hq9;refine uVj [11,1,54,47] (fun (q4:Play×Nat)=>[]) (fun (q4:Play×Nat)=>[St b l q4.2,.arr u 9 (out.map zaA),.cells b9 (zb (zaA q4.1))]) (fun (q4:Play×Nat)=>zds q4.1/\q4.2<=a2+22) ?_ ?_
 skip
 refine gz5 ?_;refine dgx (fun x M'=> ∃(y:Bool) (a3:Nat),x= .bool y/\a3<=(a2+5)+1/\M'=[St b l a3,.arr u 9 (out.map zaA),.cells b9 (zb (zaA x9))]) rfl rfl (fun hc=>⟨_,false,(a2+5),rfl,by omega,rfl⟩) (fun hc=>⟨_,OpenTo.upd (t:=57) rfl (hc) (OpenTo.refl _),uCx 0 zeO rfl rfl (zH (a:=(a2+5)) uO uO) (fun h M' hh=>by
  obtain ⟨y,h1,h2⟩:=hh;exact ⟨y,(a2+5)+1,h1,by omega,by rw [h2];rfl⟩)⟩) ?_
 rintro _ _ ⟨y10,a310,rfl,ha310,rfl⟩;refine gz2 ?_;refine uCo (fun h5=> ?_) fun h6=> ?_
 refine gz4 ?_;refine de rfl (uCx 0 zg2 rfl rfl (zT uO uO uO uO) ?_)
 rintro _ _ ⟨y63,rfl,hy63,rfl⟩;refine gz1 ?_;refine de0 (uY 2 ?_)
 refine gz1 ?_;refine de0 (uY 2 ?_)
 refine gz1 ?_;obtain ⟨s9,n9,t9,w9,m9,p9,st9,c9,u9⟩:=x9;refine ze (Ghost.perm (M':=[St b l (a310+1),.arr u 9 (out.map zaA),.cells b9 (zb (zaA ⟨s9,n9,t9,w9,m9,p9,st9,0,y63⟩))]) uP) ?_;refine gz2 ?_;refine de rfl (zau (i:=1) (es:=out) zhH rfl rfl ?_)
 refine gz3 ?_;refine uV2 [11,1,68,33] (fun (j:Nat) (q3:Play×Nat)=>[(68,.int .i64 j)]) (fun (j:Nat) (q3:Play×Nat)=>[St b l q3.2,.arr u 9 (out.map zaA),.cells b9 (zb (zaA q3.1))]) (fun (j:Nat) (q3:Play×Nat)=>j<=out.length/\(zds q3.1/\q3.2<=a310+1+j)) (fun (j:Nat) (q3:Play×Nat)=>out.length-j) (0) ((⟨s9,n9,t9,w9,m9,p9,st9,0,y63⟩,a310+1)) ?_ ?_ ?_ ?_;exact ⟨Ad _,hq9,uD⟩;exact ⟨rfl,trivial⟩;exact uP
 intro j q3 hinv
 obtain ⟨hj,hq3⟩:=hinv;obtain ⟨⟨s3,n3,t3,w3,m3,p3,st3,c3,u3⟩,a4⟩:=q3;obtain ⟨hs3,ha4⟩:=hq3;dsimp only at hs3 ha4;refine gz4 ?_;refine uCo (fun h7=> ?_) fun h8=> ?_
 obtain ⟨z,hz⟩: ∃z,out[j]? =some z:=⟨_,Aa h7⟩
 have hdz:=zg hz;have hgz:=g2 z (Ab hz);refine zbV (i:=1) rfl (fun h0 he=> ?_) (fun ob off cap hv hcap=> ?_)
 exfalso;have:=congrArg List.length he;simp at this;subst this;simp at hz
 subst hv;refine gz5 ?_;refine dq (zv (j:=j) zhH zb7 rfl rfl rfl uSo) ?_;refine de rfl (z6 (i:=1) (j:=j) (f:=zaA) (es:=out) zb7 rfl rfl rfl hz rfl rfl rfl ?_)
 refine de rfl (zj zb7 rfl fun b11=> ?_)
 refine de0 (zn zb7 rfl rfl rfl rfl rfl ?_)
 refine gz1 ?_;refine ze (zo 11 rfl) ?_;refine gz9 ?_;refine dgl rfl rfl (fun hc=>⟨_,OpenTo.upd (t:=79) rfl (hc) (OpenTo.refl _),zar (i:=2) ty3 rfl rfl (.inl ⟨rfl,rfl⟩) ⟨rfl,rfl⟩⟩) ?_;refine gz4 ?_;refine dgx (fun x M'=> ∃(y:Bool) (a3:Nat),x= .bool y/\a3<=a4+1/\M'=[St b l a3,.arr (.slice (some ⟨ob,off,none⟩) (out.map zaA).length cap) 9 (out.map zaA),.cells b9 (zb (zaA ⟨s3,n3,t3,w3,m3,p3,st3,c3,u3⟩))]) rfl rfl (fun hc=>⟨_,false,a4,rfl,by omega,rfl⟩) (fun hc=>⟨_,OpenTo.upd (t:=84) rfl (hc) (OpenTo.refl _),uCx 0 zeO rfl rfl (zH (a:=a4) uO uO) (fun h M' hh=>by
  obtain ⟨y,h1,h2⟩:=hh;exact ⟨y,a4+1,h1,by omega,by rw [h2];rfl⟩)⟩) ?_
 rintro _ _ ⟨y6,a36,rfl,ha36,rfl⟩;refine gz3 ?_;refine uCo (fun h9=> ?_) fun h10=> ?_
 refine zgC mixed ?_;refine gz9 ?_;refine uF 9 ?_;refine zy (uY 2 ?_)
 refine ⟨uE,?_⟩
 refine gz1 ?_;refine uF 11 ?_;refine zy (uY 2 ?_)
 refine ⟨uE,?_⟩
 refine gz1 ?_;refine uF 13 ?_;refine zy (uY 2 ?_)
 refine ⟨uE,?_⟩
 refine gz1 ?_;refine uF 15 ?_;refine zy (uY 2 ?_)
 refine ⟨uE,?_⟩
 refine gz7 ?_;exact ⟨j+1,(⟨s3,n3,t3,z.Week,z.Match,z.Player,z.Stat,c3,u3⟩,a36),⟨by omega,⟨hs3.1,hgz.2.1,hgz.2.2.1,hgz.2.2.2⟩,uD⟩,uD,⟨rfl,trivial⟩,uK,uP⟩;refine gz7 ?_;exact ⟨j+1,(⟨s3,n3,t3,w3,m3,p3,st3,c3,u3⟩,a36),⟨by omega,hs3,uD⟩,uD,⟨rfl,trivial⟩,uK,uP⟩;have hnj:out.length<=j:=by omega
 obtain rfl:j=out.length:=by omega
 refine gz2 ?_;refine zI ?_;refine gz1 ?_;exact ⟨(⟨s3,n3,t3,w3,m3,p3,st3,c3,u3⟩,a4),⟨hs3,uD⟩,trivial,uK,uP⟩;refine gz1 ?_;exact ⟨(x9,a310),⟨hq9,uD⟩,trivial,uK,uP⟩
 intro q4 hq4
 obtain ⟨x5,a5⟩:=q4;obtain ⟨hx5,ha5⟩:=hq4;dsimp only at hx5 ha5;refine ze (zbC 9 (i:=2) rfl rfl) ?_;refine gz3 ?_;refine dq (za (hs:=[_]) zhH zb7 rfl rfl (by decide) (by decide) rfl) ?_;refine de rfl (zL (i:=1) zhH zb7 rfl rfl rfl rfl rfl (by simp [zat,zb]) uSo fun v104=> ?_)
 refine gz5 ?_;refine dq (za (hs:=[_,_,_,_]) zX ty3 rfl rfl (by decide) (by decide) rfl) ?_;refine de rfl (uCx 0 ca5 rfl rfl (zf (L:=[_,_,_,_]) uO uSa uSa) ?_)
 rintro _ _ ⟨y108,rfl,hy108,rfl⟩;refine dq (zbi rfl rfl (by simp at hy108;omega) (by simp at hy108;omega)) ?_;refine gz8 ?_;exact ⟨n+1,no+y29,at1+y108,⟨v104,out++[x5],a5+1⟩,⟨by omega,⟨by simp at hy29;omega,by simp at hy29;omega⟩,⟨by simp at hy108;omega,by simp at hy108;omega⟩,hq2.add (x:=x5) hx5 uO⟩,uD,⟨rfl,rfl,rfl,rfl,trivial⟩,uK,uP⟩;refine gz2 ?_;refine zAO ?_;refine gz7 ?_;exact ⟨k+1,⟨u,out,a2⟩,⟨by omega,⟨uD,g2,uD⟩⟩,uD,⟨rfl,rfl,trivial⟩,uK,uP⟩;have hnk:zg6.length<=k:=by omega
 obtain rfl:k=zg6.length:=by omega
 refine gz2 ?_;refine zI ?_;refine gz2 ?_;refine uVj [12,1,112,111] (fun (q5:List Play×Nat)=>[]) (fun (q5:List Play×Nat)=>[St b l q5.2,.arr u 9 (q5.1.map zaA)]) (fun (q5:List Play×Nat)=>q5.1.length<=15/\(∀x∈q5.1,zds x)/\q5.2<=a+500) ?_ ?_
 skip
 refine gz2 ?_;refine de rfl (zau (i:=1) zhH rfl rfl ?_)
 refine gz3 ?_;refine dgx (fun x M'=> ∃(y:Bool) (a3:Nat),x= .bool y/\a3<=a1+1/\M'=[St b l a3,.arr u 9 (out.map zaA)]) rfl rfl (fun hc=>⟨_,false,a1,rfl,by omega,rfl⟩) (fun hc=>⟨_,OpenTo.upd (t:=116) rfl (hc) (OpenTo.refl _),uCx 0 zeO rfl rfl (zH (a:=a1) uO uO) (fun h M' hh=>by
  obtain ⟨y,h1,h2⟩:=hh;exact ⟨y,a1+1,h1,by omega,by rw [h2];rfl⟩)⟩) ?_
 rintro _ _ ⟨y,a3,rfl,ha3,rfl⟩;refine gz2 ?_;refine uCo (fun h11=> ?_) fun h12=> ?_
 have ho0:0<out.length:=by simp_all
 refine zbV (i:=1) rfl (fun h0 he=> ?_) (fun ob off cap hv hcap=> ?_)
 exfalso;have:=congrArg List.length he;simp at this;subst this;simp at ho0
 subst hv;refine gz4 ?_;refine de rfl (zau (i:=1) zhH rfl rfl ?_)
 refine de rfl (uCx 0 zjr rfl rfl (zap uO uO) ?_)
 rintro _ _ ⟨y123,rfl,hy123,rfl⟩;refine dq (zv (j:=y123) zhH zb7 rfl rfl rfl uSo) ?_;refine gz2 ?_;obtain ⟨x,hx⟩: ∃x,out[y123]? =some x:=⟨_,Aa uO⟩
 refine gz2 ?_;refine de rfl (uCx 0 zjr rfl rfl (zap uO uO) ?_)
 rintro _ _ ⟨y126,rfl,hy126,rfl⟩;refine gz6 ?_;refine uCo (fun h13=> ?_) fun h14=> ?_
 refine zba (fun M=> ∃i:Nat,M[i]? =some (.arr (.slice (some ⟨ob,off,none⟩) (out.map zaA).length cap) 9 (out.map zaA))) [6,13] mixed ?_;refine gz6 ?_;refine uM 6 rfl ⟨1,rfl⟩ (fun M hM=>by obtain ⟨i,hi⟩:=hM;exact zae (i:=i) (j:=y123) 0 ty9 rfl uO hi hx rfl rfl ⟨rfl,rfl⟩) ?_;refine uB 7 rfl (za (hs:=[_,_,_]) zp ty9 rfl rfl (by decide) (by decide) rfl) ?_;refine uA 9 ?_;refine gz3 ?_;refine uM 13 rfl ⟨1,rfl⟩ (fun M hM=>by obtain ⟨i,hi⟩:=hM;exact zae (i:=i) (j:=y123) 1 ty3 rfl uO hi hx rfl rfl ⟨rfl,rfl⟩) ?_;refine uB 14 rfl (za (hs:=[_,_,_,_]) zX ty3 rfl rfl (by decide) (by decide) rfl) ?_;refine uF 8 ?_;refine zx rfl (uCx 0 zcn rfl rfl (zq (L:=[_,_,_]) uO uSa uSa) ?_)
 rintro _ _ ⟨y167,rfl,hy167,rfl⟩;refine ⟨uE,?_⟩
 refine uF 15 ?_;refine zx rfl (uCx 0 ca5 rfl rfl (zf (L:=[_,_,_,_]) uO uSa uSa) ?_)
 rintro _ _ ⟨y174,rfl,hy174,rfl⟩;refine ⟨uE,?_⟩
 refine gz2 ?_;refine uF 18 ?_;refine zy (zV (i:=1) (j:=y123) (f:=0) (y:=zaA x) (y':=zaA ⟨y167,x.No,x.At,x.Week,x.Match,x.Player,x.Stat,x.Count,x.Undo⟩) ty9 rfl uO rfl rfl (za3 hx) rfl rfl (by simp [zb]) rfl ?_)
 refine ⟨uE,?_⟩
 refine gz2 ?_;refine uF 21 ?_;refine zy (zV (i:=1) (j:=y123) (f:=1) (y:=zaA ⟨y167,x.No,x.At,x.Week,x.Match,x.Player,x.Stat,x.Count,x.Undo⟩) (y':=zaA ⟨y167,y174,x.At,x.Week,x.Match,x.Player,x.Stat,x.Count,x.Undo⟩) ty3 rfl uO rfl rfl (zaL (za3 hx)) rfl rfl (by simp [zb]) rfl ?_)
 refine ⟨uE,?_⟩
 refine gz2 ?_;exact ⟨(out.set y123 ⟨y167,y174,x.At,x.Week,x.Match,x.Player,x.Stat,x.Count,x.Undo⟩,a3+4),⟨by simp;omega,zfL (P:=zds) g2 (by
  have hgx:=g2 x (Ab hx);exact ⟨by simp at hy167;rcases hy167 with rfl|rfl|rfl;exact hgx.1;exact zrE;(unfold Sh;simp),hgx.2.1,hgx.2.2.1,hgx.2.2.2⟩),uD⟩,trivial,uK,uP⟩
 refine gz4 ?_;refine uCo (fun h15=> ?_) fun h16=> ?_
 refine zba (fun M=> ∃i:Nat,M[i]? =some (.arr (.slice (some ⟨ob,off,none⟩) (out.map zaA).length cap) 9 (out.map zaA))) [6,13] mixed ?_;refine gz6 ?_;refine uM 6 rfl ⟨1,rfl⟩ (fun M hM=>by obtain ⟨i,hi⟩:=hM;exact zae (i:=i) (j:=y123) 3 ty3 rfl uO hi hx rfl rfl ⟨rfl,rfl⟩) ?_;refine uB 7 rfl (za (hs:=[_,_,_]) zX ty3 rfl rfl (by decide) (by decide) rfl) ?_;refine uA 9 ?_;refine gz3 ?_;refine uM 13 rfl ⟨1,rfl⟩ (fun M hM=>by obtain ⟨i,hi⟩:=hM;exact zae (i:=i) (j:=y123) 4 ty9 rfl uO hi hx rfl rfl ⟨rfl,rfl⟩) ?_;refine uB 14 rfl (za (hs:=[_,_]) zp ty9 rfl rfl (by decide) (by decide) rfl) ?_;refine uF 8 ?_;refine zx rfl (uCx 0 ca5 rfl rfl (zf (L:=[_,_,_]) uO uSa uSa) ?_)
 rintro _ _ ⟨y189,rfl,hy189,rfl⟩;refine ⟨uE,?_⟩
 refine uF 15 ?_;refine zx rfl (uCx 0 zcn rfl rfl (zq (L:=[_,_]) uO uSa uSa) ?_)
 rintro _ _ ⟨y196,rfl,hy196,rfl⟩;refine ⟨uE,?_⟩
 refine gz2 ?_;refine uF 18 ?_;refine zy (zV (i:=1) (j:=y123) (f:=3) (y:=zaA x) (y':=zaA ⟨x.Source,x.No,x.At,y189,x.Match,x.Player,x.Stat,x.Count,x.Undo⟩) ty3 rfl uO rfl rfl (za3 hx) rfl rfl (by simp [zb]) rfl ?_)
 refine ⟨uE,?_⟩
 refine gz2 ?_;refine uF 21 ?_;refine zy (zV (i:=1) (j:=y123) (f:=4) (y:=zaA ⟨x.Source,x.No,x.At,y189,x.Match,x.Player,x.Stat,x.Count,x.Undo⟩) (y':=zaA ⟨x.Source,x.No,x.At,y189,y196,x.Player,x.Stat,x.Count,x.Undo⟩) ty9 rfl uO rfl rfl (zaL (za3 hx)) rfl rfl (by simp [zb]) rfl ?_)
 refine ⟨uE,?_⟩
 refine gz2 ?_;exact ⟨(out.set y123 ⟨x.Source,x.No,x.At,y189,y196,x.Player,x.Stat,x.Count,x.Undo⟩,a3+4),⟨by simp;omega,zfL (P:=zds) g2 (by
  have hgx:=g2 x (Ab hx);exact ⟨hgx.1,by simp at hy196;rcases hy196 with rfl|rfl;exact hgx.2.1;exact zrE,hgx.2.2.1,hgx.2.2.2⟩),uD⟩,trivial,uK,uP⟩
 refine gz4 ?_;refine uCo (fun h17=> ?_) fun h18=> ?_
 refine zba (fun M=> ∃i:Nat,M[i]? =some (.arr (.slice (some ⟨ob,off,none⟩) (out.map zaA).length cap) 9 (out.map zaA))) [6,13] mixed ?_;refine gz6 ?_;refine uM 6 rfl ⟨1,rfl⟩ (fun M hM=>by obtain ⟨i,hi⟩:=hM;exact zae (i:=i) (j:=y123) 7 ty3 rfl uO hi hx rfl rfl ⟨rfl,rfl⟩) ?_;refine uB 7 rfl (za (hs:=[_,_,_]) zX ty3 rfl rfl (by decide) (by decide) rfl) ?_;refine uA 9 ?_;refine gz3 ?_;refine uM 13 rfl ⟨1,rfl⟩ (fun M hM=>by obtain ⟨i,hi⟩:=hM;exact zae (i:=i) (j:=y123) 8 ty3 rfl uO hi hx rfl rfl ⟨rfl,rfl⟩) ?_;refine uB 14 rfl (za (hs:=[_,_,_]) zX ty3 rfl rfl (by decide) (by decide) rfl) ?_;refine uF 8 ?_;refine zx rfl (uCx 0 ca5 rfl rfl (zf (L:=[_,_,_]) uO uSa uSa) ?_)
 rintro _ _ ⟨y211,rfl,hy211,rfl⟩;refine ⟨uE,?_⟩
 refine uF 15 ?_;refine zx rfl (uCx 0 ca5 rfl rfl (zf (L:=[_,_,_]) uO uSa uSa) ?_)
 rintro _ _ ⟨y218,rfl,hy218,rfl⟩;refine ⟨uE,?_⟩
 refine gz2 ?_;refine uF 18 ?_;refine zy (zV (i:=1) (j:=y123) (f:=7) (y:=zaA x) (y':=zaA ⟨x.Source,x.No,x.At,x.Week,x.Match,x.Player,x.Stat,y211,x.Undo⟩) ty3 rfl uO rfl rfl (za3 hx) rfl rfl (by simp [zb]) rfl ?_)
 refine ⟨uE,?_⟩
 refine gz2 ?_;refine uF 21 ?_;refine zy (zV (i:=1) (j:=y123) (f:=8) (y:=zaA ⟨x.Source,x.No,x.At,x.Week,x.Match,x.Player,x.Stat,y211,x.Undo⟩) (y':=zaA ⟨x.Source,x.No,x.At,x.Week,x.Match,x.Player,x.Stat,y211,y218⟩) ty3 rfl uO rfl rfl (zaL (za3 hx)) rfl rfl (by simp [zb]) rfl ?_)
 refine ⟨uE,?_⟩
 refine gz2 ?_;exact ⟨(out.set y123 ⟨x.Source,x.No,x.At,x.Week,x.Match,x.Player,x.Stat,y211,y218⟩,a3+4),⟨by simp;omega,zfL (P:=zds) g2 (by
  have hgx:=g2 x (Ab hx);exact ⟨hgx.1,hgx.2.1,hgx.2.2.1,hgx.2.2.2⟩),uD⟩,trivial,uK,uP⟩
 refine zba (fun M=> ∃i:Nat,M[i]? =some (.arr (.slice (some ⟨ob,off,none⟩) (out.map zaA).length cap) 9 (out.map zaA))) [7,14,21] mixed ?_;refine gz7 ?_;refine uM 7 rfl ⟨1,rfl⟩ (fun M hM=>by obtain ⟨i,hi⟩:=hM;exact zae (i:=i) (j:=y123) 5 ty9 rfl uO hi hx rfl rfl ⟨rfl,rfl⟩) ?_;refine uB 8 rfl (za (hs:=[_,_]) zp ty9 rfl rfl (by decide) (by decide) rfl) ?_;refine uA 10 ?_;refine gz3 ?_;refine uM 14 rfl ⟨1,rfl⟩ (fun M hM=>by obtain ⟨i,hi⟩:=hM;exact zae (i:=i) (j:=y123) 6 ty9 rfl uO hi hx rfl rfl ⟨rfl,rfl⟩) ?_;refine uB 15 rfl (za (hs:=[_,_]) zp ty9 rfl rfl (by decide) (by decide) rfl) ?_;refine uA 17 ?_;refine gz3 ?_;refine uM 21 rfl ⟨1,rfl⟩ (fun M hM=>by obtain ⟨i,hi⟩:=hM;exact zae (i:=i) (j:=y123) 2 ty3 rfl uO hi hx rfl rfl ⟨rfl,rfl⟩) ?_;refine uB 22 rfl (za (hs:=[_,_]) zX ty3 rfl rfl (by decide) (by decide) rfl) ?_;refine uF 9 ?_;refine zx rfl (uCx 0 zcn rfl rfl (zq (L:=[_,_]) uO uSa uSa) ?_)
 rintro _ _ ⟨y136,rfl,hy136,rfl⟩;refine ⟨uE,?_⟩
 refine uF 16 ?_;refine zx rfl (uCx 0 zcn rfl rfl (zq (L:=[_,_]) uO uSa uSa) ?_)
 rintro _ _ ⟨y143,rfl,hy143,rfl⟩;refine ⟨uE,?_⟩
 refine uF 23 ?_;refine zx rfl (uCx 0 ca5 rfl rfl (zf (L:=[_,_]) uO uSa uSa) ?_)
 rintro _ _ ⟨y150,rfl,hy150,rfl⟩;refine ⟨uE,?_⟩
 refine gz2 ?_;refine uF 26 ?_;refine zy (zV (i:=1) (j:=y123) (f:=5) (y:=zaA x) (y':=zaA ⟨x.Source,x.No,x.At,x.Week,x.Match,y136,x.Stat,x.Count,x.Undo⟩) ty9 rfl uO rfl rfl (za3 hx) rfl rfl (by simp [zb]) rfl ?_)
 refine ⟨uE,?_⟩
 refine gz2 ?_;refine uF 29 ?_;refine zy (zV (i:=1) (j:=y123) (f:=6) (y:=zaA ⟨x.Source,x.No,x.At,x.Week,x.Match,y136,x.Stat,x.Count,x.Undo⟩) (y':=zaA ⟨x.Source,x.No,x.At,x.Week,x.Match,y136,y143,x.Count,x.Undo⟩) ty9 rfl uO rfl rfl (zaL (za3 hx)) rfl rfl (by simp [zb]) rfl ?_)
 refine ⟨uE,?_⟩
 refine gz2 ?_;refine uF 32 ?_;refine zy (zV (i:=1) (j:=y123) (f:=2) (y:=zaA ⟨x.Source,x.No,x.At,x.Week,x.Match,y136,y143,x.Count,x.Undo⟩) (y':=zaA ⟨x.Source,x.No,y150,x.Week,x.Match,y136,y143,x.Count,x.Undo⟩) ty3 rfl uO rfl rfl (zaL (zaL (za3 hx))) rfl rfl (by simp [zb]) rfl ?_)
 refine ⟨uE,?_⟩
 refine gz2 ?_;exact ⟨(out.set y123 ⟨x.Source,x.No,y150,x.Week,x.Match,y136,y143,x.Count,x.Undo⟩,a3+5),⟨by simp;omega,zfL (P:=zds) g2 (by
  have hgx:=g2 x (Ab hx);exact ⟨hgx.1,hgx.2.1,by simp at hy136;rcases hy136 with rfl|rfl;exact hgx.2.2.1;(unfold Sh;simp),by simp at hy143;rcases hy143 with rfl|rfl;exact hgx.2.2.2;exact zrE⟩),uD⟩,trivial,uK,uP⟩
 refine gz1 ?_;exact ⟨(out,a3),⟨uD,g2,uD⟩,trivial,uK,uP⟩
 intro q5 hq5
 obtain ⟨k1,a4⟩:=q5;dsimp only at hq5;obtain ⟨q1,q2,q3⟩:=hq5;refine gz5 ?_;exact zao (zaD 2 (i:=1) rfl rfl) rfl ⟨k1,a4,rfl,⟨by omega,q2⟩,by omega,rfl⟩
end
section
open Go.Proofs.Tryz
open Go.HL
theorem zd1 [Tracks] {b:Nat} {l:List Int} {a:Nat} (ha:a<=800000):Con prog 144 [pAt b] [St b l a] (fun x M'=> ∃t a',x=eSs t/\t.length<=4/\a'<=a+5/\M'=[St b l a']):=by
 refine uOb func144 ntmps144 ?_;refine gz6 ?_;refine ze (zK 1) ?_;refine gz2 ?_;refine dq (za (hs:=[_,_,_,_]) zp ty9 rfl rfl (by decide) (by decide) rfl) ?_;refine dq (zav (f:=HVal.str) (l:=sp4) zp rfl) ?_;refine gz3 ?_;refine uV2 [3,1,5,1,8,11] (fun (k:Nat) (q:GL Str)=>[(8,.int .i64 k),(3,.raw q.u)]) (fun (k:Nat) (q:GL Str)=>[St b l q.a,.arr q.u 1 (q.out.map HVal.str)]) (fun (k:Nat) (q:GL Str)=>k<=sp4.length/\(GLok (fun _=>True) (k) (a+k) q)) (fun (k:Nat) (q:GL Str)=>sp4.length-k) (0) (⟨.slice none 0 0,[],a⟩) ?_ ?_ ?_ ?_
 ·exact ⟨Ad _,⟨by simp,by simp,uD⟩⟩
 ·exact ⟨rfl,rfl,trivial⟩
 ·exact uP
 ·intro k q hinv
  obtain ⟨hk,hq⟩:=hinv;have hlen:sp4.length=4:=rfl;obtain ⟨u,out,a2⟩:=q;obtain ⟨g1,g2,g3⟩:=id hq;dsimp only at g1 g2 g3;refine gz4 ?_;refine uCo (fun h1=> ?_) fun h2=> ?_
  ·obtain ⟨x,hx⟩: ∃x,sp4[k]? =some x:=⟨_,Aa h1⟩
   have hdx:=zg hx;refine gz5 ?_;refine dq (zB (f:=HVal.str) (l:=sp4) (j:=k) (a:=x) zp ty9 rfl rfl rfl hx) ?_;refine gz5 ?_;refine de rfl (uCx 0 zeO rfl rfl (zH uS uS) ?_)
   rintro _ _ ⟨y13,rfl,rfl⟩;refine gz1 ?_;refine uCo (fun h3=> ?_) fun h4=> ?_
   ·refine gz3 ?_;refine dq (za (hs:=[_]) zp ty9 rfl rfl (by decide) (by decide) rfl) ?_;refine de rfl (zL (i:=1) zp ty9 rfl rfl rfl rfl rfl (by simp [zat,zb,zaM,za6]) uSo fun v17=> ?_)
    refine gz8 ?_;exact ⟨k+1,⟨v17,out++[x],a2+1⟩,⟨by omega,hq.add (x:=x) trivial uO⟩,uD,⟨rfl,rfl,trivial⟩,uK,zk (by dsimp only;first|rfl|(rw [Aq];rfl))⟩
   ·refine gz7 ?_;exact ⟨k+1,⟨u,out,a2+1⟩,⟨by omega,hq.same uO⟩,uD,⟨rfl,rfl,trivial⟩,uK,zk (by dsimp only;first|rfl|(rw [Aq];rfl))⟩
  ·have hnk:sp4.length<=k:=by omega
   obtain rfl:k=sp4.length:=by omega
   refine gz2 ?_;refine zI ?_;refine gz5 ?_;refine de rfl (zau (i:=1) zp rfl rfl ?_)
   refine gz2 ?_;refine uCo (fun h5=> ?_) fun h6=> ?_
   ·refine gz2 ?_;refine dq (za (hs:=[_,_,_]) zp ty9 rfl rfl (by decide) (by decide) rfl) ?_;refine de rfl (uCx 0 zcn rfl rfl (zq (L:=[_,_,_]) uS uS uS) ?_)
    rintro _ _ ⟨y24,rfl,hy24,rfl⟩;refine dq (za (hs:=[_]) zp ty9 rfl rfl (by decide) (by decide) rfl) ?_;refine gz3 ?_;exact zao ((zbl (M':=[St b l (a2+1),.arr u 1 (out.map HVal.str)]) rfl).trans ((Ghost.perm (List.Perm.swap _ _ _)).trans Ghost.drop)) rfl ⟨[y24],_,rfl,by simp,by omega,rfl⟩
   ·refine gz7 ?_;exact zao (zaD 2 (i:=1) rfl rfl) rfl ⟨out,a2,rfl,by omega,by omega,rfl⟩
theorem zel [Tracks] {b:Nat} {l:List Int} {a:Nat} (ha:a<=700000):Con prog 72 [pAt b] [St b l a] (fun x M'=> ∃k a',x=zbm k/\GoodPys k/\a'<=a+40/\M'=[St b l a']):=by
 refine uOb func72 ntmps72 ?_;refine gz6 ?_;refine ze (zK 3) ?_;refine gz2 ?_;refine dq (za (hs:=[_,_,_,_,_]) zp ty9 rfl rfl (by decide) (by decide) rfl) ?_;refine dq (zav (f:=HVal.str) (l:=nm5) zp rfl) ?_;refine gz3 ?_;refine uV2 [3,1,5,1,8,17] (fun (k:Nat) (q:GL PlayerS)=>[(8,.int .i64 k),(3,.raw q.u)]) (fun (k:Nat) (q:GL PlayerS)=>[St b l q.a,.arr q.u 3 (q.out.map ze7)]) (fun (k:Nat) (q:GL PlayerS)=>k<=nm5.length/\(GLok (GoodPy) (k) (a+8*k) q)) (fun (k:Nat) (q:GL PlayerS)=>nm5.length-k) (0) (⟨.slice none 0 0,[],a⟩) ?_ ?_ ?_ ?_;exact ⟨Ad _,⟨by simp,by simp,uD⟩⟩;exact ⟨rfl,rfl,trivial⟩;exact uP
 intro k q hinv
 obtain ⟨hk,hq⟩:=hinv;have hlen:nm5.length=5:=rfl;obtain ⟨u,out,a2⟩:=q;obtain ⟨g1,g2,g3⟩:=id hq;dsimp only at g1 g2 g3;refine gz4 ?_;refine uCo (fun h1=> ?_) fun h2=> ?_
 obtain ⟨x,hx⟩: ∃x,nm5[k]? =some x:=⟨_,Aa h1⟩
 have hdx:=zg hx;refine gz5 ?_;refine dq (zB (f:=HVal.str) (l:=nm5) (j:=k) (a:=x) zp ty9 rfl rfl rfl hx) ?_;refine gz6 ?_;refine de rfl (uCx 0 zeO rfl rfl (zH uS uS) ?_)
 rintro _ _ ⟨y13,rfl,rfl⟩;refine gz1 ?_;refine uCo (fun h3=> ?_) fun h4=> ?_
 refine gz8 ?_;exact ⟨k+1,⟨u,out,a2+1⟩,⟨by omega,hq.same uO⟩,uD,⟨rfl,rfl,trivial⟩,uK,zk (by dsimp only;first|rfl|(rw [Aq];rfl))⟩;refine gz6 ?_;refine dq (za (hs:=[_,_,_,_,_,_]) zp ty9 rfl rfl (by decide) (by decide) rfl) ?_;refine de rfl (uCx 0 zcn rfl rfl (zq (L:=[_,_,_,_,_,_]) uS uS uS) ?_)
 rintro _ _ ⟨y18,rfl,hy18,rfl⟩;refine gz1 ?_;refine de rfl (uCx 0 zxA rfl rfl (zd1 uS) ?_)
 rintro _ _ ⟨t20,a20,rfl,ht20,ha20,rfl⟩;refine dq (zF (cs:=[_,_,_]) ze2 zHj rfl) ?_;refine dq (za (hs:=[_]) znD ze2 rfl rfl (by decide) (by decide) rfl) ?_;refine de rfl (zL (i:=1) znD ze2 rfl rfl rfl rfl rfl (by simp [zat,zb,zaM,za6]) uSo fun v23=> ?_)
 refine gz8 ?_;exact ⟨k+1,⟨v23,out++[(⟨x,y18,t20⟩:PlayerS)],a20⟩,⟨by omega,hq.add (x:=(⟨x,y18,t20⟩:PlayerS)) ⟨by exact hy18,ht20⟩ (by dsimp only at ha20;omega)⟩,uD,⟨rfl,rfl,trivial⟩,uK,zk (by dsimp only;first|rfl|(rw [Aq];rfl))⟩;have hnk:nm5.length<=k:=by omega
 obtain rfl:k=nm5.length:=by omega
 refine gz2 ?_;refine zI ?_;refine gz7 ?_;exact zao (zaD 2 (i:=1) rfl rfl) rfl ⟨out,a2,rfl,⟨by omega,g2⟩,by omega,rfl⟩
theorem zaT [Tracks] {b:Nat} {l:List Int} {a:Nat} (ha:a<=800000):Con prog 76 [pAt b] [St b l a] (fun x M'=> ∃y:BoundS,x=zgo y/\M'=[St b l (a+4)]):=by
 refine za5 func76 rfl ntmps76 rfl rfl ?_;refine gz1 ?_;refine de rfl (zj zjB rfl fun b2=> ?_)
 refine gz3 ?_;refine dq (za (hs:=[_,_,_,_]) zX ty3 rfl rfl (by decide) (by decide) rfl) ?_;refine de rfl (uCx 1 ca5 rfl rfl (zf (L:=[_,_,_,_]) uS uS uS) ?_)
 rintro _ _ ⟨y5,rfl,hy5,rfl⟩;refine gz1 ?_;refine dq (za (hs:=[_,_,_]) zX ty3 rfl rfl (by decide) (by decide) rfl) ?_;refine de rfl (uCx 0 ca5 rfl rfl (zf (L:=[_,_,_]) uS uS uS) ?_)
 rintro _ _ ⟨y8,rfl,hy8,rfl⟩;refine gz1 ?_;refine dq (za (hs:=[_,_,_,_]) zX ty3 rfl rfl (by decide) (by decide) rfl) ?_;refine de rfl (uCx 0 ca5 rfl rfl (zf (L:=[_,_,_,_]) uS uS uS) ?_)
 rintro _ _ ⟨y11,rfl,hy11,rfl⟩;refine gz1 ?_;refine dq (za (hs:=[_,_,_,_]) zX ty3 rfl rfl (by decide) (by decide) rfl) ?_;refine de rfl (uCx 0 ca5 rfl rfl (zf (L:=[_,_,_,_]) uS uS uS) ?_)
 rintro _ _ ⟨y14,rfl,hy14,rfl⟩;refine dq (zF (cs:=[_,_,_,_]) zjB pl32 rfl) ?_;refine de0 (uY 1 ?_)
 refine gz2 ?_;exact ⟨_,_,zbC 2 (i:=1) rfl rfl,[_],_,⟨⟨_,_,_,_,_,rfl,zjB,.inr ⟨rfl,rfl,rfl⟩⟩,trivial⟩,Weak.refl _,⟨y5,y8,y11,y14⟩,rfl,rfl⟩
theorem zbr [Tracks] {b:Nat} {l:List Int} {a:Nat} (ha:a<=700000):Con prog 75 [pAt b] [St b l a] (fun x M'=> ∃k a',x=ze8 k/\GoodS4s k/\0<k.length/\a'<=a+25/\M'=[St b l a']):=by
 refine uOb func75 ntmps75 ?_;refine gz6 ?_;refine ze (zK 2) ?_;refine gz2 ?_;refine dq (za (hs:=[_,_,_,_]) zp ty9 rfl rfl (by decide) (by decide) rfl) ?_;refine gz1 ?_;refine de rfl (uCx 1 zg2 rfl rfl (zT uS uS uS uS) ?_)
 rintro _ _ ⟨y8,rfl,hy8,rfl⟩;refine dq (zaK (es:=sl4) (f:=HVal.str) (h:=y8.toNat) zp ty9 rfl rfl ⟨_,_,rfl,by omega⟩ uO (by simp [sl4];omega)) ?_;refine dq (zav (f:=HVal.str) (l:=(sl4.take y8.toNat)) zp rfl) ?_;refine gz2 ?_;have hlen:(sl4.take y8.toNat).length=y8.toNat:=by simp [sl4];omega
 refine gz1 ?_;refine uV2 [3,1,5,1,11,12] (fun (k:Nat) (q:GL SlotS)=>[(11,.int .i64 k),(3,.raw q.u)]) (fun (k:Nat) (q:GL SlotS)=>[St b l q.a,.arr q.u 2 (q.out.map zbZ)]) (fun (k:Nat) (q:GL SlotS)=>k<=(sl4.take y8.toNat).length/\(q.out.length=k/\GLok zmg k (a+1+5*k) q)) (fun (k:Nat) (q:GL SlotS)=>(sl4.take y8.toNat).length-k) (0) (⟨.slice none 0 0,[],a+1⟩) ?_ ?_ ?_ ?_;exact ⟨Ad _,rfl,⟨by simp,by simp,uD⟩⟩;exact ⟨rfl,rfl,trivial⟩;exact uP
 intro k q hinv
 obtain ⟨hk,⟨hn,hq⟩⟩:=hinv;obtain ⟨u,out,a2⟩:=q;obtain ⟨g1,g2,g3⟩:=id hq;dsimp only at g1 g2 g3;dsimp only at hn;refine gz4 ?_;refine uCo (fun h1=> ?_) fun h2=> ?_
 obtain ⟨x,hx⟩: ∃x,(sl4.take y8.toNat)[k]? =some x:=⟨_,Aa (by simpa using h1)⟩
 have hdx:=zg hx;refine gz5 ?_;refine dq (zB (f:=HVal.str) (l:=(sl4.take y8.toNat)) (j:=k) (a:=x) zp ty9 rfl rfl rfl hx) ?_;refine gz7 ?_;refine de rfl (uCx 0 zxA rfl rfl (zd1 uS) ?_)
 rintro _ _ ⟨t18,a18,rfl,ht18,ha18,rfl⟩;refine dq (zF (cs:=[_,_]) zdM zA5 rfl) ?_;refine dq (za (hs:=[_]) zf0 zdM rfl rfl (by decide) (by decide) rfl) ?_;refine de rfl (zL (i:=1) zf0 zdM rfl rfl rfl rfl rfl (by simp [zat,zb,zaM,za6]) uSo fun v21=> ?_)
 refine gz8 ?_;exact ⟨k+1,⟨v21,out++[(⟨x,t18⟩:SlotS)],a18⟩,⟨by omega,by simp;omega,hq.add (x:=(⟨x,t18⟩:SlotS)) (by show t18.length<=4;omega) (by dsimp only at ha18;omega)⟩,uD,⟨rfl,rfl,trivial⟩,uK,zk (by dsimp only;first|rfl|(rw [Aq];rfl))⟩;have hnk:(sl4.take y8.toNat).length<=k:=by simpa using h2
 obtain rfl:k=(sl4.take y8.toNat).length:=by omega
 refine gz2 ?_;refine zI ?_;refine gz7 ?_;exact zao (zaD 2 (i:=1) rfl rfl) rfl ⟨out,a2,rfl,⟨by omega,g2⟩,by omega,by omega,rfl⟩
end
section
open Go.HL
set_option linter.unusedSimpArgs false
end
end Go.Proofs.YtnfmbjchkjijpaaGreatDoor
namespace Go.HL
section
section
variable {P:Program} {e:Env} {dst:Option Tmp} {ty:TypeId} {pos:String} {af:Array Edge} {g:Option (Nat×Bool)} {M:List MObj} {K:HVal->List MObj->Prop}
end
end
end Go.HL
namespace Go.Proofs.YtnfmbjchkjijpaaGreatDoor
set_option maxRecDepth 100000
set_option linter.unusedVariables false
set_option linter.unusedSimpArgs false
section
open Go.Proofs.Tryz
open Go.HL
theorem zg0 [Tracks] {l:List MoveS} {v:Value} (hl:l.length<=1000000):Con prog 36 [.raw v] [.arr v 4 (l.map zdu)] (fun x M'=> ∃u,x= .raw u/\M'=[.arr u 4 ((zan none l).map zdu)]):=by
 refine uOb func36 ntmps36 ?_;refine gz6 ?_;refine de rfl (zau (i:=0) zcv rfl rfl ?_)
 refine gz2 ?_;refine uCo (fun h1=> ?_) fun h2=> ?_
 refine gz5 ?_
 (refine zah rfl ⟨_,rfl,?_⟩
  rw [ztM uO])
 refine gz3 ?_;refine zbV (i:=0) rfl (fun h0 he=> ?_) (fun b off cap hv hcap=> ?_)
 exfalso;have:=congrArg List.length he;simp at this;subst this;simp at h2
 rw [Af] at hv hcap;subst hv;refine gz4 ?_;refine uT1 [2,4,10,50] (fun k=>[(3,.int .i64 (k:Int))]) (fun k=>[.arr (.slice (some ⟨b,off,none⟩) l.length cap) 4 (l.map zdu)]) (fun k=>(1<=k/\k<=l.length)/\zan none (l.take k)=l.take k) (fun k=>l.length-k) (1) ?_ ?_;exact ⟨⟨by omega,by omega⟩,ztM uSo⟩;rintro k ⟨⟨hk1,hk⟩,hu⟩;refine gz4 ?_;refine de rfl (zau (i:=0) zcv rfl rfl ?_)
 refine gz2 ?_;refine uCo (fun h3=> ?_) fun h4=> ?_
 obtain ⟨x,hx⟩: ∃x,l[k]? =some x:=⟨_,Aa uO⟩
 obtain ⟨y,hy⟩: ∃y,l[k-1]? =some y:=⟨_,Aa uO⟩
 refine gz4 ?_;refine zbb (fun M=>M=[.arr (.slice (some ⟨b,off,none⟩) l.length cap) 4 (l.map zdu)]) [3,8] mixed ?_;refine gz2 ?_;refine uB 2 rfl (zv (j:=k) zcv zG rfl rfl rfl uO) ?_;refine uM 3 rfl rfl (uW (z6 (i:=0) (j:=k) zG rfl uO rfl hx rfl rfl rfl ⟨rfl,rfl⟩)) ?_;refine gz3 ?_;refine uB 7 rfl (zv (j:=k-1) zcv zG rfl rfl uO uO) ?_;refine uM 8 rfl rfl (uW (z6 (i:=0) (j:=k-1) zG rfl uO rfl hy rfl rfl rfl ⟨rfl,rfl⟩)) ?_;refine uB 9 rfl (zA7 zG zCc rfl rfl ⟨rfl,⟨_,_,_,_,ty3,rfl⟩,⟨rfl,⟨_,_,_,_,ty3,rfl⟩,⟨rfl,⟨_,_,_,_,ty9,rfl⟩,⟨rfl,⟨_,_,_,_,ty9,rfl⟩,trivial⟩⟩⟩⟩) ?_;refine gz1 ?_;refine uCo (fun h5=> ?_) fun h6=> ?_
 have hxy:x=y:=(zjh _ _).1 (by simpa using h5);obtain ⟨hC0,hU0⟩:=CmpA.start hx hy uO hxy hu;refine gz3 ?_;refine dq (zfn (l:=k) (h:=l.length) zcv zG rfl ⟨_,_,rfl,rfl⟩ rfl uO uO hcap) ?_;refine gz2 ?_;rw [ztE uO];refine gz5 ?_;refine uV2 [3,1,5,1,29,25] (fun (k2:Nat) (D:List MoveS)=>[(5,.int .i64 (k2:Int)),(3,.int .i64 ((zan none (l.take (k+k2))).length:Int))]) (fun (k2:Nat) (D:List MoveS)=>[.arr (.slice (some ⟨b,off,none⟩) l.length cap) 4 (D.map zdu)]) (fun (k2:Nat) (D:List MoveS)=>(1<=k2/\k+k2<=l.length)/\CmpA l (k+k2) D) (fun (k2:Nat) (D:List MoveS)=>l.length-k2) (1) (l) ?_ ?_ ?_ ?_;exact ⟨⟨by omega,by have:=zm hx;omega⟩,hC0⟩;exact ⟨rfl,zP (by rw [hU0]),trivial⟩;exact Ac _
 intro k2 D hinv
 obtain ⟨⟨hk2,hkk⟩,hD⟩:=hinv;have hlt0:=hD.lt;have hle0:=hD.len;refine gz4 ?_;refine dq (zdR zcv rfl) ?_;refine gz2 ?_;refine uCo (fun h7=> ?_) fun h8=> ?_
 obtain ⟨x2,hx2⟩: ∃x,l[k+k2]? =some x:=⟨_,Aa uO⟩
 obtain ⟨y2,hy2⟩: ∃y,l[k+k2-1]? =some y:=⟨_,Aa uO⟩
 have hDx:D[k+k2]? =some x2:=by rw [hD.hi _ uO,hx2]
 have hDy:D[k+k2-1]? =some y2:=by rw [hD.hi _ uO,hy2]
 refine gz4 ?_;refine zbb (fun M=>M=[.arr (.slice (some ⟨b,off,none⟩) l.length cap) 4 (D.map zdu)]) [3,8] mixed ?_;refine gz2 ?_;refine uB 2 rfl (zv (j:=k2) zcv zG rfl rfl rfl uO) ?_;refine uM 3 rfl rfl (uW (z6 (i:=0) (j:=(k+k2)) zG rfl uO rfl hDx rfl rfl rfl ⟨rfl,rfl⟩)) ?_;refine gz3 ?_;refine uB 7 rfl (zv (j:=k2-1) zcv zG rfl rfl uO uO) ?_;refine uM 8 rfl rfl (uW (z6 (i:=0) (j:=(k+k2-1)) zG rfl uO rfl hDy rfl rfl rfl ⟨rfl,rfl⟩)) ?_;refine uB 9 rfl (zjk zG zCc rfl rfl ⟨rfl,⟨_,_,_,_,ty3,rfl⟩,⟨rfl,⟨_,_,_,_,ty3,rfl⟩,⟨rfl,⟨_,_,_,_,ty9,rfl⟩,⟨rfl,⟨_,_,_,_,ty9,rfl⟩,trivial⟩⟩⟩⟩) ?_;refine gz1 ?_;refine uCo (fun h9=> ?_) fun h10=> ?_
 refine gz5 ?_;refine dq (zv (j:=k2) zcv zG rfl rfl rfl uO) ?_;refine de rfl (z6 (i:=0) (j:=(k+k2)) zG rfl uO rfl hDx rfl rfl rfl ?_)
 refine dq (zv (j:=(zan none (l.take (k+k2))).length) zcv zG rfl rfl rfl uO) ?_;refine de0 (zaH (i:=0) (j:=(zan none (l.take (k+k2))).length) (y:=D[(zan none (l.take (k+k2))).length]'uO) (y':=x2) zG rfl rfl rfl rfl (Aa _) rfl rfl rfl ?_)
 refine zdy ?_;have hxy:x2≠y2:=fun q=>by have q2:=(zjh _ _).2 q;simp_all
 obtain ⟨hC1,hU1⟩:=hD.more hx2 hy2 hxy;exact ⟨k2+1,_,⟨⟨by omega,by omega⟩,hC1⟩,uD,⟨rfl,zP (by rw [<-A7,hU1];rfl),trivial⟩,uK,Ac _⟩;refine gz8 ?_;have hxy:x2=y2:=(zjh _ _).1 (by simpa using h10);obtain ⟨hC1,hU1⟩:=hD.same hx2 hy2 hxy;exact ⟨k2+1,D,⟨⟨by omega,by omega⟩,hC1⟩,uD,⟨rfl,zP (by rw [<-A7,hU1]),trivial⟩,uK,Ac _⟩;have hkl:k+k2=l.length:=by omega
 refine gz2 ?_;refine zI ?_;refine gz5 ?_;refine dq (zfn (l:=(zan none (l.take (k+k2))).length) (h:=l.length) zcv zG rfl ⟨_,_,rfl,rfl⟩ rfl uO uO hcap) ?_;refine de0 (ze9 (i:=0) (m:=(zan none (l.take (k+k2))).length) ((zan none (l.take (k+k2))).length) zcv zG rfl rfl rfl (ziN uO hcap) rfl uO (Ae _) (by rw [Af,hD.len];omega) ?_)
 refine gz4 ?_;refine dq (zgS (h:=(zan none (l.take (k+k2))).length) zcv zG rfl ⟨_,_,rfl,rfl⟩ uO) ?_;refine gz3 ?_
 (refine zah rfl ⟨_,rfl,?_⟩
  have hlo:=hD.lo;rw [hkl,Ai] at hlo⊢;rw [<-BH,hlo];rfl)
 refine gz8 ?_;have hxy:x≠y:=fun q=>by have q2:=(zjh _ _).2 q;simp_all
 exact ⟨k+1,⟨⟨by omega,by omega⟩,by rw [zj4 hx hy uO,if_neg hxy,hu,zR hx]⟩,uD,⟨rfl,trivial⟩,uK,Ac _⟩;have hkl:k=l.length:=by omega
 rw [hkl,Ai] at hu;refine gz2 ?_;refine zu ?_;refine gz7 ?_
 (refine zah rfl ⟨_,rfl,?_⟩
  rw [hu])
theorem zfr [Tracks] {l:List HealthS} {fid:FuncId} {caps:List HVal} {p:HealthS->Bool} (hca:Callable prog fid) (hp: ∀x,ConP prog fid ([zcx x]++caps) (.bool (p x))) (hl:l.length<=1000000):ConP prog 235 [.slice 4 (l.map zcx),.fn (.func fid) [] caps] (.int .i64 (zW p l 0)):=by
 refine uOb func235 ntmps235 ?_;refine zay ?_;refine uT1 [4,2,8,11] (fun k=>[(8,.int .i64 k)]) (fun k=>[]) (fun k=>k<=l.length/\(zW p l 0=zW p (l.drop k) k)) (fun k=>l.length-k) (0) ?_ ?_;exact ⟨Ad _,rfl⟩;rintro k ⟨hk,hg⟩;refine gz4 ?_;refine uCo (fun h1=> ?_) fun h2=> ?_
 obtain ⟨x,hx⟩: ∃x,l[k]? =some x:=⟨_,Aa h1⟩
 have hdx:=zg hx;rw [hdx] at hg;refine zda ?_;refine dq (zag hca rfl rfl (WeakL.refl _) (hp _)) ?_;refine gz1 ?_;refine uCo (fun h3=> ?_) fun h4=> ?_
 refine gz5 ?_;refine uRp ?_
 (rw [hg];simp_all [zW])
 refine gz7 ?_;refine ⟨k+1,?_,?_,⟨rfl,trivial⟩,uK,Ac _⟩
 refine ⟨by omega,?_⟩
 rw [hg,zW,if_neg uSa];rfl
 dsimp only;omega
 have hnk:l.length<=k:=by omega
 obtain rfl:k=l.length:=by omega
 rw [zC (Ae _)] at hg;refine gz2 ?_;refine zu ?_;refine gz6 ?_;refine uRp ?_
 (rw [hg];rfl)
end
section
open Go.Proofs.Tryz
open Go.HL
theorem ziA [Tracks] {b:Nat} {l:List Int} {a:Nat} {lo hi:Int} (ha:a<=900000) (hlh:lo<=hi) (h0: -1000000000<=lo) (h1:hi<=1000000000):Con prog 86 [pAt b,.int .i64 lo,.int .i64 hi] [St b l a] (fun x M'=> ∃y:Int,x= .int .i64 y/\(-2000000000000<=y/\y<=2000000000000)/\M'=[St b l (a+2)]):=by
 refine uOb func86 ntmps86 ?_;refine gz6 ?_;refine de rfl (uCx 0 zeO rfl rfl (zH uS uS) ?_)
 rintro _ _ ⟨y8,rfl,rfl⟩;refine gz1 ?_;refine uCo (fun h1=> ?_) fun h2=> ?_
 refine gz8 ?_;refine dq (za (hs:=[_,_,_,_,_,_]) zX ty3 rfl rfl (by decide) (by decide) rfl) ?_;refine de rfl (uCx 0 ca5 rfl rfl (zf (L:=[_,_,_,_,_,_]) uS uS uS) ?_)
 rintro _ _ ⟨y17,rfl,hy17,rfl⟩;refine gz3 ?_;exact zah rfl ⟨_,rfl,by simp at hy17;rcases hy17 with rfl|rfl|rfl|rfl|rfl|rfl<;>omega,rfl⟩;refine gz6 ?_;refine de rfl (uCx 0 zg2 rfl rfl (zT uS uS uS uS) ?_)
 rintro _ _ ⟨y21,rfl,hy21,rfl⟩;refine gz3 ?_;exact zah rfl ⟨_,rfl,by omega,rfl⟩
theorem zfi [Tracks] {l:List HealthS} {fid:FuncId} {caps:List HVal} {p:HealthS->Bool} {v:Value} (hca:Callable prog fid) (hp: ∀x,ConP prog fid ([zcx x]++caps) (.bool (p x))) (hl:l.length<=1000000):Con prog 161 [.raw v,.fn (.func fid) [] caps] [.arr v 4 (l.map zcx)] (fun x M'=> ∃u,x= .raw u/\M'=[.arr u 4 ((l.filter (fun x=> !p x)).map zcx)]):=by
 refine uOb func161 ntmps161 ?_;refine gz6 ?_;refine de rfl (zls (hs':=[.slice 4 (l.map zcx),.fn (.func fid) [] caps]) zFU rfl ⟨.arr (i:=0) rfl,.weak (Weak.refl _),trivial⟩ (zfr (p:=p) hca hp hl) rfl ?_)
 refine gz7 ?_;refine uCo (fun h1=> ?_) fun h2=> ?_
 ·refine gz5 ?_
  (refine zah rfl ⟨_,rfl,?_⟩
   rw [zhT p l 0 uO h1]
   done)
 ·refine gz3 ?_;obtain ⟨i0,hi0,hil,⟨x0,hx0,hp0⟩,hb0⟩:=zgQ p l 0 uO h2;rw [Int.zero_add] at hi0;obtain ⟨hD0,hn0⟩:=DelInv.start (p:=p) hil hx0 hp0 hb0;refine zbV (i:=0) rfl (fun h0 he=> ?_) (fun b off cap hv hcap=> ?_)
  ·exfalso;have:=congrArg List.length he;simp at this;subst this;simp at hil
  rw [Af] at hv hcap;subst hv;refine gz2 ?_;refine dq (zY (zbi rfl rfl (by rw [hi0];omega) (by rw [hi0];omega)) (congrArg _ (by rw [hi0]))) ?_;refine gz3 ?_;refine uV2 [5,3,16,20] (fun (j:Nat) (D:List HealthS)=>[(6,.int .i64 (j:Int)),(5,.int .i64 (((l.take j).filter (fun x=> !p x)).length:Int))]) (fun (j:Nat) (D:List HealthS)=>[.arr (.slice (some ⟨b,off,none⟩) l.length cap) 4 (D.map zcx)]) (fun (j:Nat) (D:List HealthS)=>DelInv p l j D) (fun (j:Nat) (D:List HealthS)=>l.length-j) (i0+1) (l) ?_ ?_ ?_ ?_
  ·exact hD0
  ·exact ⟨rfl,zP (by rw [hn0,hi0]),trivial⟩
  ·exact Ac _
  ·intro j D hD
   have hlt0:=hD.lt;have hle0:=hD.len;refine gz4 ?_;refine de rfl (zau (i:=0) zjC rfl rfl ?_)
   refine gz2 ?_;refine uCo (fun h3=> ?_) fun h4=> ?_
   ·obtain ⟨x,hx⟩: ∃x,l[j]? =some x:=⟨_,Aa uO⟩
    refine gz7 ?_;refine dq (zv (j:=j) zjC zcE rfl rfl rfl uO) ?_;refine de rfl (z6 (i:=0) (j:=j) zcE rfl rfl rfl (hD.get hx) rfl rfl rfl ?_)
    refine de rfl (zj zcE rfl fun b7=> ?_)
    refine de0 (zn zcE rfl rfl rfl rfl rfl ?_)
    refine gz1 ?_;refine ze (zo 7 rfl) ?_;refine gz3 ?_;refine dq (zag hca rfl rfl (WeakL.refl _) (hp _)) ?_;refine gz2 ?_;refine uCo (fun h5=> ?_) fun h6=> ?_
    ·refine gz4 ?_;refine dq (zv (j:=((l.take j).filter (fun x=> !p x)).length) zjC zcE rfl rfl rfl (by have:=hD.lt;omega)) ?_;refine de0 (zaH (i:=0) (j:=((l.take j).filter (fun x=> !p x)).length) (y:=D[((l.take j).filter (fun x=> !p x)).length]'(by have:=hD.lt;have:=hD.len;omega)) (y':=x) zcE rfl rfl rfl rfl (Aa _) rfl rfl rfl ?_)
     refine gz3 ?_;refine dq (zbi rfl rfl uO (by have:=hD.lt;omega)) ?_;refine gz9 ?_;exact ⟨j+1,_,(hD.keep hx uSa).1,uD,⟨rfl,zP (by rw [(hD.keep hx uSa).2];rfl),trivial⟩,uK,Ac _⟩
    ·refine gz8 ?_;exact ⟨j+1,_,(hD.skip hx uSa).1,uD,⟨rfl,zP (by rw [(hD.skip hx uSa).2]),trivial⟩,uK,Ac _⟩
   ·obtain rfl:j=l.length:=by have:=hD.jle;omega
    have hend:=hD.done;refine gz2 ?_;refine zI ?_;refine gz5 ?_;refine dq (zfn (l:=((l.take l.length).filter (fun x=> !p x)).length) zjC zcE rfl ⟨_,_,rfl,rfl⟩ rfl uO uO hcap) ?_;refine de0 (ze9 (i:=0) (m:=((l.take l.length).filter (fun x=> !p x)).length) (((l.take l.length).filter (fun x=> !p x)).length) zjC zcE rfl rfl rfl (ziN uO hcap) rfl uO (Ae _) (by rw [Af,hD.len];omega) ?_)
    refine gz4 ?_;refine dq (zgS (h:=((l.take l.length).filter (fun x=> !p x)).length) zjC zcE rfl ⟨_,_,rfl,rfl⟩ uO) ?_;refine gz3 ?_
    (refine zah rfl ⟨_,rfl,?_⟩
     rw [Ai,<-BH,hend];rfl)
theorem zfV [Tracks] {l:List StintS} {fid:FuncId} {caps:List HVal} {p:StintS->Bool} (hca:Callable prog fid) (hp: ∀x,ConP prog fid ([zdo x]++caps) (.bool (p x))) (hl:l.length<=1000000):ConP prog 295 [.slice 3 (l.map zdo),.fn (.func fid) [] caps] (.int .i64 (zW p l 0)):=by
 refine uOb func295 ntmps295 ?_;refine zay ?_;refine uT1 [4,2,8,11] (fun k=>[(8,.int .i64 k)]) (fun k=>[]) (fun k=>k<=l.length/\(zW p l 0=zW p (l.drop k) k)) (fun k=>l.length-k) (0) ?_ ?_;exact ⟨Ad _,rfl⟩;rintro k ⟨hk,hg⟩;refine gz4 ?_;refine uCo (fun h1=> ?_) fun h2=> ?_
 obtain ⟨x,hx⟩: ∃x,l[k]? =some x:=⟨_,Aa h1⟩
 have hdx:=zg hx;rw [hdx] at hg;refine zda ?_;refine dq (zag hca rfl rfl (WeakL.refl _) (hp _)) ?_;refine gz1 ?_;refine uCo (fun h3=> ?_) fun h4=> ?_
 refine gz5 ?_;refine uRp ?_
 (rw [hg];simp_all [zW])
 refine gz7 ?_;refine ⟨k+1,?_,?_,⟨rfl,trivial⟩,uK,Ac _⟩
 refine ⟨by omega,?_⟩
 rw [hg,zW,if_neg uSa];rfl
 dsimp only;omega
 have hnk:l.length<=k:=by omega
 obtain rfl:k=l.length:=by omega
 rw [zC (Ae _)] at hg;refine gz2 ?_;refine zu ?_;refine gz6 ?_;refine uRp ?_
 (rw [hg];rfl)
theorem zfE [Tracks] {l:List StintS} {fid:FuncId} {caps:List HVal} {p:StintS->Bool} {v:Value} (hca:Callable prog fid) (hp: ∀x,ConP prog fid ([zdo x]++caps) (.bool (p x))) (hl:l.length<=1000000):Con prog 222 [.raw v,.fn (.func fid) [] caps] [.arr v 3 (l.map zdo)] (fun x M'=> ∃u,x= .raw u/\M'=[.arr u 3 ((l.filter (fun x=> !p x)).map zdo)]):=by
 refine uOb func222 ntmps222 ?_;refine gz6 ?_;refine de rfl (zls (hs':=[.slice 3 (l.map zdo),.fn (.func fid) [] caps]) zGo rfl ⟨.arr (i:=0) rfl,.weak (Weak.refl _),trivial⟩ (zfV (p:=p) hca hp hl) rfl ?_)
 refine gz7 ?_;refine uCo (fun h1=> ?_) fun h2=> ?_
 ·refine gz5 ?_
  (refine zah rfl ⟨_,rfl,?_⟩
   rw [zhT p l 0 uO h1]
   done)
 ·refine gz3 ?_;obtain ⟨i0,hi0,hil,⟨x0,hx0,hp0⟩,hb0⟩:=zgQ p l 0 uO h2;rw [Int.zero_add] at hi0;obtain ⟨hD0,hn0⟩:=DelInv.start (p:=p) hil hx0 hp0 hb0;refine zbV (i:=0) rfl (fun h0 he=> ?_) (fun b off cap hv hcap=> ?_)
  ·exfalso;have:=congrArg List.length he;simp at this;subst this;simp at hil
  rw [Af] at hv hcap;subst hv;refine gz2 ?_;refine dq (zY (zbi rfl rfl (by rw [hi0];omega) (by rw [hi0];omega)) (congrArg _ (by rw [hi0]))) ?_;refine gz3 ?_;refine uV2 [5,3,16,20] (fun (j:Nat) (D:List StintS)=>[(6,.int .i64 (j:Int)),(5,.int .i64 (((l.take j).filter (fun x=> !p x)).length:Int))]) (fun (j:Nat) (D:List StintS)=>[.arr (.slice (some ⟨b,off,none⟩) l.length cap) 3 (D.map zdo)]) (fun (j:Nat) (D:List StintS)=>DelInv p l j D) (fun (j:Nat) (D:List StintS)=>l.length-j) (i0+1) (l) ?_ ?_ ?_ ?_
  ·exact hD0
  ·exact ⟨rfl,zP (by rw [hn0,hi0]),trivial⟩
  ·exact Ac _
  ·intro j D hD
   have hlt0:=hD.lt;have hle0:=hD.len;refine gz4 ?_;refine de rfl (zau (i:=0) zhG rfl rfl ?_)
   refine gz2 ?_;refine uCo (fun h3=> ?_) fun h4=> ?_
   ·obtain ⟨x,hx⟩: ∃x,l[j]? =some x:=⟨_,Aa uO⟩
    refine gz7 ?_;refine dq (zv (j:=j) zhG zcR rfl rfl rfl uO) ?_;refine de rfl (z6 (i:=0) (j:=j) zcR rfl rfl rfl (hD.get hx) rfl rfl rfl ?_)
    refine de rfl (zj zcR rfl fun b7=> ?_)
    refine de0 (zn zcR rfl rfl rfl rfl rfl ?_)
    refine gz1 ?_;refine ze (zo 7 rfl) ?_;refine gz3 ?_;refine dq (zag hca rfl rfl (WeakL.refl _) (hp _)) ?_;refine gz2 ?_;refine uCo (fun h5=> ?_) fun h6=> ?_
    ·refine gz4 ?_;refine dq (zv (j:=((l.take j).filter (fun x=> !p x)).length) zhG zcR rfl rfl rfl (by have:=hD.lt;omega)) ?_;refine de0 (zaH (i:=0) (j:=((l.take j).filter (fun x=> !p x)).length) (y:=D[((l.take j).filter (fun x=> !p x)).length]'(by have:=hD.lt;have:=hD.len;omega)) (y':=x) zcR rfl rfl rfl rfl (Aa _) rfl rfl rfl ?_)
     refine gz3 ?_;refine dq (zbi rfl rfl uO (by have:=hD.lt;omega)) ?_;refine gz9 ?_;exact ⟨j+1,_,(hD.keep hx uSa).1,uD,⟨rfl,zP (by rw [(hD.keep hx uSa).2];rfl),trivial⟩,uK,Ac _⟩
    ·refine gz8 ?_;exact ⟨j+1,_,(hD.skip hx uSa).1,uD,⟨rfl,zP (by rw [(hD.skip hx uSa).2]),trivial⟩,uK,Ac _⟩
   ·obtain rfl:j=l.length:=by have:=hD.jle;omega
    have hend:=hD.done;refine gz2 ?_;refine zI ?_;refine gz5 ?_;refine dq (zfn (l:=((l.take l.length).filter (fun x=> !p x)).length) zhG zcR rfl ⟨_,_,rfl,rfl⟩ rfl uO uO hcap) ?_;refine de0 (ze9 (i:=0) (m:=((l.take l.length).filter (fun x=> !p x)).length) (((l.take l.length).filter (fun x=> !p x)).length) zhG zcR rfl rfl rfl (ziN uO hcap) rfl uO (Ae _) (by rw [Af,hD.len];omega) ?_)
    refine gz4 ?_;refine dq (zgS (h:=((l.take l.length).filter (fun x=> !p x)).length) zhG zcR rfl ⟨_,_,rfl,rfl⟩ uO) ?_;refine gz3 ?_
    (refine zah rfl ⟨_,rfl,?_⟩
     rw [Ai,<-BH,hend];rfl)
theorem zeS [Tracks] {x:HealthS}:ConP prog 88 [zcx x] (.str x.Player):=by
 refine uOb func88 ntmps88 ?_;refine zay ?_;refine zt rfl ?_
 rfl
theorem zor [Tracks] {L:List PlayerS} {x:HealthS} (hL:L.length<=1000000):ConP prog 162 [zcx x,.vptr [zbm L] 0,.vptr [.fn (.func 88) [] []] 0] (.bool (ofB L x.Player)):=by
 refine uOb func162 ntmps162 ?_;refine gz4 ?_;refine uDr mixed ?_;refine gz3 ?_;refine uB 3 rfl (zag ca88 rfl rfl (WeakL.refl _) (zeS (x:=x))) ?_;refine uB 4 rfl (uCl zud rfl (zdF (l:=L) (s:=x.Player) hL)) ?_;refine gz4 ?_;refine uGy 9 rfl rfl (fun hc=>zag ca88 rfl rfl (WeakL.refl _) (zeS (x:=x))) ?_;refine gz5 ?_;refine zt rfl ?_;refine congrArg _ ?_;unfold ofB
 cases decide (zW (fun x_1:PlayerS=>x_1.Key==x.Player) L 0<0)
 rfl
 rfl
theorem zqo [Tracks] {L:List PlayerS} {l:List HealthS} {v:Value} (hL:L.length<=1000000) (hl:l.length<=1000000):Con prog 87 [zbm L,.raw v,.fn (.func 88) [] []] [.arr v 4 (l.map zcx)] (fun x M'=> ∃u,x= .raw u/\M'=[.arr u 4 ((l.filter fun x=> !(ofB L x.Player)).map zcx)]):=by
 refine uOb func87 ntmps87 ?_;refine gz8 ?_;refine de rfl (uCx 0 zFi rfl rfl (zfi (l:=l) (p:=fun x=>ofB L x.Player) zFj (fun _=>zor hL) hl) ?_)
 rintro _ _ ⟨u9,rfl,rfl⟩;refine gz3 ?_;exact zah rfl ⟨u9,rfl,rfl⟩
theorem zeT [Tracks] {x:StintS}:ConP prog 155 [zdo x] (.str x.Player):=by
 refine uOb func155 ntmps155 ?_;refine zay ?_;refine zt rfl ?_
 rfl
theorem zpP [Tracks] {L:List PlayerS} {x:StintS} (hL:L.length<=1000000):ConP prog 223 [zdo x,.vptr [zbm L] 0,.vptr [.fn (.func 155) [] []] 0] (.bool (ofB L x.Player)):=by
 refine uOb func223 ntmps223 ?_;refine gz4 ?_;refine uDr mixed ?_;refine gz3 ?_;refine uB 3 rfl (zag zBJ rfl rfl (WeakL.refl _) (zeT (x:=x))) ?_;refine uB 4 rfl (uCl zud rfl (zdF (l:=L) (s:=x.Player) hL)) ?_;refine gz4 ?_;refine uGy 9 rfl rfl (fun hc=>zag zBJ rfl rfl (WeakL.refl _) (zeT (x:=x))) ?_;refine gz5 ?_;refine zt rfl ?_;refine congrArg _ ?_;unfold ofB
 cases decide (zW (fun x_1:PlayerS=>x_1.Key==x.Player) L 0<0)
 rfl
 rfl
theorem zq1 [Tracks] {L:List PlayerS} {l:List StintS} {v:Value} (hL:L.length<=1000000) (hl:l.length<=1000000):Con prog 153 [zbm L,.raw v,.fn (.func 155) [] []] [.arr v 3 (l.map zdo)] (fun x M'=> ∃u,x= .raw u/\M'=[.arr u 3 ((l.filter fun x=> !(ofB L x.Player)).map zdo)]):=by
 refine uOb func153 ntmps153 ?_;refine gz8 ?_;refine de rfl (uCx 0 zFS rfl rfl (zfE (l:=l) (p:=fun x=>ofB L x.Player) zFT (fun _=>zpP hL) hl) ?_)
 rintro _ _ ⟨u9,rfl,rfl⟩;refine gz3 ?_;exact zah rfl ⟨u9,rfl,rfl⟩
theorem zi7 [Tracks] {b:Nat} {l:List Int} {a:Nat} {L:List PlayerS} (ha:a<=700000) (hL:L.length<=1000000):Con prog 37 [pAt b,zbm L] [St b l a] (fun x M'=> ∃k a',x=zcI k/\GoodHes k/\a'<=a+150/\M'=[St b l a']):=by
 refine uOb func37 ntmps37 ?_;refine gz6 ?_;refine ze (zK 4) ?_;refine gz2 ?_;refine dq (za (hs:=[_,_,_,_,_]) zp ty9 rfl rfl (by decide) (by decide) rfl) ?_;refine dq (zav (f:=HVal.str) (l:=nm5) zp rfl) ?_;refine gz3 ?_;refine uV2 [5,1,7,3,12,47] (fun (k:Nat) (q:GL HealthS)=>[(12,.int .i64 k),(5,.raw q.u)]) (fun (k:Nat) (q:GL HealthS)=>[St b l q.a,.arr q.u 4 (q.out.map zcx)]) (fun (k:Nat) (q:GL HealthS)=>k<=nm5.length/\(GLok zuD (2*k) (a+24*k) q)) (fun (k:Nat) (q:GL HealthS)=>nm5.length-k) (0) (⟨.slice none 0 0,[],a⟩) ?_ ?_ ?_ ?_;exact ⟨Ad _,⟨by simp,by simp,uD⟩⟩;exact ⟨rfl,rfl,trivial⟩;exact uP
 intro k q hinv
 obtain ⟨hk,hq⟩:=hinv;have hlen:nm5.length=5:=rfl;obtain ⟨u,out,a2⟩:=q;obtain ⟨g1,g2,g3⟩:=id hq;dsimp only at g1 g2 g3;refine gz4 ?_;refine uCo (fun h1=> ?_) fun h2=> ?_
 obtain ⟨x,hx⟩: ∃x,nm5[k]? =some x:=⟨_,Aa h1⟩
 have hdx:=zg hx;refine gz5 ?_;refine dq (zB (f:=HVal.str) (l:=nm5) (j:=k) (a:=x) zp ty9 rfl rfl rfl hx) ?_;refine gz5 ?_;refine de rfl (uCx 0 zg2 rfl rfl (zT uS uS uS uS) ?_)
 rintro _ _ ⟨y17,rfl,hy17,rfl⟩;refine gz4 ?_;refine de rfl (uCx 0 zg2 rfl rfl (zT uS uS uS uS) ?_)
 rintro _ _ ⟨y19,rfl,hy19,rfl⟩;refine gz3 ?_;refine uV3 [5,1,8,2,20,38] (fun (n:Nat) (wk:Int) (q2:GL HealthS)=>[(20,.int .i64 (n:Int)),(8,.int .i64 wk),(5,.raw q2.u)]) (fun (n:Nat) (wk:Int) (q2:GL HealthS)=>[St b l q2.a,.arr q2.u 4 (q2.out.map zcx)]) (fun (n:Nat) (wk:Int) (q2:GL HealthS)=>(n:Int)<=y19/\(1<=wk/\wk<=3+4*n)/\GLok zuD (2*k+n) (a+24*k+2+11*n) q2) (fun (n:Nat) (wk:Int) (q2:GL HealthS)=>y19.toNat-n) (0) (y17) (⟨u,out,a2+2⟩) ?_ ?_ ?_ ?_;exact ⟨by omega,by omega,⟨uD,g2,uD⟩⟩;exact ⟨rfl,rfl,rfl,trivial⟩;exact uP
 intro n wk q2 hinv
 obtain ⟨hn,hw,hq2⟩:=hinv;obtain ⟨u,out,a2⟩:=q2;obtain ⟨g1,g2,g3⟩:=id hq2;dsimp only at g1 g2 g3;refine gz4 ?_;refine uCo (fun h3=> ?_) fun h4=> ?_
 refine gz9 ?_;refine de rfl (uCx 0 zg2 rfl rfl (zT uS uS uS uS) ?_)
 rintro _ _ ⟨y26,rfl,hy26,rfl⟩;refine gz2 ?_;refine dq (za (hs:=[_,_]) zX ty3 rfl rfl (by decide) (by decide) rfl) ?_;refine de rfl (uCx 0 ca5 rfl rfl (zf (L:=[_,_]) uS uS uS) ?_)
 rintro _ _ ⟨y30,rfl,hy30,rfl⟩;refine dq (zF (cs:=[_,_,_,_]) zcE zHh rfl) ?_;refine de rfl (zj zcE rfl fun b9=> ?_)
 refine de0 (uY 0 ?_)
 refine gz1 ?_;refine zbb (fun M=> ∃i:Nat,M[i]? =some (.cells b9 (zb (zcx (⟨x,wk,wk+y26,y30⟩:HealthS))))) [1] mixed ?_;refine gz1 ?_;refine uM 1 rfl ⟨0,rfl⟩ (fun M hM=>by obtain ⟨i,hi⟩:=hM;exact zar (i:=i) (h:= .int .i64 (wk+y26)) ty3 rfl hi (.inl ⟨rfl,rfl⟩) ⟨rfl,rfl⟩) ?_;refine gz1 ?_;refine uF 3 ?_;refine zx rfl (uCx 1 zg2 rfl rfl (zT uS uS uS uS) ?_)
 rintro _ _ ⟨y35,rfl,hy35,rfl⟩;refine ⟨uE,?_⟩
 refine gz3 ?_;refine uVj [37,16] (fun (q4:HealthS×Nat)=>[]) (fun (q4:HealthS×Nat)=>[St b l q4.2,.arr u 4 (out.map zcx),.cells b9 (zb (zcx q4.1))]) (fun (q4:HealthS×Nat)=>zuD q4.1/\q4.2<=a2+11) ?_ ?_
 skip
 refine gz2 ?_;refine de rfl (uCx 0 zeO rfl rfl (zH uS uS) ?_)
 rintro _ _ ⟨y38,rfl,rfl⟩;refine gz1 ?_;refine uCo (fun h5=> ?_) fun h6=> ?_
 refine gz3 ?_;refine dq (za (hs:=[_,_]) zp ty9 rfl rfl (by decide) (by decide) rfl) ?_;refine de rfl (uCx 0 zcn rfl rfl (zq (L:=[_,_]) uS uS uS) ?_)
 rintro _ _ ⟨y42,rfl,hy42,rfl⟩;refine gz1 ?_;refine de rfl (uCx 0 zqr rfl rfl (ziA uS uS uS uS) ?_)
 rintro _ _ ⟨y44,rfl,hy44,rfl⟩;refine gz1 ?_;refine de rfl (uCx 0 zqr rfl rfl (ziA uS uS uS uS) ?_)
 rintro _ _ ⟨y46,rfl,hy46,rfl⟩;refine gz1 ?_;refine de rfl (uCx 0 zqr rfl rfl (ziA uS uS uS uS) ?_)
 rintro _ _ ⟨y48,rfl,hy48,rfl⟩;refine gz1 ?_;refine de0 (uY 1 ?_)
 refine gz1 ?_;refine de0 (uY 1 ?_)
 refine gz1 ?_;refine de0 (uY 1 ?_)
 refine gz1 ?_;refine de0 (uY 1 ?_)
 refine gz1 ?_;exact ⟨((⟨y42,y44,y46,y48⟩:HealthS),a2+11),⟨⟨uD,uD⟩,uD⟩,trivial,uK,uP⟩;refine gz1 ?_;exact ⟨((⟨x,wk,wk+y26,y30⟩:HealthS),a2+4),⟨⟨uD,uD⟩,uD⟩,trivial,uK,uP⟩
 intro q4 hq4
 obtain ⟨x5,a5⟩:=q4;obtain ⟨hx5,ha5⟩:=hq4;dsimp only at hx5 ha5;refine ze (zbC 9 (i:=2) rfl rfl) ?_;refine gz3 ?_;refine dq (za (hs:=[_]) zjC zcE rfl rfl (by decide) (by decide) rfl) ?_;refine de rfl (zL (i:=1) zjC zcE rfl rfl rfl rfl rfl (by simp [zat,zb,zaM,za6]) uSo fun v56=> ?_)
 refine gz8 ?_;exact ⟨n+1,wk+y26+y35,⟨v56,out++[x5],a5⟩,⟨by omega,⟨by omega,by omega⟩,hq2.add (x:=x5) hx5 uO⟩,uD,⟨rfl,rfl,rfl,trivial⟩,uK,uP⟩;refine gz2 ?_;refine zcN ?_;refine gz7 ?_;exact ⟨k+1,⟨u,out,a2⟩,⟨by omega,hq2.mono uO uO⟩,uD,⟨rfl,rfl,trivial⟩,uK,uP⟩;have hnk:nm5.length<=k:=by omega
 obtain rfl:k=nm5.length:=by omega
 refine gz2 ?_;refine zI ?_;refine gz5 ?_;refine de rfl (uCx 1 ca87 rfl rfl (zqo (L:=L) (l:=out) hL uO) ?_)
 rintro _ _ ⟨u61,rfl,rfl⟩;refine gz3 ?_;exact zao (zaD 4 (i:=0) rfl rfl) rfl ⟨_,a2,rfl,GoodHes.filter uO g2,by omega,rfl⟩
theorem zjI [Tracks] {b:Nat} {l:List Int} {a:Nat} (ha:a<=700000):Con prog 154 [pAt b] [St b l a] (fun x M'=> ∃(u:Value) (k:List StintS) (a':Nat),x= .raw u/\k.length<=10/\a'<=a+100/\M'=[.arr u 3 (k.map zdo),St b l a']):=by
 refine uOb func154 ntmps154 ?_;refine gz6 ?_;refine ze (zK 3) ?_;refine gz2 ?_;refine dq (za (hs:=[_,_,_,_,_]) zp ty9 rfl rfl (by decide) (by decide) rfl) ?_;refine dq (zav (f:=HVal.str) (l:=nm5) zp rfl) ?_;refine gz3 ?_;refine uV2 [3,1,5,3,10,40] (fun (k:Nat) (q:GL StintS)=>[(10,.int .i64 k),(3,.raw q.u)]) (fun (k:Nat) (q:GL StintS)=>[St b l q.a,.arr q.u 3 (q.out.map zdo)]) (fun (k:Nat) (q:GL StintS)=>k<=nm5.length/\(GLok (fun _=>True) (2*k) (a+20*k) q)) (fun (k:Nat) (q:GL StintS)=>nm5.length-k) (0) (⟨.slice none 0 0,[],a⟩) ?_ ?_ ?_ ?_
 ·exact ⟨Ad _,⟨by simp,by simp,uD⟩⟩
 ·exact ⟨rfl,rfl,trivial⟩
 ·exact uP
 ·intro k q hinv
  obtain ⟨hk,hq⟩:=hinv;have hlen:nm5.length=5:=rfl;obtain ⟨u,out,a2⟩:=q;obtain ⟨g1,g2,g3⟩:=id hq;dsimp only at g1 g2 g3;refine gz4 ?_;refine uCo (fun h1=> ?_) fun h2=> ?_
  ·obtain ⟨x,hx⟩: ∃x,nm5[k]? =some x:=⟨_,Aa h1⟩
   have hdx:=zg hx;refine gz5 ?_;refine dq (zB (f:=HVal.str) (l:=nm5) (j:=k) (a:=x) zp ty9 rfl rfl rfl hx) ?_;refine gz5 ?_;refine de rfl (uCx 0 zg2 rfl rfl (zT uS uS uS uS) ?_)
   rintro _ _ ⟨y15,rfl,hy15,rfl⟩;refine gz4 ?_;refine de rfl (uCx 0 zg2 rfl rfl (zT uS uS uS uS) ?_)
   rintro _ _ ⟨y17,rfl,hy17,rfl⟩;refine gz3 ?_;refine uV3 [3,1,6,2,18,31] (fun (n:Nat) (wk:Int) (q2:GL StintS)=>[(18,.int .i64 (n:Int)),(6,.int .i64 wk),(3,.raw q2.u)]) (fun (n:Nat) (wk:Int) (q2:GL StintS)=>[St b l q2.a,.arr q2.u 3 (q2.out.map zdo)]) (fun (n:Nat) (wk:Int) (q2:GL StintS)=>(n:Int)<=y17/\(1<=wk/\wk<=2+3*n)/\GLok (fun _=>True) (2*k+n) (a+20*k+2+9*n) q2) (fun (n:Nat) (wk:Int) (q2:GL StintS)=>y17.toNat-n) (0) (y15) (⟨u,out,a2+2⟩) ?_ ?_ ?_ ?_
   ·exact ⟨by omega,by omega,⟨uD,g2,uD⟩⟩
   ·exact ⟨rfl,rfl,rfl,trivial⟩
   ·exact uP
   ·intro n wk q2 hinv
    obtain ⟨hn,hw,hq2⟩:=hinv;obtain ⟨u,out,a2⟩:=q2;obtain ⟨g1,g2,g3⟩:=id hq2;dsimp only at g1 g2 g3;refine gz4 ?_;refine uCo (fun h3=> ?_) fun h4=> ?_
    ·refine gz7 ?_;refine dq (za (hs:=[_,_,_,_]) zp ty9 rfl rfl (by decide) (by decide) rfl) ?_;refine de rfl (uCx 0 zcn rfl rfl (zq (L:=[_,_,_,_]) uS uS uS) ?_)
     rintro _ _ ⟨y23,rfl,hy23,rfl⟩;refine gz1 ?_;refine dq (zF (cs:=[_,_,_]) zcR zHm rfl) ?_;refine de rfl (zj zcR rfl fun b7=> ?_)
     refine de0 (uY 0 ?_)
     refine gz1 ?_;refine uVj [26,14] (fun (q4:StintS×Nat)=>[]) (fun (q4:StintS×Nat)=>[St b l q4.2,.arr u 3 (out.map zdo),.cells b7 (zb (zdo q4.1))]) (fun (q4:StintS×Nat)=>q4.2<=a2+8) ?_ ?_
     ·skip
      refine gz2 ?_;refine de rfl (uCx 1 zeO rfl rfl (zH uS uS) ?_)
      rintro _ _ ⟨y27,rfl,rfl⟩;refine gz1 ?_;refine uCo (fun h5=> ?_) fun h6=> ?_
      ·refine gz3 ?_;refine dq (za (hs:=[_,_,_]) zp ty9 rfl rfl (by decide) (by decide) rfl) ?_;refine de rfl (uCx 0 zcn rfl rfl (zq (L:=[_,_,_]) uS uS uS) ?_)
       rintro _ _ ⟨y31,rfl,hy31,rfl⟩;refine gz1 ?_;refine dq (za (hs:=[_,_]) zp ty9 rfl rfl (by decide) (by decide) rfl) ?_;refine de rfl (uCx 0 zcn rfl rfl (zq (L:=[_,_]) uS uS uS) ?_)
       rintro _ _ ⟨y34,rfl,hy34,rfl⟩;refine gz1 ?_;refine de rfl (uCx 0 zqr rfl rfl (ziA uS uS uS uS) ?_)
       rintro _ _ ⟨y36,rfl,hy36,rfl⟩;refine gz1 ?_;refine de0 (uY 1 ?_)
       refine gz1 ?_;refine de0 (uY 1 ?_)
       refine gz1 ?_;refine de0 (uY 1 ?_)
       refine gz1 ?_;exact ⟨((⟨y31,y34,y36⟩:StintS),a2+6),uD,trivial,uK,uP⟩
      ·refine gz1 ?_;exact ⟨((⟨x,y23,wk⟩:StintS),a2+2),uD,trivial,uK,uP⟩
     ·intro q4 ha5
      obtain ⟨x5,a5⟩:=q4;dsimp only at ha5;refine ze (zbC 7 (i:=2) rfl rfl) ?_;refine gz3 ?_;refine dq (za (hs:=[_]) zhG zcR rfl rfl (by decide) (by decide) rfl) ?_;refine de rfl (zL (i:=1) zhG zcR rfl rfl rfl rfl rfl (by simp [zat,zb,zaM,za6]) uSo fun v43=> ?_)
      refine gz5 ?_;refine de rfl (uCx 0 zg2 rfl rfl (zT uS uS uS uS) ?_)
      rintro _ _ ⟨y46,rfl,hy46,rfl⟩;refine gz9 ?_;exact ⟨n+1,wk+y46,⟨v43,out++[x5],a5+1⟩,⟨by omega,⟨by omega,by omega⟩,hq2.add (x:=x5) trivial uO⟩,uD,⟨rfl,rfl,rfl,trivial⟩,uK,uP⟩
    ·refine gz2 ?_;refine zcN ?_;refine gz7 ?_;exact ⟨k+1,⟨u,out,a2⟩,⟨by omega,hq2.mono uO uO⟩,uD,⟨rfl,rfl,trivial⟩,uK,uP⟩
  ·have hnk:nm5.length<=k:=by omega
   obtain rfl:k=nm5.length:=by omega
   refine gz2 ?_;refine zI ?_;refine gz7 ?_;exact zao (Ghost.perm (List.Perm.swap _ _ _)) rfl ⟨_,out,a2,rfl,by omega,by omega,rfl⟩
theorem zi9 [Tracks] {b:Nat} {l:List Int} {a:Nat} {L:List PlayerS} (ha:a<=700000) (hL:L.length<=1000000):Con prog 79 [pAt b,zbm L] [St b l a] (fun x M'=> ∃k a',x=zfP k/\k.length<=10/\a'<=a+100/\M'=[St b l a']):=by
 refine uOb func79 ntmps79 ?_;refine gz6 ?_;refine de rfl (uCx 0 zFh rfl rfl (zjI (b:=b) (l:=l) (a:=a) ha) ?_)
 rintro _ _ ⟨u7,k7,a7,rfl,hk7,ha7,rfl⟩;refine de rfl (uCx 0 zFg rfl rfl (zq1 (L:=L) (l:=k7) hL uO) ?_)
 rintro _ _ ⟨u8,rfl,rfl⟩;refine gz3 ?_;exact zao (zaD 4 (i:=0) rfl rfl) rfl ⟨_,a7,rfl,Ar (AV _ _) hk7,by omega,rfl⟩
end
section
open Go.Proofs.Tryz
open Go.HL
theorem zoj [Tracks] {n d:Int} (hn: -1000000<=n/\n<=1000000) (hd:1<=d/\d<=1000000):ConP prog 221 [.int .i64 n,.int .i64 d] (.agg [.int .i64 (n.tdiv (zif n d)),.int .i64 (d.tdiv (zif n d))]):=by
 have hg0:=zDa (n:=n) hd.1;refine za5 func221 rfl ntmps221 rfl rfl ?_;refine gz1 ?_;refine de rfl (zj zaj rfl fun b4=> ?_)
 refine gz4 ?_;refine dq (uCl zB6 rfl (ziv (n:=n) (d:=d) uO uO)) ?_;refine gz2 ?_;refine uDr mixed ?_;refine gz2 ?_;refine uB 2 rfl (zdS (n:=zif n d) rfl rfl uO uO uO) ?_;refine gz2 ?_;refine uB 5 rfl (zdS (n:=zif n d) rfl rfl uO uO uO) ?_;refine uB 6 rfl (zF (cs:=[_,_]) zaj zl8 rfl) ?_;refine uF 7 ?_;refine zy (uY 0 ?_)
 refine ⟨uE,?_⟩
 refine gz2 ?_;exact ⟨_,_,zo 4 rfl,[_],_,⟨⟨_,_,_,_,_,rfl,zaj,.inr ⟨rfl,rfl,rfl⟩⟩,trivial⟩,Weak.refl _,rfl,rfl⟩
theorem zks [Tracks] {n:Int} (hn: -1000000<=n/\n<=1000000):ConP prog 151 [.int .i64 n] (.agg [.int .i64 (n.tdiv (zif n 100)),.int .i64 ((100:Int).tdiv (zif n 100))]):=by
 refine za5 func151 rfl ntmps151 rfl rfl ?_;refine gz1 ?_;refine de rfl (zj zaj rfl fun b2=> ?_)
 refine gz3 ?_;refine dq (uCl zFR rfl (zoj (n:=n) (d:=100) hn uO)) ?_;refine de0 (uY 0 ?_)
 refine gz2 ?_;exact ⟨_,_,zo 2 rfl,[_],_,⟨⟨_,_,_,_,_,rfl,zaj,.inr ⟨rfl,rfl,rfl⟩⟩,trivial⟩,Weak.refl _,rfl,rfl⟩
theorem zr9 [Tracks] {b:Nat} {l:List Int} {a:Nat} (ha:a<=700000):Con prog 75 [pAt b] [St b l a] (fun x M'=> ∃(u:Value) (k:List SlotS) (a':Nat),x= .raw u/\GoodS4s k/\0<k.length/\a'<=a+25/\M'=[.arr u 2 (k.map zbZ),St b l a']):=by
 refine uOb func75 ntmps75 ?_;refine gz6 ?_;refine ze (zK 2) ?_;refine gz2 ?_;refine dq (za (hs:=[_,_,_,_]) zp ty9 rfl rfl (by decide) (by decide) rfl) ?_;refine gz1 ?_;refine de rfl (uCx 1 zg2 rfl rfl (zT uS uS uS uS) ?_)
 rintro _ _ ⟨y8,rfl,hy8,rfl⟩;refine dq (zaK (es:=sl4) (f:=HVal.str) (h:=y8.toNat) zp ty9 rfl rfl ⟨_,_,rfl,by omega⟩ uO (by simp [sl4];omega)) ?_;refine dq (zav (f:=HVal.str) (l:=(sl4.take y8.toNat)) zp rfl) ?_;refine gz2 ?_;have hlen:(sl4.take y8.toNat).length=y8.toNat:=by simp [sl4];omega
 refine gz1 ?_;refine uV2 [3,1,5,1,11,12] (fun (k:Nat) (q:GL SlotS)=>[(11,.int .i64 k),(3,.raw q.u)]) (fun (k:Nat) (q:GL SlotS)=>[St b l q.a,.arr q.u 2 (q.out.map zbZ)]) (fun (k:Nat) (q:GL SlotS)=>k<=(sl4.take y8.toNat).length/\(q.out.length=k/\GLok zmg k (a+1+5*k) q)) (fun (k:Nat) (q:GL SlotS)=>(sl4.take y8.toNat).length-k) (0) (⟨.slice none 0 0,[],a+1⟩) ?_ ?_ ?_ ?_
 ·exact ⟨Ad _,rfl,⟨by simp,by simp,uD⟩⟩
 ·exact ⟨rfl,rfl,trivial⟩
 ·exact uP
 ·intro k q hinv
  obtain ⟨hk,⟨hn,hq⟩⟩:=hinv;obtain ⟨u,out,a2⟩:=q;obtain ⟨g1,g2,g3⟩:=id hq;dsimp only at g1 g2 g3;dsimp only at hn;refine gz4 ?_;refine uCo (fun h1=> ?_) fun h2=> ?_
  ·obtain ⟨x,hx⟩: ∃x,(sl4.take y8.toNat)[k]? =some x:=⟨_,Aa (by simpa using h1)⟩
   have hdx:=zg hx;refine gz5 ?_;refine dq (zB (f:=HVal.str) (l:=(sl4.take y8.toNat)) (j:=k) (a:=x) zp ty9 rfl rfl rfl hx) ?_;refine gz7 ?_;refine de rfl (uCx 0 zxA rfl rfl (zd1 uS) ?_)
   rintro _ _ ⟨t18,a18,rfl,ht18,ha18,rfl⟩;refine dq (zF (cs:=[_,_]) zdM zA5 rfl) ?_;refine dq (za (hs:=[_]) zf0 zdM rfl rfl (by decide) (by decide) rfl) ?_;refine de rfl (zL (i:=1) zf0 zdM rfl rfl rfl rfl rfl (by simp [zat,zb,zaM,za6]) uSo fun v21=> ?_)
   refine gz8 ?_;exact ⟨k+1,⟨v21,out++[(⟨x,t18⟩:SlotS)],a18⟩,⟨by omega,by simp;omega,hq.add (x:=(⟨x,t18⟩:SlotS)) (by show t18.length<=4;omega) (by dsimp only at ha18;omega)⟩,uD,⟨rfl,rfl,trivial⟩,uK,zk (by dsimp only;first|rfl|(rw [Aq];rfl))⟩
  ·have hnk:(sl4.take y8.toNat).length<=k:=by simpa using h2
   obtain rfl:k=(sl4.take y8.toNat).length:=by omega
   refine gz2 ?_;refine zI ?_;refine gz7 ?_;exact zao (Ghost.perm (List.Perm.swap _ _ _)) rfl ⟨_,out,a2,rfl,⟨by omega,g2⟩,by omega,by omega,rfl⟩
theorem zbX [Tracks] {b:Nat} {l:List Int} {a:Nat} (ha:a<=700000):Con prog 74 [pAt b] [St b l a] (fun x M'=> ∃k a',x=zgp k/\GoodRus k/\a'<=a+40/\M'=[St b l a']):=by
 refine uOb func74 ntmps74 ?_;refine gz6 ?_;refine ze (zK 7) ?_;refine gz2 ?_;refine dq (za (hs:=[_,_,_,_,_]) zp ty9 rfl rfl (by decide) (by decide) rfl) ?_;refine dq (zav (f:=HVal.str) (l:=ru5) zp rfl) ?_;refine gz3 ?_;refine uV2 [3,1,5,2,9,37] (fun (k:Nat) (q:GL RuleS)=>[(9,.int .i64 k),(3,.raw q.u)]) (fun (k:Nat) (q:GL RuleS)=>[St b l q.a,.arr q.u 7 (q.out.map zpu)]) (fun (k:Nat) (q:GL RuleS)=>k<=ru5.length/\(GLok zz2 k (a+8*k) q)) (fun (k:Nat) (q:GL RuleS)=>ru5.length-k) (0) (⟨.slice none 0 0,[],a⟩) ?_ ?_ ?_ ?_;exact ⟨Ad _,⟨by simp,by simp,uD⟩⟩;exact ⟨rfl,rfl,trivial⟩;exact uP
 intro k q hinv
 obtain ⟨hk,hq⟩:=hinv;have hlen:ru5.length=5:=rfl;obtain ⟨u,out,a2⟩:=q;obtain ⟨g1,g2,g3⟩:=id hq;dsimp only at g1 g2 g3;refine gz4 ?_;refine uCo (fun h1=> ?_) fun h2=> ?_
 obtain ⟨x,hx⟩: ∃x,ru5[k]? =some x:=⟨_,Aa h1⟩
 have hdx:=zg hx;refine gz5 ?_;refine dq (zB (f:=HVal.str) (l:=ru5) (j:=k) (a:=x) zp ty9 rfl rfl rfl hx) ?_;refine gz6 ?_;refine de rfl (uCx 0 zeO rfl rfl (zH uS uS) ?_)
 rintro _ _ ⟨y14,rfl,rfl⟩;refine gz1 ?_;refine uCo (fun h3=> ?_) fun h4=> ?_
 refine gz8 ?_;exact ⟨k+1,⟨u,out,a2+1⟩,⟨by omega,hq.same uO⟩,uD,⟨rfl,rfl,trivial⟩,uK,uP⟩;refine gz5 ?_;refine dq (za (hs:=[_,_,_,_]) zp ty9 rfl rfl (by decide) (by decide) rfl) ?_;refine de rfl (uCx 0 zcn rfl rfl (zq (L:=[_,_,_,_]) uS uS uS) ?_)
 rintro _ _ ⟨y18,rfl,hy18,rfl⟩;refine gz1 ?_;refine dq (za (hs:=[_,_,_,_]) zp ty9 rfl rfl (by decide) (by decide) rfl) ?_;refine de rfl (uCx 0 zcn rfl rfl (zq (L:=[_,_,_,_]) uS uS uS) ?_)
 rintro _ _ ⟨y21,rfl,hy21,rfl⟩;refine gz1 ?_;refine de rfl (uCx 0 zg2 rfl rfl (zT uS uS uS uS) ?_)
 rintro _ _ ⟨y23,rfl,hy23,rfl⟩;refine gz1 ?_;refine dq (za (hs:=[_,_,_,_,_,_]) zX ty3 rfl rfl (by decide) (by decide) rfl) ?_;refine de rfl (uCx 0 ca5 rfl rfl (zf (L:=[_,_,_,_,_,_]) uS uS uS) ?_)
 rintro _ _ ⟨y26,rfl,hy26,rfl⟩;refine dq (uCl zFf rfl (zks (n:=y26) (by simp at hy26;omega))) ?_;refine dq (zF (cs:=[_,_,_,_,_,_,_]) zgV zHl rfl) ?_;refine de rfl (zj zgV rfl fun b6=> ?_)
 refine de0 (uY 0 ?_)
 refine gz1 ?_;have hb1:=zwI (n:=y26) (g:=zif y26 100) (by simp at hy26;omega);have hb2:=zwI (n:=100) (g:=zif y26 100) uO;refine uVj [29,12] (fun (q4:RuleS×Nat)=>[]) (fun (q4:RuleS×Nat)=>[St b l q4.2,.arr u 7 (out.map zpu),.cells b6 (zb (zpu q4.1))]) (fun (q4:RuleS×Nat)=>zz2 q4.1/\q4.2<=a2+7) ?_ ?_
 skip
 refine gz2 ?_;refine de rfl (uZ 0 ?_)
 refine gz3 ?_;refine dgl rfl rfl (fun hc=>⟨_,OpenTo.upd (t:=33) rfl (hc) (OpenTo.refl _),zar (i:=0) ty3 rfl rfl (.inl ⟨rfl,rfl⟩) ⟨rfl,rfl⟩⟩) ?_;refine gz3 ?_;refine uCo (fun h5=> ?_) fun h6=> ?_
 refine gz2 ?_;refine dq (za (hs:=[_,_,_,_,_]) zX ty3 rfl rfl (by decide) (by decide) rfl) ?_;refine de rfl (uCx 1 ca5 rfl rfl (zf (L:=[_,_,_,_,_]) uS uS uS) ?_)
 rintro _ _ ⟨y39,rfl,hy39,rfl⟩;refine gz1 ?_;refine de0 (uY 1 ?_)
 refine gz1 ?_;exact ⟨((⟨x,y18,y21,y23,y39,y26.tdiv (zif y26 100),(100:Int).tdiv (zif y26 100)⟩:RuleS),a2+6),⟨⟨hb1,hb2⟩,uD⟩,trivial,uK,uP⟩;refine gz1 ?_;exact ⟨((⟨x,y18,y21,y23,0,y26.tdiv (zif y26 100),(100:Int).tdiv (zif y26 100)⟩:RuleS),a2+5),⟨⟨hb1,hb2⟩,uD⟩,trivial,uK,uP⟩
 intro q4 hq4
 obtain ⟨x5,a5⟩:=q4;obtain ⟨hx5,ha5⟩:=hq4;dsimp only at hx5 ha5;refine ze (zbC 6 (i:=2) rfl rfl) ?_;refine gz3 ?_;refine dq (za (hs:=[_]) zpl zgV rfl rfl (by decide) (by decide) rfl) ?_;refine de rfl (zL (i:=1) zpl zgV rfl rfl rfl rfl rfl (by simp [zat,zb,zaM,za6]) uSo fun v44=> ?_)
 refine gz8 ?_;exact ⟨k+1,⟨v44,out++[x5],a5⟩,⟨by omega,hq.add (x:=x5) hx5 uO⟩,uD,⟨rfl,rfl,trivial⟩,uK,uP⟩;have hnk:ru5.length<=k:=by omega
 obtain rfl:k=ru5.length:=by omega
 refine gz2 ?_;refine zI ?_;refine gz7 ?_;exact zao (zaD 2 (i:=1) rfl rfl) rfl ⟨out,a2,rfl,⟨by omega,g2⟩,by omega,rfl⟩
theorem zkp [Tracks] {b:Nat} {l:List Int} {a:Nat} (ha:a<=600000):Con prog 83 [pAt b] [St b l a] (fun x M'=> ∃k a',x=ze8 k/\GoodSlos k/\a'<=a+40/\M'=[St b l a']):=by
 refine uOb func83 ntmps83 ?_;refine gz5 ?_;refine de rfl (uCx 0 zsn rfl rfl (zr9 uS) ?_)
 rintro _ _ ⟨u6,k6,a6,rfl,hk6,hn6,ha6,rfl⟩;refine gz2 ?_;have hl6:=hk6.len;have hg6:=hk6.all;refine ze (zbl (M':=[.arr u6 2 (k6.map zbZ),St b l a6]) rfl) ?_;refine ze (Ghost.perm (List.Perm.swap _ _ _)) ?_;refine uVj [4,1,7,31] (fun (q:List SlotS×Nat)=>[]) (fun (q:List SlotS×Nat)=>[St b l q.2,.arr u6 2 (q.1.map zbZ)]) (fun (q:List SlotS×Nat)=>GoodSlos q.1/\q.2<=a6+5) ?_ ?_
 ·skip
  refine gz2 ?_;refine de rfl (uCx 0 zeO rfl rfl (zH uS uS) ?_)
  rintro _ _ ⟨y8,rfl,rfl⟩;refine gz1 ?_;refine uCo (fun h1=> ?_) fun h2=> ?_
  ·refine zbV (i:=1) rfl (fun h0 he=> ?_) (fun ob off cap hv hcap=> ?_)
   ·exfalso;have:=congrArg List.length he;simp at this;subst this;simp at hn6
   subst hv;refine gz4 ?_;refine de rfl (zau (i:=1) (es:=k6) zf0 rfl rfl ?_)
   refine de rfl (uCx 0 zjr rfl rfl (zap uS uS) ?_)
   rintro _ _ ⟨y13,rfl,hy13,rfl⟩;refine dq (zv (j:=y13) zf0 zdM rfl rfl rfl uSo) ?_;refine gz2 ?_;obtain ⟨x,hx⟩: ∃x,k6[y13]? =some x:=⟨_,Aa uO⟩
   have hgx:=hg6 x (Ab hx);dsimp only [zmg] at hgx;refine zba (fun M=> ∃i:Nat,M[i]? =some (.arr (.slice (some ⟨ob,off,none⟩) (k6.map zbZ).length cap) 2 (k6.map zbZ))) [6,12] mixed ?_;refine gz6 ?_;refine uM 6 rfl ⟨1,rfl⟩ (fun M hM=>by obtain ⟨i,hi⟩:=hM;exact zae (i:=i) (j:=y13) 0 ty9 rfl uO hi hx rfl rfl ⟨rfl,rfl⟩) ?_;refine uB 7 rfl (za (hs:=[_,_,_]) zp ty9 rfl rfl (by decide) (by decide) rfl) ?_;refine uA 9 ?_;refine gz2 ?_;refine uM 12 rfl ⟨1,rfl⟩ (fun M hM=>by obtain ⟨i,hi⟩:=hM;exact zae (i:=i) (j:=y13) 1 zp rfl uO hi hx rfl rfl ⟨rfl,rfl⟩) ?_;refine uA 14 ?_;refine uB 15 rfl (za (hs:=[_,_,_]) zp ty9 rfl rfl (by decide) (by decide) rfl) ?_;refine uF 8 ?_;refine zx rfl (uCx 0 zcn rfl rfl (zq (L:=[_,_,_]) uS uS uS) ?_)
   rintro _ _ ⟨y23,rfl,hy23,rfl⟩;refine ⟨uE,?_⟩
   refine uF 13 ?_;refine zx rfl (uCa zkD rfl (zaf uO) fun v28=> ?_)
   refine ⟨uE,?_⟩
   refine uF 16 ?_;refine zx rfl (uCx 1 zcn rfl rfl (zq (L:=[_,_,_]) uS uS uS) ?_)
   rintro _ _ ⟨y31,rfl,hy31,rfl⟩;refine ⟨uE,?_⟩
   refine uB 17 rfl (za (hs:=[_]) zp ty9 rfl rfl (by decide) (by decide) rfl) ?_;refine uF 18 ?_;refine zx rfl (zme (N:=[St b l (a6+1+1+1+1),.arr (.slice (some ⟨ob,off,none⟩) (k6.map zbZ).length cap) 2 (k6.map zbZ)]) (sz:=1) (es:=(x.Positions++[y31]).map .str) 1 (zL (i:=1) zp ty9 rfl rfl rfl rfl rfl (by simp [zat,zb]) uSo fun v=>⟨v,rfl,by simp,rfl⟩) ?_)
   refine ⟨fun _=> .inl ⟨1,rfl⟩,?_⟩
   refine gz2 ?_;refine uF 21 ?_;refine zy (zV (i:=1) (j:=y13) (f:=0) (y:=zbZ x) (y':=zbZ ⟨y23,x.Positions⟩) ty9 rfl uO rfl rfl (za3 hx) rfl rfl (by simp [zb]) rfl ?_)
   refine ⟨uE,?_⟩
   refine gz2 ?_;refine uF 24 ?_;refine zy (zV (i:=1) (j:=y13) (f:=1) (y:=zbZ ⟨y23,x.Positions⟩) (y':=zbZ ⟨y23,x.Positions++[y31]⟩) zp rfl uO rfl rfl (zaL (za3 hx)) rfl rfl (by simp [zb]) rfl ?_)
   refine ⟨uE,?_⟩
   refine gz1 ?_;exact ⟨(k6.set y13 ⟨y23,x.Positions++[y31]⟩,a6+4),⟨⟨by simp;omega,zfL (P:=zpo) hk6.up.all (by dsimp only [zpo];simp;omega)⟩,uD⟩,trivial,uK,uP⟩
  ·refine gz1 ?_;exact ⟨(k6,a6+1),⟨hk6.up,uD⟩,trivial,uK,uP⟩
 ·intro q hq3
  obtain ⟨k1,a4⟩:=q;obtain ⟨q1,q3⟩:=hq3;dsimp only at q1 q3;refine gz3 ?_;refine de rfl (uCx 0 zeO rfl rfl (zH uS uS) ?_)
  rintro _ _ ⟨y39,rfl,rfl⟩;refine gz1 ?_;refine uCo (fun h3=> ?_) fun h4=> ?_
  ·refine gz4 ?_;exact ⟨_,_,(zbl (M':=[St b l (a4+1),.arr u6 2 (k1.map zbZ)]) rfl).trans ((Ghost.perm (List.Perm.swap _ _ _)).trans Ghost.drop),_,.slice 2 [],rfl,zM 2,[],a4+1,rfl,⟨by simp,by simp⟩,by omega,rfl⟩
  ·refine gz7 ?_;exact zao (zaD 2 (i:=1) rfl rfl) rfl ⟨k1,a4+1,rfl,q1,by omega,rfl⟩
theorem zaO [Tracks] {b:Nat} {l:List Int} {a:Nat} (ha:a<=600000):Con prog 77 [pAt b] [St b l a] (fun x M'=> ∃k a',x=eIs k/\k.length<=6/\a'<=a+20/\M'=[St b l a']):=by
 refine uOb func77 ntmps77 ?_;refine gz6 ?_;refine ze (zK 1) ?_;refine gz3 ?_;refine de rfl (uCx 1 zBI rfl rfl (zgd (n:=5) uO uO uO) ?_)
 rintro _ _ ⟨L7,a7,rfl,hL7,ha7,rfl⟩;refine gz1 ?_;refine de rfl (uCx 0 zg2 rfl rfl (zT uS uS uS uS) ?_)
 rintro _ _ ⟨y9,rfl,hy9,rfl⟩;refine dq (zaK (es:=L7) (f:=HVal.int .i64) (h:=y9.toNat) zX ty3 rfl rfl ⟨_,_,rfl,by omega⟩ uO (by have:=hL7.1;omega)) ?_;refine dq (zav (f:=HVal.int .i64) (l:=L7.take y9.toNat) zX rfl) ?_;refine gz2 ?_;obtain ⟨hLn,hLb⟩:=hL7;have hlen:(L7.take y9.toNat).length=y9.toNat:=by simp;omega
 refine gz1 ?_;refine uV2 [3,1,5,1,12,10] (fun (k:Nat) (q:GL Int)=>[(12,.int .i64 k),(3,.raw q.u)]) (fun (k:Nat) (q:GL Int)=>[St b l (a7+1),.arr q.u 1 (q.out.map (.int .i64))]) (fun (k:Nat) (q:GL Int)=>k<=(L7.take y9.toNat).length/\(q.out.length<=k)) (fun (k:Nat) (q:GL Int)=>(L7.take y9.toNat).length-k) (0) (⟨.slice none 0 0,[],a⟩) ?_ ?_ ?_ ?_;exact ⟨Ad _,by simp⟩;exact ⟨rfl,rfl,trivial⟩;exact uP
 intro k q hinv
 obtain ⟨hk,hq⟩:=hinv;obtain ⟨u,out,a2⟩:=q;dsimp only at hq;refine gz4 ?_;refine uCo (fun h1=> ?_) fun h2=> ?_
 obtain ⟨y,hy⟩: ∃y,(L7.take y9.toNat)[k]? =some y:=⟨_,Aa (by simpa using h1)⟩
 have hdy:=zg hy;refine gz5 ?_;refine dq (zB (f:=HVal.int .i64) (l:=L7.take y9.toNat) (j:=k) (a:=y) zX ty3 rfl rfl rfl hy) ?_;refine gz6 ?_;refine dq (zbi rfl rfl (by have:=hLb y (AJ (Ab hy));omega) (by have:=hLb y (AJ (Ab hy));omega)) ?_;refine dq (za (hs:=[_]) zX ty3 rfl rfl (by decide) (by decide) rfl) ?_;refine de rfl (zL (i:=1) zX ty3 rfl rfl rfl rfl rfl (by simp [zat,zb,zaM,za6]) uSo fun v20=> ?_)
 refine gz8 ?_;exact ⟨k+1,⟨v20,out++[y+1],a⟩,⟨by omega,by simp;omega⟩,uD,⟨rfl,rfl,trivial⟩,uK,uP⟩;have hnk:(L7.take y9.toNat).length<=k:=by simpa using h2
 obtain rfl:k=(L7.take y9.toNat).length:=by omega
 refine gz2 ?_;refine zI ?_;refine gz5 ?_;refine de rfl (uCx 0 zeO rfl rfl (zH uS uS) ?_)
 rintro _ _ ⟨y23,rfl,rfl⟩;refine gz1 ?_;refine uCo (fun h3=> ?_) fun h4=> ?_
 refine gz3 ?_;refine de rfl (uCx 0 zqr rfl rfl (ziA uS uS uS uS) ?_)
 rintro _ _ ⟨y26,rfl,hy26,rfl⟩;refine dq (za (hs:=[_]) zX ty3 rfl rfl (by decide) (by decide) rfl) ?_;refine de rfl (zL (i:=1) zX ty3 rfl rfl rfl rfl rfl (by simp [zat,zb,zaM,za6]) uSo fun v28=> ?_)
 refine gz8 ?_;exact zao (zaD 2 (i:=1) rfl rfl) rfl ⟨out++[y26],_,by simp,by simp;omega,by omega,rfl⟩;refine gz7 ?_;exact zao (zaD 2 (i:=1) rfl rfl) rfl ⟨out,_,rfl,by omega,by omega,rfl⟩
end
section
open Go.Proofs.Tryz
open Go.HL
theorem zox [Tracks] {l:List GameS} (hb: ∀x∈l,GamB x) (hl:l.length<=1000000) {v:Value}:
 Con prog 81 [.raw v,.fn (.func 82) [] []] [.arr v 8 (l.map zam)] fun x M'=> ∃l':List GameS,x= .tup []/\l'.Perm l/\l'.Pairwise (fun a b=> ¬zgG b a<0)/\M'=[.arr v 8 (l'.map zam)]:=by
 have h:=zoG (e:=fun x:{m:GameS//GamB m}=>zam x.1) zz3 (Tryz.isAgg94) (Tryz.sizeOf94) (fun _=>rfl) (fun _=>rfl) (fun _=>rfl) (c:=fun x y=>zgG x.1 y.1) (zpG zxt) ca82 (fun x y=> @zhK zhW x.1 y.1 x.2.week y.2.week) (l:=l.attachWith _ hb) (by simpa using hl) (v:=v);rw [zqR hb zam] at h;refine h.mono fun x M' ⟨l',e1,hp,hw,e2⟩=>⟨l'.map Subtype.val,e1,?_,?_,?_⟩
 have h9:=hp.map Subtype.val;rw [zmM hb] at h9;exact h9;exact List.pairwise_map.2 hw;rw [e2,A6];rfl
theorem zge [Tracks] {T:List Str} {W p n:Int} (hT:T.length<=1000000) (hW:1<=W/\W<=10) (hp:0<=p/\p<=10) (hn:2<=n/\n<=10):ConP prog 156 [.int .i64 W,.int .i64 p,.vptr [.int .i64 n] 0,.vptr [eSs T] 0] (.str (onS T W p n)):=by
 obtain ⟨o1,o2,o3⟩:=zHa (W:=W) hp hn;refine uOb func156 ntmps156 ?_;refine gz7 ?_;refine uVj [7,1,9,17] (fun (i1:Int)=>[(7,.int .i64 i1)]) (fun (i1:Int)=>[]) (fun (i1:Int)=>i1=onI W p n) ?_ ?_
 skip
 refine gz4 ?_;refine uCo (fun h1=> ?_) fun h2=> ?_
 refine zgC mixed ?_;refine gz7 ?_;refine uB 7 rfl (zcT (n:=n-1) rfl rfl uO) ?_;refine gz5 ?_;refine uB 13 rfl (zcT (n:=n-1) rfl rfl uO) ?_;refine gz3 ?_;exact ⟨1+((p-1-(W-1)).tmod (n-1)+(n-1)).tmod (n-1),by rw [onI,if_pos h1],⟨rfl,trivial⟩,uK,Ac _⟩;refine gz1 ?_;exact ⟨p,by rw [onI,if_neg uO],⟨rfl,trivial⟩,uK,Ac _⟩
 intro i1 hi1
 have hi0:0<=i1:=by rw [hi1];exact o3
 refine gz7 ?_;refine uCo (fun h3=> ?_) fun h4=> ?_
 refine gz4 ?_;refine zt rfl ?_
 show HVal.str _=_
 (rw [onS,if_pos uO])
 refine gz5 ?_;refine dq (zB (f:=HVal.str) (l:=T) (j:=i1.toNat) (a:=T.getD i1.toNat []) zp ty9 rfl rfl uO (getD_some uO)) ?_;refine gz4 ?_;refine zt rfl ?_
 show HVal.str _=_
 (rw [onS,if_neg uO,<-hi1])
theorem zlQ [Tracks] {T:List Str} (hT:2<=T.length/\T.length<=4):Con prog 80 [eSs T,.int .i64 3] [] (fun x M'=> ∃k,x=zb3 k/\GoodGas k/\M'=[]):=by
 obtain ⟨n1,n2,n3,n4⟩:=zEl hT;refine uOb func80 ntmps80 ?_;refine gz9 ?_;refine dq (zcT rfl rfl uO) ?_;refine dq (zY (h':= .int .i64 (nOf T)) (zbi rfl rfl uO uO) rfl) ?_;refine de rfl (zj ty3 rfl fun b5=> ?_)
 refine de0 (uY 0 ?_)
 refine gz1 ?_;refine ze (zbC 5 (i:=0) rfl rfl) ?_;refine gz7 ?_;refine ze (zK 8) ?_;refine gz5 ?_;refine uV2 [7,5,19,56] (fun (w:Nat) (q:GL GameS)=>[(8,.int .i64 ((w:Int)+1)),(7,.raw q.u)]) (fun (w:Nat) (q:GL GameS)=>[.arr q.u 8 (q.out.map zam)]) (fun (w:Nat) (q:GL GameS)=>w<=3/\GLok GamB (2*w) 0 q) (fun (w:Nat) (q:GL GameS)=>3-w) (0) (⟨.slice none 0 0,[],0⟩) ?_ ?_ ?_ ?_;exact ⟨by omega,⟨by simp,by simp,by simp⟩⟩;exact ⟨zP uO,rfl,trivial⟩;exact Ac _
 intro w q hinv
 obtain ⟨hw,hq⟩:=hinv;obtain ⟨u,out,a2⟩:=q;obtain ⟨g1,g2,g3⟩:=id hq;dsimp only at g1 g2 g3;refine gz6 ?_;refine uCo (fun h1=> ?_) fun h2=> ?_
 refine gz6 ?_;refine dq (zY (h':= .int .i64 (mOf T)) (zdS rfl rfl uO uO uO) rfl) ?_;refine gz3 ?_;refine uU2 [7,1,9,3,26,49] (fun (j:Nat) (q2:GL GameS)=>[(26,.int .i64 (j:Int)),(7,.raw q2.u)]) (fun (j:Nat) (q2:GL GameS)=>[.arr q2.u 8 (q2.out.map zam)]) (fun (j:Nat) (q2:GL GameS)=>(j:Int)<=mOf T/\GLok GamB (2*w+j) 0 q2) (fun (j:Nat) (q2:GL GameS)=>(mOf T).toNat-j) (0) (⟨u,out,0⟩) ?_ ?_;exact ⟨by omega,⟨uD,g2,by simp⟩⟩;rintro j q2 ⟨hj,hq2⟩;obtain ⟨u,out,a2⟩:=q2;obtain ⟨g1,g2,g3⟩:=id hq2;dsimp only at g1 g2 g3;refine gz4 ?_;refine uCo (fun h3=> ?_) fun h4=> ?_
 refine gz8 ?_;refine uDr mixed ?_;refine gz4 ?_;refine uB 4 rfl (zag zBK rfl rfl (WeakL.refl _) (zge (T:=T) (W:=((w:Int)+1)) (p:=(j:Int)) (n:=nOf T) uO uO uO uO)) ?_;refine gz3 ?_;refine uB 8 rfl (zeH (m:=nOf T) rfl rfl uO uO) ?_;refine gz1 ?_;refine uB 10 rfl (zeH (m:=nOf T-1) rfl rfl uO uO) ?_;refine uB 11 rfl (zag zBK rfl rfl (WeakL.refl _) (zge (T:=T) (W:=((w:Int)+1)) (p:=(nOf T-1-j)) (n:=nOf T) uO uO uO uO)) ?_;refine uB 12 rfl (zF (cs:=[_,_,_,_,_,_,_,_]) za8 pl94 rfl) ?_;refine uF 13 ?_;refine zx rfl (zj za8 rfl fun b10=> ?_)
 refine ⟨uE,?_⟩
 refine uF 14 ?_;refine zy (uY 0 ?_)
 refine ⟨uE,?_⟩
 refine gz3 ?_;refine dq (zcT rfl rfl uO) ?_;refine gz3 ?_;refine uVj [11,1,45,10] (fun (tn:Bool)=>[(11,.bool tn)]) (fun (tn:Bool)=>[.cells b10 (zb (zam (⟨(w:Int)+1,onS T ((w:Int)+1) j (nOf T),onS T ((w:Int)+1) (nOf T-1-j) (nOf T),false,0,0,0,0⟩:GameS))),.arr u 8 (out.map zam)]) (fun (tn:Bool)=>True) ?_ ?_
 skip
 refine gz4 ?_;refine uCo (fun h5=> ?_) fun h6=> ?_
 refine gz4 ?_;refine dq (zeH (m:=nOf T) rfl rfl uO uO) ?_;refine dq (zdS (n:=nOf T-1) rfl rfl uO uO uO) ?_;refine dq (zcT rfl rfl uO) ?_;refine gz1 ?_;refine dq (zBe ty4 rfl rfl) ?_;refine gz2 ?_;exact ⟨_,trivial,⟨rfl,trivial⟩,uK,zk rfl⟩;refine gz1 ?_;exact ⟨_,trivial,⟨rfl,trivial⟩,uK,zk rfl⟩
 intro tn _
 refine uVj [55,7] (fun (g5:GameS)=>[]) (fun (g5:GameS)=>[.cells b10 (zb (zam g5)),.arr u 8 (out.map zam)]) (fun (g5:GameS)=>GamB g5) ?_ ?_
 skip
 refine gz3 ?_;refine uCo (fun h7=> ?_) fun h8=> ?_
 refine gz2 ?_;refine de rfl (uZ 0 ?_)
 refine gz1 ?_;refine de rfl (uZ 0 ?_)
 refine gz1 ?_;refine de0 (uY 0 ?_)
 refine gz1 ?_;refine de0 (uY 0 ?_)
 refine gz1 ?_;exact ⟨(⟨(w:Int)+1,onS T ((w:Int)+1) (nOf T-1-j) (nOf T),onS T ((w:Int)+1) j (nOf T),false,0,0,0,0⟩:GameS),zwK uO,trivial,uK,zk rfl⟩;refine gz1 ?_;exact ⟨(⟨(w:Int)+1,onS T ((w:Int)+1) j (nOf T),onS T ((w:Int)+1) (nOf T-1-j) (nOf T),false,0,0,0,0⟩:GameS),zwK uO,trivial,uK,zk rfl⟩
 intro g5 hg5
 refine gz2 ?_;refine de rfl (uZ 0 ?_)
 refine gz3 ?_;refine dgl rfl rfl (fun hc=>⟨_,OpenTo.upd (t:=66) rfl (hc) (OpenTo.refl _),zar (i:=0) ty9 rfl rfl (.inl ⟨rfl,rfl⟩) ⟨rfl,rfl⟩⟩) ?_;refine gz3 ?_;refine uCo (fun h9=> ?_) fun h10=> ?_
 refine gz2 ?_;refine de rfl (zhS (i:=0) (h:=zam g5) za8 rfl rfl rfl rfl rfl ?_)
 refine dq (za (hs:=[_]) zcG za8 rfl rfl (by decide) (by decide) rfl) ?_;refine de rfl (zL (i:=1) zcG za8 rfl rfl rfl rfl rfl (by simp [zat,zb,zaM,za6]) uSo fun v73=> ?_)
 refine gz4 ?_;refine ze Ghost.drop ?_;refine gz4 ?_;exact ⟨j+1,⟨v73,out++[g5],0⟩,⟨by omega,hq2.add (x:=g5) hg5 uO⟩,uD,⟨rfl,rfl,trivial⟩,uK,zk (by dsimp only;rw [Aq];rfl)⟩;refine gz3 ?_;refine ze Ghost.drop ?_;refine gz4 ?_;exact ⟨j+1,⟨u,out,0⟩,⟨by omega,hq2.same uO⟩,uD,⟨rfl,rfl,trivial⟩,uK,zk rfl⟩;refine gz2 ?_;refine zI ?_;refine gz8 ?_;exact ⟨w+1,⟨u,out,0⟩,⟨by omega,⟨uD,g2,by simp⟩⟩,uD,⟨zP uO,rfl,trivial⟩,uK,zk rfl⟩;refine gz2 ?_;refine zI ?_;refine gz4 ?_;refine de rfl (uCx 0 ca81 rfl rfl (zox (l:=out) g2 uO) ?_)
 rintro _ _ ⟨Z,rfl,hz1,hz2,rfl⟩;have hzl:=hz1.length_eq;refine gz6 ?_;exact zao (zaD 4 (i:=0) rfl rfl) rfl ⟨Z,rfl,⟨by omega,fun x hx=>g2 x (hz1.mem_iff.1 hx)⟩,rfl⟩
end
section
open Go.Proofs.Tryz
open Go.HL
theorem zmS [Tracks] {a b:Str}:ConP prog 220 [.str a,.str b] (.int .i64 (zZ a b)):=by
 refine uOb func220 ntmps220 ?_;refine gz5 ?_;refine dq (uCl zui rfl zeA) ?_;refine gz4 ?_;refine dq (uCl zui rfl zeA) ?_;refine gz6 ?_;refine zdQ rfl ?_;refine gz6 ?_;refine zdQ rfl ?_;refine gz8 ?_;refine uCo (fun h1=> ?_) fun h2=> ?_
 refine gz4 ?_;refine uRp ?_;rw [zgL]
 (rw [if_pos (by assumption)])
 refine gz8 ?_;refine uCo (fun h3=> ?_) fun h4=> ?_
 refine gz4 ?_;refine uRp ?_;rw [zgL]
 (rw [if_neg uSa,if_neg uSa])
 refine gz6 ?_;refine uRp ?_;rw [zgL]
 (rw [if_neg uSa];simp_all)
theorem zh5 [Tracks] {l m:List Str} (hl:l.length<=1000000) (hm:m.length<=1000000):ConP prog 148 [eSs l,eSs m] (.int .i64 (zhz l m)):=by
 refine uOb func148 ntmps148 ?_;refine zay ?_;refine uT1 [4,5,11,20] (fun k=>[(11,.int .i64 k)]) (fun k=>[]) (fun k=>k<=l.length/\(k<=m.length/\zhz l m=zhz (l.drop k) (m.drop k))) (fun k=>l.length-k) (0) ?_ ?_;exact ⟨Ad _,Ad _,rfl⟩;rintro k ⟨hk,⟨hkm,hg⟩⟩;refine gz4 ?_;refine uCo (fun h1=> ?_) fun h2=> ?_
 obtain ⟨x,hx⟩: ∃x,l[k]? =some x:=⟨_,Aa h1⟩
 have hdx:=zg hx;rw [hdx] at hg;refine gz18 ?_;refine uCo (fun h3=> ?_) fun h4=> ?_
 refine gz4 ?_;refine uRp ?_
 (rw [hg,zAj (.inr (Bm uO)) (by simp)])
 refine gz5 ?_;refine dq (zB (j:=k) (a:=m.getD k []) zp ty9 rfl rfl rfl (getD_some uO)) ?_;refine gz6 ?_;refine dq (uCl zFQ rfl zmS) ?_;refine gz6 ?_;refine uCo (fun h5=> ?_) fun h6=> ?_
 refine gz5 ?_;refine uRp ?_
 (rw [hg,zna (m:=m) (k:=k) h4,zyW (by rw [Ag];exact h5)])
 refine gz7 ?_;refine ⟨k+1,?_,?_,⟨rfl,trivial⟩,uK,Ac _⟩
 refine ⟨by omega,by omega,?_⟩
 rw [hg,zna (m:=m) (k:=k) h4];exact zyV (by rw [Ag];exact h6)
 dsimp only;omega
 have hnk:l.length<=k:=by omega
 obtain rfl:k=l.length:=by omega
 rw [zC (Ae _)] at hg;refine gz2 ?_;refine zu ?_;refine zay ?_;refine uCo (fun h7=> ?_) fun h8=> ?_
 refine gz4 ?_;refine uRp ?_
 (rw [hg,zuZ,if_pos uO])
 refine gz6 ?_;refine uRp ?_
 (rw [hg,zuZ,if_neg uO])
theorem zmQ [Tracks] {l:List FixS} {v:Value} {fid:FuncId} {caps:List HVal} {p:FixS->FixS->Bool} (hca:Callable prog fid) (hp: ∀x y,ConP prog fid ([za2 x,za2 y]++caps) (.bool (p x y))) (hl:l.length<=1000000):Con prog 149 [.raw v,.fn (.func fid) [] caps] [.arr v 4 (l.map za2)] (fun x M'=> ∃(u:Value) (D:List FixS),x= .raw u/\(D.length<=l.length/\∀x∈D,x∈l)/\M'=[.arr u 4 (D.map za2)]):=by
 refine uOb func149 ntmps149 ?_;refine gz6 ?_;refine de rfl (zau (i:=0) zde rfl rfl ?_)
 refine gz2 ?_;refine uCo (fun h1=> ?_) fun h2=> ?_
 refine gz5 ?_;exact zah rfl ⟨_,l,rfl,⟨Ae _,fun _ q=>q⟩,rfl⟩;refine gz3 ?_;refine zbV (i:=0) rfl (fun h0 he=> ?_) (fun b off cap hv hcap=> ?_)
 exfalso;have:=congrArg List.length he;simp at this;subst this;simp at h2
 rw [Af] at hv hcap;subst hv;refine gz4 ?_;refine uT1 [4,4,12,53] (fun k=>[(5,.int .i64 (k:Int))]) (fun k=>[.arr (.slice (some ⟨b,off,none⟩) l.length cap) 4 (l.map za2)]) (fun k=>1<=k/\k<=l.length) (fun k=>l.length-k) (1) ?_ ?_;exact ⟨by omega,by omega⟩;rintro k ⟨hk1,hk⟩;refine gz4 ?_;refine de rfl (zau (i:=0) zde rfl rfl ?_)
 refine gz2 ?_;refine uCo (fun h3=> ?_) fun h4=> ?_
 obtain ⟨x,hx⟩: ∃x,l[k]? =some x:=⟨_,Aa uO⟩
 obtain ⟨y,hy⟩: ∃y,l[k-1]? =some y:=⟨_,Aa uO⟩
 refine gz4 ?_;refine zbb (fun M=>M=[.arr (.slice (some ⟨b,off,none⟩) l.length cap) 4 (l.map za2)]) [4,9] mixed ?_;refine gz3 ?_;refine uB 3 rfl (zv (j:=k) zde zaR rfl rfl rfl uO) ?_;refine uM 4 rfl rfl (uW (z6 (i:=0) (j:=k) zaR rfl uO rfl hx rfl rfl rfl ⟨rfl,rfl⟩)) ?_;refine gz3 ?_;refine uB 8 rfl (zv (j:=k-1) zde zaR rfl rfl uO uO) ?_;refine uM 9 rfl rfl (uW (z6 (i:=0) (j:=k-1) zaR rfl uO rfl hy rfl rfl rfl ⟨rfl,rfl⟩)) ?_;refine uB 10 rfl (zag hca rfl rfl (WeakL.refl _) (hp x y)) ?_;refine gz1 ?_;refine uCo (fun h5=> ?_) fun h6=> ?_
 refine gz3 ?_;refine dq (zfn (l:=k) (h:=l.length) zde zaR rfl ⟨_,_,rfl,rfl⟩ rfl uO uO hcap) ?_;refine gz2 ?_;rw [ztE uO];refine gz5 ?_;refine uU3 [5,1,7,1,32,27] (fun (k2:Nat) (kk:Nat) (D:List FixS)=>[(7,.int .i64 (k2:Int)),(5,.int .i64 (kk:Int))]) (fun (k2:Nat) (kk:Nat) (D:List FixS)=>[.arr (.slice (some ⟨b,off,none⟩) l.length cap) 4 (D.map za2)]) (fun (k2:Nat) (kk:Nat) (D:List FixS)=>(1<=k2/\k+k2<=l.length)/\(k<=kk/\kk+1<=k+k2)/\D.length=l.length/\∀x∈D,x∈l) (fun (k2:Nat) (kk:Nat) (D:List FixS)=>l.length-k2) (1) (k) (l) ?_ ?_;exact ⟨⟨by omega,by have:=zm hx;omega⟩,⟨by omega,by omega⟩,rfl,fun _ q=>q⟩;rintro k2 kk D ⟨⟨hk2,hkk⟩,⟨hc1,hc2⟩,hDl,hDm⟩;refine gz4 ?_;refine dq (zdR zde rfl) ?_;refine gz2 ?_;refine uCo (fun h7=> ?_) fun h8=> ?_
 obtain ⟨x2,hDx⟩: ∃x,D[k+k2]? =some x:=⟨_,Aa uO⟩
 obtain ⟨y2,hDy⟩: ∃y,D[k+k2-1]? =some y:=⟨_,Aa uO⟩
 refine gz4 ?_;refine zbb (fun M=>M=[.arr (.slice (some ⟨b,off,none⟩) l.length cap) 4 (D.map za2)]) [4,9] mixed ?_;refine gz3 ?_;refine uB 3 rfl (zv (j:=k2) zde zaR rfl rfl rfl uO) ?_;refine uM 4 rfl rfl (uW (z6 (i:=0) (j:=(k+k2)) zaR rfl uO rfl hDx rfl rfl rfl ⟨rfl,rfl⟩)) ?_;refine gz3 ?_;refine uB 8 rfl (zv (j:=k2-1) zde zaR rfl rfl uO uO) ?_;refine uM 9 rfl rfl (uW (z6 (i:=0) (j:=(k+k2-1)) zaR rfl uO rfl hDy rfl rfl rfl ⟨rfl,rfl⟩)) ?_;refine uB 10 rfl (zag hca rfl rfl (WeakL.refl _) (hp x2 y2)) ?_;refine gz2 ?_;refine uCo (fun h9=> ?_) fun h10=> ?_
 refine gz5 ?_;refine dq (zv (j:=k2) zde zaR rfl rfl rfl uO) ?_;refine de rfl (z6 (i:=0) (j:=(k+k2)) zaR rfl uO rfl hDx rfl rfl rfl ?_)
 refine dq (zv (j:=kk) zde zaR rfl rfl rfl uO) ?_;refine de0 (zaH (i:=0) (j:=kk) (y:=D[kk]'uO) (y':=x2) zaR rfl rfl rfl rfl (Aa _) rfl rfl rfl ?_)
 refine zdy ?_;exact ⟨k2+1,kk+1,D.set kk x2,⟨⟨by omega,by omega⟩,⟨by omega,by omega⟩,by simp;omega,fun z hz=>(Ch hz).elim (hDm z) (fun q=>by rw [q];exact hDm x2 (Ab hDx))⟩,uD,⟨rfl,zP uO,trivial⟩,uK,Ac _⟩;refine gz8 ?_;exact ⟨k2+1,kk,D,⟨⟨by omega,by omega⟩,⟨by omega,by omega⟩,hDl,hDm⟩,uD,⟨rfl,rfl,trivial⟩,uK,Ac _⟩;refine gz2 ?_;refine zcN ?_;refine gz5 ?_;refine dq (zfn (l:=kk) (h:=l.length) zde zaR rfl ⟨_,_,rfl,rfl⟩ rfl uO uO hcap) ?_;refine de0 (ze9 (i:=0) (m:=kk) (kk) zde zaR rfl rfl rfl (ziN uO hcap) rfl uO (Ae _) (by rw [Af,hDl];omega) ?_)
 refine gz4 ?_;refine dq (zgS (h:=kk) zde zaR rfl ⟨_,_,rfl,rfl⟩ uO) ?_;refine gz3 ?_;exact zah rfl ⟨_,D.take kk,rfl,⟨by simp;omega,fun z hz=>hDm z (AJ hz)⟩,by rw [BH];rfl⟩;refine gz8 ?_;exact ⟨k+1,⟨by omega,by omega⟩,uD,⟨rfl,trivial⟩,uK,Ac _⟩;refine gz2 ?_;refine zu ?_;refine gz7 ?_;exact zah rfl ⟨_,l,rfl,⟨Ae _,fun _ q=>q⟩,rfl⟩
theorem zjc [Tracks] {A X C:List FixS} {ia ib:Int} {n b off cap:Nat} {fid:FuncId} {caps:List HVal} {c:FixS->FixS->Int} (hca:Callable prog fid) (hp: ∀x y,ConP prog fid ([za2 x,za2 y]++caps) (.int .i64 (c x y))) (hn:A.length+X.length+C.length=n) (hia:ia=(A.length:Int)) (hib:ib=(A.length:Int)+X.length) (hl:n<=1000000):Con prog 292 [.raw (.slice (some ⟨b,off,none⟩) n cap),.int .i64 ia,.int .i64 ib,.fn (.func fid) [] caps] [.arr (.slice (some ⟨b,off,none⟩) n cap) 4 ((A++X++C).map za2)] (fun x M'=>x= .tup []/\M'=[.arr (.slice (some ⟨b,off,none⟩) n cap) 4 ((A++zQ c X++C).map za2)]):=by
 refine uOb func292 ntmps292 ?_;refine gz6 ?_;refine uV1 [8,2,12,41] (fun (k:Nat)=>[(8,.int .i64 ((A.length+k:Nat):Int))]) (fun (k:Nat)=>[.arr (.slice (some ⟨b,off,none⟩) n cap) 4 ((A++(zQ c (X.take k)++X.drop k)++C).map za2)]) (fun (k:Nat)=>1<=k) (fun (k:Nat)=>X.length-k) (1) ?_ ?_ ?_ ?_;exact Ae _;exact ⟨zP uO,trivial⟩;exact zk (by rw [zhe])
 intro k hk
 refine gz6 ?_;refine uCo (fun h1=> ?_) fun h2=> ?_
 obtain ⟨x,hx⟩: ∃x,X[k]? =some x:=⟨_,Aa uO⟩
 refine gz9 ?_;refine uV2 [9,1,18,35] (fun (D:List FixS) (B:List FixS)=>[(9,.int .i64 ((A.length+D.length:Nat):Int))]) (fun (D:List FixS) (B:List FixS)=>[.arr (.slice (some ⟨b,off,none⟩) n cap) 4 (((A++D)++x::(B++X.drop (k+1)++C)).map za2)]) (fun (D:List FixS) (B:List FixS)=>D.length+B.length=k/\zcY c x (zQ c (X.take k))=zcY c x D++B) (fun (D:List FixS) (B:List FixS)=>D.length) (zQ c (X.take k)) ([]) ?_ ?_ ?_ ?_;exact ⟨by simp [zaw];omega,by simp⟩;exact ⟨zP (by simp [zaw];omega),trivial⟩;exact zk (by rw [zg hx];simp)
 intro D B hinv
 obtain ⟨hA,hB⟩:=hinv;have hlA:D.length<X.length:=by omega
 refine gz1 ?_;refine zbb (fun M=>M=[.arr (.slice (some ⟨b,off,none⟩) n cap) 4 (((A++D)++x::(B++X.drop (k+1)++C)).map za2)]) [8,13] mixed ?_;refine gz7 ?_;refine ahg 7 rfl rfl (by kernel_rfl) (by kernel_rfl) rfl (fun hc=>by
  have hq:0<D.length:=by simp at hc;omega
  exact ⟨_,OpenTo.upd (t:=24) rfl (hc) (OpenTo.upd (t:=23) rfl (hc) (OpenTo.refl _)),zv (j:=(A++D).length) zde zaR rfl rfl (by simp) uSo⟩) ?_
 refine zkj 8 rfl rfl (by kernel_rfl) (by kernel_rfl) (by simp) rfl rfl (fun hc=>⟨_,OpenTo.upd (t:=25) rfl (hc) (OpenTo.refl _),fun M hM=>by
  subst hM;exact z6 (i:=0) (j:=(A++D).length) zaR rfl rfl rfl zc8 rfl rfl rfl ⟨rfl,rfl⟩
  ⟩) ?_
 refine gz2 ?_;refine ahg 11 rfl rfl (by kernel_rfl) (by kernel_rfl) rfl (fun hc=>by
  have hq:0<D.length:=by simp at hc;omega
  exact ⟨_,OpenTo.upd (t:=28) rfl (hc) (OpenTo.refl _),zeH rfl rfl uO uO⟩) ?_
 refine ahg 12 rfl rfl (by kernel_rfl) (by kernel_rfl) rfl (fun hc=>by
  have hq:0<D.length:=by simp at hc;omega
  exact ⟨_,OpenTo.upd (t:=29) rfl (hc) (OpenTo.upd (t:=27) rfl (hc) (OpenTo.refl _)),zv (j:=(A++D).length-1) zde zaR rfl rfl uSo uSo⟩) ?_
 refine zkj 13 rfl rfl (by kernel_rfl) (by kernel_rfl) (by simp) rfl rfl (fun hc=>⟨_,OpenTo.upd (t:=30) rfl (hc) (OpenTo.refl _),fun M hM=>by
  have hq:0<D.length:=by simp at hc;omega
  subst hM;exact z6 (i:=0) (j:=(A++D).length-1) zaR rfl rfl rfl (zcL uSo) rfl rfl rfl ⟨rfl,rfl⟩
  ⟩) ?_
 refine uGy 14 rfl rfl (fun hc=>zag hca rfl rfl (WeakL.refl _) (hp _ _)) ?_;refine gz3 ?_;refine uCo (fun h3=> ?_) fun h4=> ?_
 obtain ⟨hA0,hcx⟩:=h3;obtain ⟨D1,y,rfl⟩:=zkd (A:=D) uO;rw [zvf] at hcx;have hD1:(D1++[y]).length=D1.length+1:=by simp
 refine gz4 ?_;refine zba (fun M=>M=[.arr (.slice (some ⟨b,off,none⟩) n cap) 4 (((A++(D1++[y]))++x::(B++X.drop (k+1)++C)).map za2)]) [9,13] mixed ?_;refine gz8 ?_;refine uB 8 rfl (zv (j:=(A++(D1++[y])).length-1) zde zaR rfl rfl uSo uSo) ?_;refine uM 9 rfl rfl (uW (z6 (i:=0) (j:=(A++(D1++[y])).length-1) zaR rfl rfl rfl (znk) rfl rfl rfl ⟨rfl,rfl⟩)) ?_;refine gz2 ?_;refine uB 12 rfl (zv (j:=(A++(D1++[y])).length) zde zaR rfl rfl (by simp) uSo) ?_;refine uM 13 rfl rfl (uW (z6 (i:=0) (j:=(A++(D1++[y])).length) zaR rfl rfl rfl zc8 rfl rfl rfl ⟨rfl,rfl⟩)) ?_;refine uB 14 rfl (zv (j:=(A++(D1++[y])).length) zde zaR rfl rfl (by simp) uSo) ?_;refine uF 15 ?_;refine zy (zaH (i:=0) (j:=(A++(D1++[y])).length) (y:=x) (y':=y) zaR rfl rfl rfl rfl zc8 rfl rfl rfl ?_)
 refine ⟨uE,?_⟩
 refine uB 16 rfl (zv (j:=(A++(D1++[y])).length-1) zde zaR rfl rfl uSo uSo) ?_;refine uF 17 ?_;refine zy (zaH (i:=0) (j:=(A++(D1++[y])).length-1) (y:=y) (y':=x) zaR rfl rfl rfl rfl (by rw [A3 (by simp)];exact znk) rfl rfl rfl ?_)
 refine ⟨uE,?_⟩
 refine gz8 ?_;exact ⟨D1,y::B,⟨by simp at hA⊢;omega,zkP hB hcx⟩,uD,⟨zP uO,trivial⟩,uK,zk (by rw [<-AY,zkY];simp)⟩;have hins:=zkO (l:=X) (k:=k) hx hB (by intro h0;have h9:=h4 uO;rw [zo6 h0] at h9;omega);refine gz2 ?_;refine zI ?_;refine gz8 ?_;exact ⟨k+1,by omega,uD,⟨zP uO,trivial⟩,uK,zk (by rw [zwQ hins])⟩;have hend:zQ c (X.take k)++X.drop k=zQ c X:=by rw [A4 uO,zC uO];simp
 refine gz2 ?_;refine zu ?_;refine gz1 ?_;exact zah rfl ⟨rfl,by rw [hend]⟩
theorem zm5 [Tracks] {l:List FixS} {n0:Int} {n b off cap:Nat} {fid:FuncId} {caps:List HVal} {c:FixS->FixS->Int} (hca:Callable prog fid) (hp: ∀x y,ConP prog fid ([za2 x,za2 y]++caps) (.int .i64 (c x y))) (hc:Cmp c fun _=>True) (hn:l.length=n) (hn0:n0=(n:Int)) (hl:n<=20):Con prog 219 [.raw (.slice (some ⟨b,off,none⟩) n cap),.int .i64 n0,.fn (.func fid) [] caps] [.arr (.slice (some ⟨b,off,none⟩) n cap) 4 ((l).map za2)] (fun x M'=> ∃Z:List FixS,x= .tup []/\(Z.Perm l/\Srt c Z)/\M'=[.arr (.slice (some ⟨b,off,none⟩) n cap) 4 ((Z).map za2)]):=by
 refine uOb func219 ntmps219 ?_;refine zay ?_;refine uV3 [7,2,11,12] (fun (a0:Nat) (k:Nat) (Z:List FixS)=>[(7,.int .i64 (a0:Int)),(8,.int .i64 ((a0+20:Nat):Int))]) (fun (a0:Nat) (k:Nat) (Z:List FixS)=>[.arr (.slice (some ⟨b,off,none⟩) n cap) 4 ((Z++l.drop a0).map za2)]) (fun (a0:Nat) (k:Nat) (Z:List FixS)=>a0=20*k/\a0<=n/\Blk c 20 Z/\Z.length=a0/\Z.Perm (l.take a0)) (fun (a0:Nat) (k:Nat) (Z:List FixS)=>n-a0) (0) (0) ([]) ?_ ?_ ?_ ?_
 ·exact ⟨rfl,Ad _,Blk.nil,rfl,by simp⟩
 ·exact ⟨rfl,rfl,trivial⟩
 ·exact zk (by simp)
 ·intro a0 k Z hinv
  obtain ⟨ha0,ha1,hZ,hZl,hZp⟩:=hinv;refine gz6 ?_;refine uCo (fun h1=> ?_) fun h2=> ?_
  ·refine gz3 ?_;refine ze (zbl (M':=[.arr (.slice (some ⟨b,off,none⟩) n cap) 4 ((Z++(l.drop a0).take 20++l.drop (a0+20)).map za2)]) (by rw [AY Z,<-win])) ?_;refine gz5 ?_;refine de rfl (uCx 0 zxH rfl rfl (zjc (A:=Z) (X:=((l.drop a0).take 20)) (C:=(l.drop (a0+20))) (n:=n) hca hp (by first|omega|(simp;omega)) uO (by first|omega|(simp;omega)) uO) ?_)
   rintro _ _ ⟨rfl,rfl⟩;refine zc9 ?_;exact ⟨a0+20,k+1,Z++zQ c ((l.drop a0).take 20),⟨by omega,by omega,hZ.add (k:=k) uO (zlw hc _) (by rw [zaw,Am];omega),by rw [Ax,zaw,Am,A5];omega,by rw [ztK];exact hZp.append (zbh c _)⟩,uD,⟨zP uO,zP uO,trivial⟩,uK,Ac _⟩
  ·refine gz2 ?_;refine zcN ?_;refine gz2 ?_;refine ze (zbl (M':=[.arr (.slice (some ⟨b,off,none⟩) n cap) 4 ((Z++l.drop a0++[]).map za2)]) (by simp)) ?_;refine gz5 ?_;refine de rfl (uCx 0 zxH rfl rfl (zjc (A:=Z) (X:=(l.drop a0)) (C:=[]) (n:=n) hca hp (by first|omega|(simp;omega)) uO (by first|omega|(simp;omega)) uO) ?_)
   rintro _ _ ⟨rfl,rfl⟩;refine gz2 ?_;refine uV2 [6,4,28,35] (fun (bs:Nat) (D:List FixS)=>[(6,.int .i64 (bs:Int))]) (fun (bs:Nat) (D:List FixS)=>[.arr (.slice (some ⟨b,off,none⟩) n cap) 4 ((D).map za2)]) (fun (bs:Nat) (D:List FixS)=>20<=bs/\bs<=2*n+20/\Blk c bs D/\D.Perm l) (fun (bs:Nat) (D:List FixS)=>n-bs) (20) (Z++zQ c (l.drop a0)) ?_ ?_ ?_ ?_
   ·refine ⟨Ae _,by omega,hZ.add (k:=k) uO (zlw hc _) (by rw [zaw,A5];omega),?_⟩
    have:=hZp.append (zbh c (l.drop a0))
    rwa [A0] at this
   ·exact ⟨rfl,trivial⟩
   ·exact zk (by simp)
   ·intro bs D hinv
    obtain ⟨hb1,hb2,hD,hDp⟩:=hinv;have hDl:D.length=n:=by rw [hDp.length_eq];exact hn
    refine gz6 ?_;refine z7 rfl (fun h3=> ?_) (fun h3=> ?_)
    ·exfalso
     try simp at h3
     all_goals omega
    ·try simp at h3
     refine gz2 ?_;refine zI ?_;refine gz1 ?_;have hDs:=hD.all uO;exact zah rfl ⟨D,rfl,⟨hDp,hDs⟩,rfl⟩
theorem zom [Tracks] {v:Value} {fid:FuncId} {caps:List HVal}:Con prog 292 [.raw v,.int .i64 0,.int .i64 0,.fn (.func fid) [] caps] [.arr v 4 []] (fun x M'=>x= .tup []/\M'=[.arr v 4 []]):=by
 refine uOb func292 ntmps292 ?_;refine gz6 ?_;refine uU1 [8,2,12,41] (fun (u:Unit)=>[(8,.int .i64 1)]) (fun (u:Unit)=>[.arr v 4 []]) (fun (u:Unit)=>True) (fun (u:Unit)=>0) (()) ?_ ?_
 ·trivial
 ·intro u hu
  refine gz6 ?_;refine z7 rfl (fun h1=> ?_) (fun h1=> ?_)
  ·exfalso
   try simp at h1
   all_goals omega
  ·try simp at h1
   refine gz2 ?_;refine zu ?_;refine gz1 ?_;exact zah rfl ⟨rfl,rfl⟩
theorem zmq [Tracks] {v:Value} {fid:FuncId} {caps:List HVal}:Con prog 219 [.raw v,.int .i64 0,.fn (.func fid) [] caps] [.arr v 4 []] (fun x M'=>x= .tup []/\M'=[.arr v 4 []]):=by
 refine uOb func219 ntmps219 ?_;refine zay ?_;refine uU1 [7,2,11,12] (fun (u:Unit)=>[(7,.int .i64 0),(8,.int .i64 20)]) (fun (u:Unit)=>[.arr v 4 []]) (fun (u:Unit)=>True) (fun (u:Unit)=>0) (()) ?_ ?_
 ·trivial
 ·intro u hu
  refine gz6 ?_;refine z7 rfl (fun h1=> ?_) (fun h1=> ?_)
  ·exfalso
   try simp at h1
   all_goals omega
  ·try simp at h1
   refine gz2 ?_;refine zu ?_;refine gz7 ?_;refine de rfl (uCx 0 zxH rfl rfl zom ?_)
   rintro _ _ ⟨rfl,rfl⟩;refine gz2 ?_;refine uU1 [6,4,28,35] (fun (u:Unit)=>[(6,.int .i64 20)]) (fun (u:Unit)=>[.arr v 4 []]) (fun (u:Unit)=>True) (fun (u:Unit)=>0) (()) ?_ ?_
   ·trivial
   ·intro u hu
    refine gz6 ?_;refine z7 rfl (fun h2=> ?_) (fun h2=> ?_)
    ·exfalso
     try simp at h2
     all_goals omega
    ·try simp at h2
     refine gz2 ?_;refine zu ?_;refine gz1 ?_;exact zah rfl ⟨rfl,rfl⟩
theorem zlW [Tracks] {fid:FuncId} {caps:List HVal}:Con prog 145 [.raw (.slice none 0 0),.fn (.func fid) [] caps] [.arr (.slice none 0 0) 4 []] (fun x M'=>x= .tup []/\M'=[.arr (.slice none 0 0) 4 []]):=by
 refine uOb func145 ntmps145 ?_;refine gz3 ?_;refine dq (zdR zde rfl) ?_;refine gz1 ?_;refine de rfl (uCx 0 zB3 rfl rfl zmq ?_)
 rintro _ _ ⟨rfl,rfl⟩;refine gz1 ?_;exact zah rfl ⟨rfl,rfl⟩
theorem zlX [Tracks] {l:List FixS} {n b off cap:Nat} {fid:FuncId} {caps:List HVal} {c:FixS->FixS->Int} (hca:Callable prog fid) (hp: ∀x y,ConP prog fid ([za2 x,za2 y]++caps) (.int .i64 (c x y))) (hc:Cmp c fun _=>True) (hn:l.length=n) (hl:n<=20):Con prog 145 [.raw (.slice (some ⟨b,off,none⟩) n cap),.fn (.func fid) [] caps] [.arr (.slice (some ⟨b,off,none⟩) n cap) 4 ((l).map za2)] (fun x M'=> ∃Z:List FixS,x= .tup []/\(Z.Perm l/\Srt c Z)/\M'=[.arr (.slice (some ⟨b,off,none⟩) n cap) 4 ((Z).map za2)]):=by
 refine uOb func145 ntmps145 ?_;refine gz3 ?_;refine dq (zdR zde rfl) ?_;refine gz1 ?_;refine de rfl (uCx 0 zB3 rfl rfl (zm5 hca hp hc hn rfl hl) ?_)
 rintro _ _ ⟨Z,rfl,hz,rfl⟩;refine gz1 ?_;exact zah rfl ⟨Z,rfl,hz,rfl⟩
theorem zmp [Tracks] {l:List FixS} {v:Value} {fid:FuncId} {caps:List HVal} {c:FixS->FixS->Int} (hca:Callable prog fid) (hp: ∀x y,ConP prog fid ([za2 x,za2 y]++caps) (.int .i64 (c x y))) (hc:Cmp c fun _=>True) (hl:l.length<=20):Con prog 145 [.raw v,.fn (.func fid) [] caps] [.arr v 4 (l.map za2)] fun x M'=> ∃Z:List FixS,x= .tup []/\(Z.Perm l/\Srt c Z)/\M'=[.arr v 4 (Z.map za2)]:=
 zu2 (fun h1 h2=>by
  have h3:l=[]:=by first|exact List.map_eq_nil_iff.1 h2|simpa using h2
  subst h1 h3;exact zlW.mono fun x M' ⟨e1,e2⟩=>⟨[],e1,⟨Ac _,Srt.nil⟩,e2⟩)
  fun b off cap h1=>by
   rw [Af] at h1;subst h1;exact zlX hca hp hc rfl hl
theorem zis [Tracks] {x y:FixS}:ConP prog 146 [za2 x,za2 y] (.int .i64 (zqh x y)):=by
 refine uOb func146 ntmps146 ?_;refine zco ?_;refine dq (za (hs:=[_,_]) zX ty3 rfl rfl (by decide) (by decide) rfl) ?_;refine gz4 ?_;refine dq (za (hs:=[_,_]) zX ty3 rfl rfl (by decide) (by decide) rfl) ?_;refine dq (uCl zBH rfl (zgg (a:=[x.Week,x.At]) (b:=[y.Week,y.At]) (by simp) (by simp))) ?_;refine gz6 ?_;refine uCo (fun h1=> ?_) fun h2=> ?_
 refine gz5 ?_;refine uRp ?_
 (rw [zqh,if_pos (by assumption)])
 refine gz5 ?_;refine dq (za (hs:=[_]) zp ty9 rfl rfl (by decide) (by decide) rfl) ?_;refine gz2 ?_;refine dq (za (hs:=[_]) zp ty9 rfl rfl (by decide) (by decide) rfl) ?_;refine dq (uCl zFc rfl (zh5 (l:=[x.Home]) (m:=[y.Home]) (by simp) (by simp))) ?_;refine gz3 ?_;refine uRp ?_
 (rw [zqh,if_neg uO])
theorem zit [Tracks] {x y:FixS}:ConP prog 150 [za2 x,za2 y] (.bool (bif (bif x.Week==y.Week then x.At==y.At else false) then x.Home==y.Home else false)):=by
 refine uOb func150 ntmps150 ?_;refine gz28 ?_;refine zt rfl ?_
 rfl
theorem zdn [Tracks] {b:Nat} {l:List Int} {a:Nat} (ha:a<=700000):Con prog 73 [pAt b] [St b l a] (fun x M'=> ∃k a',x=znb k/\k.length<=12/\a'<=a+150/\M'=[St b l a']):=by
 refine uOb func73 ntmps73 ?_;refine gz6 ?_;refine ze (zK 4) ?_;refine gz5 ?_;refine uV2 [3,58] (fun (w:Nat) (q:GL FixS)=>[(4,.int .i64 ((w:Int)+1)),(3,.raw q.u)]) (fun (w:Nat) (q:GL FixS)=>[St b l q.a,.arr q.u 4 (q.out.map za2)]) (fun (w:Nat) (q:GL FixS)=>w<=4/\GLok (fun _=>True) (3*w) (a+32*w) q) (fun (w:Nat) (q:GL FixS)=>4-w) (0) (⟨.slice none 0 0,[],a⟩) ?_ ?_ ?_ ?_;exact ⟨by omega,⟨by simp,by simp,uD⟩⟩;exact ⟨zP uO,rfl,trivial⟩;exact uP
 intro w q hinv
 obtain ⟨hw,hq⟩:=hinv;obtain ⟨u,out,a2⟩:=q;obtain ⟨g1,g2,g3⟩:=id hq;dsimp only at g1 g2 g3;refine gz5 ?_;refine uCo (fun h1=> ?_) fun h2=> ?_
 refine gz6 ?_;refine dq (zcA rfl rfl uO uO) ?_;refine gz4 ?_;refine de rfl (uCx 0 zg2 rfl rfl (zT uS uS uS uS) ?_)
 rintro _ _ ⟨y14,rfl,hy14,rfl⟩;refine gz3 ?_;refine uV3 [3,1,5,2,15,46] (fun (n:Nat) (at1:Int) (q2:GL FixS)=>[(15,.int .i64 (n:Int)),(5,.int .i64 at1),(3,.raw q2.u)]) (fun (n:Nat) (at1:Int) (q2:GL FixS)=>[St b l q2.a,.arr q2.u 4 (q2.out.map za2)]) (fun (n:Nat) (at1:Int) (q2:GL FixS)=>(n:Int)<=y14/\(0<=at1/\at1<=1000+20*n)/\GLok (fun _=>True) (3*w+n) (a+32*w+1+10*n) q2) (fun (n:Nat) (at1:Int) (q2:GL FixS)=>y14.toNat-n) (0) (100*((w:Int)+1)) (⟨u,out,a2+1⟩) ?_ ?_ ?_ ?_;exact ⟨by omega,by omega,⟨uD,g2,uD⟩⟩;exact ⟨rfl,rfl,rfl,trivial⟩;exact uP
 intro n at1 q2 hinv
 obtain ⟨hn,hat,hq2⟩:=hinv;obtain ⟨u,out,a2⟩:=q2;obtain ⟨g1,g2,g3⟩:=id hq2;dsimp only at g1 g2 g3;refine gz4 ?_;refine uCo (fun h3=> ?_) fun h4=> ?_
 refine gz7 ?_;refine dq (za (hs:=[_,_,_]) zX ty3 rfl rfl (by decide) (by decide) rfl) ?_;refine de rfl (uCx 0 ca5 rfl rfl (zf (L:=[_,_,_]) uS uS uS) ?_)
 rintro _ _ ⟨y20,rfl,hy20,rfl⟩;refine dq (zbi rfl rfl (by simp at hy20;omega) (by simp at hy20;omega)) ?_;refine gz6 ?_;refine dq (za (hs:=[_,_,_]) zp ty9 rfl rfl (by decide) (by decide) rfl) ?_;refine de rfl (uCx 0 zcn rfl rfl (zq (L:=[_,_,_]) uS uS uS) ?_)
 rintro _ _ ⟨y26,rfl,hy26,rfl⟩;refine gz1 ?_;refine dq (za (hs:=[_,_,_]) zp ty9 rfl rfl (by decide) (by decide) rfl) ?_;refine de rfl (uCx 0 zcn rfl rfl (zq (L:=[_,_,_]) uS uS uS) ?_)
 rintro _ _ ⟨y29,rfl,hy29,rfl⟩;refine dq (zF (cs:=[_,_,_,_]) zaR zHk rfl) ?_;refine de rfl (zj zaR rfl fun b6=> ?_)
 refine de0 (uY 0 ?_)
 refine gz1 ?_;refine uVj [31,11] (fun (q3:FixS×Nat)=>[]) (fun (q3:FixS×Nat)=>[St b l q3.2,.arr u 4 (out.map za2),.cells b6 (zb (za2 q3.1))]) (fun (q3:FixS×Nat)=>q3.2<=a2+4) ?_ ?_
 skip
 refine ze (Ghost.perm (M':=[St b l (a2+3),.cells b6 (zb (za2 (⟨(w:Int)+1,at1+y20,y26,y29⟩:FixS))),.arr u 4 (out.map za2)]) uP) ?_;refine gz2 ?_;refine de rfl (uZ 1 ?_)
 refine gz1 ?_;refine de rfl (uZ 1 ?_)
 refine gz3 ?_;refine dgx (fun xq M'=> ∃(y:Bool) (a4:Nat),xq= .bool y/\a4<=a2+4/\M'=[St b l a4,.cells b6 (zb (za2 (⟨(w:Int)+1,at1+y20,y26,y29⟩:FixS))),.arr u 4 (out.map za2)]) rfl rfl (fun hc=>⟨_,false,a2+3,rfl,by omega,rfl⟩) (fun hc=>⟨_,OpenTo.upd (t:=37) rfl (hc) (OpenTo.refl _),uCx 0 zeO rfl rfl (zH (a:=a2+3) uO uO) (fun h M' hh=>by
  obtain ⟨y,h1,h2⟩:=hh;exact ⟨y,a2+4,h1,by omega,by rw [h2];rfl⟩)⟩) ?_
 rintro _ _ ⟨y38,a4,rfl,ha4,rfl⟩;refine gz3 ?_;refine uCo (fun h5=> ?_) fun h6=> ?_
 refine gz2 ?_;refine de0 (uY 1 ?_)
 refine gz1 ?_;exact ⟨((⟨(w:Int)+1,at1+y20,y26,[112,105,110,107]⟩:FixS),a4),ha4,trivial,uK,uP⟩;refine gz1 ?_;exact ⟨((⟨(w:Int)+1,at1+y20,y26,y29⟩:FixS),a4),ha4,trivial,uK,uP⟩
 intro q3 ha4
 obtain ⟨x4,a4⟩:=q3;dsimp only at ha4;refine uVj [42,14] (fun (q4:FixS×Nat)=>[]) (fun (q4:FixS×Nat)=>[St b l q4.2,.arr u 4 (out.map za2),.cells b6 (zb (za2 q4.1))]) (fun (q4:FixS×Nat)=>q4.2<=a2+10) ?_ ?_
 skip
 refine gz2 ?_;refine de rfl (uCx 0 zeO rfl rfl (zH uS uS) ?_)
 rintro _ _ ⟨y43,rfl,rfl⟩;refine gz1 ?_;refine uCo (fun h7=> ?_) fun h8=> ?_
 refine zba (fun M=> ∃i:Nat,M[i]? =some (.cells b6 (zb (za2 x4)))) [6] mixed ?_;refine gz1 ?_;refine gx2 [2,4] ?_;refine gz1 ?_;refine uM 6 rfl (⟨2,rfl⟩) (fun M hM=>by obtain ⟨i,hi⟩:=hM;exact zar (i:=i) ty9 rfl hi (.inl ⟨rfl,rfl⟩) ⟨rfl,rfl⟩) ?_;refine uB 7 rfl (za (hs:=[_,_]) zp ty9 rfl rfl (by decide) (by decide) rfl) ?_;refine uF 1 ?_;refine zx rfl (uCx 0 zqr rfl rfl (ziA uS uS uS uS) ?_)
 rintro _ _ ⟨y45,rfl,hy45,rfl⟩;refine ⟨uE,?_⟩
 refine uA 9 ?_;refine uF 3 ?_;refine zx rfl (uCx 0 zqr rfl rfl (ziA uS uS uS uS) ?_)
 rintro _ _ ⟨y47,rfl,hy47,rfl⟩;refine ⟨uE,?_⟩
 refine uF 8 ?_;refine zx rfl (uCx 0 zcn rfl rfl (zq (L:=[_,_]) uS uS uS) ?_)
 rintro _ _ ⟨y52,rfl,hy52,rfl⟩;refine ⟨uE,?_⟩
 refine uF 10 ?_;refine zy (uY 2 ?_)
 refine ⟨uE,?_⟩
 refine gz1 ?_;refine uF 12 ?_;refine zy (uY 2 ?_)
 refine ⟨uE,?_⟩
 refine gz1 ?_;refine uF 14 ?_;refine zy (uY 2 ?_)
 refine ⟨uE,?_⟩
 refine gz1 ?_;exact ⟨((⟨y45,y47,y52,x4.Away⟩:FixS),a4+6),uD,trivial,uK,uP⟩;refine gz1 ?_;exact ⟨(x4,a4+1),uD,trivial,uK,uP⟩
 intro q4 ha5
 obtain ⟨x5,a5⟩:=q4;dsimp only at ha5;refine ze (zbC 6 (i:=2) rfl rfl) ?_;refine gz3 ?_;refine dq (za (hs:=[_]) zde zaR rfl rfl (by decide) (by decide) rfl) ?_;refine de rfl (zL (i:=1) zde zaR rfl rfl rfl rfl rfl (by simp [zat,zb,zaM,za6]) uSo fun v59=> ?_)
 refine gz8 ?_;exact ⟨n+1,at1+y20,⟨v59,out++[x5],a5⟩,⟨by omega,by simp at hy20;omega,hq2.add (x:=x5) trivial uO⟩,uD,⟨rfl,rfl,rfl,trivial⟩,uK,uP⟩;refine gz2 ?_;refine zcN ?_;refine gz8 ?_;exact ⟨w+1,⟨u,out,a2⟩,⟨by omega,hq2.mono uO uO⟩,uD,⟨zP uO,rfl,trivial⟩,uK,uP⟩;refine gz2 ?_;refine zI ?_;refine gz4 ?_;refine de rfl (uCx 1 zFa rfl rfl (zmp (l:=out) (c:=zqh) zFb (fun _ _=>zis) zz8 uO) ?_)
 rintro _ _ ⟨Z,rfl,⟨hz1,hz2⟩,rfl⟩;have hzl:=hz1.length_eq;refine gz3 ?_;refine de rfl (uCx 0 zFd rfl rfl (zmQ (l:=Z) zFe (fun _ _=>zit) uO) ?_)
 rintro _ _ ⟨u64,D64,rfl,⟨hD1,hD2⟩,rfl⟩;refine gz3 ?_;exact zao (zaD 2 (i:=0) rfl rfl) rfl ⟨D64,a2,rfl,by omega,by omega,rfl⟩
end
end Go.Proofs.YtnfmbjchkjijpaaGreatDoor
namespace Go.HL
section
open Go
theorem zcr {e:Env} {places:List (Nat×Nat)} {cs cs' out:List HVal} {i off sz:Nat} {x:Operand} {h:HVal} {r:List (Nat×Operand)} (h1:places[i]? =some (off,sz)) (h2:zi e x=some h) (h3:zeb sz h=true)
 (h4:Nat.ble (off+sz) cs.length=true) (h5:zaG cs off (zb h)=cs') (k:zhl e places cs' r=some out):zhl e places cs ((i,x)::r)=some out:=by
 rw [zhl,h1,h2];simp only [h3,h4];rw [h5];exact k
theorem zrl {e:Env} {places:List (Nat×Nat)} {cs:List HVal}:zhl e places cs []=some cs:=rfl
theorem zrJ [Tracks] {P:Program} {e:Env} {dst:Option Tmp} {ty:TypeId} {pos:String} {af:Array Edge} {g:Option (Nat×Bool)} {t:TypeId} {fs:List (Nat×Nat)} {size bytes:Nat} {zs:Array Value} {parts:Array (Nat×Operand)} {ps:List (Nat×Operand)} {places:List (Nat×Nat)} {cs zc:List HVal}
 (hf:Fits P t (.struct fs) size bytes (.agg zs)) (hp:Places P fs places) (hz:zs.toList.map za6=zc) (hps:parts.toList=ps)
 (hr:zhl e places zc ps=some cs):POp P e ⟨dst,.build t parts,ty,pos,af,g⟩ (.agg cs):=
 zF hf hp (by rw [hz,hps];exact hr)
theorem zi2 [Tracks] {P:Program} {e:Env} {dst:Option Tmp} {ty:TypeId} {pos:String} {af:Array Edge} {g:Option (Nat×Bool)} {t:TypeId} {fs:List (Nat×Nat)} {size bytes:Nat} {zs:Array Value} {parts:Array (Nat×Operand)} {ps:List (Nat×Operand)} {places:List (Nat×Nat)} {cs zc:List HVal}
 (hf:Fits P t (.struct fs) size bytes (.agg zs)) (hp:Places P fs places) (hz:zs.toList.map za6=zc:=by exact (show _=[_,_,_,_,_,_,_,_,_,_,_,_,_,_] from rfl)) (hps:parts.toList=ps:=by exact (show _=[_,_,_,_,_,_,_,_,_] from rfl))
 (hr:zhl e places zc ps=some cs:=by exact zcr (cs':=[_,_,_,_,_,_,_,_,_,_,_,_,_,_]) rfl rfl rfl rfl rfl (zcr (cs':=[_,_,_,_,_,_,_,_,_,_,_,_,_,_]) rfl rfl rfl rfl rfl (zcr (cs':=[_,_,_,_,_,_,_,_,_,_,_,_,_,_]) rfl rfl rfl rfl rfl (zcr (cs':=[_,_,_,_,_,_,_,_,_,_,_,_,_,_]) rfl rfl rfl rfl rfl (zcr (cs':=[_,_,_,_,_,_,_,_,_,_,_,_,_,_]) rfl rfl rfl rfl rfl (zcr (cs':=[_,_,_,_,_,_,_,_,_,_,_,_,_,_]) rfl rfl rfl rfl rfl (zcr (cs':=[_,_,_,_,_,_,_,_,_,_,_,_,_,_]) rfl rfl rfl rfl rfl (zcr (cs':=[_,_,_,_,_,_,_,_,_,_,_,_,_,_]) rfl rfl rfl rfl rfl (zcr (cs':=[_,_,_,_,_,_,_,_,_,_,_,_,_,_]) rfl rfl rfl rfl rfl (zrl)))))))))):POp P e ⟨dst,.build t parts,ty,pos,af,g⟩ (.agg cs):=zrJ hf hp hz hps hr
theorem zHv [Tracks] {P:Program} {e:Env} {dst:Option Tmp} {ty:TypeId} {pos:String} {af:Array Edge} {g:Option (Nat×Bool)} {t:TypeId} {fs:List (Nat×Nat)} {size bytes:Nat} {zs:Array Value} {parts:Array (Nat×Operand)} {ps:List (Nat×Operand)} {places:List (Nat×Nat)} {cs zc:List HVal}
 (hf:Fits P t (.struct fs) size bytes (.agg zs)) (hp:Places P fs places) (hz:zs.toList.map za6=zc:=by exact (show _=[_,_,_,_,_,_,_,_,_,_,_,_,_,_,_,_,_,_,_] from rfl)) (hps:parts.toList=ps:=by exact (show _=[_,_,_] from rfl))
 (hr:zhl e places zc ps=some cs:=by exact zcr (cs':=[_,_,_,_,_,_,_,_,_,_,_,_,_,_,_,_,_,_,_]) rfl rfl rfl rfl rfl (zcr (cs':=[_,_,_,_,_,_,_,_,_,_,_,_,_,_,_,_,_,_,_]) rfl rfl rfl rfl rfl (zcr (cs':=[_,_,_,_,_,_,_,_,_,_,_,_,_,_,_,_,_,_,_]) rfl rfl rfl rfl rfl (zrl)))):POp P e ⟨dst,.build t parts,ty,pos,af,g⟩ (.agg cs):=zrJ hf hp hz hps hr
end
section
open Op
abbrev zv7:List HVal:=[.raw (.slice none 0 0),.raw (.slice none 0 0),.raw (.slice none 0 0),.raw (.slice none 0 0),.raw (.slice none 0 0),.int .i64 0,.int .i64 0,.int .i64 0,.int .i64 0,.raw (.slice none 0 0),.raw (.slice none 0 0),.raw (.slice none 0 0),.raw (.slice none 0 0),.int .i64 0]
abbrev zjD:List HVal:=[.raw (.slice none 0 0),.raw (.slice none 0 0),.raw (.slice none 0 0),.raw (.slice none 0 0),.raw (.slice none 0 0),.int .i64 0,.int .i64 0,.int .i64 0,.int .i64 0,.raw (.slice none 0 0),.raw (.slice none 0 0),.raw (.slice none 0 0),.raw (.slice none 0 0),.int .i64 0,.raw (.slice none 0 0),.raw (.slice none 0 0),.raw (.slice none 0 0),.raw (.slice none 0 0),.raw (.slice none 0 0)]
abbrev lgC (p:List PlayerS) (st:HVal) (f:List FixS) (r:List RuleS) (s:List SlotS) (b:BoundS) (t:List Str) (ga:HVal) (br:List Int) (tr:List Str) (w:Int):List HVal:=[zbm p,st,znb f,zgp r,ze8 s,.int .i64 b.Most,.int .i64 b.Hurt,.int .i64 b.Adds,.int .i64 b.Hold,eSs t,ga,eIs br,eSs tr,.int .i64 w]
abbrev bkC (g:LeagueS) (mv pl me he ch:HVal):List HVal:=[zbm g.Players,zfP g.Stints,znb g.Fixtures,zgp g.Rules,ze8 g.Slots,.int .i64 g.Bounds.Most,.int .i64 g.Bounds.Hurt,.int .i64 g.Bounds.Adds,.int .i64 g.Bounds.Hold,eSs g.Teams,zb3 g.Games,eIs g.Breaks,eSs g.Trust,.int .i64 g.Start,mv,pl,me,he,ch]
end
end Go.HL
