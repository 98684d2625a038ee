/- Part 5 of the proof: a program logic, contracts of functions and plain facts; no conditions. -/
import Derived.Test.YtbmggbfabohegaaGreatDoorQFieldedAreScorers4
set_option linter.unusedVariables false
set_option linter.unusedSimpArgs false
set_option maxHeartbeats 16000000
namespace Go.Proofs.YtbmggbfabohegaaGreatDoor
set_option maxRecDepth 100000
set_option linter.unusedVariables false
set_option linter.unusedSimpArgs false
section
open Go.Proofs.Tryz
open Go.HL
theorem zj8 [Tracks] {b:BookS} {w:Int} (hs: -1000000000000000<=b.League.Start/\b.League.Start<=1000000000000000) (hw: -1000<=w/\w<=1000):ConP prog 58 [.vptr (zwG b) 0,.int .i64 w] (.int .i64 (zbX b.League w)):=by
 refine uOb func58 ntmps58 ?_;refine zau ?_;refine dq (zcg rfl rfl uO uO) ?_;refine gz4 ?_;refine zw rfl ?_
 rfl
theorem znS [Tracks] {S:List SlotS} {l:List ScorerS} {f:List FillS} (hz:zdx S=0) (hS0:S.length<=1000000) (hsp: ∀x∈S,x.Positions.length<=1000000) (hsc:ziz l=0) (hl:l.length<=1000000) (hb:(∀x∈l,(-1000000000000000<=x.Num/\x.Num<=1000000000000000)/\ -1000000000<=x.Den/\x.Den<=1000000000)) (hf:FillOk l S S.length f):ConP prog 83 [zbB S,za3 l,zhR f] (.int .i64 0):=by
 have hS:=zu0 hsc;have hfl:=hf.len;have hlp: ∀x∈l,x.Positions.length<=1000000:=fun x hx=>Aq (hS.po x hx) (by decide)
 refine uOb func83 ntmps83 ?_;refine gz6 ?_;refine dq (uCl zA1 rfl (ziZ (l:=S) hS0 hsp)) ?_;refine gz1 ?_;refine dq (uCl ca72 rfl (zhK (l:=l) hl hlp hb)) ?_;refine dq (za (hs:=[_,_]) zep zgJ rfl rfl (by decide) (by decide) rfl) ?_;refine dq (uCl zlj rfl (zck (l:=[_,_]) (by simp))) ?_;refine gz6 ?_;refine zX rfl (fun h1=> ?_) (fun h1=> ?_)
 exfalso
 try simp at h1
 simp [orI,hz,hsc] at h1
 try simp at h1
 refine zau ?_;refine zX rfl (fun h2=> ?_) (fun h2=> ?_)
 exfalso
 try simp at h2
 omega
 try simp at h2
 refine gz9 ?_;refine uT1 [6,1,8,3,27,44] (fun k=>[(27,.int .i64 k)]) (fun k=>[]) (fun k=>k<=f.length/\(True)) (fun k=>f.length-k) (0) ?_ ?_;exact ⟨Ad _,trivial⟩;rintro k ⟨hk,-⟩;refine gz4 ?_;refine uCo (fun h3=> ?_) fun h4=> ?_
 obtain ⟨x,hx⟩: ∃x,f[k]? =some x:=⟨_,Aa h3⟩
 have hdx:=zi hx;have hx0:=hx;have hxl:=zn hx;refine gz8 ?_;refine de rfl (zj zca rfl fun b9=> ?_)
 refine gz1 ?_;refine de0 (zp zca rfl rfl rfl rfl rfl ?_)
 refine gz1 ?_;refine ze (zk 9 rfl) ?_;refine gz1 ?_;refine uDr mixed ?_;refine gz4 ?_;refine uB 4 rfl (zy (f:=zbo) (l:=S) (j:=k) (a:=S.getD k zbI) zbG zce rfl rfl rfl (getD_some uO)) ?_;refine gz4 ?_;refine zX rfl (fun h5=> ?_) (fun h5=> ?_)
 exfalso
 try simp at h5
 have q:=hf.key k x hx0;simp_all
 try simp at h5
 refine gz8 ?_;refine uCo (fun h6=> ?_) fun h7=> ?_
 refine gz8 ?_;refine ⟨k+1,?_,?_,⟨rfl,trivial⟩,uK,Ac _⟩
 exact ⟨by omega,trivial⟩
 dsimp only;omega
 refine gz2 ?_;obtain ⟨hno,y,hy,hcm⟩:=hf.who k x hx0 (by assumption);obtain ⟨hc1,hc2⟩:=zjG hS.so hy;have hfn:zfE (l.map (·.Player)) x.Player=((zbF (l.map (·.Player)) x.Player:Nat):Int):=by unfold zfE;rw [if_pos hc1]
 refine gz4 ?_;refine dq (zU (h':= .int .i64 ((zbF (l.map (·.Player)) x.Player:Nat):Int)) (uCl zA2 rfl (znU (l:=l) (s:=x.Player) hl hS.so)) (by rw [hfn])) ?_;refine gz8 ?_;refine zX rfl (fun h8=> ?_) (fun h8=> ?_)
 exfalso
 try simp at h8
 omega
 try simp at h8
 refine uDr mixed ?_;refine gz2 ?_;refine uB 2 rfl (zaP zgf zca rfl rfl ⟨_,_,rfl,rfl⟩ uO uO) ?_;refine gz2 ?_;refine uB 5 rfl (uCl zED rfl (zt8 (f:=f.take k) (s:=x.Player) (by rw [AD];omega))) ?_;refine gz2 ?_;refine zX rfl (fun h9=> ?_) (fun h9=> ?_)
 exfalso
 try simp at h9
 obtain ⟨z,hz1,hz2⟩:=h9;have q:=List.any_eq_false.1 hno z hz1
 simp [hz2] at q
 try simp at h9
 refine uDr mixed ?_;refine gz2 ?_;refine uB 2 rfl (zy (f:=za6) (l:=l) (j:=zbF (l.map (·.Player)) x.Player) (a:=y) zcm zde rfl rfl rfl hc2) ?_;refine gz1 ?_;refine uB 4 rfl (zO (h:=eSs y.Positions) zq rfl rfl rfl) ?_;refine gz2 ?_;refine uB 7 rfl (zy (f:=zbo) (l:=S) (j:=k) (a:=S.getD k zbI) zbG zce rfl rfl rfl (getD_some uO)) ?_;refine gz1 ?_;refine uB 9 rfl (zO (h:=eSs (S.getD k zbI).Positions) zq rfl rfl rfl) ?_;refine uB 10 rfl (uCl zto rfl (zgV (a:=y.Positions) (b:=(S.getD k zbI).Positions) (hlp y (zgT hy).1) (hsp _ (Ab (getD_some (d:=zbI) uO))))) ?_;refine gz3 ?_;refine zX rfl (fun h10=> ?_) (fun h10=> ?_)
 exfalso
 try simp at h10
 simp_all
 try simp at h10
 refine gz8 ?_;refine ⟨k+1,?_,?_,⟨rfl,trivial⟩,uK,Ac _⟩
 exact ⟨by omega,trivial⟩
 dsimp only;omega
 have hnk:f.length<=k:=by omega
 obtain rfl:k=f.length:=by omega
 refine gz2 ?_;refine zt ?_;refine gz6 ?_;refine zw rfl ?_
 rfl
theorem zpn [Tracks] {S:List SlotS} {l:List ScorerS} {f:List FillS} {c:Str} (hS:ScoOk l) (hf:FillOk l S S.length f) (hS12:S.length<=12) (hl:l.length<=1000000):ConP prog 85 [za3 l,zhR f,.str c] (.int .i64 (sfL l f c)):=by
 have hfl:=hf.len;refine uOb func85 ntmps85 ?_;refine zd3 ?_;refine uT1 [7,1,9,2,13,26] (fun k=>[(13,.int .i64 k),(7,.int .i64 (sfL l (f.take k) c))]) (fun k=>[]) (fun k=>k<=f.length/\(True)) (fun k=>f.length-k) (0) ?_ ?_;exact ⟨Ad _,trivial⟩;rintro k ⟨hk,-⟩;refine gz4 ?_;refine uCo (fun h1=> ?_) fun h2=> ?_
 obtain ⟨x,hx⟩: ∃x,f[k]? =some x:=⟨_,Aa h1⟩
 have hdx:=zi hx;have hx0:=hx;refine gz7 ?_;refine de rfl (zj zca rfl fun b9=> ?_)
 refine de0 (zp zca rfl rfl rfl rfl rfl ?_)
 refine gz1 ?_;refine ze (zk 9 rfl) ?_;refine gz6 ?_;refine uCo (fun h3=> ?_) fun h4=> ?_
 refine gz8 ?_;exact ⟨k+1,⟨by omega,trivial⟩,uD,⟨rfl,by rw [zrZ hx0,ziC,if_pos (by assumption),Int.add_zero];rfl,trivial⟩,uK,Ac _⟩;refine gz2 ?_;obtain ⟨hno,y,hy,hcm⟩:=hf.who k x hx0 (by assumption);obtain ⟨hc1,hc2⟩:=zjG hS.so hy;have hfn:zfE (l.map (·.Player)) x.Player=((zbF (l.map (·.Player)) x.Player:Nat):Int):=by unfold zfE;rw [if_pos hc1]
 have hb2:=hS.w y (zgT hy).1;have hb1:=zxC hS (f:=f) uO c k;have hho:zls l x.Player=zet y.Num y.Den:=by unfold zls;rw [hy];rfl
 refine gz5 ?_;refine dq (zU (h':= .int .i64 ((zbF (l.map (·.Player)) x.Player:Nat):Int)) (uCl zA2 rfl (znU (l:=l) (s:=x.Player) hl hS.so)) (by rw [hfn])) ?_;refine dq (zy (f:=za6) (l:=l) (j:=zbF (l.map (·.Player)) x.Player) (a:=y) zcm zde rfl rfl rfl hc2) ?_;refine gz1 ?_;refine dq (zU (h':= .agg [.int .i64 y.Num,.int .i64 y.Den]) (zaY zav rfl rfl (Ao rfl)) rfl) ?_;refine dq (uCl zzs rfl (zgA (n:=y.Num) (d:=y.Den) (hS.dn y (zgT hy).1) uO)) ?_;refine gz9 ?_;refine uCo (fun h5=> ?_) fun h6=> ?_
 refine gz2 ?_;refine dq (zcg rfl rfl uO uO) ?_;refine zit ?_;exact ⟨k+1,⟨by omega,trivial⟩,uD,⟨rfl,by rw [zrZ hx0,ziC,if_neg (by assumption),if_pos (by assumption),hho];rfl,trivial⟩,uK,Ac _⟩;refine zdm ?_;exact ⟨k+1,⟨by omega,trivial⟩,uD,⟨rfl,by rw [zrZ hx0,ziC,if_neg (by assumption),if_neg (by assumption),hho];rfl,trivial⟩,uK,Ac _⟩;have hnk:f.length<=k:=by omega
 obtain rfl:k=f.length:=by omega
 rw [Ak];refine gz2 ?_;refine zt ?_;refine gz7 ?_;refine zw rfl ?_
 rfl
theorem znl [Tracks] {b:BookS} {n w:Int} (hT:Tracks.on=false) (hb:BookC b) (hX:BookX b) (hwk:zaV w=true) (hnm:zaa n=true):ConP prog 77 [zjw b n,.int .i64 w] (.tup [zff (wlL b w n),.int .i64 (wlE b w n)]):=by
 have hla:=hb.bb.lea;have hok:=ziI hX.pl;have hpl:=hb.l2;have hmd:=hb.l3;have hom:=zov (week:=w) hX.me;have hol:=zkl b.Mends w;have h40:=zpV (l:=b.Plays) (t:=b.League.Trust) (m:=zgb b.Mends w) (week:=w) (n:=n) hok hpl uO;obtain ⟨hsl,hsn⟩:=zkj (t:=b.League.Trust) (week:=w) (n:=n) hok hpl;obtain ⟨hk1,hk2,hk3⟩:=zpU (t:=b.League.Trust) (m:=zgb b.Mends w) (week:=w) (n:=n) hok hpl uO hwk hom;have hwl:(wlL b w n).length<=40:=hk2;refine uOb func77 ntmps77 ?_;refine gz5 ?_;refine uDr mixed ?_;refine uB 0 rfl ((by first|exact zg zdf rfl zcU (by decide) rfl|exact zd zdf rfl zcU (by decide) rfl)) ?_;refine uB 1 rfl (zO (h:= .vptr (zb (zbx b)) 0) zcU rfl rfl rfl) ?_;refine uB 2 rfl ((by first|exact zu rfl|exact zl rfl)) ?_;refine uB 3 rfl ((by first|exact zg zbt rfl zho (by decide) rfl|exact zd zbt rfl zho (by decide) rfl)) ?_;refine uB 4 rfl (zO (h:=zb0 b.Plays) zho rfl rfl rfl) ?_;refine uB 5 rfl ((by first|exact zg zdf rfl zcU (by decide) rfl|exact zd zdf rfl zcU (by decide) rfl)) ?_;refine uB 6 rfl (zO (h:= .vptr (zb (zbx b)) 0) zcU rfl rfl rfl) ?_;refine uB 7 rfl ((by first|exact zu rfl|exact zl rfl)) ?_;refine uB 8 rfl ((by first|exact zg zbt rfl zaM (by decide) rfl|exact zd zbt rfl zaM (by decide) rfl)) ?_;refine uB 9 rfl ((by first|exact zg zaM rfl zq (by decide) rfl|exact zd zaM rfl zq (by decide) rfl)) ?_;refine uB 10 rfl (zO (h:=eSs b.League.Trust) zq rfl rfl rfl) ?_;refine gz1 ?_;refine uB 12 rfl ((by first|exact zg zdf rfl ty3 (by decide) rfl|exact zd zdf rfl ty3 (by decide) rfl)) ?_;refine gz1 ?_;refine uB 14 rfl (zU (h':= .tup [zff (zdT b.Plays b.League.Trust w n),.int .i64 (wlE b w n)]) (uCl ca27 rfl (znQ (l:=b.Plays) (trust:=b.League.Trust) (week:=w) (n:=n) hT uO hla.tr)) (by rw [(zuy hX.pl hX.tr hwk hnm).1,(zuy hX.pl hX.tr hwk hnm).2])) ?_;refine zcl ?_;refine uCo (fun h1=> ?_) fun h2=> ?_
 refine gz6 ?_
 focus first
 |exact zch rfl (zaA (by rw [wlL,knL,if_pos (by simpa using h1)];exact zW 3) (Weak.refl _))
 |exact zw rfl rfl
 refine gz5 ?_;refine ze (zN 7) ?_;refine gz2 ?_;refine dq ((by first|exact zg zdf rfl zcU (by decide) rfl|exact zd zdf rfl zcU (by decide) rfl)) ?_;refine dq (zO (h:= .vptr (zb (zbx b)) 0) zcU rfl rfl rfl) ?_;refine dq ((by first|exact zu rfl|exact zl rfl)) ?_;refine dq ((by first|exact zg zbt rfl zgI (by decide) rfl|exact zd zbt rfl zgI (by decide) rfl)) ?_;refine dq (zO (h:=zct b.Mends) zgI rfl rfl rfl) ?_;refine dq (zao (f:=zbV) (l:=b.Mends) zgI rfl) ?_;refine gz3 ?_;refine uV2 [8,1,10,1,38,13] (fun (k:Nat) (u:Value)=>[(38,.int .i64 k),(8,.raw u)]) (fun (k:Nat) (u:Value)=>[.arr u 7 ((zgb (b.Mends.take k) w).map zbV)]) (fun (k:Nat) (u:Value)=>k<=b.Mends.length/\(True)) (fun (k:Nat) (u:Value)=>b.Mends.length-k) (0) (.slice none 0 0) ?_ ?_ ?_ ?_;exact ⟨Ad _,trivial⟩;exact ⟨rfl,rfl,trivial⟩;exact zm rfl
 intro k u hinv
 obtain ⟨hk,-⟩:=hinv;refine gz4 ?_;refine uCo (fun h3=> ?_) fun h4=> ?_
 obtain ⟨x,hx⟩: ∃x,b.Mends[k]? =some x:=⟨_,Aa h3⟩
 have hdx:=zi hx;refine gz5 ?_;refine dq (zy (f:=zbV) (l:=b.Mends) (j:=k) (a:=x) zgI zbq rfl rfl rfl hx) ?_;refine gz1 ?_;refine de rfl (zj zbq rfl fun b10=> ?_)
 refine de0 (zp zbq rfl rfl rfl rfl rfl ?_)
 refine gz1 ?_;refine ze (zk 10 rfl) ?_;refine gz1 ?_;refine dq ((by first|exact zg zbq rfl ty3 (by decide) rfl|exact zd zbq rfl ty3 (by decide) rfl)) ?_;refine gz4 ?_;refine uCo (fun h5=> ?_) fun h6=> ?_
 refine gz2 ?_;refine dq (zaK (h:=zbV x) zbq rfl rfl rfl rfl) ?_;refine dq (za (hs:=[_]) zgI zbq rfl rfl (by decide) (by decide) rfl) ?_;refine de rfl (zK (i:=0) zgI zbq rfl rfl rfl rfl rfl (by simp [zar,zb]) (by have:=ztf b.Mends w k;simp only [Ah,Ai,AB];omega) fun v49=> ?_)
 refine gz8 ?_;exact ⟨k+1,v49,⟨by omega,trivial⟩,uD,⟨rfl,rfl,trivial⟩,uK,zm (by dsimp only;rw [zAe hx (by assumption),Az];rfl)⟩;refine gz7 ?_;exact ⟨k+1,u,⟨by omega,trivial⟩,uD,⟨rfl,rfl,trivial⟩,uK,zm (by dsimp only;rw [zCB hx (by assumption)])⟩;have hnk:b.Mends.length<=k:=by omega
 obtain rfl:k=b.Mends.length:=by omega
 rw [Ak];refine gz2 ?_;refine zM ?_;refine gz2 ?_;refine ze (zaJ 8 (i:=0) rfl rfl) ?_;have hz:wlE b w n=0:=by simpa using h2
 refine gz3 ?_;refine dq ((by first|exact zg zdf rfl ty3 (by decide) rfl|exact zd zdf rfl ty3 (by decide) rfl)) ?_;refine gz1 ?_;refine dq (zU (h':= .tup [zff (wlL b w n),.int .i64 (wlE b w n)]) (uCl zEw rfl (zs2 (l:=(zdT b.Plays b.League.Trust w n)) (m:=zgb b.Mends w) (n:=n) uO uO (fun x hx=>Aq (hsn x hx).1 (by decide)) (fun _=>h40))) (by rw [hz,(zsy (zlv hok hpl hwk hz) hom hnm).1,(zsy (zlv hok hpl hwk hz) hom hnm).2,wlL,knL,if_neg (fun q=>q hz)])) ?_;refine gz6 ?_
 focus first
 |exact zch rfl (zaA (by rw [wlL,knL,if_pos (by simpa using h1)];exact zW 3) (Weak.refl _))
 |exact zw rfl rfl
theorem zkA [Tracks] {x:LineS} {s:Str}:ConP prog 81 [zbQ x,.vptr [.str s] 0] (.bool (x.Player==s)):=by
 refine uOb func81 ntmps81 ?_;refine zdb ?_;refine zw rfl ?_
 rfl
theorem zhv [Tracks] {b:BookS} {n w:Int} {t:Str} (hT:Tracks.on=false) (hb:BookC b) (hX:BookX b) (hwk:zaV w=true) (hnm:zaa n=true) (htm:b.League.Teams.contains t=true):ConP prog 34 [zjw b n,.str t,.int .i64 w] (.tup [za3 (znw b t w n),.int .i64 (wlE b w n)]):=by
 have hla:=hb.bb.lea;have hok:=ziI hX.pl;have hpl:=hb.l2;have hmd:=hb.l3;have hom:=zov (week:=w) hX.me;have hol:=zkl b.Mends w;have h40:=zpV (l:=b.Plays) (t:=b.League.Trust) (m:=zgb b.Mends w) (week:=w) (n:=n) hok hpl uO;obtain ⟨hsl,hsn⟩:=zkj (t:=b.League.Trust) (week:=w) (n:=n) hok hpl;obtain ⟨hk1,hk2,hk3⟩:=zpU (t:=b.League.Trust) (m:=zgb b.Mends w) (week:=w) (n:=n) hok hpl uO hwk hom;have hwl:(wlL b w n).length<=40:=hk2;obtain ⟨hbm,hb0,hb1,hb2,hb3⟩:=zxX hX hwk;have hW:=hX.w;have hwr:1<=w/\w<=60:=by unfold zaV out at hwk;simp at hwk;omega
 have hok2:=zo0 (b:=b.League.Bounds) (n:=zbX b.League w) hW.f.mo;have hown:(zfy b t w).length<=1000000:=by
  have q:=(hok2.p t).2
  show (rPl (zg2 b.League.Bounds b.Moves (zbX b.League w)) t).length<=1000000
  omega
 have hask:zk2 b.League.Bounds b.Moves t (zbX b.League w)=0:=by
  unfold zk2;rw [if_neg (by simp [orI,hW.f.bo,hW.f.mo]),if_neg (by rw [hW.tm t htm];simp),if_neg (by rw [hbm];simp)]
 refine uOb func34 ntmps34 ?_;refine gz6 ?_;refine dq (zaK (h:=zjw b n) zdf rfl rfl rfl rfl) ?_;refine gz1 ?_;refine dq (uCl ca77 rfl (znl (b:=b) (n:=n) (w:=w) hT hb hX hwk hnm)) ?_;refine zcl ?_;refine uCo (fun h1=> ?_) fun h2=> ?_
 ·refine gz6 ?_
  first
  |exact zch rfl (zaA (by rw [znw,if_pos (by simpa using h1)];exact zW 5) (Weak.refl _))
  | (refine zat (zaJ 6 (i:=0) rfl rfl) rfl ⟨?_,rfl⟩
     rw [znw,if_neg (fun q=>q hz),hz]
     rfl)
 ·refine gz2 ?_;refine uDr mixed ?_;refine uB 0 rfl ((by first|exact zg zdf rfl zcU (by decide) rfl|exact zd zdf rfl zcU (by decide) rfl)) ?_;refine uB 1 rfl (zO (h:= .vptr (zb (zbx b)) 0) zcU rfl rfl rfl) ?_;refine uB 2 rfl ((by first|exact zu rfl|exact zl rfl)) ?_;refine uB 3 rfl ((by first|exact zg zbt rfl zaM (by decide) rfl|exact zd zbt rfl zaM (by decide) rfl)) ?_;refine uB 4 rfl ((by first|exact zg zaM rfl zji (by decide) rfl|exact zd zaM rfl zji (by decide) rfl)) ?_;refine uB 5 rfl (zU (h':=zfZ b.League.Bounds) (zaY zji rfl rfl (Ao rfl)) rfl) ?_;refine uB 6 rfl ((by first|exact zg zdf rfl zcU (by decide) rfl|exact zd zdf rfl zcU (by decide) rfl)) ?_;refine uB 7 rfl (zO (h:= .vptr (zb (zbx b)) 0) zcU rfl rfl rfl) ?_;refine uB 8 rfl ((by first|exact zu rfl|exact zl rfl)) ?_;refine uB 9 rfl ((by first|exact zg zbt rfl zcq (by decide) rfl|exact zd zbt rfl zcq (by decide) rfl)) ?_;refine uB 10 rfl (zO (h:=zcG b.Moves) zcq rfl rfl rfl) ?_;refine gz1 ?_;refine uB 12 rfl ((by first|exact zg zdf rfl zcU (by decide) rfl|exact zd zdf rfl zcU (by decide) rfl)) ?_;refine uB 13 rfl (zO (h:= .vptr (zb (zbx b)) 0) zcU rfl rfl rfl) ?_;refine uB 14 rfl ((by first|exact zu rfl|exact zl rfl)) ?_;refine uB 15 rfl ((by first|exact zg zbt rfl zaM (by decide) rfl|exact zd zbt rfl zaM (by decide) rfl)) ?_;refine gz1 ?_;refine uB 17 rfl (uCl ca58 rfl (zj8 (b:=b) hla.sta uO)) ?_;refine uB 18 rfl (uCl ca78 rfl (zvl (b:=b.League.Bounds) (l:=b.Moves) (t:=t) (n:=zbX b.League w) hb.bb.mv hask)) ?_;refine gz3 ?_;refine uF 22 ?_;refine zv rfl (zj zh9 rfl fun b10=> ?_)
  refine ⟨uE,?_⟩
  refine uF 23 ?_;refine zD (zp zh9 rfl rfl rfl rfl rfl ?_)
  refine ⟨uE,?_⟩
  refine gz2 ?_;refine ze (zk 10 rfl) ?_;have hz:wlE b w n=0:=by simpa using h2
  refine gz3 ?_;refine ze (zN 5) ?_;refine gz2 ?_;refine dq ((by first|exact zg zh9 rfl zq (by decide) rfl|exact zd zh9 rfl zq (by decide) rfl)) ?_;refine dq (zO (h:=eSs (zfy b t w)) zq rfl rfl rfl) ?_;refine dq (zao (f:=HVal.str) (l:=(zfy b t w)) zq rfl) ?_;refine gz3 ?_;refine uV2 [6,2,9,1,12,1,14,4,52,50] (fun (k:Nat) (u:Value)=>[(52,.int .i64 k),(12,.raw u)]) (fun (k:Nat) (u:Value)=>[.arr u 5 ((zkq b.League (wlL b w n) ((zfy b t w).take k)).map za6)]) (fun (k:Nat) (u:Value)=>k<=(zfy b t w).length/\(True)) (fun (k:Nat) (u:Value)=>(zfy b t w).length-k) (0) (.slice none 0 0) ?_ ?_ ?_ ?_
  ·exact ⟨Ad _,trivial⟩
  ·exact ⟨rfl,rfl,trivial⟩
  ·exact zm rfl
  ·intro k u hinv
   obtain ⟨hk,-⟩:=hinv;refine gz4 ?_;refine uCo (fun h3=> ?_) fun h4=> ?_
   ·obtain ⟨s,hs⟩: ∃s,(zfy b t w)[k]? =some s:=⟨_,Aa h3⟩
    have hds:=zi hs;refine gz5 ?_;refine dq (zy (f:=HVal.str) (l:=(zfy b t w)) (j:=k) (a:=s) zq ty9 rfl rfl rfl hs) ?_;refine gz1 ?_;refine de rfl (zj ty9 rfl fun b14=> ?_)
    refine de0 (zp ty9 rfl rfl rfl rfl rfl ?_)
    refine gz1 ?_;refine ze (zk 14 rfl) ?_;refine gz1 ?_;refine dq (zaK (h:=zjw b n) zdf rfl rfl rfl rfl) ?_;refine gz1 ?_;refine dq (uCl ca79 rfl (znM (b:=b) (n:=n) (s:=s) hla.pl hW.so)) ?_;refine gz5 ?_;refine dq (zxv (o:=(plO b.League.Players s).map fun p=>zb (zeL p)) zGt rfl rfl) ?_;refine gz1 ?_;refine uCo (fun h5=> ?_) fun h6=> ?_
    ·refine gz8 ?_;exact ⟨k+1,u,⟨by omega,trivial⟩,uD,⟨rfl,rfl,trivial⟩,uK,zm (by dsimp only;rw [zp1 hs,zu1 uSa];simp)⟩
    ·refine gz2 ?_;obtain ⟨p,hp⟩:=zDE (L:=b.League.Players) (s:=s) (by assumption);have hpm:=Bc hp;rw [hp];refine uVj [16,1,61,8] (fun (b16:Nat)=>[(16,pAt b16)]) (fun (b16:Nat)=>[.cells b16 [.str s,eSs p.Positions,.int .i64 0,.int .i64 1,.bool false],.arr u 5 ((zkq b.League (wlL b w n) ((zfy b t w).take k)).map za6)]) (fun (b16:Nat)=>True) ?_ ?_
     ·skip
      refine zia mixed ?_;refine gz2 ?_;refine uB 2 rfl ((by first|exact zu rfl|exact zl rfl)) ?_;refine uB 3 rfl ((by first|exact zg zeF rfl zq (by decide) rfl|exact zd zeF rfl zq (by decide) rfl)) ?_;refine uB 4 rfl (zO (h:=eSs p.Positions) zq rfl rfl rfl) ?_;refine uB 6 rfl (zF (cs:=[_,_]) zav zkn rfl) ?_;refine zij 5 8 rfl rfl (by kernel_rfl) ?_ ?_
      ·skip
       refine zv rfl (zp7 (uCa zkc rfl (z7 (l:=p.Positions) (hla.po p hpm)) fun v=>⟨v,rfl,rfl⟩) ?_)
       refine ⟨uE,?_⟩
       refine uB 7 rfl (zF (cs:=[_,_,_,_,_]) zde pl77 rfl) ?_;refine uF 8 ?_;refine zv rfl (zj zde rfl fun b16=> ?_)
       refine ⟨uE,?_⟩
       refine uF 9 ?_
       first
       |refine zD (uY 0 ?_)
       |refine zD (uY 1 ?_)
       |refine zD (uY 2 ?_)
       |refine zD (uY 3 ?_)
       refine ⟨uE,?_⟩
       refine uAz ?_;refine ⟨b16,?_,⟨rfl,trivial⟩,uK,zm rfl⟩
       ·trivial
      ·skip
       refine zv rfl (zj zde rfl fun b16=> ?_)
       refine ⟨uE,?_⟩
       refine uF 5 ?_;refine zv rfl (zp7 (uCa zkc rfl (z7 (l:=p.Positions) (hla.po p hpm)) fun v=>⟨v,rfl,rfl⟩) ?_)
       refine ⟨uE,?_⟩
       refine uB 7 rfl (zF (cs:=[_,_,_,_,_]) zde pl77 rfl) ?_;refine uF 9 ?_
       first
       |refine zD (uY 0 ?_)
       |refine zD (uY 1 ?_)
       |refine zD (uY 2 ?_)
       |refine zD (uY 3 ?_)
       refine ⟨uE,?_⟩
       refine uAz ?_;refine ⟨b16,?_,⟨rfl,trivial⟩,uK,zm rfl⟩
       ·trivial
     ·intro b16 _
      refine gz1 ?_;obtain ⟨sc,hsc⟩:=zDK (L:=wlL b w n) hp;refine gz3 ?_;refine dq (uCl ca80 rfl (zfT (l:=wlL b w n) (p:=fun x=>x.Player==s) ca81 (fun _=>zkA) uO)) ?_;refine gz6 ?_;refine uCo (fun h7=> ?_) fun h8=> ?_
      ·obtain ⟨i0,x0,e1,e2,e3⟩:=zsm (p:=fun x:LineS=>x.Player==s) (l:=wlL b w n) (by assumption);rw [e1];refine gz2 ?_
       first
       |refine de0 (uY 0 ?_)
       |refine de0 (uY 1 ?_)
       |refine de0 (uY 2 ?_)
       |refine de0 (uY 3 ?_)
       refine gz1 ?_;refine uDr mixed ?_;refine uB 0 rfl ((by first|exact zg zdf rfl zcU (by decide) rfl|exact zd zdf rfl zcU (by decide) rfl)) ?_;refine uB 1 rfl (zO (h:= .vptr (zb (zbx b)) 0) zcU rfl rfl rfl) ?_;refine uB 2 rfl ((by first|exact zu rfl|exact zl rfl)) ?_;refine uB 3 rfl ((by first|exact zg zbt rfl zaM (by decide) rfl|exact zd zbt rfl zaM (by decide) rfl)) ?_;refine uB 4 rfl ((by first|exact zg zaM rfl zoH (by decide) rfl|exact zd zaM rfl zoH (by decide) rfl)) ?_;refine uB 5 rfl (zO (h:=zf0 b.League.Rules) zoH rfl rfl rfl) ?_;refine gz1 ?_;refine uB 7 rfl ((by first|exact zu rfl|exact zl rfl)) ?_;refine uB 8 rfl ((by first|exact zg zeF rfl zq (by decide) rfl|exact zd zeF rfl zq (by decide) rfl)) ?_;refine uB 9 rfl (zO (h:=eSs p.Positions) zq rfl rfl rfl) ?_;refine gz2 ?_;refine uB 12 rfl (zy (f:=zbQ) (l:=wlL b w n) (j:=i0) (a:=x0) zm4 zbW rfl rfl rfl e2) ?_;refine uB 13 rfl (zaK (h:=zbQ x0) zbW rfl rfl rfl rfl) ?_;refine uB 14 rfl (uCl ca82 rfl (zrs (R:=b.League.Rules) (pos:=p.Positions) (x:=x0) hla.ru hla.rw' hX.ru (hX.po p hpm) (zv4 hk1 (Ab e2)))) ?_;refine gz4 ?_;refine uF 19 ?_
       first
       |refine zD (uY 0 ?_)
       |refine zD (uY 1 ?_)
       |refine zD (uY 2 ?_)
       |refine zD (uY 3 ?_)
       refine ⟨uE,?_⟩
       refine gz6 ?_;refine zX rfl (fun h9=> ?_) (fun h9=> ?_)
       ·exfalso
        try simp at h9
        done
       ·try simp at h9
        refine gz2 ?_;refine ze (Ghost.perm (M':=[.cells b16 (zb (za6 sc)),.arr u 5 ((zkq b.League (wlL b w n) ((zfy b t w).take k)).map za6)]) (zm (by first|(rw [zl4 hp e3] at hsc;cases hsc;rfl)|(rw [zl3 hp (zok uO)] at hsc;cases hsc;rfl)))) ?_;refine ze (zbr 16 (i:=0) rfl rfl) ?_;refine gz2 ?_;refine dq (zaK (h:=za6 sc) zde rfl rfl rfl rfl) ?_;refine dq (za (hs:=[_]) zcm zde rfl rfl (by decide) (by decide) rfl) ?_;refine de rfl (zK (i:=0) zcm zde rfl rfl rfl rfl rfl (by simp [zar,zb]) (by have:=zo1 b.League (wlL b w n) ((zfy b t w).take k);simp only [Ah,Ai,AB,AD] at*;omega) fun v100=> ?_)
        refine gz8 ?_;exact ⟨k+1,v100,⟨by omega,trivial⟩,uD,⟨rfl,rfl,trivial⟩,uK,zm (by dsimp only;rw [zp1 hs,hsc];simp)⟩
      ·refine gz2 ?_;refine ze (Ghost.perm (M':=[.cells b16 (zb (za6 sc)),.arr u 5 ((zkq b.League (wlL b w n) ((zfy b t w).take k)).map za6)]) (zm (by first|(rw [zl4 hp e3] at hsc;cases hsc;rfl)|(rw [zl3 hp (zok uO)] at hsc;cases hsc;rfl)))) ?_;refine ze (zbr 16 (i:=0) rfl rfl) ?_;refine gz2 ?_;refine dq (zaK (h:=za6 sc) zde rfl rfl rfl rfl) ?_;refine dq (za (hs:=[_]) zcm zde rfl rfl (by decide) (by decide) rfl) ?_;refine de rfl (zK (i:=0) zcm zde rfl rfl rfl rfl rfl (by simp [zar,zb]) (by have:=zo1 b.League (wlL b w n) ((zfy b t w).take k);simp only [Ah,Ai,AB,AD] at*;omega) fun v100=> ?_)
       refine gz8 ?_;exact ⟨k+1,v100,⟨by omega,trivial⟩,uD,⟨rfl,rfl,trivial⟩,uK,zm (by dsimp only;rw [zp1 hs,hsc];simp)⟩
   ·have hnk:(zfy b t w).length<=k:=by omega
    obtain rfl:k=(zfy b t w).length:=by omega
    rw [Ak];refine gz2 ?_;refine zM ?_;refine gz8 ?_
    first
    |exact zch rfl (zaA (by rw [znw,if_pos (by simpa using h1)];exact zW 5) (Weak.refl _))
    | (refine zat (zaJ 6 (i:=0) rfl rfl) rfl ⟨?_,rfl⟩
       rw [znw,if_neg (fun q=>q hz),hz]
       rfl)
end
end Go.Proofs.YtbmggbfabohegaaGreatDoor
namespace Go.HL
section
abbrev zcE (s i:Nat):Nat:=s^^^2^i
theorem zoP {s i j:Nat} (h:j≠i):(zcE s i).testBit j=s.testBit j:=by
 unfold zcE;rw [Nat.testBit_xor,Nat.testBit_two_pow,decide_eq_false (fun q=>h q.symm),Bool.xor_false]
theorem zrD {s i:Nat} (h:s.testBit i=true):(zcE s i).testBit i=false:=by
 unfold zcE;rw [Nat.testBit_xor,Nat.testBit_two_pow,h,decide_eq_true rfl];rfl
def zew (D:Nat->Int) (x:Int) (ok:Nat->Bool) (s:Nat):Nat->Int
 |0=>D s
 |i+1=>if s.testBit i=true/\ok i=true then max (zew D x ok s i) (D (zcE s i)+x) else zew D x ok s i
def dpG (fit:Nat->Nat->Bool) (w:Nat->Int) (T:Nat->Bool) (fr m:Nat):Nat->Nat->Int
 |0,_=>0
 |k+1,s=>if T k=true then dpG fit w T fr m k s else zew (dpG fit w T fr m k) (w k) (fun i=>fit k (fr+i)) s m
theorem zuT (D:Nat->Int) (x:Int) (ok:Nat->Bool) (s:Nat): ∀m,D s<=zew D x ok s m
 |0=>Int.le_refl _
 |m+1=>by
   have ih:=zuT D x ok s m;rw [zew]
   split
   omega
   exact ih
theorem zyT {D:Nat->Int} {x:Int} {ok:Nat->Bool} {s i:Nat} (hb:s.testBit i=true) (ho:ok i=true): ∀m,i<m->D (zcE s i)+x<=zew D x ok s m
 |0,h=>by omega
 |m+1,h=>by
   rw [zew]
   by_cases e:i=m
   subst e;rw [if_pos ⟨hb,ho⟩];omega;have ih:=zyT (D:=D) (x:=x) hb ho m (by omega)
   split
   omega
   exact ih
theorem zyS (D:Nat->Int) (x:Int) (ok:Nat->Bool) (s:Nat): ∀m,zew D x ok s m=D s\/∃i,i<m/\s.testBit i=true/\ok i=true/\zew D x ok s m=D (zcE s i)+x
 |0=> .inl rfl
 |m+1=>by
   have ih:=zyS D x ok s m;rw [zew]
   split
   rename_i h
   by_cases e:zew D x ok s m<=D (zcE s m)+x
   exact .inr ⟨m,by omega,h.1,h.2,by omega⟩;have e2:max (zew D x ok s m) (D (zcE s m)+x)=zew D x ok s m:=by omega
   rw [e2]
   rcases ih with q|⟨i,h1,h2,h3,h4⟩
   exact .inl q;exact .inr ⟨i,by omega,h2,h3,h4⟩
   rcases ih with q|⟨i,h1,h2,h3,h4⟩
   exact .inl q;exact .inr ⟨i,by omega,h2,h3,h4⟩
structure MOk (fit:Nat->Nat->Bool) (T:Nat->Bool) (fr m k s:Nat) (μ:Nat->Option Nat):Prop where
 at': ∀i q,μ i=some q->(i<m/\s.testBit i=true)/\q<k/\T q=false/\fit q (fr+i)=true
 inj: ∀i j q,μ i=some q->μ j=some q->i=j
def vlO (w:Nat->Int) (o:Option Nat):Int:=match o with|none=>0|some q=>w q
def vlG (w:Nat->Int) (μ:Nat->Option Nat):Nat->Int
 |0=>0
 |i+1=>vlG w μ i+vlO w (μ i)
def zjk (μ:Nat->Option Nat) (i:Nat) (o:Option Nat):Nat->Option Nat:=fun j=>if j=i then o else μ j
theorem zr2 {w:Nat->Int} {μ ν:Nat->Option Nat}: ∀m,(∀i,i<m->μ i=ν i)->vlG w μ m=vlG w ν m
 |0,_=>rfl
 |m+1,h=>by rw [vlG,vlG,zr2 m (fun i hi=>h i (by omega)),h m (by omega)]
theorem zr1 {w:Nat->Int} {μ:Nat->Option Nat}: ∀m,(∀i,i<m->μ i=none)->vlG w μ m=0
 |0,_=>rfl
 |m+1,h=>by rw [vlG,zr1 m (fun i hi=>h i (by omega)),h m (by omega)];rfl
theorem zvd {w:Nat->Int} {μ:Nat->Option Nat} {i:Nat} {o:Option Nat}: ∀m,i<m->vlG w (zjk μ i o) m=vlG w μ m-vlO w (μ i)+vlO w o
 |0,h=>by omega
 |m+1,h=>by
   rw [vlG,vlG]
   by_cases e:i=m
   subst e;have e0:vlG w (zjk μ i o) i=vlG w μ i:=zr2 i fun j hj=>by unfold zjk;rw [if_neg (by omega)]
   have e1:zjk μ i o i=o:=if_pos rfl;rw [e0,e1];omega;rw [zvd m (by omega)];have:zjk μ i o m=μ m:=by unfold zjk;rw [if_neg (by omega)]
   rw [this];omega
section
variable {fit:Nat->Nat->Bool} {w:Nat->Int} {T:Nat->Bool} {fr m:Nat}
theorem MOk.up {k s:Nat} {μ:Nat->Option Nat} (h:MOk fit T fr m k s μ):MOk fit T fr m (k+1) s μ:=
 ⟨fun i q e=>by obtain ⟨a,b,c,d⟩:=h.at' i q e;exact ⟨a,by omega,c,d⟩,h.inj⟩
theorem ztv: ∀(k s:Nat) (μ:Nat->Option Nat),MOk fit T fr m k s μ->vlG w μ m<=dpG fit w T fr m k s
 |0,s,μ,h=>by
   rw [zr1 m fun i _=>by
    cases e:μ i with
    |none=>rfl
    |some q=>have:=(h.at' i q e).2.1;omega]
   exact Int.le_refl _
 |k+1,s,μ,h=>by
   rw [dpG]
   by_cases ht:T k=true
   rw [if_pos ht];refine ztv k s μ ⟨fun i q e=> ?_,h.inj⟩
   obtain ⟨a,b,c,d⟩:=h.at' i q e;refine ⟨a,?_,c,d⟩
   have:q≠k:=fun e2=>by rw [e2,ht] at c;cases c
   omega
   rw [if_neg ht]
   by_cases hx: ∃i,μ i=some k
   obtain ⟨i,hi⟩:=hx;obtain ⟨⟨a1,a2⟩,_,_,a3⟩:=h.at' i k hi;have h1:MOk fit T fr m k (zcE s i) (zjk μ i none):=by
    refine ⟨fun j q e=> ?_,fun j j' q e e'=> ?_⟩
    unfold zjk at e
    by_cases ej:j=i
    rw [if_pos ej] at e;cases e;rw [if_neg ej] at e;obtain ⟨⟨b1,b2⟩,b3,b4,b5⟩:=h.at' j q e;refine ⟨⟨b1,by rw [zoP ej];exact b2⟩,?_,b4,b5⟩
    have:q≠k:=fun e2=>ej (h.inj j i k (e2▸e) hi)
    omega
    unfold zjk at e e'
    by_cases ej:j=i
    rw [if_pos ej] at e;cases e
    by_cases ej':j'=i
    rw [if_pos ej'] at e';cases e';rw [if_neg ej] at e;rw [if_neg ej'] at e';exact h.inj j j' q e e'
   have h2:=ztv k (zcE s i) _ h1;rw [zvd m a1,hi] at h2;have h3:=zyT (D:=dpG fit w T fr m k) (x:=w k) (ok:=fun i=>fit k (fr+i)) a2 a3 m a1;have e1:vlO w (some k)=w k:=rfl;have e2:vlO w none=0:=rfl;rw [e1,e2] at h2
   omega
   refine Int.le_trans (ztv k s μ ⟨fun i q e=> ?_,h.inj⟩) (zuT _ _ _ _ m)
   obtain ⟨a,b,c,d⟩:=h.at' i q e;refine ⟨a,?_,c,d⟩
   have:q≠k:=fun e2=>hx ⟨i,e2▸e⟩
   omega
theorem ztu: ∀(k s:Nat),∃μ,MOk fit T fr m k s μ/\vlG w μ m=dpG fit w T fr m k s
 |0,s=>⟨fun _=>none,⟨fun _ _ e=>(by cases e),fun _ _ _ e=>(by cases e)⟩,zr1 m fun _ _=>rfl⟩
 |k+1,s=>by
   rw [dpG]
   by_cases ht:T k=true
   rw [if_pos ht];obtain ⟨μ,h1,h2⟩:=ztu k s;exact ⟨μ,h1.up,h2⟩;rw [if_neg ht]
   rcases zyS (dpG fit w T fr m k) (w k) (fun i=>fit k (fr+i)) s m with q|⟨i,a1,a2,a3,a4⟩
   rw [q];obtain ⟨μ,h1,h2⟩:=ztu k s;exact ⟨μ,h1.up,h2⟩;rw [a4];obtain ⟨μ,h1,h2⟩:=ztu k (zcE s i);have hn:μ i=none:=by
    cases e:μ i with
    |none=>rfl
    |some q=>have:=(h1.at' i q e).1.2;rw [zrD a2] at this;cases this
   refine ⟨zjk μ i (some k),⟨fun j q e=> ?_,fun j j' q e e'=> ?_⟩,?_⟩
   unfold zjk at e
   by_cases ej:j=i
   rw [if_pos ej] at e
   cases e
   subst ej;exact ⟨⟨a1,a2⟩,by omega,by simpa using ht,a3⟩;rw [if_neg ej] at e;obtain ⟨⟨b1,b2⟩,b3,b4,b5⟩:=h1.at' j q e;exact ⟨⟨b1,by rw [zoP ej] at b2;exact b2⟩,by omega,b4,b5⟩;unfold zjk at e e'
   by_cases ej:j=i<;>by_cases ej':j'=i
   omega
   rw [if_pos ej] at e;rw [if_neg ej'] at e'
   cases e
   have:=(h1.at' j' _ e').2.1;omega;rw [if_neg ej] at e;rw [if_pos ej'] at e'
   cases e'
   have:=(h1.at' j _ e).2.1;omega;rw [if_neg ej] at e;rw [if_neg ej'] at e';exact h1.inj j j' q e e';rw [zvd m a1,hn,h2]
   show _-0+w k=_
   omega
end
def zh2 (fit:Nat->Nat->Bool) (w:Nat->Int) (n N:Nat) (T:Nat->Bool) (fr:Nat):Int:=dpG fit w T fr (N-fr) n (2^(N-fr)-1)
def znx (T:Nat->Bool) (q:Nat):Nat->Bool:=fun k=>if k=q then true else T k
def shM (o:Option Nat) (μ:Nat->Option Nat):Nat->Option Nat:=fun i=>match i with|0=>o|j+1=>μ j
theorem ztJ {w:Nat->Int} {o:Option Nat} {μ:Nat->Option Nat}: ∀m,vlG w (shM o μ) (m+1)=vlO w o+vlG w μ m
 |0=>by show 0+vlO w o=_;rw [vlG];omega
 |m+1=>by
   rw [vlG,ztJ m,vlG]
   show _+vlO w (μ m)=_
   omega
section
variable {fit:Nat->Nat->Bool} {w:Nat->Int} {n N:Nat} {T:Nat->Bool} {fr:Nat}
theorem zzF {m i:Nat}:(2^m-1).testBit i=decide (i<m):=Nat.testBit_two_pow_sub_one m i
theorem zos {μ:Nat->Option Nat} (h: ∀i q,μ i=some q->i<N-fr/\q<n/\T q=false/\fit q (fr+i)=true) (hi: ∀i j q,μ i=some q->μ j=some q->i=j):vlG w μ (N-fr)<=zh2 fit w n N T fr:=
 ztv n _ μ ⟨fun i q e=>by obtain ⟨a,b,c,d⟩:=h i q e;exact ⟨⟨a,by rw [zzF];simpa using a⟩,b,c,d⟩,hi⟩
theorem zqR (fit:Nat->Nat->Bool) (w:Nat->Int) (n N:Nat) (T:Nat->Bool) (fr:Nat): ∃μ:Nat->Option Nat,(∀i q,μ i=some q->i<N-fr/\q<n/\T q=false/\fit q (fr+i)=true)/\(∀i j q,μ i=some q->μ j=some q->i=j)/\vlG w μ (N-fr)=zh2 fit w n N T fr:=by
 obtain ⟨μ,h1,h2⟩:=ztu (fit:=fit) (w:=w) (T:=T) (fr:=fr) (m:=N-fr) n (2^(N-fr)-1);exact ⟨μ,fun i q e=>by obtain ⟨⟨a,_⟩,b,c,d⟩:=h1.at' i q e;exact ⟨a,b,c,d⟩,h1.inj,h2⟩
theorem zz6 (h:fr<N):zh2 fit w n N T (fr+1)<=zh2 fit w n N T fr:=by
 obtain ⟨μ,h1,h2,h3⟩:=zqR fit w n N T (fr+1);have e:N-fr=N-(fr+1)+1:=by omega
 have h4:=zos (fit:=fit) (w:=w) (n:=n) (N:=N) (T:=T) (fr:=fr) (μ:=shM none μ) (fun i q hq=>by
  cases i with
  |zero=>cases hq
  |succ j=>
    obtain ⟨a,b,c,d⟩:=h1 j q hq;exact ⟨by omega,b,c,by rw [show fr+(j+1)=fr+1+j by omega];exact d⟩) (fun i j q hq hq'=>by
  cases i with
  |zero=>cases hq
  |succ i=>
    cases j with
    |zero=>cases hq'
    |succ j=>rw [h2 i j q hq hq'])
 rw [e,ztJ,h3] at h4;have e2:vlO w none=0:=rfl
 omega
theorem zz8 (h:fr<N) {q:Nat} (hq:q<n) (ht:T q=false) (hf:fit q fr=true):w q+zh2 fit w n N (znx T q) (fr+1)<=zh2 fit w n N T fr:=by
 obtain ⟨μ,h1,h2,h3⟩:=zqR fit w n N (znx T q) (fr+1);have e:N-fr=N-(fr+1)+1:=by omega
 have hne: ∀i p,μ i=some p->p≠q/\T p=false:=fun i p hp=>by
  have h4:=(h1 i p hp).2.2.1;unfold znx at h4
  by_cases c:p=q
  rw [if_pos c] at h4;cases h4;rw [if_neg c] at h4;exact ⟨c,h4⟩
 have h4:=zos (fit:=fit) (w:=w) (n:=n) (N:=N) (T:=T) (fr:=fr) (μ:=shM (some q) μ) (fun i p hp=>by
  cases i with
  |zero=>cases hp;exact ⟨by omega,hq,ht,hf⟩
  |succ j=>
    obtain ⟨a,b,c,d⟩:=h1 j p hp;exact ⟨by omega,b,(hne j p hp).2,by rw [show fr+(j+1)=fr+1+j by omega];exact d⟩) (fun i j p hp hp'=>by
  cases i with
  |zero=>
    cases j with
    |zero=>rfl
    |succ j=>cases hp;exact absurd rfl (hne j _ hp').1
  |succ i=>
    cases j with
    |zero=>cases hp';exact absurd rfl (hne i _ hp).1
    |succ j=>rw [h2 i j p hp hp'])
 rw [e,ztJ,h3] at h4;have e2:vlO w (some q)=w q:=rfl
 omega
theorem zz7 (h:fr<N):zh2 fit w n N T (fr+1)=zh2 fit w n N T fr\/∃q,q<n/\T q=false/\fit q fr=true/\zh2 fit w n N (znx T q) (fr+1)=zh2 fit w n N T fr-w q:=by
 obtain ⟨μ,h1,h2,h3⟩:=zqR fit w n N T fr;have e:N-fr=N-(fr+1)+1:=by omega
 have hsh:vlG w μ (N-fr)=vlO w (μ 0)+vlG w (fun i=>μ (i+1)) (N-(fr+1)):=by
  rw [e,<-ztJ];refine zr2 _ fun i _=> ?_
  cases i<;>rfl
 cases h0:μ 0 with
 |none=>
   left
   have h4:=zos (fit:=fit) (w:=w) (n:=n) (N:=N) (T:=T) (fr:=fr+1) (μ:=fun i=>μ (i+1)) (fun i q hq=>by
    obtain ⟨a,b,c,d⟩:=h1 (i+1) q hq;exact ⟨by omega,b,c,by rw [show fr+1+i=fr+(i+1) by omega];exact d⟩) (fun i j q hq hq'=>by have:=h2 _ _ q hq hq';omega)
   rw [h0] at hsh;have e2:vlO w none=0:=rfl;have h5:=zz6 (fit:=fit) (w:=w) (n:=n) (T:=T) h
   omega
 |some q=>
   right
   obtain ⟨_,b,c,d⟩:=h1 0 q h0;refine ⟨q,b,c,d,?_⟩
   have h4:=zos (fit:=fit) (w:=w) (n:=n) (N:=N) (T:=znx T q) (fr:=fr+1) (μ:=fun i=>μ (i+1)) (fun i p hp=>by
    obtain ⟨a,b,c,d⟩:=h1 (i+1) p hp;refine ⟨by omega,b,?_,by rw [show fr+1+i=fr+(i+1) by omega];exact d⟩
    unfold znx;rw [if_neg (fun e3=>by have:=h2 (i+1) 0 q (e3▸hp) h0;omega)];exact c) (fun i j p hp hp'=>by have:=h2 _ _ p hp hp';omega)
   rw [h0] at hsh;have e2:vlO w (some q)=w q:=rfl;have h5:=zz8 (fit:=fit) (w:=w) h b c d
   omega
theorem zCs:zh2 fit w n N T N=0:=by
 obtain ⟨μ,h1,h2,h3⟩:=zqR fit w n N T N;rw [<-h3,B4];rfl
end
end
section
open Go Op
abbrev zhf (l:List ScorerS) (S:List SlotS) (q i:Nat):Bool:=zhQ (l.getD q zR).Positions (S.getD i zbI).Positions
abbrev wrL (l:List ScorerS) (q:Nat):Int:=64*zet (l.getD q zR).Num (l.getD q zR).Den-1
abbrev tkF (T:List Bool) (q:Nat):Bool:=T.getD q false
abbrev zhi (l:List ScorerS) (S:List SlotS) (T:List Bool) (i:Nat):Int:=zh2 (zhf l S) (wrL l) l.length S.length (tkF T) i
theorem zzc {T:List Bool} {q:Nat} (h:q<T.length):tkF (T.set q true)=znx (tkF T) q:=by
 funext k
 show (T.set q true).getD k false=if k=q then true else T.getD k false
 rw [Ae,Ae,Bz]
 by_cases e:q=k
 subst e;rw [if_pos rfl,if_pos h,if_pos rfl];rfl;rw [if_neg e,if_neg (fun c=>e c.symm)]
theorem zAH {T:List Bool} {q:Nat} (h:T.getD q false=false):(T.set q true).set q false=T:=by
 rw [List.set_set]
 by_cases hl:q<T.length
 refine Bl fun k=> ?_
 rw [Bz]
 split
 rename_i e;subst e;rw [getD_some (d:=false) hl,h]
 rfl
 rw [List.set_eq_of_length_le (by omega)]
def zhP (l:List ScorerS) (S:List SlotS) (T:List Bool) (left:Int) (i q:Nat):Bool:=
 !(tkF T q)&&zhf l S q i&&decide (zhi l S (T.set q true) (i+1)=left-wrL l q)
def chF (l:List ScorerS) (S:List SlotS) (T:List Bool) (left:Int) (i:Nat):Option Nat:=(List.range l.length).find? (zhP l S T left i)
structure BstS where
 T:List Bool
 left:Int
 out:List FillS
def zlE (l:List ScorerS) (S:List SlotS) (i:Nat) (q:BstS):BstS:=
 if zhi l S q.T (i+1)=q.left then ⟨q.T,q.left,q.out++[⟨(S.getD i zbI).Key,[]⟩]⟩
 else match chF l S q.T q.left i with
  |none=>⟨q.T,q.left,q.out++[⟨(S.getD i zbI).Key,[]⟩]⟩
  |some k=>⟨q.T.set k true,q.left-wrL l k,q.out++[⟨(S.getD i zbI).Key,(l.getD k zR).Player⟩]⟩
def zgz (l:List ScorerS) (S:List SlotS):Nat->BstS
 |0=>⟨List.replicate l.length false,zhi l S (List.replicate l.length false) 0,[]⟩
 |i+1=>zlE l S i (zgz l S i)
abbrev zil (l:List ScorerS) (S:List SlotS):List FillS:=(zgz l S S.length).out
def wtG (l:List ScorerS) (x:FillS):Int:=if x.Player=[] then 0 else 64*zls l x.Player-1
def wtL (l:List ScorerS) (f:List FillS):Int:=(f.map (wtG l)).sum
theorem zr3 (l:List ScorerS) (f:List FillS) (x:FillS):wtL l (f++[x])=wtL l f+wtG l x:=by unfold wtL;simp
theorem zDH (n q:Nat):tkF (List.replicate n false) q=false:=by
 unfold tkF;rw [Ae,Cn]
 split<;>rfl
theorem zBJ {l:List ScorerS} (h:ScoOk l) {q:Nat} (hq:q<l.length):scO l (l.getD q zR).Player=some (l.getD q zR):=by
 have e:l[q]? =some (l.getD q zR):=getD_some hq;have hm:=Ab e
 cases hs:scO l (l.getD q zR).Player with
 |none=>
   have:=List.find?_eq_none.1 hs _ hm
   simp at this
 |some y=>
   obtain ⟨h1,h2⟩:=zjG h.so hs;obtain ⟨h3,h4⟩:=zrQ h.so h1;have h5:(l.map (·.Player))[q]? =some (l.getD q zR).Player:=by rw [Ag,e];rfl
   have hp:zbF (l.map (·.Player)) (l.getD q zR).Player=q:=by
    by_cases c:zbF (l.map (·.Player)) (l.getD q zR).Player<q
    have:=h.so.get c h3 h5;rw [zac] at this;cases this
    by_cases d:q<zbF (l.map (·.Player)) (l.getD q zR).Player
    exact absurd rfl (h4 q _ d h5)
    omega
   rw [hp,e] at h2;exact h2.symm▸rfl
structure BstOk (l:List ScorerS) (S:List SlotS) (i:Nat) (q:BstS):Prop where
 tl:q.T.length=l.length
 left:q.left=zhi l S q.T i
 fo:FillOk l S i q.out
 no: ∀k,k<l.length->tkF q.T k=false->∀x∈q.out,x.Player≠(l.getD k zR).Player
 sum:wtL l q.out+q.left=zhi l S (List.replicate l.length false) 0
theorem zwq {l:List ScorerS} {S:List SlotS} {i:Nat} {f:List FillS} (h:FillOk l S i f) {x:FillS} (hk:x.Slot=(S.getD i zbI).Key)
 (hw:x.Player≠[]->f.any (fun y=>y.Player==x.Player)=false/\∃y,scO l x.Player=some y/\zhQ y.Positions (S.getD i zbI).Positions=true):FillOk l S (i+1) (f++[x]):=by
 have hlen:=h.len;have last: ∀(k:Nat) (y:FillS),(f++[x])[k]? =some y->(k<i/\f[k]? =some y)\/(k=i/\y=x):=fun k y hy=>by
  by_cases hk:k<i
  rw [An (by omega)] at hy;exact .inl ⟨hk,hy⟩;have:k=i:=by have:=zn hy;rw [Av,hlen] at this;simp at this;omega
  subst this;rw [Al (by omega),hlen,B4] at hy
  cases hy;exact .inr ⟨rfl,rfl⟩
 refine ⟨by rw [Av,hlen];rfl,fun k y hy=> ?_,fun k y hy hp=> ?_⟩
 rcases last k y hy with ⟨_,q⟩|⟨rfl,rfl⟩
 exact h.key k y q;exact hk
 rcases last k y hy with ⟨c,q⟩|⟨rfl,rfl⟩
 rw [A2 (by omega)];exact h.who k y q hp;rw [A2 (by omega),AZ (by omega)];exact hw hp
theorem zlF {l:List ScorerS} (h:ScoOk l) (S:List SlotS): ∀i,i<=S.length->BstOk l S i (zgz l S i)
 |0,_=>⟨by rw [zgz];simp,rfl,⟨rfl,fun k x e=>(by cases e),fun k x e=>(by cases e)⟩,fun _ _ _ x hx=>(by cases hx),by rw [zgz];exact Cw _⟩
 |i+1,hi=>by
   have ih:=zlF h S i (by omega);rw [zgz]
   generalize zgz l S i=q at ih
   have htl:=ih.tl;have hleft:=ih.left;have hsum:=ih.sum;unfold zlE
   by_cases h1:zhi l S q.T (i+1)=q.left
   rw [if_pos h1];refine ⟨htl,h1.symm,zwq ih.fo rfl (fun c=>absurd rfl c),fun k hk ht x hx=> ?_,?_⟩
   rcases List.mem_append.1 hx with hx|hx
   exact ih.no k hk ht x hx;rw [List.mem_singleton.1 hx];exact fun e=>zuu (h.ky _ (Ab (getD_some (d:=zR) hk))) e.symm
   show wtL l (q.out++[_])+q.left=_
   rw [zr3];have:wtG l ⟨(S.getD i zbI).Key,[]⟩=0:=if_pos rfl;rw [this];omega;rw [if_neg h1];have hstep:=zz7 (fit:=zhf l S) (w:=wrL l) (n:=l.length) (N:=S.length) (T:=tkF q.T) (fr:=i) (by omega)
   rcases hstep with e|⟨k0,k1,k2,k3,k4⟩
   exact absurd (e.trans hleft.symm) h1;have hex:zhP l S q.T q.left i k0=true:=by
    unfold zhP;rw [k2,k3];simp only [Ck,Bool.and_self,Bool.true_and,decide_eq_true_eq];unfold zhi;rw [zzc (by omega),k4,hleft]
   cases hc:chF l S q.T q.left i with
   |none=>
     have:=List.find?_eq_none.1 hc k0 (List.mem_range.2 k1);exact absurd hex this
   |some k=>
     have hkm:k<l.length:=List.mem_range.1 (Bc hc);have hkq:=List.find?_some hc;unfold zhP at hkq;simp only [A5,B0,decide_eq_true_eq] at hkq;obtain ⟨⟨c1,c2⟩,c3⟩:=hkq;have hky:(l.getD k zR).Player≠[]:=zuu (h.ky _ (Ab (getD_some (d:=zR) hkm)));have hsc:=zBJ h hkm;refine ⟨by rw [List.length_set];exact htl,c3.symm,zwq ih.fo rfl (fun _=>⟨?_,_,hsc,c2⟩),fun k' hk' ht x hx=> ?_,?_⟩
     rw [BH]
     intro x hx e
     exact ih.no k hkm c1 x hx (by simpa using e);rw [zzc (by omega)] at ht;unfold znx at ht
     by_cases e:k'=k
     rw [if_pos e] at ht;cases ht;rw [if_neg e] at ht
     rcases List.mem_append.1 hx with hx|hx
     exact ih.no k' hk' ht x hx;rw [List.mem_singleton.1 hx]
     intro e2
     have a1:=zjG h.so hsc;have a2:=zjG h.so (zBJ h hk');dsimp only at e2;rw [e2] at a1;have a3:l[k']? =some (l.getD k' zR):=getD_some hk';have a4:l[k]? =some (l.getD k zR):=getD_some hkm;have hnd:=ztj h.so;have a5:(l.map (·.Player))[k']? =some (l.getD k' zR).Player:=by rw [Ag,a3];rfl
     have a6:(l.map (·.Player))[k]? =some (l.getD k zR).Player:=by rw [Ag,a4];rfl
     rw [e2] at a6
     rcases Nat.lt_or_gt_of_ne e with o|o
     have:=h.so.get o a5 a6;rw [zac] at this;cases this;have:=h.so.get o a6 a5;rw [zac] at this;cases this
     show wtL l (q.out++[_])+(q.left-wrL l k)=_
     rw [zr3];have e1:wtG l ⟨(S.getD i zbI).Key,(l.getD k zR).Player⟩=wrL l k:=by
      unfold wtG;rw [if_neg hky];unfold zls;rw [hsc];rfl
     rw [e1];omega
def muF (l:List ScorerS) (f:List FillS) (i:Nat):Option Nat:=
 match f[i]? with
 |none=>none
 |some x=>if x.Player=[] then none else some (zbF (l.map (·.Player)) x.Player)
theorem zrN {l:List ScorerS} {f:List FillS} {i q:Nat} (h:muF l f i=some q): ∃x,f[i]? =some x/\x.Player≠[]/\zbF (l.map (·.Player)) x.Player=q:=by
 unfold muF at h
 cases e:f[i]? with
 |none=>rw [e] at h;cases h
 |some x=>
   rw [e] at h;dsimp only at h
   by_cases c:x.Player=[]
   rw [if_pos c] at h;cases h;rw [if_neg c] at h;cases h;exact ⟨x,rfl,c,rfl⟩
theorem zyJ {l:List ScorerS} (h:ScoOk l) {S:List SlotS} {n:Nat} {f:List FillS} (hf:FillOk l S n f): ∀m,m<=n->vlG (wrL l) (muF l f) m=wtL l (f.take m)
 |0,_=>rfl
 |m+1,hm=>by
   have hl:=hf.len;have hx:f[m]? =some (f[m]'(by omega)):=Aa (by omega);rw [vlG,zyJ h hf m (by omega),z6 hx,zr3]
   congr 1
   unfold muF wtG;rw [hx]
   dsimp only
   split
   rfl
   rename_i c
   obtain ⟨_,y,hy,_⟩:=hf.who m _ hx c;obtain ⟨_,h2⟩:=zjG h.so hy
   show wrL l _=_
   unfold wrL zls;rw [hy,Ae,h2];rfl
theorem zC3 {l:List ScorerS} (h:ScoOk l) {S:List SlotS} {f:List FillS} (hf:FillOk l S S.length f):wtL l f<=zhi l S (List.replicate l.length false) 0:=by
 have hl:=hf.len;have h1:=zos (fit:=zhf l S) (w:=wrL l) (n:=l.length) (N:=S.length) (T:=tkF (List.replicate l.length false)) (fr:=0) (μ:=muF l f) (fun i q hq=>by
  obtain ⟨x,hx,hp,rfl⟩:=zrN hq;obtain ⟨_,y,hy,hc⟩:=hf.who i x hx hp;obtain ⟨_,h2⟩:=zjG h.so hy;have:=zn hx;refine ⟨by omega,zn h2,zDH _ _,?_⟩
  show zhQ (l.getD _ zR).Positions (S.getD (0+i) zbI).Positions=true
  rw [Bi,Ae (l:=l),h2];exact hc) (fun i j q hi hj=>by
  obtain ⟨x,hx,hp,e1⟩:=zrN hi;obtain ⟨y,hy,hp',e2⟩:=zrN hj;obtain ⟨n1,a,ha,_⟩:=hf.who i x hx hp;obtain ⟨n2,c,hc,_⟩:=hf.who j y hy hp';obtain ⟨_,g1⟩:=zjG h.so ha;obtain ⟨_,g2⟩:=zjG h.so hc;rw [e1] at g1;rw [e2,g1] at g2
  cases g2
  have en:x.Player=y.Player:=(zgT ha).2.symm.trans (zgT hc).2
  rcases BJ i j with o|o|o
  exfalso
  have:=List.any_eq_false.1 n2 x (Ab (i:=i) (by rw [AC o];exact hx))
  simp [en] at this
  exact o
  exfalso
  have:=List.any_eq_false.1 n1 y (Ab (i:=j) (by rw [AC o];exact hy))
  simp [en] at this)
 rw [CA,zyJ h hf S.length (Af _),AZ (by omega)] at h1;exact h1
theorem zvg {l:List ScorerS}: ∀f:List FillS,64*sfL l f []-f.length<=wtL l f/\wtL l f<=64*sfL l f []
 |[]=>by simp [sfL,wtL]
 |x::r=>by
   have ih:=zvg (l:=l) r;unfold sfL wtL at ih⊢;rw [Au,List.sum_cons,Au,List.sum_cons,Ai];have e:64*ziC l [] x-1<=wtG l x/\wtG l x<=64*ziC l [] x:=by
    unfold ziC wtG
    split
    omega
    omega
   omega
theorem zxY {l:List ScorerS} (h:ScoOk l) {S:List SlotS} (hS:S.length<=12) {f:List FillS} (hf:FillOk l S S.length f):sfL l f []<=sfL l (zil l S) []:=by
 have hb:=zlF h S S.length (Af _);have h1:=hb.sum;have h2:(zgz l S S.length).left=0:=hb.left.trans zCs;have h3:=zC3 h hf;have h4:=(zvg (l:=l) f).1;have h5:=(zvg (l:=l) (zil l S)).2;have h6:=hf.len;unfold zil at h5⊢
 omega
end
end Go.HL
namespace Go.Proofs.YtbmggbfabohegaaGreatDoor
set_option maxRecDepth 100000
set_option linter.unusedVariables false
set_option linter.unusedSimpArgs false
section
open Go.Proofs.Tryz
open Go.HL
theorem zpJ [Tracks] {x:ScorerS} {s:Str}:ConP prog 156 [za6 x,.vptr [.str s] 0] (.bool (x.Player==s)):=by
 refine uOb func156 ntmps156 ?_;refine zdb ?_;refine zw rfl ?_
 rfl
theorem zrp [Tracks] {S:List SlotS} {l:List ScorerS} {c:Option ChoiceS} (hS:S.length<=1000000) (hsp: ∀x∈S,x.Positions.length<=1000000) (hl:l.length<=1000000) (hlp: ∀x∈l,x.Positions.length<=1000000) (hcl: ∀c0,c=some c0->c0.Players.length=S.length):ConP prog 74 [zbB S,za3 l,pCh c] (zhR (zcY l c S S.length)):=by
 refine uOb func74 ntmps74 ?_;refine gz6 ?_;refine ze (zN 2) ?_;refine gz1 ?_;refine de rfl (zaG fun m14=> ?_)
 refine gz9 ?_;refine uV2 [7,1,9,5,17,47] (fun (k:Nat) (u:Value)=>[(17,.int .i64 k),(7,.raw u)]) (fun (k:Nat) (u:Value)=>[.arr u 2 ((zcY l c S k).map zaF),.map m14 (sk (zaU (zb2 l c S k).2))]) (fun (k:Nat) (u:Value)=>k<=S.length/\(True)) (fun (k:Nat) (u:Value)=>S.length-k) (0) (.slice none 0 0) ?_ ?_ ?_ ?_;exact ⟨Ad _,trivial⟩;exact ⟨rfl,rfl,trivial⟩;exact uP
 intro k u hinv
 obtain ⟨hk,-⟩:=hinv;refine gz4 ?_;refine uCo (fun h1=> ?_) fun h2=> ?_
 obtain ⟨x,hx⟩: ∃x,S[k]? =some x:=⟨_,Aa h1⟩
 have hdx:=zi hx;have hx0:=hx;have hxl:=zn hx;have hsk:S.getD k zbI=x:=by rw [Ae,hx];rfl
 refine gz8 ?_;refine de rfl (zj zce rfl fun b10=> ?_)
 refine gz1 ?_;refine de0 (zp zce rfl rfl rfl rfl rfl ?_)
 refine gz1 ?_;refine ze (zk 10 rfl) ?_;refine gz1 ?_;refine dq ((by first|exact zg zce rfl ty9 (by decide) rfl|exact zd zce rfl ty9 (by decide) rfl)) ?_;refine gz1 ?_;refine dq (zF (cs:=[_,_]) zca pl71 rfl) ?_;refine de rfl (zj zca rfl fun b11=> ?_)
 focus first
 |refine de0 (uY 0 ?_)
 |refine de0 (uY 1 ?_)
 |refine de0 (uY 2 ?_)
 |refine de0 (uY 3 ?_)
 refine gz4 ?_;refine dq (zwf (o:=c.map fun c=>zb (zam c)) zjI rfl rfl) ?_;refine gz1 ?_;refine uCo (fun h3=> ?_) fun h4=> ?_
 obtain ⟨c0,hc0⟩: ∃c0,c=some c0:=by
  cases c with
  |none=>simp_all
  |some c0=>exact ⟨c0,rfl⟩
 subst hc0;have hcn:=hcl c0 rfl;refine gz2 ?_;refine dq ((by first|exact zu rfl|exact zl rfl)) ?_;refine dq ((by first|exact zg zeo rfl zq (by decide) rfl|exact zd zeo rfl zq (by decide) rfl)) ?_;refine dq (zO (h:=eSs c0.Players) zq rfl rfl rfl) ?_;refine gz1 ?_;refine dq (zy (f:=HVal.str) (l:=c0.Players) (j:=k) (a:=zgK c0 k) zq ty9 rfl rfl rfl (getD_some uO)) ?_;refine gz1 ?_;refine de rfl (zj ty9 rfl fun b12=> ?_)
 refine de0 (zp ty9 rfl rfl rfl rfl rfl ?_)
 refine gz1 ?_;refine ze (zk 12 rfl) ?_;refine gz3 ?_;refine dq (uCl ca36 rfl (zcD (l:=l) (p:=fun x=>x.Player==zgK c0 k) zEu (fun _=>zpJ) hl)) ?_;refine gz2 ?_;obtain ⟨z,i0,hz1,hz2,hz3⟩:=zzP l (zgK c0 k);rw [hz1];refine zbT (fun M=>M=[.cells b11 [.str x.Key,.str []],.arr u 2 ((zcY l (some c0) S k).map zaF),.map m14 (sk (zaU (zb2 l (some c0) S k).2))]) [5] mixed ?_;refine gz5 ?_;refine zpB 5 rfl rfl (by kernel_rfl) (by kernel_rfl) (by simp) rfl rfl (fun hc=>⟨_,OpenTo.upd (t:=41) rfl uC (OpenTo.upd (t:=40) rfl uC (OpenTo.refl _)),fun M hM=>by
  subst hM;exact zrF (i:=2) ziK ty9 ty4 rfl rfl rfl ⟨rfl,rfl⟩
  ⟩) ?_
 refine gz5 ?_;refine ahg 11 rfl rfl (by kernel_rfl) (by kernel_rfl) rfl (fun hc=>by
  have hq:0<=z:=by (have q:=hc;simp at q;omega)
  exact ⟨_,OpenTo.upd (t:=47) rfl uC (OpenTo.upd (t:=46) rfl uC (OpenTo.refl _)),zy (f:=za6) (l:=l) (j:=i0) (a:=l.getD i0 zR) zcm zde rfl (by rw [<-(hz2 hq).1];rfl) rfl (hz2 hq).2.1⟩) ?_
 refine uGy 12 rfl rfl (fun hc=>(by first|exact zg zde rfl zq (by decide) rfl|exact zd zde rfl zq (by decide) rfl)) ?_;refine uGy 13 rfl rfl (fun hc=>zO (h:=eSs (l.getD i0 zR).Positions) zq rfl rfl rfl) ?_;refine uGy 14 rfl rfl (fun hc=>(by first|exact zg zce rfl zq (by decide) rfl|exact zd zce rfl zq (by decide) rfl)) ?_;refine uGy 15 rfl rfl (fun hc=>zO (h:=eSs x.Positions) zq rfl rfl rfl) ?_;refine ahg 16 rfl rfl (by kernel_rfl) (by kernel_rfl) rfl (fun hc=>by
  have hq:0<=z:=by (have q:=hc;simp at q;omega)
  exact ⟨_,OpenTo.upd (t:=52) rfl uC (OpenTo.upd (t:=50) rfl uC (OpenTo.refl _)),uCl zto rfl (zgV (a:=(l.getD i0 zR).Positions) (b:=x.Positions) (hlp _ (Ab (hz2 hq).2.1)) (hsp x (Ab hx0)))⟩) ?_
 refine gz2 ?_;refine uCo (fun h5=> ?_) fun h6=> ?_
 refine zia mixed ?_;refine gz4 ?_;refine uF 4 ?_
 focus first
 |refine zD (uY 0 ?_)
 |refine zD (uY 1 ?_)
 |refine zD (uY 2 ?_)
 |refine zD (uY 3 ?_)
 refine ⟨uE,?_⟩
 refine uF 5 ?_
 focus first
 |refine zD (zcX (i:=0) ziK ty9 rfl rfl rfl rfl ?_)
 |refine zD (zcX (i:=1) ziK ty9 rfl rfl rfl rfl ?_)
 |refine zD (zcX (i:=2) ziK ty9 rfl rfl rfl rfl ?_)
 |refine zD (zcX (i:=3) ziK ty9 rfl rfl rfl rfl ?_)
 refine ⟨uE,?_⟩
 refine gz2 ?_
 focus first
 |refine ze (Ghost.perm (M':=[.cells b11 (zb (zaF ⟨x.Key,zgK c0 k⟩)),.arr u 2 ((zcY l (some c0) S k).map zaF),.map m14 (sk (zaU (zb8 (zgK c0 k) (zb2 l (some c0) S k).2)))]) (zm rfl)) ?_
 |refine ze (Ghost.perm (M':=[.cells b11 (zb (zaF ⟨x.Key,[]⟩)),.arr u 2 ((zcY l (some c0) S k).map zaF),.map m14 (sk (zaU (zb2 l (some c0) S k).2))]) (zm rfl)) ?_
 |refine ze (Ghost.perm (M':=[.cells b11 (zb (zaF ⟨x.Key,[]⟩)),.arr u 2 ((zcY l c S k).map zaF),.map m14 (sk (zaU (zb2 l c S k).2))]) (zm rfl)) ?_
 refine ze (zbr 11 (i:=0) rfl rfl) ?_
 first|have hfn:=zf2 l (some c0) S k|have hfn:=zf2 l c S k
 refine gz3 ?_;refine dq (za (hs:=[_]) zgf zca rfl rfl (by decide) (by decide) rfl) ?_;refine de rfl (zK (i:=0) zgf zca rfl rfl rfl rfl rfl (by simp [zar,zb]) (by simp only [Ah,Ai,AB];omega) fun v62=> ?_)
 refine gz8 ?_;have hyes:=zrG (l:=l) (c:=some c0) (S:=S) (n:=k) (by rw [zwb hz2 hz3,hsk];clear hz2 hz3 hz1 hsp hlp hcl;simp_all);exact ⟨k+1,v62,⟨by omega,trivial⟩,uD,⟨rfl,rfl,trivial⟩,uK,zm (by dsimp only;unfold zcY;rw [hyes,hsk];simp only [Az];try rfl)⟩;refine gz2 ?_
 focus first
 |refine ze (Ghost.perm (M':=[.cells b11 (zb (zaF ⟨x.Key,zgK c0 k⟩)),.arr u 2 ((zcY l (some c0) S k).map zaF),.map m14 (sk (zaU (zb8 (zgK c0 k) (zb2 l (some c0) S k).2)))]) (zm rfl)) ?_
 |refine ze (Ghost.perm (M':=[.cells b11 (zb (zaF ⟨x.Key,[]⟩)),.arr u 2 ((zcY l (some c0) S k).map zaF),.map m14 (sk (zaU (zb2 l (some c0) S k).2))]) (zm rfl)) ?_
 |refine ze (Ghost.perm (M':=[.cells b11 (zb (zaF ⟨x.Key,[]⟩)),.arr u 2 ((zcY l c S k).map zaF),.map m14 (sk (zaU (zb2 l c S k).2))]) (zm rfl)) ?_
 refine ze (zbr 11 (i:=0) rfl rfl) ?_
 first|have hfn:=zf2 l (some c0) S k|have hfn:=zf2 l c S k
 refine gz3 ?_;refine dq (za (hs:=[_]) zgf zca rfl rfl (by decide) (by decide) rfl) ?_;refine de rfl (zK (i:=0) zgf zca rfl rfl rfl rfl rfl (by simp [zar,zb]) (by simp only [Ah,Ai,AB];omega) fun v62=> ?_)
 refine gz8 ?_;have hno:=zqD (l:=l) (c:=some c0) (S:=S) (n:=k) (by rw [zwb hz2 hz3,hsk];clear hz2 hz3 hz1 hsp hlp hcl;simp_all);exact ⟨k+1,v62,⟨by omega,trivial⟩,uD,⟨rfl,rfl,trivial⟩,uK,zm (by dsimp only;unfold zcY;rw [hno,hsk];simp only [Az];try rfl)⟩;refine gz2 ?_
 focus first
 |refine ze (Ghost.perm (M':=[.cells b11 (zb (zaF ⟨x.Key,zgK c0 k⟩)),.arr u 2 ((zcY l (some c0) S k).map zaF),.map m14 (sk (zaU (zb8 (zgK c0 k) (zb2 l (some c0) S k).2)))]) (zm rfl)) ?_
 |refine ze (Ghost.perm (M':=[.cells b11 (zb (zaF ⟨x.Key,[]⟩)),.arr u 2 ((zcY l (some c0) S k).map zaF),.map m14 (sk (zaU (zb2 l (some c0) S k).2))]) (zm rfl)) ?_
 |refine ze (Ghost.perm (M':=[.cells b11 (zb (zaF ⟨x.Key,[]⟩)),.arr u 2 ((zcY l c S k).map zaF),.map m14 (sk (zaU (zb2 l c S k).2))]) (zm rfl)) ?_
 refine ze (zbr 11 (i:=0) rfl rfl) ?_
 first|have hfn:=zf2 l (some c0) S k|have hfn:=zf2 l c S k
 refine gz3 ?_;refine dq (za (hs:=[_]) zgf zca rfl rfl (by decide) (by decide) rfl) ?_;refine de rfl (zK (i:=0) zgf zca rfl rfl rfl rfl rfl (by simp [zar,zb]) (by simp only [Ah,Ai,AB];omega) fun v62=> ?_)
 refine gz8 ?_;have hcn:c=none:=by cases c with|none=>rfl|some c0=>simp_all
 subst hcn;have hno:=zqD (l:=l) (c:=none) (S:=S) (n:=k) rfl;exact ⟨k+1,v62,⟨by omega,trivial⟩,uD,⟨rfl,rfl,trivial⟩,uK,zm (by dsimp only;unfold zcY;rw [hno,hsk];simp only [Az];try rfl)⟩;have hnk:S.length<=k:=by omega
 obtain rfl:k=S.length:=by omega
 refine gz2 ?_;refine zM ?_;refine gz7 ?_;exact zat ((zaJ 6 (i:=0) rfl rfl).trans Ghost.clear) rfl ⟨rfl,rfl⟩
theorem zkz [Tracks] {x:FillS} {o:Option ChoiceS} (hq:o.isSome=true):ConP prog 76 [zaF x,.vptr [pCh o] 0] (.bool (x.Player==(zeK o).Captain)):=by
 refine uOb func76 ntmps76 ?_;refine gz4 ?_;refine uDr mixed ?_;refine gz2 ?_;refine uB 2 rfl (zU (h':= .vptr (zb (zam (zeK o))) 0) (zO (h:=pCh o) zjI rfl rfl rfl) (zpZ hq)) ?_;refine uB 3 rfl ((by first|exact zu rfl|exact zl rfl)) ?_;refine gz6 ?_;refine zw rfl ?_
 rfl
theorem zhu [Tracks] {b:BookS} {n w:Int} {t:Str} (hT:Tracks.on=false) (hb:BookC b) (hX:BookX b) (hwk:zaV w=true) (hnm:zaa n=true) (htm:b.League.Teams.contains t=true):ConP prog 33 [zjw b n,.str t,.int .i64 w] (.tup [za3 (FdL b t w n),zhR (FdF b t w n),.str (FdP b t w n),.int .i64 (fdE b t w n)]):=by
 have hW:=hX.w;have hla:=hb.bb.lea;have hdn: ∀y∈dsL b t w n,(-1000000000000000<=y.Num/\y.Num<=1000000000000000)/\ -1000000000<=y.Den/\y.Den<=1000000000:=zy6 hX.ru (zBC hX hb hwk n)
 have hdp: ∀y∈dsL b t w n,y.Positions.length<=1000000:=zwo hla.po
 have hdl:(dsL b t w n).length<=1000000:=Aq (zo1 b.League (wlL b w n) (zfy b t w)) (by
  have q2:=((zo0 (b:=b.League.Bounds) (n:=zbX b.League w) hW.f.mo).p t).2
  show (rPl (zg2 b.League.Bounds b.Moves (zbX b.League w)) t).length<=1000000
  omega)
 have hsl:=hW.sl;have hwr:1<=w/\w<=60:=by unfold zaV out at hwk;simp at hwk;omega
 refine uOb func33 ntmps33 ?_;refine gz8 ?_;refine dq (zaK (h:=zjw b n) zdf rfl rfl rfl rfl) ?_;refine gz2 ?_;refine dq (uCl ca34 rfl (zhv (b:=b) (n:=n) (w:=w) (t:=t) hT hb hX hwk hnm htm)) ?_;refine zcl ?_;refine uCo (fun h1=> ?_) fun h2=> ?_
 refine gz8 ?_
 focus first
 | (have q1:fdE b t w n=wlE b w n:=zqB (by simpa using h1)
    have q2:fdE b t w n≠0:=by rw [q1];simpa using h1
    refine zch rfl (ze2 (by rw [FdL,if_pos q2];exact zW 5) (by rw [FdF,if_pos q2];exact zW 2) (by rw [FdP,if_pos q2];exact Weak.refl _) (by rw [q1];exact Weak.refl _)))
 | (have q1:fdE b t w n=ziz (dsL b t w n):=zob hz
    have q2:fdE b t w n≠0:=by rw [q1];simpa using h3
    refine zch rfl (ze2 (by rw [FdL,if_pos q2];exact zW 5) (by rw [FdF,if_pos q2];exact zW 2) (by rw [FdP,if_pos q2];exact Weak.refl _) (by rw [q1];exact Weak.refl _)))
 | (refine zw rfl ?_
    rw [FdL,FdF,FdP,if_neg (fun q=>q hfz),if_neg (fun q=>q hfz),if_neg (fun q=>q hfz),hfz]
    focus first
    |(rw [show fdP b t w n=(zeK (fdC b t w n)).Captain from zmB h5];focus first|done|rfl)
    | (rw [show fdP b t w n=[] from zoN h6];focus first|done|rfl))
 refine gz3 ?_;have hz:wlE b w n=0:=by simpa using h2
 rw [znw,if_neg (fun q=>q hz)];refine gz2 ?_;refine dq (uCl ca72 rfl (zhK (l:=dsL b t w n) hdl hdp hdn)) ?_;refine gz6 ?_;refine uCo (fun h3=> ?_) fun h4=> ?_
 refine gz8 ?_
 focus first
 | (have q1:fdE b t w n=wlE b w n:=zqB (by simpa using h1)
    have q2:fdE b t w n≠0:=by rw [q1];simpa using h1
    refine zch rfl (ze2 (by rw [FdL,if_pos q2];exact zW 5) (by rw [FdF,if_pos q2];exact zW 2) (by rw [FdP,if_pos q2];exact Weak.refl _) (by rw [q1];exact Weak.refl _)))
 | (have q1:fdE b t w n=ziz (dsL b t w n):=zob hz
    have q2:fdE b t w n≠0:=by rw [q1];simpa using h3
    refine zch rfl (ze2 (by rw [FdL,if_pos q2];exact zW 5) (by rw [FdF,if_pos q2];exact zW 2) (by rw [FdP,if_pos q2];exact Weak.refl _) (by rw [q1];exact Weak.refl _)))
 | (refine zw rfl ?_
    rw [FdL,FdF,FdP,if_neg (fun q=>q hfz),if_neg (fun q=>q hfz),if_neg (fun q=>q hfz),hfz]
    focus first
    |(rw [show fdP b t w n=(zeK (fdC b t w n)).Captain from zmB h5];focus first|done|rfl)
    | (rw [show fdP b t w n=[] from zoN h6];focus first|done|rfl))
 refine gz2 ?_;have hs0:ziz (dsL b t w n)=0:=by simp_all
 have hfz:fdE b t w n=0:=(zob hz).trans hs0;have hfl:(fdF b t w n).length=b.League.Slots.length:=zf2 (dsL b t w n) (fdC b t w n) b.League.Slots b.League.Slots.length;refine uDr mixed ?_;refine uB 0 rfl (zaK (h:=zjw b n) zdf rfl rfl rfl rfl) ?_;refine gz3 ?_;refine uB 4 rfl (zO (h:= .vptr (zb (zbx b)) 0) zcU rfl rfl rfl) ?_;refine uB 5 rfl ((by first|exact zu rfl|exact zl rfl)) ?_;refine gz2 ?_;refine uB 8 rfl (uCl ca58 rfl (zj8 (b:=b) hla.sta uO)) ?_;refine uB 9 rfl (uCl ca73 rfl (zmp (b:=b) (n:=n) (w:=w) (t:=t) (f:=zbX b.League w) hb.bb.ch)) ?_;refine uF 10 ?_;refine zv rfl (zj zjI rfl fun b10=> ?_)
 refine ⟨uE,?_⟩
 refine uF 11 ?_;refine zD (zp (h:=pCh (fdC b t w n)) zjI rfl rfl (zCy _) (zym _) rfl ?_)
 refine ⟨uE,?_⟩
 refine gz1 ?_;refine ze (zk 10 rfl) ?_;rw [show zb (pCh (fdC b t w n))=[pCh (fdC b t w n)] from zwW _];refine uDr mixed ?_;refine gz1 ?_;refine uB 1 rfl (zO (h:= .vptr (zb (zbx b)) 0) zcU rfl rfl rfl) ?_;refine uB 2 rfl ((by first|exact zu rfl|exact zl rfl)) ?_;refine gz2 ?_;refine uB 5 rfl (zO (h:=zbB b.League.Slots) zbG rfl rfl rfl) ?_;refine gz2 ?_;refine uB 8 rfl (uCl ca74 rfl (zrp (S:=b.League.Slots) (l:=dsL b t w n) (c:=(fdC b t w n)) hla.sl hla.sp hdl hdp (fun c0 e=>zB4 hW e))) ?_;refine gz4 ?_;refine dq (zO (h:=pCh (fdC b t w n)) zjI rfl rfl rfl) ?_;refine dq (zwf (o:=(fdC b t w n).map fun c=>zb (zam c)) zjI rfl rfl) ?_;refine gz1 ?_;refine dg rfl rfl (fun hc=>by
  have hq:(fdC b t w n).isSome=true:=by (have q:=hc;cases hv:(fdC b t w n)<;>simp_all)
  exact ⟨_,OpenTo.refl _,zU (h':= .vptr (zb (zam (zeK (fdC b t w n)))) 0) (zO (h:=pCh (fdC b t w n)) zjI rfl rfl rfl) (zpZ hq)⟩) ?_
 refine uGr rfl (fun hc=>(by first|exact zu rfl|exact zl rfl)) ?_;refine gz7 ?_;refine dg rfl rfl (fun hc=>by
  have hq:(fdC b t w n).isSome=true:=by (have q:=hc;cases hv:(fdC b t w n)<;>simp_all)
  exact ⟨_,OpenTo.upd (t:=56) rfl uC (OpenTo.upd (t:=55) rfl uC (OpenTo.refl _)),uCl ca75 rfl (zcQ (l:=fdF b t w n) (p:=fun x=>x.Player==(zeK (fdC b t w n)).Captain) ca76 (fun _=>zkz hq) uO)⟩) ?_
 refine gz2 ?_;refine uCo (fun h5=> ?_) fun h6=> ?_
 have hq:(fdC b t w n).isSome=true:=by cases hv:(fdC b t w n)<;>simp_all
 refine gz1 ?_;refine dq (zU (h':= .vptr (zb (zam (zeK (fdC b t w n)))) 0) (zO (h:=pCh (fdC b t w n)) zjI rfl rfl rfl) (zpZ hq)) ?_;refine dq ((by first|exact zu rfl|exact zl rfl)) ?_;refine zit ?_
 focus first
 | (have q1:fdE b t w n=wlE b w n:=zqB (by simpa using h1)
    have q2:fdE b t w n≠0:=by rw [q1];simpa using h1
    refine zch rfl (ze2 (by rw [FdL,if_pos q2];exact zW 5) (by rw [FdF,if_pos q2];exact zW 2) (by rw [FdP,if_pos q2];exact Weak.refl _) (by rw [q1];exact Weak.refl _)))
 | (have q1:fdE b t w n=ziz (dsL b t w n):=zob hz
    have q2:fdE b t w n≠0:=by rw [q1];simpa using h3
    refine zch rfl (ze2 (by rw [FdL,if_pos q2];exact zW 5) (by rw [FdF,if_pos q2];exact zW 2) (by rw [FdP,if_pos q2];exact Weak.refl _) (by rw [q1];exact Weak.refl _)))
 | (refine zw rfl ?_
    rw [FdL,FdF,FdP,if_neg (fun q=>q hfz),if_neg (fun q=>q hfz),if_neg (fun q=>q hfz),hfz]
    focus first
    |(rw [show fdP b t w n=(zeK (fdC b t w n)).Captain from zmB h5];focus first|done|rfl)
    | (rw [show fdP b t w n=[] from zoN h6];focus first|done|rfl))
 refine zdb ?_
 focus first
 | (have q1:fdE b t w n=wlE b w n:=zqB (by simpa using h1)
    have q2:fdE b t w n≠0:=by rw [q1];simpa using h1
    refine zch rfl (ze2 (by rw [FdL,if_pos q2];exact zW 5) (by rw [FdF,if_pos q2];exact zW 2) (by rw [FdP,if_pos q2];exact Weak.refl _) (by rw [q1];exact Weak.refl _)))
 | (have q1:fdE b t w n=ziz (dsL b t w n):=zob hz
    have q2:fdE b t w n≠0:=by rw [q1];simpa using h3
    refine zch rfl (ze2 (by rw [FdL,if_pos q2];exact zW 5) (by rw [FdF,if_pos q2];exact zW 2) (by rw [FdP,if_pos q2];exact Weak.refl _) (by rw [q1];exact Weak.refl _)))
 | (refine zw rfl ?_
    rw [FdL,FdF,FdP,if_neg (fun q=>q hfz),if_neg (fun q=>q hfz),if_neg (fun q=>q hfz),hfz]
    focus first
    |(rw [show fdP b t w n=(zeK (fdC b t w n)).Captain from zmB h5];focus first|done|rfl)
    | (rw [show fdP b t w n=[] from zoN h6];focus first|done|rfl))
end
end Go.Proofs.YtbmggbfabohegaaGreatDoor
namespace Go.HL
section
open Go
section
variable {P:Program} {e:Env} {dst:Option Tmp} {ty:TypeId} {pos:String} {af:Array Edge} {g:Option (Nat×Bool)} {M:List MObj} {K:HVal->List MObj->Prop}
theorem zua: ∀{k s:Nat},s.testBit k=true->zcE s k<s
 |0,s,h=>by
   rw [B7] at h;have h0:s%2=1:=by simpa using h
   have h1:(s^^^2^0)/2=s/2:=by rw [Nat.xor_div_two];simp
   have h2: ¬(s^^^2^0)%2=1:=by
    have q:=zrD (s:=s) (i:=0) (by rw [B7];exact h);rw [B7] at q
    simpa using q
   unfold zcE;have e:(2:Nat)^0=1:=rfl;rw [e] at h1 h2⊢
   omega
 |k+1,s,h=>by
   rw [Nat.testBit_succ] at h;have ih:=zua h;have e:(2:Nat)^(k+1)=2*2^k:=by rw [Nat.pow_succ,BC]
   have h1:(s^^^2^(k+1))/2=zcE (s/2) k:=by
    rw [Nat.xor_div_two,e,Nat.mul_div_cancel_left _ (by decide)]
   have h2:(s^^^2^(k+1))%2=1↔s%2=1:=by simp
   rw [e] at h1 h2
   show s^^^2^(k+1)<s
   rw [e]
   omega
theorem zCv {s k:Nat} (hs:s<2^62) (hk:k<=61) (h:s.testBit k=true):s&&&(2^64-1-2^k)=zcE s k:=by
 have hp:2^k<=2^61:=BM (by omega) hk;refine Nat.eq_of_testBit_eq fun j=> ?_
 rw [Nat.testBit_and,show 2^64-1-2^k=2^64-(2^k+1) by omega,Nat.testBit_two_pow_sub_succ (by omega),Nat.testBit_two_pow]
 by_cases hj:j=k
 subst hj;rw [zrD h,decide_eq_true (rfl:j=j)];simp;rw [zoP hj,decide_eq_false (p:=k=j) (fun q=>hj q.symm)]
 by_cases h64:j<64
 rw [decide_eq_true h64];simp;have:s.testBit j=false:=Nat.testBit_lt_two_pow (Nat.lt_of_lt_of_le hs (BM (by omega) (by omega)));rw [this];rfl
theorem zAj [Tracks] {x y:Operand} {t t':TypeId} {s k:Nat} (hx:zh e x=some (.int .i64 (s:Int))) (hy:zh e y=some (.int .i64 ((2^k:Nat):Int))) (hs:s<2^62) (hk:k<=61) (h:s.testBit k=true):
 POp P e ⟨dst,.binOp .andNot t x y t',ty,pos,af,g⟩ (.int .i64 ((zcE s k:Nat):Int)):=
 zB fun I a w ho=>⟨.int .i64 ((zcE s k:Nat):Int),by
  have g1:=(ho.one (x:=x) (by simp [Op.operands]) hx).int_inv;have g2:=(ho.one (x:=y) (by simp [Op.operands]) hy).int_inv;have hp:2^k<2^62:=Nat.lt_of_le_of_lt (BM (by omega) hk) (by decide);have g3:(BitVec.ofInt IntKind.i64.bits (s:Int)&&& ~~~(BitVec.ofInt IntKind.i64.bits ((2^k:Nat):Int))).toNat=zcE s k:=by
   show (BitVec.ofInt 64 (s:Int)&&& ~~~(BitVec.ofInt 64 ((2^k:Nat):Int))).toNat=zcE s k
   rw [BitVec.toNat_and,BitVec.toNat_not];have h2: ∀z:Nat,z<2^62->(BitVec.ofInt 64 (z:Int)).toNat=z:=fun z hz=>by
    rw [BitVec.toNat_ofInt];have:((z:Int)%((2^64:Nat):Int))=(z:Int):=Int.emod_eq_of_lt (by omega) (by omega);rw [this];rfl
   rw [h2 s hs,h2 _ hp];exact zCv hs hk h
  have hc:=zua h;have g4:=zp6 (n:=zcE s k) (by omega);simp only [execOp,g1,g2,eqGuard,binOp,Op.intBits,g3,g4]
  rfl,.int _ _⟩
theorem zBS {s k:Nat}:decide (((s/2^k%2:Nat):Int)=1)=s.testBit k:=by
 rw [Nat.testBit_eq_decide_div_mod_eq];have:s/2^k%2=0\/s/2^k%2=1:=by omega
 rcases this with h|h<;>simp [h]
/-! lists of the values of a function-/
def zcA (n:Nat) (f:Nat->Int):List Int:=(List.range n).map f
theorem zrW (n:Nat) (f:Nat->Int):(zcA n f).length=n:=by unfold zcA;simp
theorem zl1 {n:Nat} {f:Nat->Int} {k:Nat} (h:k<n):(zcA n f)[k]? =some (f k):=by
 unfold zcA;rw [Ag,Bm h];rfl
theorem zjQ {n:Nat} {f h:Nat->Int} (e: ∀k,k<n->f k=h k):zcA n f=zcA n h:=by
 unfold zcA;exact Cc fun k hk=>e k (List.mem_range.1 hk)
theorem zCR {n:Nat} {f:Nat->Int} {k:Nat} {v:Int}:(zcA n f).set k v=zcA n (fun s=>if s=k then v else f s):=by
 refine Bl fun j=> ?_
 rw [Bz,zrW]
 by_cases hj:j<n
 rw [zl1 hj,zl1 hj]
 by_cases e:k=j
 rw [if_pos e,if_pos (by omega),if_pos e.symm];rw [if_neg e,if_neg (fun q=>e q.symm)];rw [Ax (by rw [zrW];omega),Ax (by rw [zrW];omega)]
 split
 rw [if_neg (by omega)]
 rfl
end
end
section
open Go Op
theorem zz4 {n m:Int}:(if m>n then m else n)=max n m:=by split<;>omega
theorem zuU {D:Nat->Int} {x B C:Int} {ok:Nat->Bool} {s:Nat} (hx:x<=B) (hB:0<=B) (hD: ∀s,0<=D s/\D s<=C): ∀m,0<=zew D x ok s m/\zew D x ok s m<=C+B
 |0=>by have:=hD s;rw [zew];omega
 |m+1=>by
   have ih:=zuU (ok:=ok) (s:=s) hx hB hD m;have:=hD (zcE s m);rw [zew]
   split<;>omega
theorem zBx {fit:Nat->Nat->Bool} {w:Nat->Int} {T:Nat->Bool} {fr m:Nat} {B:Int} (hw: ∀q,w q<=B) (hB:0<=B): ∀k s,0<=dpG fit w T fr m k s/\dpG fit w T fr m k s<=B*k
 |0,s=>by rw [dpG];simp
 |k+1,s=>by
   have ih:=zBx (fit:=fit) (T:=T) (fr:=fr) (m:=m) hw hB k;have e:B*((k+1:Nat):Int)=B*k+B:=by rw [Int.natCast_add,Int.mul_add];simp
   rw [dpG,e]
   split
   have:=ih s;omega;exact zuU (hw k) hB ih m
theorem ztK {l:List ScorerS} (h:ScoOk l) (q:Nat): -64000001<=wrL l q/\wrL l q<=64000000:=by
 unfold wrL
 by_cases hq:q<l.length
 have:=h.w _ (Ab (getD_some (d:=zR) hq));omega;rw [Ae,Ax (by omega)]
 decide
abbrev dpS (l:List ScorerS) (S:List SlotS) (T:List Bool) (fr m k:Nat):Nat->Int:=dpG (zhf l S) (wrL l) (tkF T) fr m k
abbrev prS (l:List ScorerS) (S:List SlotS) (T:List Bool) (fr m k c i:Nat):Int:=zew (dpS l S T fr m k) (wrL l k) (fun i=>zhf l S k (fr+i)) c i
theorem zuj {l:List ScorerS} (h:ScoOk l) {S:List SlotS} {T:List Bool} {fr m k:Nat} (hk:k<=20) (s:Nat):0<=dpS l S T fr m k s/\dpS l S T fr m k s<=1280000000:=by
 have:=zBx (fit:=zhf l S) (T:=tkF T) (fr:=fr) (m:=m) (B:=64000000) (fun q=>(ztK h q).2) (by decide) k s;unfold dpS;omega
theorem zDG {l:List ScorerS} (h:ScoOk l) {S:List SlotS} {T:List Bool} {fr m k:Nat} (hk:k<=20) (c i:Nat):0<=prS l S T fr m k c i/\prS l S T fr m k c i<=1344000000:=by
 have:=zuU (x:=wrL l k) (ok:=fun i=>zhf l S k (fr+i)) (s:=c) (ztK h k).2 (by decide) (fun s=>zuj (S:=S) (T:=T) (fr:=fr) (m:=m) h hk s) i;unfold prS;omega
theorem zye {l:List ScorerS} {S:List SlotS} {T:List Bool} {fr m k:Nat} (h:T.getD k false=true):dpS l S T fr m (k+1)=dpS l S T fr m k:=by
 funext s
 unfold dpS;rw [dpG,if_pos h]
theorem zuk {l:List ScorerS} {S:List SlotS} {T:List Bool} {fr m k:Nat} (h:T.getD k false=false) (s:Nat):dpS l S T fr m (k+1) s=prS l S T fr m k s m:=by
 unfold dpS;rw [dpG,if_neg (by unfold tkF;rw [h];simp)]
theorem zB2 (l:List ScorerS) (S:List SlotS) (T:List Bool) (fr m n:Nat):List.replicate n (HVal.int .i64 0)=(zcA n (dpS l S T fr m 0)).map (HVal.int .i64):=by
 unfold zcA;rw [AY];refine Bl fun j=> ?_
 by_cases h:j<n
 rw [Cn,if_pos h,Ag,Bm h];rfl;rw [Cn,if_neg h,Ax (by simpa using h)]
def zmU (l:List ScorerS) (S:List SlotS) (T:List Bool) (fr m k c:Nat):Nat->Int:=fun s=>if c<s then dpS l S T fr m (k+1) s else dpS l S T fr m k s
def zfz (l:List ScorerS) (S:List SlotS) (T:List Bool) (fr m k c i:Nat):Nat->Int:=fun s=>if c<s then dpS l S T fr m (k+1) s else if s=c then prS l S T fr m k c i else dpS l S T fr m k s
theorem zAC (l:List ScorerS) (S:List SlotS) (T:List Bool) (fr m k n:Nat):zcA n (zmU l S T fr m k (n-1))=zcA n (dpS l S T fr m k):=
 zjQ fun s hs=>by unfold zmU;rw [if_neg (by omega)]
theorem zAB (l:List ScorerS) (S:List SlotS) (T:List Bool) (fr m k n:Nat) (h:T.getD k false=false):zcA n (zmU l S T fr m k 0)=zcA n (dpS l S T fr m (k+1)):=
 zjQ fun s _=>by
  unfold zmU
  by_cases hs:0<s
  rw [if_pos hs];rw [if_neg hs];have:s=0:=by omega
  subst this;rw [zuk h];have key: ∀i,prS l S T fr m k 0 i=dpS l S T fr m k 0:=fun i=>by
   induction i with
   |zero=>rfl
   |succ i ih=>
     unfold prS at ih⊢;rw [zew,if_neg (by simp),ih]
  exact (key m).symm
theorem zy2 (l:List ScorerS) (S:List SlotS) (T:List Bool) (fr m k c n:Nat):zcA n (zfz l S T fr m k c 0)=zcA n (zmU l S T fr m k c):=
 zjQ fun s _=>by
  unfold zfz zmU
  split
  rfl
  split
  rename_i e;subst e;rfl
  rfl
theorem zAD {l:List ScorerS} {S:List SlotS} {T:List Bool} {fr m k c n:Nat} (h:T.getD k false=false) (hc:0<c):zcA n (zfz l S T fr m k c m)=zcA n (zmU l S T fr m k (c-1)):=
 zjQ fun s _=>by
  unfold zfz zmU
  by_cases h1:c<s
  rw [if_pos h1,if_pos (by omega)];rw [if_neg h1]
  by_cases h2:s=c
  subst h2;rw [if_pos rfl,if_pos (by omega),zuk h];rw [if_neg h2,if_neg (by omega)]
theorem zwk {l:List ScorerS} {S:List SlotS} {T:List Bool} {fr m k c i:Nat}:zfz l S T fr m k c i c=prS l S T fr m k c i:=by
 unfold zfz;rw [if_neg (by omega),if_pos rfl]
theorem zAE {l:List ScorerS} {S:List SlotS} {T:List Bool} {fr m k c i s:Nat} (h:s<c):zfz l S T fr m k c i s=dpS l S T fr m k s:=by
 unfold zfz;rw [if_neg (by omega),if_neg (by omega)]
theorem zAF {l:List ScorerS} {S:List SlotS} {T:List Bool} {fr m k c i n:Nat} (hb:c.testBit i=true) (hf:zhf l S k (fr+i)=true):
 (zcA n (zfz l S T fr m k c i)).set c (max (prS l S T fr m k c i) (dpS l S T fr m k (zcE c i)+wrL l k))=zcA n (zfz l S T fr m k c (i+1)):=by
 rw [zCR];refine zjQ fun s _=> ?_
 by_cases h:s=c
 subst h;rw [if_pos rfl,zwk];unfold prS;rw [zew,if_pos ⟨hb,hf⟩];rw [if_neg h];unfold zfz;rw [if_neg h,if_neg h]
theorem zCT {l:List ScorerS} {S:List SlotS} {T:List Bool} {fr m k c i n:Nat} (h: ¬(c.testBit i=true/\zhf l S k (fr+i)=true)):zcA n (zfz l S T fr m k c i)=zcA n (zfz l S T fr m k c (i+1)):=by
 refine zjQ fun s _=> ?_
 unfold zfz prS;rw [zew,if_neg h]
theorem zGr {m:Nat} (h:m<=12):1<=2^m/\2^m<=4096:=⟨Nat.one_le_two_pow,BM (by omega) h⟩
/-! the search-/
theorem zzv {l:List ScorerS} {S:List SlotS} {T:List Bool} {left:Int} {i j:Nat} (hj:j<l.length) (h1: ∀r,r<j->zhP l S T left i r=false) (h2:zhP l S T left i j=true):chF l S T left i=some j:=by
 unfold chF;rw [BX];refine ⟨h2,j,by simpa using hj,by simp,fun r hr=> ?_⟩
 have:=h1 r hr
 simpa using this
theorem zzu {l:List ScorerS} {S:List SlotS} {T:List Bool} {left:Int} {i:Nat} (h1: ∀r,r<l.length->zhP l S T left i r=false):chF l S T left i=none:=by
 unfold chF;rw [Ci]
 intro r hr
 have:=h1 r (List.mem_range.1 hr)
 simp [this]
theorem zv9 {p:Nat->Bool} {j:Nat} (h: ∀r,r<j->p r=false) (h2:p j=false): ∀r,r<j+1->p r=false:=fun r hr=>by
 by_cases e:r=j
 rw [e];exact h2;exact h r (by omega)
theorem zC9 {l:List ScorerS} {S:List SlotS} {T:List Bool} {left:Int} {i j:Nat} (h:T[j]?.getD false=true\/zhf l S j i=false):zhP l S T left i j=false:=by
 unfold zhP tkF;rw [Ae]
 rcases h with h|h
 rw [h];rfl;rw [h];simp
theorem zC8 {l:List ScorerS} {S:List SlotS} {T:List Bool} {left:Int} {i j:Nat} (h: ¬zhi l S (T.set j true) (i+1)=left-wrL l j):zhP l S T left i j=false:=by
 unfold zhP;rw [decide_eq_false h,Bool.and_false]
theorem zBW {l:List ScorerS} {S:List SlotS} {T:List Bool} {left:Int} {i j:Nat} (h1:T.getD j false=false) (h2:zhf l S j i=true) (h:zhi l S (T.set j true) (i+1)=left-wrL l j):zhP l S T left i j=true:=by
 unfold zhP tkF;rw [h1,h2,decide_eq_true h];rfl
theorem zsK {A B:MObj} {v:Value} {T:List Bool} {j:Nat} (h:T.getD j false=false):[A,B,.arr v 1 (((T.set j true).map HVal.bool).set j (.bool false))]=[A,B,.arr v 1 (T.map HVal.bool)]:=by
 rw [<-B3,zAH h]
theorem zDw {l:List ScorerS} (h:ScoOk l) (S:List SlotS) (T:List Bool) (i:Nat):0<=zhi l S T i/\zhi l S T i<=1280000000:=by
 unfold zhi zh2;exact zuj (S:=S) (T:=T) (fr:=i) (m:=S.length-i) h h.len _
theorem zzl {l:List ScorerS} (h:ScoOk l) (S:List SlotS) (i:Nat) (hi:i<=S.length):0<=(zgz l S i).left/\(zgz l S i).left<=1280000000:=by
 rw [(zlF h S i hi).left];exact zDw h S _ _
/-! what a team missed-/
def TfE (b:BookS) (t:Str) (w n:Int):Int:=if zc7 b t w n≠0 then zc7 b t w n else fdE b t w n
def TfF (b:BookS) (t:Str) (w n:Int):List FillS:=if zc7 b t w n≠0 then [] else FdF b t w n
def TfP (b:BookS) (t:Str) (w n:Int):Str:=if zc7 b t w n≠0 then [] else FdP b t w n
def TsE (b:BookS) (t:Str) (w n:Int):Int:=if zc7 b t w n≠0 then zc7 b t w n else wlE b w n
def TsL (b:BookS) (t:Str) (w n:Int):List ScorerS:=if zc7 b t w n≠0 then [] else znw b t w n
def msV (b:BookS) (t:Str) (w n:Int):Int:=sfL (dsL b t w n) (zil (dsL b t w n) b.League.Slots) []-sfL (dsL b t w n) (fdF b t w n) []
def TmF (b:BookS) (t:Str) (w n:Int):FracS:=if TfE b t w n≠0 then ⟨0,0⟩ else ofH (msV b t w n)
theorem zxJ {b:BookS} {t:Str} {w n:Int} (h:TfE b t w n=0):zc7 b t w n=0/\fdE b t w n=0:=by
 unfold TfE at h
 split at h
 rename_i q;exact absurd h q
 rename_i q;exact ⟨Decidable.not_not.1 q,h⟩
theorem zDA {n:Int} (h:0<=n):0<=(ofH n).Num:=by
 obtain ⟨g,hg,e,_⟩:=zwa n;refine Decidable.not_not.1 fun hn=> ?_
 have h1:(ofH n).Num*g<0:=Int.mul_neg_of_neg_of_pos (by omega) (by omega)
 omega
theorem zF7 {b:BookS} {t:Str} {w n:Int} (hb:BookW b) (h:fdE b t w n=0):0<=msV b t w n:=by
 obtain ⟨_,_,hs⟩:=zqC h;have h:sfL (dsL b t w n) (fdF b t w n) []<=sfL (dsL b t w n) (zil (dsL b t w n) b.League.Slots) []:=zxY hs (S:=b.League.Slots) hb.sl (zuo hs (fdC b t w n) b.League.Slots b.League.Slots.length);unfold msV
 omega
/-! who is fielded-/
theorem zGs {b:BookS} {t:Str} {w n:Int} (h:TfE b t w n=0):TsE b t w n=0:=by
 obtain ⟨h1,h2⟩:=zxJ h;unfold TsE;rw [if_neg (fun q=>q h1)];exact (zqC h2).1
theorem zDQ {b:BookS} {t:Str} {w n:Int} (h:TfE b t w n=0):TfF b t w n=fdF b t w n/\TfP b t w n=fdP b t w n/\TsL b t w n=dsL b t w n/\TmF b t w n=ofH (msV b t w n):=by
 obtain ⟨h1,h2⟩:=zxJ h;have h3:=(zqC h2).1;refine ⟨?_,?_,?_,?_⟩
 rw [TfF,if_neg (fun q=>q h1),FdF,if_neg (fun q=>q h2)];rw [TfP,if_neg (fun q=>q h1),FdP,if_neg (fun q=>q h2)];rw [TsL,if_neg (fun q=>q h1),znw,if_neg (fun q=>q h3)];rw [TmF,if_neg (fun q=>q h)]
def zgL (f:List FillS) (k:Nat):List Str:=((f.take k).filter fun x=> !(x.Player==[])).map (·.Player)
theorem zC1 {f:List FillS} {k:Nat} {x:FillS} (hx:f[k]? =some x) (h:x.Player≠[]):zgL f (k+1)=zgL f k++[x.Player]:=by
 unfold zgL;rw [z6 hx,Bg];simp [h]
theorem zDS {f:List FillS} {k:Nat} {x:FillS} (hx:f[k]? =some x) (h:x.Player=[]):zgL f (k+1)=zgL f k:=by
 unfold zgL;rw [z6 hx,Bg];simp [h]
theorem zwu {f:List FillS} {k:Nat} {s:Str} (h:s≠[]):(zgL f k).contains s=(f.take k).any (fun x=>x.Player==s):=by
 rw [AF,BP];simp only [BK,decide_eq_true_eq];unfold zgL;rw [List.mem_map]
 constructor
 rintro ⟨x,hx,e⟩;exact ⟨x,(List.mem_filter.1 hx).1,by simpa using e⟩;rintro ⟨x,hx,e⟩;have e2:x.Player=s:=by simpa using e
 exact ⟨x,List.mem_filter.2 ⟨hx,by simp [e2,h]⟩,e2⟩
theorem zwv (f:List FillS) (k:Nat):(zgL f k).length<=k:=by
 unfold zgL;rw [Ah];refine Aq (AW _ _) ?_;rw [AD];omega
theorem zDI {l:List ScorerS} {s:Str} {y:ScorerS} (h:scO l s=some y):l.any (fun z=>z.Player==s)=true:=by
 rw [BP];exact ⟨y,(zgT h).1,by simpa using (zgT h).2⟩
end
end Go.HL
namespace Go.Proofs.YtbmggbfabohegaaGreatDoor
set_option maxRecDepth 100000
set_option linter.unusedVariables false
set_option linter.unusedSimpArgs false
section
open Go.Proofs.Tryz
open Go.HL
theorem zi0 [Tracks] {S:List SlotS} {l:List ScorerS} {q i:Nat} (hlp: ∀x∈l,x.Positions.length<=10) (hsp: ∀x∈S,x.Positions.length<=1000000) (hq:q<l.length) (hi:i<S.length):ConP prog 172 [.vptr [zbB S,za3 l] 0,.int .i64 (q:Int),.int .i64 (i:Int)] (.bool (zhf l S q i)):=by
 refine uOb func172 ntmps172 ?_;refine gz3 ?_;refine uDr mixed ?_;refine gz1 ?_;refine uB 1 rfl ((by first|exact zu rfl|exact zl rfl)) ?_;refine gz1 ?_;refine uB 3 rfl (zO (h:=za3 l) zcm rfl rfl rfl) ?_;refine gz1 ?_;refine uB 5 rfl (zy (f:=za6) (l:=l) (j:=q) (a:=l.getD q zR) zcm zde rfl rfl rfl (getD_some uO)) ?_;refine gz1 ?_;refine uB 7 rfl (zO (h:=eSs (l.getD q zR).Positions) zq rfl rfl rfl) ?_;refine gz1 ?_;refine uB 9 rfl ((by first|exact zu rfl|exact zl rfl)) ?_;refine gz1 ?_;refine uB 11 rfl (zO (h:=zbB S) zbG rfl rfl rfl) ?_;refine gz1 ?_;refine uB 13 rfl (zy (f:=zbo) (l:=S) (j:=i) (a:=S.getD i zbI) zbG zce rfl rfl rfl (getD_some uO)) ?_;refine gz1 ?_;refine uB 15 rfl (zO (h:=eSs (S.getD i zbI).Positions) zq rfl rfl rfl) ?_;refine uB 16 rfl (uCl zto rfl (zgV (a:=(l.getD q zR).Positions) (b:=(S.getD i zbI).Positions) (Aq (hlp _ (Ab (getD_some (d:=zR) hq))) (by decide)) (hsp _ (Ab (getD_some (d:=zbI) hi))))) ?_;refine gz3 ?_;refine zw rfl ?_
 rfl
theorem zih [Tracks] {S:List SlotS} {l:List ScorerS} {q:Nat} (hS:ScoOk l) (hq:q<l.length):ConP prog 173 [.vptr [zbB S,za3 l] 0,.int .i64 (q:Int)] (.int .i64 (wrL l q)):=by
 have hm:=Ab (getD_some (d:=zR) hq);have hw:=hS.w _ hm;refine uOb func173 ntmps173 ?_;refine gz5 ?_;refine dq ((by first|exact zu rfl|exact zl rfl)) ?_;refine gz1 ?_;refine dq (zO (h:=za3 l) zcm rfl rfl rfl) ?_;refine gz1 ?_;refine dq (zy (f:=za6) (l:=l) (j:=q) (a:=l.getD q zR) zcm zde rfl rfl rfl (getD_some uO)) ?_;refine gz1 ?_;refine dq (zU (h':= .agg [.int .i64 (l.getD q zR).Num,.int .i64 (l.getD q zR).Den]) (zaY zav rfl rfl (Ao rfl)) rfl) ?_;refine dq (uCl zzs rfl (zgA (n:=(l.getD q zR).Num) (d:=(l.getD q zR).Den) (hS.dn _ hm) uO)) ?_;refine dq (zcg rfl rfl uO uO) ?_;refine gz4 ?_;refine zw rfl ?_
 rfl
theorem zfP [Tracks] {S:List SlotS} {l:List ScorerS} {fr:Nat} {T:List Bool} (hS:ScoOk l) (hsp: ∀x∈S,x.Positions.length<=1000000) (hS12:S.length<=12) (hf:fr<=S.length) (hT:T.length=l.length):ConP prog 171 [.vptr [zbB S,za3 l] 0,.int .i64 (fr:Int),.slice 1 (T.map .bool)] (.int .i64 (zhi l S T fr)):=by
 have hl20:=hS.len;obtain ⟨m,hm⟩: ∃m,S.length=fr+m:=⟨S.length-fr,by omega⟩
 obtain ⟨E,hE⟩: ∃E,2^m=E:=⟨_,rfl⟩
 have hpn:=zGr (m:=m) uO;rw [hE] at hpn;refine uOb func171 ntmps171 ?_;refine gz5 ?_;refine dq ((by first|exact zu rfl|exact zl rfl)) ?_;refine dq ((by first|exact zg zfI rfl zbG (by decide) rfl|exact zd zfI rfl zbG (by decide) rfl)) ?_;refine dq (zO (h:=zbB S) zbG rfl rfl rfl) ?_;refine dq (zao (f:=zbo) (l:=S) zbG rfl) ?_;refine gz1 ?_;refine dq (zU (zem rfl rfl uO uO) (congrArg (HVal.int .i64) (show ((S.length:Nat):Int)-(fr:Int)=(m:Int) by omega))) ?_;refine gz4 ?_;refine dq (zU (zuS rfl rfl uO) (congrArg (fun q:Nat=>HVal.int .i64 (q:Int)) hE)) ?_;refine de rfl (zum (n:=E) z8 ty3 rfl rfl rfl rfl rfl uO fun b22=> ?_)
 refine gz5 ?_;refine dq ((by first|exact zu rfl|exact zl rfl)) ?_;refine dq ((by first|exact zg zfI rfl zcm (by decide) rfl|exact zd zfI rfl zcm (by decide) rfl)) ?_;refine dq (zO (h:=za3 l) zcm rfl rfl rfl) ?_;refine dq (zao (f:=za6) (l:=l) zcm rfl) ?_;refine gz3 ?_;refine uV1 [9,4,28,53] (fun (k:Nat)=>[(28,.int .i64 k)]) (fun (k:Nat)=>[.arr (.slice (some ⟨b22,0,none⟩) E E) 1 ((zcA E (dpS l S T fr m k)).map (HVal.int .i64))]) (fun (k:Nat)=>k<=l.length/\(True)) (fun (k:Nat)=>l.length-k) (0) ?_ ?_ ?_ ?_;exact ⟨Ad _,trivial⟩;exact ⟨rfl,trivial⟩;exact zm (by rw [<-zB2];rfl)
 intro k hinv
 obtain ⟨hk,-⟩:=hinv;refine gz4 ?_;refine uCo (fun h1=> ?_) fun h2=> ?_
 obtain ⟨y,hy⟩: ∃y,l[k]? =some y:=⟨_,Aa h1⟩
 have hdy:=zi hy;have hkl:=zn hy;refine zdb ?_;refine dq (zy (f:=HVal.bool) (l:=T) (j:=k) (a:=T.getD k false) zrg ty4 rfl rfl rfl (getD_some uO)) ?_;refine gz2 ?_;refine uCo (fun h3=> ?_) fun h4=> ?_
 refine gz8 ?_;exact ⟨k+1,⟨by omega,trivial⟩,uD,⟨rfl,trivial⟩,uK,zm (by dsimp only;rw [zye (by assumption)])⟩;refine gz2 ?_;have hTk:T.getD k false=false:=by simpa using h4
 refine gz3 ?_;refine dq (uCl zA4 rfl (zih (S:=S) (l:=l) (q:=k) hS uO)) ?_;refine gz4 ?_;refine dq (zdD z8 rfl) ?_;refine dq (zU (zem rfl rfl uO uO) (congrArg (HVal.int .i64) (show ((E:Nat):Int)-1=((E-1:Nat):Int) by omega))) ?_;refine gz3 ?_;refine uV1 [11,2,41,39] (fun (c:Nat)=>[(11,.int .i64 (c:Int))]) (fun (c:Nat)=>[.arr (.slice (some ⟨b22,0,none⟩) E E) 1 ((zcA E (zmU l S T fr m k c)).map (HVal.int .i64))]) (fun (c:Nat)=>c<E) (fun (c:Nat)=>c) (E-1) ?_ ?_ ?_ ?_
 omega
 exact ⟨rfl,trivial⟩;exact zm (by rw [zAC])
 intro c hcE
 refine gz5 ?_;refine uCo (fun h5=> ?_) fun h6=> ?_
 have hc0:0<c:=by omega
 refine gz9 ?_;refine uV1 [12,1,46,34] (fun (i:Nat)=>[(46,.int .i64 (i:Int))]) (fun (i:Nat)=>[.arr (.slice (some ⟨b22,0,none⟩) E E) 1 ((zcA E (zfz l S T fr m k c i)).map (HVal.int .i64))]) (fun (i:Nat)=>i<=m) (fun (i:Nat)=>m-i) (0) ?_ ?_ ?_ ?_
 omega
 exact ⟨rfl,trivial⟩;exact zm (by rw [zy2])
 intro i hi
 refine gz4 ?_;refine uCo (fun h7=> ?_) fun h8=> ?_
 have him:i<m:=by omega
 refine zcl ?_;refine dq (zAu rfl rfl uO) ?_;refine dq (zyO rfl rfl) ?_;refine dq (zU (zwe rfl rfl) (congrArg HVal.bool zBS)) ?_;refine gz5 ?_;refine uGr rfl (fun hc=>by have hq:=hc;(try simp at hq);exact zU (h':= .int .i64 ((fr+i:Nat):Int)) (zaX rfl rfl uO uO) (congrArg (HVal.int .i64) uO)) ?_;refine uGr rfl (fun hc=>by have hq:=hc;(try simp at hq);exact uCl zA3 rfl (zi0 (S:=S) (l:=l) (q:=k) (i:=fr+i) hS.po hsp uO uO)) ?_;refine gz2 ?_;refine uCo (fun h9=> ?_) fun h10=> ?_
 obtain ⟨hbt,hft⟩:c.testBit i=true/\zhf l S k (fr+i)=true:=by simp_all
 have hcl:=zua hbt;have hgc:(zcA E (zfz l S T fr m k c i))[c]? =some (prS l S T fr m k c i):=by rw [zl1 hcE,zwk]
 have hgr:(zcA E (zfz l S T fr m k c i))[zcE c i]? =some (dpS l S T fr m k (zcE c i)):=by rw [zl1 uO,zAE hcl]
 have hb1:=zDG hS (S:=S) (T:=T) (fr:=fr) (m:=m) (k:=k) uO c i;have hb2:=zuj hS (S:=S) (T:=T) (fr:=fr) (m:=m) (k:=k) uO (zcE c i);have hb3:=ztK hS k;refine zbj (fun M=>M=[.arr (.slice (some ⟨b22,0,none⟩) E E) 1 ((zcA E (zfz l S T fr m k c i)).map (HVal.int .i64))]) [5,12] mixed ?_;refine gz4 ?_;refine uB 4 rfl (zx (j:=c) z8 ty3 rfl rfl rfl hcE) ?_;refine uM 5 rfl rfl (fun M hM=>by subst hM;exact zaq (i:=0) (j:=c) 0 ty3 rfl uO rfl hgc rfl rfl ⟨rfl,rfl⟩) ?_;refine gz3 ?_;refine uB 9 rfl (zuS rfl rfl uO) ?_;refine uB 10 rfl (zAj rfl rfl uO uO hbt) ?_;refine uB 11 rfl (zx (j:=zcE c i) z8 ty3 rfl rfl rfl uO) ?_;refine uM 12 rfl rfl (fun M hM=>by subst hM;exact zaq (i:=0) (j:=zcE c i) 0 ty3 rfl uO rfl hgr rfl rfl ⟨rfl,rfl⟩) ?_;refine gz2 ?_;refine uB 15 rfl (zU (zoY rfl rfl) (congrArg (HVal.int .i64) zz4)) ?_;refine uB 16 rfl (zx (j:=c) z8 ty3 rfl rfl rfl hcE) ?_;refine uF 17 ?_;refine zD (zQ (i:=0) (j:=c) (f:=0) (y:= .int .i64 (prS l S T fr m k c i)) (y':= .int .i64 (max (prS l S T fr m k c i) (dpS l S T fr m k (zcE c i)+wrL l k))) ty3 rfl uO rfl rfl (za9 hgc) rfl rfl (by simp [zb]) rfl ?_)
 refine ⟨uE,?_⟩
 refine gz7 ?_;exact ⟨i+1,by omega,uD,⟨rfl,trivial⟩,uK,zm (by dsimp only;simp only [List.set_cons_zero];rw [<-B3,zAF hbt hft])⟩;refine gz7 ?_;exact ⟨i+1,by omega,uD,⟨rfl,trivial⟩,uK,zm (by dsimp only;rw [zCT uSa])⟩;obtain rfl:m=i:=by omega
 refine gz2 ?_;refine zt ?_;refine gz8 ?_;exact ⟨c-1,by omega,uD,⟨zP uO,trivial⟩,uK,zm (by dsimp only;rw [zAD hTk hc0])⟩;obtain rfl:c=0:=by omega
 refine gz2 ?_;refine zt ?_;refine gz7 ?_;exact ⟨k+1,⟨by omega,trivial⟩,uD,⟨rfl,trivial⟩,uK,zm (by dsimp only;rw [zAB l S T fr m k E hTk])⟩;have hnk:l.length<=k:=by omega
 obtain rfl:k=l.length:=by omega
 refine gz2 ?_;refine zt ?_;refine gz2 ?_;have hlast:(zcA E (dpS l S T fr m l.length))[E-1]? =some (dpS l S T fr m l.length (E-1)):=zl1 uO;refine gz3 ?_;refine dq (zdD z8 rfl) ?_;refine gz1 ?_;refine dq (zx (j:=E-1) z8 ty3 rfl rfl uO uO) ?_;refine de rfl (zaq (i:=0) (j:=E-1) 0 ty3 rfl uO rfl hlast rfl rfl ?_)
 refine gz3 ?_;refine zat Ghost.clear rfl ⟨?_,rfl⟩
 show HVal.int .i64 _=HVal.int .i64 _
 unfold zhi zh2;rw [show S.length-fr=m by omega,hE]
theorem znT [Tracks] {S:List SlotS} {l:List ScorerS} (hS:ScoOk l) (hsp: ∀x∈S,x.Positions.length<=1000000) (hS12:S.length<=12):ConP prog 86 [.vptr [zbB S,za3 l] 0] (zhR (zil l S)):=by
 have hl20:=hS.len;refine uOb func86 ntmps86 ?_;refine gz5 ?_;refine dq ((by first|exact zu rfl|exact zl rfl)) ?_;refine dq ((by first|exact zg zfI rfl zcm (by decide) rfl|exact zd zfI rfl zcm (by decide) rfl)) ?_;refine dq (zO (h:=za3 l) zcm rfl rfl rfl) ?_;refine dq (zao (f:=za6) (l:=l) zcm rfl) ?_;refine de rfl (zum (n:=l.length) zrg ty4 rfl rfl rfl rfl rfl uO fun b16=> ?_)
 refine gz2 ?_;refine ze (zaQ (M':=[.arr (.slice (some ⟨b16,0,none⟩) l.length l.length) 1 ((List.replicate l.length false).map .bool)]) (by rw [List.map_replicate];rfl)) ?_;refine gz3 ?_;refine de rfl (zeY (hs':=[.vptr [zbB S,za3 l] 0,.int .i64 ((0:Nat):Int),.slice 1 ((List.replicate l.length false).map .bool)]) zwN rfl ⟨.weak (Weak.refl _),.weak (Weak.refl _),.arr (i:=0) rfl,trivial⟩ (zfP (fr:=0) (T:=(List.replicate l.length false)) hS hsp hS12 uO (by rw [List.length_replicate])) rfl ?_)
 refine gz5 ?_;refine ze (zN 2) ?_;refine gz3 ?_;refine dq ((by first|exact zu rfl|exact zl rfl)) ?_;refine dq ((by first|exact zg zfI rfl zbG (by decide) rfl|exact zd zfI rfl zbG (by decide) rfl)) ?_;refine dq (zO (h:=zbB S) zbG rfl rfl rfl) ?_;refine dq (zao (f:=zbo) (l:=S) zbG rfl) ?_;refine gz3 ?_;refine uV3 [4,7,25,72] (fun (k:Nat) (u:Value) (q:BstS)=>[(25,.int .i64 k),(5,.raw u),(4,.int .i64 q.left)]) (fun (k:Nat) (u:Value) (q:BstS)=>[.arr u 2 (q.out.map zaF),.arr (.slice (some ⟨b16,0,none⟩) l.length l.length) 1 (q.T.map .bool)]) (fun (k:Nat) (u:Value) (q:BstS)=>k<=S.length/\(q=zgz l S k)) (fun (k:Nat) (u:Value) (q:BstS)=>S.length-k) (0) (.slice none 0 0) (zgz l S 0) ?_ ?_ ?_ ?_;exact ⟨Ad _,rfl⟩;exact ⟨rfl,rfl,rfl,trivial⟩;exact uP
 intro k u q hinv
 obtain ⟨hk,hq⟩:=hinv;obtain ⟨T,left,out⟩:=q
 dsimp only
 refine gz4 ?_;refine uCo (fun h1=> ?_) fun h2=> ?_
 obtain ⟨x,hx⟩: ∃x,S[k]? =some x:=⟨_,Aa h1⟩
 have hdx:=zi hx;have hkl:=zn hx;have hsk:S.getD k zbI=x:=by rw [Ae,hx];rfl
 have hTl:=(zlF hS S k uO).tl;have hol:=(zlF hS S k uO).fo.len;rw [<-hq] at hTl hol;dsimp only at hTl hol;have hlb:=zzl hS S k uO;rw [<-hq] at hlb;dsimp only at hlb;refine gz6 ?_;refine dq (zy zbG zce rfl rfl rfl (by first|assumption|simp_all)) ?_;refine gz1 ?_;refine de rfl (zj zce rfl fun b7=> ?_)
 refine gz1 ?_;refine de0 (zp zce rfl rfl rfl rfl rfl ?_)
 refine gz1 ?_;refine ze (zk 7 rfl) ?_;refine gz1 ?_;refine dq ((by first|exact zg zce rfl ty9 (by decide) rfl|exact zd zce rfl ty9 (by decide) rfl)) ?_;refine gz1 ?_;refine dq (zF (cs:=[_,_]) zca pl71 rfl) ?_;refine de rfl (zj zca rfl fun b8=> ?_)
 focus first
 |refine de0 (uY 0 ?_)
 |refine de0 (uY 1 ?_)
 |refine de0 (uY 2 ?_)
 |refine de0 (uY 3 ?_)
 refine gz1 ?_;refine ze (zaQ (M':=[.cells b8 (zb (zaF ⟨x.Key,[]⟩)),.arr u 2 (out.map zaF),.arr (.slice (some ⟨b16,0,none⟩) l.length l.length) 1 (T.map .bool)]) rfl) ?_;refine gz4 ?_;refine dq (zU (h':= .int .i64 ((k+1:Nat):Int)) (zaX rfl rfl uO uO) (congrArg (HVal.int .i64) uO)) ?_;refine gz1 ?_;refine de rfl (zeY (hs':=[.vptr [zbB S,za3 l] 0,.int .i64 ((k+1:Nat):Int),.slice 1 (T.map .bool)]) zwN rfl ⟨.weak (Weak.refl _),.weak (Weak.refl _),.arr (i:=2) rfl,trivial⟩ (zfP (fr:=k+1) (T:=T) hS hsp hS12 uO uO) rfl ?_)
 refine gz3 ?_;refine uCo (fun h3=> ?_) fun h4=> ?_
 refine ze (zbr 8 (i:=0) rfl rfl) ?_;refine gz3 ?_;refine dq (za (hs:=[_]) zgf zca rfl rfl (by decide) (by decide) rfl) ?_;refine de rfl (zK (i:=0) zgf zca rfl rfl rfl rfl rfl (by simp [zar,zb]) (by simp only [Ah,Ai,AB];omega) fun v43=> ?_)
 refine zau ?_;exact ⟨k+1,v43,⟨T,left,out++[⟨x.Key,[]⟩]⟩,⟨by omega,by rw [zgz,<-hq,zlE,if_pos (by assumption),hsk]⟩,uD,⟨rfl,rfl,rfl,trivial⟩,uK,zm (by dsimp only;rw [Az];rfl)⟩;refine gz5 ?_;refine dq ((by first|exact zu rfl|exact zl rfl)) ?_;refine dq ((by first|exact zg zfI rfl zcm (by decide) rfl|exact zd zfI rfl zcm (by decide) rfl)) ?_;refine dq (zO (h:=za3 l) zcm rfl rfl rfl) ?_;refine dq (zao (f:=za6) (l:=l) zcm rfl) ?_;refine gz3 ?_;refine uT1 [4,1,9,2,49,43] (fun j=>[(49,.int .i64 j),(4,.int .i64 left)]) (fun j=>[.cells b8 (zb (zaF ⟨x.Key,[]⟩)),.arr u 2 (out.map zaF),.arr (.slice (some ⟨b16,0,none⟩) l.length l.length) 1 (T.map .bool)]) (fun j=>j<=l.length/\(∀r,r<j->zhP l S T left k r=false)) (fun j=>l.length-j) (0) ?_ ?_;exact ⟨Ad _,fun r hr=>by omega⟩;rintro j ⟨hj,hno⟩;refine gz4 ?_;refine uCo (fun h5=> ?_) fun h6=> ?_
 obtain ⟨y,hy⟩: ∃y,l[j]? =some y:=⟨_,Aa h5⟩
 have hdy:=zi hy;have hjl:=zn hy;have hTj:T[j]? =some (T.getD j false):=getD_some uO;refine zdb ?_;refine dq (zx (j:=j) zrg ty4 rfl rfl rfl uO) ?_;refine de rfl (zaq (i:=2) (j:=j) 0 ty4 rfl uO rfl hTj rfl rfl ?_)
 refine gz4 ?_;refine uGr rfl (fun hc=>by have hq:=hc;(try simp at hq);exact uCl zA3 rfl (zi0 (S:=S) (l:=l) (q:=j) (i:=k) hS.po hsp uO uO)) ?_;refine gz3 ?_;refine uCo (fun h7=> ?_) fun h8=> ?_
 refine gz4 ?_
 focus first
 |refine ze (zaQ (zsK hTf)) ?_
 |skip
 refine gz4 ?_;exact ⟨j+1,⟨by omega,zv9 hno (zC9 (by assumption))⟩,uD,⟨rfl,rfl,trivial⟩,uK,Ac _⟩;refine gz2 ?_;obtain ⟨hTf,hfj⟩:T.getD j false=false/\zhf l S j k=true:=by simp_all
 have hwj:=ztK hS j;refine gz3 ?_;refine dq (zx (j:=j) zrg ty4 rfl rfl rfl uO) ?_;refine de0 (zQ (i:=2) (j:=j) (f:=0) (y:= .bool (T.getD j false)) (y':= .bool true) ty4 rfl uO rfl rfl (za9 hTj) rfl rfl (by simp [zb]) rfl ?_)
 refine gz1 ?_;refine ze (zaQ (M':=[.cells b8 (zb (zaF ⟨x.Key,[]⟩)),.arr u 2 (out.map zaF),.arr (.slice (some ⟨b16,0,none⟩) l.length l.length) 1 ((T.set j true).map .bool)]) (by rw [B3];rfl)) ?_;have hTs:(T.set j true)[j]? =some true:=by rw [Bo uO]
 refine gz5 ?_;refine dq (uCl zA4 rfl (zih (S:=S) (l:=l) (q:=j) hS uO)) ?_;refine gz6 ?_;refine dq (zU (h':= .int .i64 ((k+1:Nat):Int)) (zaX rfl rfl uO uO) (congrArg (HVal.int .i64) uO)) ?_;refine gz1 ?_;refine de rfl (zeY (hs':=[.vptr [zbB S,za3 l] 0,.int .i64 ((k+1:Nat):Int),.slice 1 ((T.set j true).map .bool)]) zwN rfl ⟨.weak (Weak.refl _),.weak (Weak.refl _),.arr (i:=2) rfl,trivial⟩ (zfP (fr:=k+1) (T:=(T.set j true)) hS hsp hS12 uO (by rw [List.length_set];omega)) rfl ?_)
 refine gz3 ?_;refine uCo (fun h9=> ?_) fun h10=> ?_
 refine gz2 ?_;refine dq ((by first|exact zu rfl|exact zl rfl)) ?_;refine dq ((by first|exact zg zfI rfl zcm (by decide) rfl|exact zd zfI rfl zcm (by decide) rfl)) ?_;refine dq (zO (h:=za3 l) zcm rfl rfl rfl) ?_;refine gz1 ?_;refine dq (zy (f:=za6) (l:=l) (j:=j) (a:=l.getD j zR) zcm zde rfl rfl rfl (getD_some uO)) ?_;refine dq ((by first|exact zg zde rfl ty9 (by decide) rfl|exact zd zde rfl ty9 (by decide) rfl)) ?_;refine gz3 ?_
 focus first
 |refine de0 (uY 0 ?_)
 |refine de0 (uY 1 ?_)
 |refine de0 (uY 2 ?_)
 |refine de0 (uY 3 ?_)
 refine gz6 ?_;refine zt ?_;refine gz2 ?_
 focus first
 |refine ze (Ghost.perm (M':=[.cells b8 (zb (zaF ⟨x.Key,(l.getD j zR).Player⟩)),.arr u 2 (out.map zaF),.arr (.slice (some ⟨b16,0,none⟩) l.length l.length) 1 ((T.set j true).map .bool)]) (zm rfl)) ?_
 |skip
 refine ze (zbr 8 (i:=0) rfl rfl) ?_;refine gz3 ?_;refine dq (za (hs:=[_]) zgf zca rfl rfl (by decide) (by decide) rfl) ?_;refine de rfl (zK (i:=0) zgf zca rfl rfl rfl rfl rfl (by simp [zar,zb]) (by simp only [Ah,Ai,AB];omega) fun v95=> ?_)
 refine gz8 ?_;exact ⟨k+1,v95,⟨T.set j true,left-wrL l j,out++[⟨x.Key,(l.getD j zR).Player⟩]⟩,⟨by omega,by rw [zgz,<-hq,zlE,if_neg (by assumption),zzv uO hno (zBW hTf hfj (by assumption)),hsk]⟩,uD,⟨rfl,rfl,rfl,trivial⟩,uK,zm (by dsimp only;rw [Az];rfl)⟩;refine gz5 ?_;refine dq (zx (j:=j) zrg ty4 rfl rfl rfl uO) ?_;refine de0 (zQ (i:=2) (j:=j) (f:=0) (y:= .bool (true)) (y':= .bool false) ty4 rfl uO rfl rfl (za9 hTs) rfl rfl (by simp [zb]) rfl ?_)
 refine gz3 ?_
 focus first
 |refine ze (zaQ (zsK hTf)) ?_
 |skip
 refine gz4 ?_;exact ⟨j+1,⟨by omega,zv9 hno (zC8 (by assumption))⟩,uD,⟨rfl,rfl,trivial⟩,uK,Ac _⟩;have hnj:l.length<=j:=by omega
 obtain rfl:j=l.length:=by omega
 refine gz2 ?_;refine zt ?_;refine gz2 ?_
 focus first
 |refine ze (Ghost.perm (M':=[.cells b8 (zb (zaF ⟨x.Key,(l.getD j zR).Player⟩)),.arr u 2 (out.map zaF),.arr (.slice (some ⟨b16,0,none⟩) l.length l.length) 1 ((T.set j true).map .bool)]) (zm rfl)) ?_
 |skip
 refine ze (zbr 8 (i:=0) rfl rfl) ?_;refine gz3 ?_;refine dq (za (hs:=[_]) zgf zca rfl rfl (by decide) (by decide) rfl) ?_;refine de rfl (zK (i:=0) zgf zca rfl rfl rfl rfl rfl (by simp [zar,zb]) (by simp only [Ah,Ai,AB];omega) fun v95=> ?_)
 refine gz8 ?_;exact ⟨k+1,v95,⟨T,left,out++[⟨x.Key,[]⟩]⟩,⟨by omega,by rw [zgz,<-hq,zlE,if_neg (by assumption),zzu hno,hsk]⟩,uD,⟨rfl,rfl,rfl,trivial⟩,uK,zm (by dsimp only;rw [Az];rfl)⟩;have hnk:S.length<=k:=by omega
 obtain rfl:k=S.length:=by omega
 refine gz2 ?_;refine zcI ?_;refine gz7 ?_;exact zat ((zaJ 2 (i:=0) rfl rfl).trans Ghost.clear) rfl ⟨by show _=zhR (zgz l S S.length).out;rw [<-hq],rfl⟩
theorem zt7 [Tracks] {S:List SlotS} {l:List ScorerS} {f:List FillS} (hz:zdx S=0) (hS0:S.length<=1000000) (hsp: ∀x∈S,x.Positions.length<=1000000) (hsc:ziz l=0) (hl:l.length<=1000000) (hb:(∀x∈l,(-1000000000000000<=x.Num/\x.Num<=1000000000000000)/\ -1000000000<=x.Den/\x.Den<=1000000000)) (hf:FillOk l S S.length f) (hS12:S.length<=12):ConP prog 37 [zbB S,za3 l,zhR f] (.tup [zkM (ofH (sfL l (zil l S) []-sfL l f [])),.int .i64 0]):=by
 have hS:=zu0 hsc;have hfl:=hf.len;have hbo:=(zlF hS S S.length (Af _)).fo;have hbl:(zil l S).length=S.length:=hbo.len;have hb1:=zxC hS (f:=f) uO [] f.length;rw [Ak] at hb1;have hb2:=zxC hS (f:=zil l S) uO [] (zil l S).length;rw [Ak] at hb2;refine zbb func37 rfl ntmps37 rfl rfl ?_;refine gz1 ?_;refine de rfl (zj zav rfl fun b6=> ?_)
 refine gz7 ?_;refine dq (uCl ca83 rfl (znS (S:=S) (l:=l) (f:=f) hz hS0 hsp hsc hl hb hf)) ?_;refine gz6 ?_;refine zX rfl (fun h1=> ?_) (fun h1=> ?_)
 ·exfalso
  try simp at h1
  done
 ·try simp at h1
  refine gz6 ?_;refine dq (zF (cs:=[_,_]) zfI zGh rfl) ?_;refine gz1 ?_;refine dq (uCl ca86 rfl (znT (S:=S) (l:=l) hS hsp hS12)) ?_;refine dq (uCl ca85 rfl (zpn (S:=S) (l:=l) (f:=zil l S) (c:=[]) hS hbo hS12 hl)) ?_;refine gz2 ?_;refine dq (uCl ca85 rfl (zpn (S:=S) (l:=l) (f:=f) (c:=[]) hS hf hS12 hl)) ?_;refine gz1 ?_;refine dq (uCl ca84 rfl (zie (n:=sfL l (zil l S) []-sfL l f []) uO)) ?_;refine de0 (zp (h:=zkM (ofH (sfL l (zil l S) []-sfL l f []))) zav rfl rfl rfl rfl rfl ?_)
  refine gz3 ?_;exact ⟨_,_,zk 6 rfl,[_,_],_,⟨⟨_,_,_,_,_,rfl,zav,.inr ⟨rfl,rfl,rfl⟩⟩,⟨rfl,trivial⟩⟩,Weak.refl _,rfl,rfl⟩
theorem zqj [Tracks] {b:BookS} {t:Str} {w n:Int} (hT:Tracks.on=false) (hb:BookC b):ConP prog 19 [zbx b,.str t,.int .i64 w,.int .i64 n] (.tup [zkM (TmF b t w n),.int .i64 (TfE b t w n)]):=by
 refine zbb func19 rfl ntmps19 rfl rfl ?_;refine gz2 ?_;refine de rfl (zj zav rfl fun b8=> ?_)
 refine gz7 ?_;refine dq (uCl zzp rfl (zfO (b:=b) (t:=t) (w:=w) (n:=n) hT hb)) ?_;refine gz6 ?_;refine uCo (fun h1=> ?_) fun h2=> ?_
 refine gz1 ?_;refine dq (zF (cs:=[_,_]) zav zkn rfl) ?_;refine gz1 ?_
 focus first
 |refine de0 (uY 0 ?_)
 |refine de0 (uY 1 ?_)
 |refine de0 (uY 2 ?_)
 |refine de0 (uY 3 ?_)
 refine gz3 ?_
 focus first
 | (have q1:TfE b t w n=zc7 b t w n:=by rw [TfE,if_pos (by simpa using h1)]
    exact ⟨_,_,zk 8 rfl,[_,_],_,⟨⟨_,_,_,_,_,rfl,zav,.inr ⟨rfl,rfl,rfl⟩⟩,⟨rfl,trivial⟩⟩,zaA (by rw [TmF,if_pos (by rw [q1];simpa using h1)];exact Weak.refl _) (by rw [q1];exact Weak.refl _),rfl,rfl⟩)
 | (have q1:TfE b t w n=fdE b t w n:=by rw [TfE,if_neg (fun q=>q hz)]
    exact ⟨_,_,zk 8 rfl,[_,_],_,⟨⟨_,_,_,_,_,rfl,zav,.inr ⟨rfl,rfl,rfl⟩⟩,⟨rfl,trivial⟩⟩,zaA (by rw [TmF,if_pos (by rw [q1];simpa using h3)];exact Weak.refl _) (by rw [q1];exact Weak.refl _),rfl,rfl⟩)
 | (have q1:TfE b t w n=0:=by rw [TfE,if_neg (fun q=>q hz)];exact hfz
    exact ⟨_,_,zk 8 rfl,[_,_],_,⟨⟨_,_,_,_,_,rfl,zav,.inr ⟨rfl,rfl,rfl⟩⟩,⟨rfl,trivial⟩⟩,zaA (by rw [TmF,if_neg (fun q=>q q1)];exact Weak.refl _) (by rw [q1];exact Weak.refl _),rfl,rfl⟩)
 refine gz2 ?_;have hz:zc7 b t w n=0:=by simp_all
 obtain ⟨hbz,htm,hwk,hnm⟩:=zo5 hz;have hX:=zt0 hbz;have hW:=hX.w;have hla:=hb.bb.lea;have hdn: ∀y∈dsL b t w n,(-1000000000000000<=y.Num/\y.Num<=1000000000000000)/\ -1000000000<=y.Den/\y.Den<=1000000000:=zy6 hX.ru (zBC hX hb hwk n)
 have hdp: ∀y∈dsL b t w n,y.Positions.length<=1000000:=zwo hla.po
 have hdl:(dsL b t w n).length<=1000000:=Aq (zo1 b.League (wlL b w n) (zfy b t w)) (by
  have q2:=((zo0 (b:=b.League.Bounds) (n:=zbX b.League w) hW.f.mo).p t).2
  show (rPl (zg2 b.League.Bounds b.Moves (zbX b.League w)) t).length<=1000000
  omega)
 have hsl:=hW.sl;refine gz2 ?_;refine dq (zF (cs:=[_,_]) zdf zAi rfl) ?_;refine gz2 ?_;refine dq (uCl ca33 rfl (zhu (b:=b) (n:=n) (w:=w) (t:=t) hT hb hX hwk hnm htm)) ?_;refine zit ?_;refine uCo (fun h3=> ?_) fun h4=> ?_
 refine gz1 ?_;refine dq (zF (cs:=[_,_]) zav zkn rfl) ?_;refine gz1 ?_
 focus first
 |refine de0 (uY 0 ?_)
 |refine de0 (uY 1 ?_)
 |refine de0 (uY 2 ?_)
 |refine de0 (uY 3 ?_)
 refine gz3 ?_
 focus first
 | (have q1:TfE b t w n=zc7 b t w n:=by rw [TfE,if_pos (by simpa using h1)]
    exact ⟨_,_,zk 8 rfl,[_,_],_,⟨⟨_,_,_,_,_,rfl,zav,.inr ⟨rfl,rfl,rfl⟩⟩,⟨rfl,trivial⟩⟩,zaA (by rw [TmF,if_pos (by rw [q1];simpa using h1)];exact Weak.refl _) (by rw [q1];exact Weak.refl _),rfl,rfl⟩)
 | (have q1:TfE b t w n=fdE b t w n:=by rw [TfE,if_neg (fun q=>q hz)]
    exact ⟨_,_,zk 8 rfl,[_,_],_,⟨⟨_,_,_,_,_,rfl,zav,.inr ⟨rfl,rfl,rfl⟩⟩,⟨rfl,trivial⟩⟩,zaA (by rw [TmF,if_pos (by rw [q1];simpa using h3)];exact Weak.refl _) (by rw [q1];exact Weak.refl _),rfl,rfl⟩)
 | (have q1:TfE b t w n=0:=by rw [TfE,if_neg (fun q=>q hz)];exact hfz
    exact ⟨_,_,zk 8 rfl,[_,_],_,⟨⟨_,_,_,_,_,rfl,zav,.inr ⟨rfl,rfl,rfl⟩⟩,⟨rfl,trivial⟩⟩,zaA (by rw [TmF,if_neg (fun q=>q q1)];exact Weak.refl _) (by rw [q1];exact Weak.refl _),rfl,rfl⟩)
 refine gz2 ?_;have hfz:fdE b t w n=0:=by simp_all
 obtain ⟨hz2,hs0,hsk⟩:=zqC hfz;rw [FdL,FdF,FdP,if_neg (fun q=>q hfz),if_neg (fun q=>q hfz),if_neg (fun q=>q hfz)];refine gz3 ?_;refine dq (zO (h:=zbB b.League.Slots) zbG rfl rfl rfl) ?_;refine gz2 ?_;refine dq (uCl ca37 rfl (zt7 (S:=b.League.Slots) (l:=dsL b t w n) (f:=fdF b t w n) hX.sl hla.sl hla.sp hs0 hdl hdn (zuo hsk (fdC b t w n) b.League.Slots b.League.Slots.length) hsl)) ?_;refine gz2 ?_;refine de0 (zp (h:=zkM (ofH (msV b t w n))) zav rfl rfl rfl rfl rfl ?_)
 refine gz3 ?_
 focus first
 | (have q1:TfE b t w n=zc7 b t w n:=by rw [TfE,if_pos (by simpa using h1)]
    exact ⟨_,_,zk 8 rfl,[_,_],_,⟨⟨_,_,_,_,_,rfl,zav,.inr ⟨rfl,rfl,rfl⟩⟩,⟨rfl,trivial⟩⟩,zaA (by rw [TmF,if_pos (by rw [q1];simpa using h1)];exact Weak.refl _) (by rw [q1];exact Weak.refl _),rfl,rfl⟩)
 | (have q1:TfE b t w n=fdE b t w n:=by rw [TfE,if_neg (fun q=>q hz)]
    exact ⟨_,_,zk 8 rfl,[_,_],_,⟨⟨_,_,_,_,_,rfl,zav,.inr ⟨rfl,rfl,rfl⟩⟩,⟨rfl,trivial⟩⟩,zaA (by rw [TmF,if_pos (by rw [q1];simpa using h3)];exact Weak.refl _) (by rw [q1];exact Weak.refl _),rfl,rfl⟩)
 | (have q1:TfE b t w n=0:=by rw [TfE,if_neg (fun q=>q hz)];exact hfz
    exact ⟨_,_,zk 8 rfl,[_,_],_,⟨⟨_,_,_,_,_,rfl,zav,.inr ⟨rfl,rfl,rfl⟩⟩,⟨rfl,trivial⟩⟩,zaA (by rw [TmF,if_neg (fun q=>q q1)];exact Weak.refl _) (by rw [q1];exact Weak.refl _),rfl,rfl⟩)
theorem zpH [Tracks] {b:BookS} {t:Str} {w n:Int} (hT:Tracks.on=false) (hb:BookC b):ConP prog 14 [zbx b,.str t,.int .i64 w,.int .i64 n] (.tup [zhR (TfF b t w n),.str (TfP b t w n),.int .i64 (TfE b t w n)]):=by
 refine uOb func14 ntmps14 ?_;refine zcl ?_;refine dq (uCl zzp rfl (zfO (b:=b) (t:=t) (w:=w) (n:=n) hT hb)) ?_;refine gz6 ?_;refine uCo (fun h1=> ?_) fun h2=> ?_
 refine gz7 ?_
 focus first
 |exact zch rfl (zoI (by rw [TfF,if_pos (by simpa using h1)];exact zW 2) (by rw [TfP,if_pos (by simpa using h1)];exact Weak.refl _) (by rw [TfE,if_pos (by simpa using h1)];exact Weak.refl _))
 | (refine zw rfl ?_
    rw [TfF,TfP,TfE,if_neg (fun q=>q hz),if_neg (fun q=>q hz),if_neg (fun q=>q hz)])
 refine gz2 ?_;have hz:zc7 b t w n=0:=by simp_all
 obtain ⟨hbz,htm,hwk,hnm⟩:=zo5 hz;have hX:=zt0 hbz;refine gz2 ?_;refine dq (zF (cs:=[_,_]) zdf zAi rfl) ?_;refine gz2 ?_;refine dq (uCl ca33 rfl (zhu (b:=b) (n:=n) (w:=w) (t:=t) hT hb hX hwk hnm htm)) ?_;refine gz19 ?_
 focus first
 |exact zch rfl (zoI (by rw [TfF,if_pos (by simpa using h1)];exact zW 2) (by rw [TfP,if_pos (by simpa using h1)];exact Weak.refl _) (by rw [TfE,if_pos (by simpa using h1)];exact Weak.refl _))
 | (refine zw rfl ?_
    rw [TfF,TfP,TfE,if_neg (fun q=>q hz),if_neg (fun q=>q hz),if_neg (fun q=>q hz)])
theorem zpI [Tracks] {b:BookS} {t:Str} {w n:Int} (hT:Tracks.on=false) (hb:BookC b):ConP prog 15 [zbx b,.str t,.int .i64 w,.int .i64 n] (.tup [za3 (TsL b t w n),.int .i64 (TsE b t w n)]):=by
 refine uOb func15 ntmps15 ?_;refine zau ?_;refine dq (uCl zzp rfl (zfO (b:=b) (t:=t) (w:=w) (n:=n) hT hb)) ?_;refine gz6 ?_;refine uCo (fun h1=> ?_) fun h2=> ?_
 refine gz6 ?_
 focus first
 |exact zch rfl (zaA (by rw [TsL,if_pos (by simpa using h1)];exact zW 5) (by rw [TsE,if_pos (by simpa using h1)];exact Weak.refl _))
 | (refine zw rfl ?_
    rw [TsL,TsE,if_neg (fun q=>q hz),if_neg (fun q=>q hz)])
 refine gz2 ?_;have hz:zc7 b t w n=0:=by simp_all
 obtain ⟨hbz,htm,hwk,hnm⟩:=zo5 hz;have hX:=zt0 hbz;refine gz2 ?_;refine dq (zF (cs:=[_,_]) zdf zAi rfl) ?_;refine gz2 ?_;refine dq (uCl ca34 rfl (zhv (b:=b) (n:=n) (w:=w) (t:=t) hT hb hX hwk hnm htm)) ?_;refine gz6 ?_
 focus first
 |exact zch rfl (zaA (by rw [TsL,if_pos (by simpa using h1)];exact zW 5) (by rw [TsE,if_pos (by simpa using h1)];exact Weak.refl _))
 | (refine zw rfl ?_
    rw [TsL,TsE,if_neg (fun q=>q hz),if_neg (fun q=>q hz)])
end
section
open Go.Proofs.Tryz
open Go.HL
theorem zaw [Tracks] {b:Nat} {l:List Int} {a:Nat} (ha:a<=800000):Con prog 93 [pAt b] [St b l a] (fun x M'=> ∃t a',x=eSs t/\GoodTr t/\a'<=a+10/\M'=[St b l a']):=by
 refine uOb func93 ntmps93 ?_;refine gz6 ?_;refine ze (zN 1) ?_;refine gz3 ?_;refine de rfl (uCx 1 zA6 rfl rfl (zfL (n:=3) uO uO uO) ?_)
 rintro _ _ ⟨L7,a7,rfl,hL7,ha7,rfl⟩;refine gz3 ?_;obtain ⟨hLn,hLb⟩:=hL7;refine gz1 ?_;refine uV2 [3,1,5,1,9,15] (fun (k:Nat) (q:GL Str)=>[(9,.int .i64 k),(3,.raw q.u)]) (fun (k:Nat) (q:GL Str)=>[St b l q.a,.arr q.u 1 (q.out.map .str)]) (fun (k:Nat) (q:GL Str)=>k<=L7.length/\(GLok Sh k (a7+k) q)) (fun (k:Nat) (q:GL Str)=>L7.length-k) (0) (⟨.slice none 0 0,[],a7⟩) ?_ ?_ ?_ ?_;exact ⟨Ad _,⟨by simp,by simp,uD⟩⟩;exact ⟨rfl,rfl,trivial⟩;exact uP
 intro k q hinv
 obtain ⟨hk,hq⟩:=hinv;obtain ⟨u,out,a2⟩:=q;obtain ⟨g1,g2,g3⟩:=id hq;dsimp only at g1 g2 g3;refine gz4 ?_;refine uCo (fun h1=> ?_) fun h2=> ?_
 obtain ⟨y,hy⟩: ∃y,L7[k]? =some y:=⟨_,Aa h1⟩
 have hdy:=zi hy;refine zcl ?_;refine de rfl (uCx 0 zes rfl rfl (zI uSo uO) ?_)
 rintro _ _ ⟨y14,rfl,rfl⟩;refine gz2 ?_;refine uCo (fun h3=> ?_) fun h4=> ?_
 refine gz2 ?_;refine dq (za (hs:=[_,_,_]) zq ty9 rfl rfl (by decide) (by decide) rfl) ?_;refine gz1 ?_;refine dq (zy (f:=HVal.str) (l:=zgH) (j:=y.toNat) (a:=zgH.getD y.toNat []) zq ty9 rfl rfl (by have:=hLb y (Ab hy);omega) (getD_some (by have:=hLb y (Ab hy);simp [zgH];omega))) ?_;refine gz1 ?_;refine dq (za (hs:=[_]) zq ty9 rfl rfl (by decide) (by decide) rfl) ?_;refine de rfl (zK (i:=1) zq ty9 rfl rfl rfl rfl rfl (by simp [zar,zb]) uSo fun v22=> ?_)
 refine gz8 ?_;exact ⟨k+1,⟨v22,out++[zgH.getD y.toNat []],a2+1⟩,⟨by omega,hq.add (x:=zgH.getD y.toNat []) (zl6 _ (zzK (by have:=hLb y (Ab hy);simp [zgH];omega))) uO⟩,uD,⟨rfl,rfl,trivial⟩,uK,uP⟩;refine gz7 ?_;exact ⟨k+1,⟨u,out,a2+1⟩,⟨by omega,hq.same uO⟩,uD,⟨rfl,rfl,trivial⟩,uK,uP⟩;have hnk:L7.length<=k:=by omega
 obtain rfl:k=L7.length:=by omega
 refine gz2 ?_;refine zM ?_;refine gz3 ?_
 dsimp only
 refine gz2 ?_;refine de rfl (uCx 0 zes rfl rfl (zI uO uO) ?_)
 rintro _ _ ⟨y25,rfl,rfl⟩;refine gz1 ?_;refine uCo (fun h5=> ?_) fun h6=> ?_
 refine gz3 ?_;refine dq (za (hs:=[_,_,_]) zq ty9 rfl rfl (by decide) (by decide) rfl) ?_;refine de rfl (uCx 0 zbS rfl rfl (zo (L:=[_,_,_]) uO uSa uSa) ?_)
 rintro _ _ ⟨y29,rfl,hy29,rfl⟩;refine dq (za (hs:=[_]) zq ty9 rfl rfl (by decide) (by decide) rfl) ?_;refine de rfl (zK (i:=1) zq ty9 rfl rfl rfl rfl rfl (by simp [zar,zb]) uSo fun v31=> ?_)
 refine gz8 ?_;exact zat (zaJ 2 (i:=1) rfl rfl) rfl ⟨out++[y29],_,by simp,⟨by simp;omega,fun s hs=>by
  rcases List.mem_append.1 hs with hs|hs
  exact g2 s hs;rw [List.mem_singleton.1 hs];simp at hy29;rcases hy29 with rfl|rfl|rfl<;>(unfold Sh;simp)⟩,by omega,rfl⟩
 refine gz7 ?_;exact zat (zaJ 2 (i:=1) rfl rfl) rfl ⟨out,_,rfl,⟨by omega,g2⟩,by omega,rfl⟩
theorem zkt [Tracks] {b:Nat} {l:List Int} {a:Nat} (ha:a<=700000):Con prog 39 [pAt b] [St b l a] (fun x M'=> ∃k a',x=zb0 k/\GoodPl k/\a'<=a+500/\M'=[St b l a']):=by
 refine uOb func39 ntmps39 ?_;refine gz6 ?_;refine ze (zN 9) ?_;refine gz2 ?_;refine dq (za (hs:=[_,_,_]) zq ty9 rfl rfl (by decide) (by decide) rfl) ?_;refine dq (zao (f:=HVal.str) (l:=zgH) zq rfl) ?_;refine gz3 ?_;refine uV2 [3,1,5,5,11,1,15,97] (fun (k:Nat) (q:GL Play)=>[(15,.int .i64 k),(3,.raw q.u)]) (fun (k:Nat) (q:GL Play)=>[St b l q.a,.arr q.u 9 (q.out.map zas)]) (fun (k:Nat) (q:GL Play)=>k<=zgH.length/\(GLok zdg (5*k) (a+130*k) q)) (fun (k:Nat) (q:GL Play)=>zgH.length-k) (0) (⟨.slice none 0 0,[],a⟩) ?_ ?_ ?_ ?_;exact ⟨by decide,⟨by simp,by simp,uD⟩⟩;exact ⟨rfl,rfl,trivial⟩;exact uP
 intro k q hinv
 obtain ⟨hk,hq⟩:=hinv;obtain ⟨u,out,a1⟩:=q;obtain ⟨g1,g2,g3⟩:=id hq;dsimp only at g1 g2 g3;have h3:zgH.length=3:=rfl;refine gz4 ?_;refine uCo (fun h1=> ?_) fun h2=> ?_
 obtain ⟨x,hx⟩: ∃x,zgH[k]? =some x:=⟨_,Aa h1⟩
 have hdx:=zi hx;refine gz5 ?_;refine dq (zy (f:=HVal.str) (l:=zgH) (j:=k) (a:=x) zq ty9 rfl rfl rfl hx) ?_;refine gz5 ?_;refine dq (za (hs:=[_,_]) z8 ty3 rfl rfl (by decide) (by decide) rfl) ?_;refine de rfl (uCx 0 ca6 rfl rfl (zf (L:=[_,_]) uSo uSa uSa) ?_)
 rintro _ _ ⟨y21,rfl,hy21,rfl⟩;refine gz5 ?_;refine de rfl (uCx 0 zeJ rfl rfl (zJ uSo uO uO uO) ?_)
 rintro _ _ ⟨y23,rfl,hy23,rfl⟩;refine gz3 ?_;refine zys (3::6::7::8::9::11::24::25::26::27::28::29::30::31::32::33::34::35::36::37::38::39::40::41::42::43::44::45::46::47::48::49::50::51::52::53::54::55::56::57::58::59::60::61::62::63::64::65::66::67::68::69::70::71::72::73::74::75::76::77::78::79::80::81::82::83::84::85::86::87::88::89::90::91::92::93::94::95::96::97::98::99::100::101::102::103::104::105::106::107::108::109::110::[]) (fun (n:Nat) (no:Int) (at1:Int) (q2:GL Play)=>[(24,.int .i64 (n:Int)),(6,.int .i64 no),(7,.int .i64 at1),(3,.raw q2.u)]) (fun (n:Nat) (no:Int) (at1:Int) (q2:GL Play)=>[St b l q2.a,.arr q2.u 9 (q2.out.map zas)]) (fun (n:Nat) (no:Int) (at1:Int) (q2:GL Play)=>(n:Int)<=y23/\(0<=no/\no<=2*n)/\(0<=at1/\at1<=5+40*n)/\GLok zdg (5*k+n) (a1+2+25*n) q2) (fun (n:Nat) (no:Int) (at1:Int) (q2:GL Play)=>y23.toNat-n) (0) (0) (y21) (⟨u,out,a1+2⟩) ?_ ?_ ?_ ?_;exact ⟨by omega,⟨by omega,by omega⟩,⟨by simp at hy21;omega,by simp at hy21;omega⟩,⟨uD,g2,uD⟩⟩;exact ⟨rfl,rfl,rfl,rfl,trivial⟩;exact uP
 intro n no at1 q2 hinv
 obtain ⟨hn,hno,hat,hq2⟩:=hinv;obtain ⟨u,out,a2⟩:=q2;obtain ⟨g1,g2,g3⟩:=id hq2;dsimp only at g1 g2 g3;refine gz4 ?_;refine uCo (fun h3=> ?_) fun h4=> ?_
 refine gz7 ?_;refine dq (za (hs:=[_,_,_]) z8 ty3 rfl rfl (by decide) (by decide) rfl) ?_;refine de rfl (uCx 0 ca6 rfl rfl (zf (L:=[_,_,_]) uSo uSa uSa) ?_)
 rintro _ _ ⟨y29,rfl,hy29,rfl⟩;refine dq (zaX rfl rfl (by simp at hy29;omega) (by simp at hy29;omega)) ?_;refine gz4 ?_;refine de rfl (uCx 0 zjd rfl rfl (zak uSo uO) ?_)
 rintro _ _ ⟨y32,rfl,hy32,rfl⟩;refine gz2 ?_;have hyb:1<=y29/\y29<=2:=by simp at hy29;omega
 refine uVj [9,1,33,21] (fun (q9:Nat×Play)=>[(9,pAt q9.1)]) (fun (q9:Nat×Play)=>[St b l (a2+5),.arr u 9 (out.map zas),.cells q9.1 (zb (zas q9.2))]) (fun (q9:Nat×Play)=>zdg q9.2) ?_ ?_
 skip
 refine zia mixed ?_;refine gz3 ?_;refine uB 3 rfl (za (hs:=[_,_,_]) z8 ty3 rfl rfl (by decide) (by decide) rfl) ?_;refine gz1 ?_;refine uB 5 rfl (zy (f:=HVal.int .i64) (l:=zm5) (j:=y32) (a:=zm5.getD y32 0) z8 ty3 rfl rfl rfl (getD_some (by simp [zm5];omega))) ?_;refine gz1 ?_;refine uB 7 rfl (za (hs:=[_,_,_]) zq ty9 rfl rfl (by decide) (by decide) rfl) ?_;refine gz1 ?_;refine uB 9 rfl (zy (f:=HVal.str) (l:=zfg) (j:=y32) (a:=zfg.getD y32 []) zq ty9 rfl rfl rfl (getD_some (by simp [zfg];omega))) ?_;refine gz2 ?_;refine uB 12 rfl (za (hs:=[_,_,_]) zq ty9 rfl rfl (by decide) (by decide) rfl) ?_;refine uA 14 ?_;refine uB 15 rfl (za (hs:=[_,_,_,_]) zq ty9 rfl rfl (by decide) (by decide) rfl) ?_;refine uA 17 ?_;refine uB 18 rfl (za (hs:=[_,_,_,_,_]) z8 ty3 rfl rfl (by decide) (by decide) rfl) ?_;refine zij 13 21 rfl rfl (by kernel_rfl) ?_ ?_
 skip
 refine zv rfl (uCx 0 zbS rfl rfl (zo (L:=[_,_,_]) uSo uSa uSa) ?_)
 rintro _ _ ⟨y46,rfl,hy46,rfl⟩;refine ⟨uE,?_⟩
 refine zij 16 21 rfl rfl (by kernel_rfl) ?_ ?_
 skip
 refine zv rfl (uCx 0 zbS rfl rfl (zo (L:=[_,_,_,_]) uSo uSa uSa) ?_)
 rintro _ _ ⟨y49,rfl,hy49,rfl⟩;refine ⟨uE,?_⟩
 refine zij 19 21 rfl rfl (by kernel_rfl) ?_ ?_
 skip
 refine zv rfl (uCx 0 ca6 rfl rfl (zf (L:=[_,_,_,_,_]) uSo uSa uSa) ?_)
 rintro _ _ ⟨y52,rfl,hy52,rfl⟩;refine ⟨uE,?_⟩
 refine uB 20 rfl (zF (cs:=[_,_,_,_,_,_,_,_,_]) zb1 zuM rfl) ?_;refine uF 21 ?_;refine zv rfl (zj zb1 rfl fun b9=> ?_)
 refine ⟨uE,?_⟩
 refine uF 22 ?_;refine zD (uY 0 ?_)
 refine ⟨uE,?_⟩
 refine uAz ?_;refine ⟨(b9,(⟨x,no+y29,at1,zm5.getD y32 0,zfg.getD y32 [],y46,y49,y52,0⟩:Play)),?_,⟨rfl,trivial⟩,uK,?_⟩
 exact ⟨zl6 x (Ab hx),zkR y32,by simp at hy46;rcases hy46 with rfl|rfl|rfl<;>(unfold Sh;simp),by simp at hy49;rcases hy49 with rfl|rfl|rfl<;>(unfold Sh;simp)⟩;exact uP
 skip
 refine zv rfl (zj zb1 rfl fun b9=> ?_)
 refine ⟨uE,?_⟩
 refine uF 19 ?_;refine zv rfl (uCx 1 ca6 rfl rfl (zf (L:=[_,_,_,_,_]) uSo uSa uSa) ?_)
 rintro _ _ ⟨y52,rfl,hy52,rfl⟩;refine ⟨uE,?_⟩
 refine uB 20 rfl (zF (cs:=[_,_,_,_,_,_,_,_,_]) zb1 zuM rfl) ?_;refine uF 22 ?_;refine zD (uY 1 ?_)
 refine ⟨uE,?_⟩
 refine uAz ?_;refine ⟨(b9,(⟨x,no+y29,at1,zm5.getD y32 0,zfg.getD y32 [],y46,y49,y52,0⟩:Play)),?_,⟨rfl,trivial⟩,uK,?_⟩
 exact ⟨zl6 x (Ab hx),zkR y32,by simp at hy46;rcases hy46 with rfl|rfl|rfl<;>(unfold Sh;simp),by simp at hy49;rcases hy49 with rfl|rfl|rfl<;>(unfold Sh;simp)⟩;exact uP
 skip
 refine zv rfl (zj zb1 rfl fun b9=> ?_)
 refine ⟨uE,?_⟩
 refine uF 16 ?_;refine zv rfl (uCx 1 zbS rfl rfl (zo (L:=[_,_,_,_]) uSo uSa uSa) ?_)
 rintro _ _ ⟨y49,rfl,hy49,rfl⟩;refine ⟨uE,?_⟩
 refine uF 19 ?_;refine zv rfl (uCx 0 ca6 rfl rfl (zf (L:=[_,_,_,_,_]) uSo uSa uSa) ?_)
 rintro _ _ ⟨y52,rfl,hy52,rfl⟩;refine ⟨uE,?_⟩
 refine uB 20 rfl (zF (cs:=[_,_,_,_,_,_,_,_,_]) zb1 zuM rfl) ?_;refine uF 22 ?_;refine zD (uY 1 ?_)
 refine ⟨uE,?_⟩
 refine uAz ?_;refine ⟨(b9,(⟨x,no+y29,at1,zm5.getD y32 0,zfg.getD y32 [],y46,y49,y52,0⟩:Play)),?_,⟨rfl,trivial⟩,uK,?_⟩
 exact ⟨zl6 x (Ab hx),zkR y32,by simp at hy46;rcases hy46 with rfl|rfl|rfl<;>(unfold Sh;simp),by simp at hy49;rcases hy49 with rfl|rfl|rfl<;>(unfold Sh;simp)⟩;exact uP
 skip
 refine zv rfl (zj zb1 rfl fun b9=> ?_)
 refine ⟨uE,?_⟩
 refine uF 13 ?_;refine zv rfl (uCx 1 zbS rfl rfl (zo (L:=[_,_,_]) uSo uSa uSa) ?_)
 rintro _ _ ⟨y46,rfl,hy46,rfl⟩;refine ⟨uE,?_⟩
 refine uF 16 ?_;refine zv rfl (uCx 0 zbS rfl rfl (zo (L:=[_,_,_,_]) uSo uSa uSa) ?_)
 rintro _ _ ⟨y49,rfl,hy49,rfl⟩;refine ⟨uE,?_⟩
 refine uF 19 ?_;refine zv rfl (uCx 0 ca6 rfl rfl (zf (L:=[_,_,_,_,_]) uSo uSa uSa) ?_)
 rintro _ _ ⟨y52,rfl,hy52,rfl⟩;refine ⟨uE,?_⟩
 refine uB 20 rfl (zF (cs:=[_,_,_,_,_,_,_,_,_]) zb1 zuM rfl) ?_;refine uF 22 ?_;refine zD (uY 1 ?_)
 refine ⟨uE,?_⟩
 refine uAz ?_;refine ⟨(b9,(⟨x,no+y29,at1,zm5.getD y32 0,zfg.getD y32 [],y46,y49,y52,0⟩:Play)),?_,⟨rfl,trivial⟩,uK,?_⟩
 exact ⟨zl6 x (Ab hx),zkR y32,by simp at hy46;rcases hy46 with rfl|rfl|rfl<;>(unfold Sh;simp),by simp at hy49;rcases hy49 with rfl|rfl|rfl<;>(unfold Sh;simp)⟩;exact uP
 intro q9 hq9
 obtain ⟨b9,x9⟩:=q9;dsimp only at hq9;refine uVj [11,1,54,47] (fun (q4:Play×Nat)=>[]) (fun (q4:Play×Nat)=>[St b l q4.2,.arr u 9 (out.map zas),.cells b9 (zb (zas q4.1))]) (fun (q4:Play×Nat)=>zdg q4.1/\q4.2<=a2+22) ?_ ?_
 skip
 refine gz5 ?_;refine dgx (fun x M'=> ∃(y:Bool) (a3:Nat),x= .bool y/\a3<=(a2+5)+1/\M'=[St b l a3,.arr u 9 (out.map zas),.cells b9 (zb (zas x9))]) rfl rfl (fun hc=>⟨_,false,(a2+5),rfl,by omega,rfl⟩) (fun hc=>⟨_,OpenTo.upd (t:=57) rfl (hc) (OpenTo.refl _),uCx 0 zes rfl rfl (zI (a:=(a2+5)) uO uO) (fun h M' hh=>by
  obtain ⟨y,h1,h2⟩:=hh;exact ⟨y,(a2+5)+1,h1,by omega,by rw [h2];rfl⟩)⟩) ?_
 rintro _ _ ⟨y10,a310,rfl,ha310,rfl⟩;refine gz2 ?_;refine uCo (fun h5=> ?_) fun h6=> ?_
 refine gz4 ?_;refine de rfl (uCx 0 zeJ rfl rfl (zJ uO uO uO uO) ?_)
 rintro _ _ ⟨y63,rfl,hy63,rfl⟩;refine gz1 ?_;refine de0 (uY 2 ?_)
 refine gz1 ?_;refine de0 (uY 2 ?_)
 refine gz1 ?_;obtain ⟨s9,n9,t9,w9,m9,p9,st9,c9,u9⟩:=x9;refine ze (Ghost.perm (M':=[St b l (a310+1),.arr u 9 (out.map zas),.cells b9 (zb (zas ⟨s9,n9,t9,w9,m9,p9,st9,0,y63⟩))]) uP) ?_;refine gz2 ?_;refine de rfl (zaT (i:=1) (es:=out) zho rfl rfl ?_)
 refine gz3 ?_;refine uV2 [11,1,68,33] (fun (j:Nat) (q3:Play×Nat)=>[(68,.int .i64 j)]) (fun (j:Nat) (q3:Play×Nat)=>[St b l q3.2,.arr u 9 (out.map zas),.cells b9 (zb (zas q3.1))]) (fun (j:Nat) (q3:Play×Nat)=>j<=out.length/\(zdg q3.1/\q3.2<=a310+1+j)) (fun (j:Nat) (q3:Play×Nat)=>out.length-j) (0) ((⟨s9,n9,t9,w9,m9,p9,st9,0,y63⟩,a310+1)) ?_ ?_ ?_ ?_;exact ⟨Ad _,hq9,uD⟩;exact ⟨rfl,trivial⟩;exact uP
 intro j q3 hinv
 obtain ⟨hj,hq3⟩:=hinv;obtain ⟨⟨s3,n3,t3,w3,m3,p3,st3,c3,u3⟩,a4⟩:=q3;obtain ⟨hs3,ha4⟩:=hq3;dsimp only at hs3 ha4;refine gz4 ?_;refine uCo (fun h7=> ?_) fun h8=> ?_
 obtain ⟨z,hz⟩: ∃z,out[j]? =some z:=⟨_,Aa h7⟩
 have hdz:=zi hz;have hgz:=g2 z (Ab hz);refine zdi (i:=1) rfl (fun h0 he=> ?_) (fun ob off cap hv hcap=> ?_)
 exfalso;have:=congrArg List.length he;simp at this;subst this;simp at hz
 subst hv;refine gz5 ?_;refine dq (zx (j:=j) zho zb1 rfl rfl rfl uSo) ?_;refine de rfl (zab (i:=1) (j:=j) (f:=zas) (es:=out) zb1 rfl rfl rfl hz rfl rfl rfl ?_)
 refine de rfl (zj zb1 rfl fun b11=> ?_)
 refine de0 (zp zb1 rfl rfl rfl rfl rfl ?_)
 refine gz1 ?_;refine ze (zk 11 rfl) ?_;refine gz9 ?_;refine dgl rfl rfl (fun hc=>⟨_,OpenTo.upd (t:=79) rfl (hc) (OpenTo.refl _),zan (i:=2) ty3 rfl rfl (.inl ⟨rfl,rfl⟩) ⟨rfl,rfl⟩⟩) ?_;refine gz4 ?_;refine dgx (fun x M'=> ∃(y:Bool) (a3:Nat),x= .bool y/\a3<=a4+1/\M'=[St b l a3,.arr (.slice (some ⟨ob,off,none⟩) (out.map zas).length cap) 9 (out.map zas),.cells b9 (zb (zas ⟨s3,n3,t3,w3,m3,p3,st3,c3,u3⟩))]) rfl rfl (fun hc=>⟨_,false,a4,rfl,by omega,rfl⟩) (fun hc=>⟨_,OpenTo.upd (t:=84) rfl (hc) (OpenTo.refl _),uCx 0 zes rfl rfl (zI (a:=a4) uO uO) (fun h M' hh=>by
  obtain ⟨y,h1,h2⟩:=hh;exact ⟨y,a4+1,h1,by omega,by rw [h2];rfl⟩)⟩) ?_
 rintro _ _ ⟨y6,a36,rfl,ha36,rfl⟩;refine gz3 ?_;refine uCo (fun h9=> ?_) fun h10=> ?_
 refine zia mixed ?_;refine gz9 ?_;refine uF 9 ?_;refine zD (uY 2 ?_)
 refine ⟨uE,?_⟩
 refine gz1 ?_;refine uF 11 ?_;refine zD (uY 2 ?_)
 refine ⟨uE,?_⟩
 refine gz1 ?_;refine uF 13 ?_;refine zD (uY 2 ?_)
 refine ⟨uE,?_⟩
 refine gz1 ?_;refine uF 15 ?_;refine zD (uY 2 ?_)
 refine ⟨uE,?_⟩
 refine gz7 ?_;exact ⟨j+1,(⟨s3,n3,t3,z.Week,z.Match,z.Player,z.Stat,c3,u3⟩,a36),⟨by omega,⟨hs3.1,hgz.2.1,hgz.2.2.1,hgz.2.2.2⟩,uD⟩,uD,⟨rfl,trivial⟩,uK,uP⟩;refine gz7 ?_;exact ⟨j+1,(⟨s3,n3,t3,w3,m3,p3,st3,c3,u3⟩,a36),⟨by omega,hs3,uD⟩,uD,⟨rfl,trivial⟩,uK,uP⟩;have hnj:out.length<=j:=by omega
 obtain rfl:j=out.length:=by omega
 refine gz2 ?_;refine zM ?_;refine gz1 ?_;exact ⟨(⟨s3,n3,t3,w3,m3,p3,st3,c3,u3⟩,a4),⟨hs3,uD⟩,trivial,uK,uP⟩;refine gz1 ?_;exact ⟨(x9,a310),⟨hq9,uD⟩,trivial,uK,uP⟩
 intro q4 hq4
 obtain ⟨x5,a5⟩:=q4;obtain ⟨hx5,ha5⟩:=hq4;dsimp only at hx5 ha5;refine ze (zbr 9 (i:=2) rfl rfl) ?_;refine gz3 ?_;refine dq (za (hs:=[_]) zho zb1 rfl rfl (by decide) (by decide) rfl) ?_;refine de rfl (zK (i:=1) zho zb1 rfl rfl rfl rfl rfl (by simp [zar,zb]) uSo fun v104=> ?_)
 refine gz5 ?_;refine dq (za (hs:=[_,_,_,_]) z8 ty3 rfl rfl (by decide) (by decide) rfl) ?_;refine de rfl (uCx 0 ca6 rfl rfl (zf (L:=[_,_,_,_]) uO uSa uSa) ?_)
 rintro _ _ ⟨y108,rfl,hy108,rfl⟩;refine dq (zaX rfl rfl (by simp at hy108;omega) (by simp at hy108;omega)) ?_;refine gz8 ?_;exact ⟨n+1,no+y29,at1+y108,⟨v104,out++[x5],a5+1⟩,⟨by omega,⟨by simp at hy29;omega,by simp at hy29;omega⟩,⟨by simp at hy108;omega,by simp at hy108;omega⟩,hq2.add (x:=x5) hx5 uO⟩,uD,⟨rfl,rfl,rfl,rfl,trivial⟩,uK,uP⟩;refine gz2 ?_;refine zzZ ?_;refine gz7 ?_;exact ⟨k+1,⟨u,out,a2⟩,⟨by omega,⟨uD,g2,uD⟩⟩,uD,⟨rfl,rfl,trivial⟩,uK,uP⟩;have hnk:zgH.length<=k:=by omega
 obtain rfl:k=zgH.length:=by omega
 refine gz2 ?_;refine zM ?_;refine gz2 ?_;refine uVj [12,1,112,111] (fun (q5:List Play×Nat)=>[]) (fun (q5:List Play×Nat)=>[St b l q5.2,.arr u 9 (q5.1.map zas)]) (fun (q5:List Play×Nat)=>q5.1.length<=15/\(∀x∈q5.1,zdg x)/\q5.2<=a+500) ?_ ?_
 skip
 refine gz2 ?_;refine de rfl (zaT (i:=1) zho rfl rfl ?_)
 refine gz3 ?_;refine dgx (fun x M'=> ∃(y:Bool) (a3:Nat),x= .bool y/\a3<=a1+1/\M'=[St b l a3,.arr u 9 (out.map zas)]) rfl rfl (fun hc=>⟨_,false,a1,rfl,by omega,rfl⟩) (fun hc=>⟨_,OpenTo.upd (t:=116) rfl (hc) (OpenTo.refl _),uCx 0 zes rfl rfl (zI (a:=a1) uO uO) (fun h M' hh=>by
  obtain ⟨y,h1,h2⟩:=hh;exact ⟨y,a1+1,h1,by omega,by rw [h2];rfl⟩)⟩) ?_
 rintro _ _ ⟨y,a3,rfl,ha3,rfl⟩;refine gz2 ?_;refine uCo (fun h11=> ?_) fun h12=> ?_
 have ho0:0<out.length:=by simp_all
 refine zdi (i:=1) rfl (fun h0 he=> ?_) (fun ob off cap hv hcap=> ?_)
 exfalso;have:=congrArg List.length he;simp at this;subst this;simp at ho0
 subst hv;refine gz4 ?_;refine de rfl (zaT (i:=1) zho rfl rfl ?_)
 refine de rfl (uCx 0 zjd rfl rfl (zak uO uO) ?_)
 rintro _ _ ⟨y123,rfl,hy123,rfl⟩;refine dq (zx (j:=y123) zho zb1 rfl rfl rfl uSo) ?_;refine gz2 ?_;obtain ⟨x,hx⟩: ∃x,out[y123]? =some x:=⟨_,Aa uO⟩
 refine gz2 ?_;refine de rfl (uCx 0 zjd rfl rfl (zak uO uO) ?_)
 rintro _ _ ⟨y126,rfl,hy126,rfl⟩;refine gz6 ?_;refine uCo (fun h13=> ?_) fun h14=> ?_
 refine zbj (fun M=> ∃i:Nat,M[i]? =some (.arr (.slice (some ⟨ob,off,none⟩) (out.map zas).length cap) 9 (out.map zas))) [6,13] mixed ?_;refine gz6 ?_;refine uM 6 rfl ⟨1,rfl⟩ (fun M hM=>by obtain ⟨i,hi⟩:=hM;exact zaq (i:=i) (j:=y123) 0 ty9 rfl uO hi hx rfl rfl ⟨rfl,rfl⟩) ?_;refine uB 7 rfl (za (hs:=[_,_,_]) zq ty9 rfl rfl (by decide) (by decide) rfl) ?_;refine uA 9 ?_;refine gz3 ?_;refine uM 13 rfl ⟨1,rfl⟩ (fun M hM=>by obtain ⟨i,hi⟩:=hM;exact zaq (i:=i) (j:=y123) 1 ty3 rfl uO hi hx rfl rfl ⟨rfl,rfl⟩) ?_;refine uB 14 rfl (za (hs:=[_,_,_,_]) z8 ty3 rfl rfl (by decide) (by decide) rfl) ?_;refine uF 8 ?_;refine zv rfl (uCx 0 zbS rfl rfl (zo (L:=[_,_,_]) uO uSa uSa) ?_)
 rintro _ _ ⟨y167,rfl,hy167,rfl⟩;refine ⟨uE,?_⟩
 refine uF 15 ?_;refine zv rfl (uCx 0 ca6 rfl rfl (zf (L:=[_,_,_,_]) uO uSa uSa) ?_)
 rintro _ _ ⟨y174,rfl,hy174,rfl⟩;refine ⟨uE,?_⟩
 refine gz2 ?_;refine uF 18 ?_;refine zD (zQ (i:=1) (j:=y123) (f:=0) (y:=zas x) (y':=zas ⟨y167,x.No,x.At,x.Week,x.Match,x.Player,x.Stat,x.Count,x.Undo⟩) ty9 rfl uO rfl rfl (za9 hx) rfl rfl (by simp [zb]) rfl ?_)
 refine ⟨uE,?_⟩
 refine gz2 ?_;refine uF 21 ?_;refine zD (zQ (i:=1) (j:=y123) (f:=1) (y:=zas ⟨y167,x.No,x.At,x.Week,x.Match,x.Player,x.Stat,x.Count,x.Undo⟩) (y':=zas ⟨y167,y174,x.At,x.Week,x.Match,x.Player,x.Stat,x.Count,x.Undo⟩) ty3 rfl uO rfl rfl (zaL (za9 hx)) rfl rfl (by simp [zb]) rfl ?_)
 refine ⟨uE,?_⟩
 refine gz2 ?_;exact ⟨(out.set y123 ⟨y167,y174,x.At,x.Week,x.Match,x.Player,x.Stat,x.Count,x.Undo⟩,a3+4),⟨by simp;omega,zfk (P:=zdg) g2 (by
  have hgx:=g2 x (Ab hx);exact ⟨by simp at hy167;rcases hy167 with rfl|rfl|rfl;exact hgx.1;exact zqX;(unfold Sh;simp),hgx.2.1,hgx.2.2.1,hgx.2.2.2⟩),uD⟩,trivial,uK,uP⟩
 refine gz4 ?_;refine uCo (fun h15=> ?_) fun h16=> ?_
 refine zbj (fun M=> ∃i:Nat,M[i]? =some (.arr (.slice (some ⟨ob,off,none⟩) (out.map zas).length cap) 9 (out.map zas))) [6,13] mixed ?_;refine gz6 ?_;refine uM 6 rfl ⟨1,rfl⟩ (fun M hM=>by obtain ⟨i,hi⟩:=hM;exact zaq (i:=i) (j:=y123) 3 ty3 rfl uO hi hx rfl rfl ⟨rfl,rfl⟩) ?_;refine uB 7 rfl (za (hs:=[_,_,_]) z8 ty3 rfl rfl (by decide) (by decide) rfl) ?_;refine uA 9 ?_;refine gz3 ?_;refine uM 13 rfl ⟨1,rfl⟩ (fun M hM=>by obtain ⟨i,hi⟩:=hM;exact zaq (i:=i) (j:=y123) 4 ty9 rfl uO hi hx rfl rfl ⟨rfl,rfl⟩) ?_;refine uB 14 rfl (za (hs:=[_,_]) zq ty9 rfl rfl (by decide) (by decide) rfl) ?_;refine uF 8 ?_;refine zv rfl (uCx 0 ca6 rfl rfl (zf (L:=[_,_,_]) uO uSa uSa) ?_)
 rintro _ _ ⟨y189,rfl,hy189,rfl⟩;refine ⟨uE,?_⟩
 refine uF 15 ?_;refine zv rfl (uCx 0 zbS rfl rfl (zo (L:=[_,_]) uO uSa uSa) ?_)
 rintro _ _ ⟨y196,rfl,hy196,rfl⟩;refine ⟨uE,?_⟩
 refine gz2 ?_;refine uF 18 ?_;refine zD (zQ (i:=1) (j:=y123) (f:=3) (y:=zas x) (y':=zas ⟨x.Source,x.No,x.At,y189,x.Match,x.Player,x.Stat,x.Count,x.Undo⟩) ty3 rfl uO rfl rfl (za9 hx) rfl rfl (by simp [zb]) rfl ?_)
 refine ⟨uE,?_⟩
 refine gz2 ?_;refine uF 21 ?_;refine zD (zQ (i:=1) (j:=y123) (f:=4) (y:=zas ⟨x.Source,x.No,x.At,y189,x.Match,x.Player,x.Stat,x.Count,x.Undo⟩) (y':=zas ⟨x.Source,x.No,x.At,y189,y196,x.Player,x.Stat,x.Count,x.Undo⟩) ty9 rfl uO rfl rfl (zaL (za9 hx)) rfl rfl (by simp [zb]) rfl ?_)
 refine ⟨uE,?_⟩
 refine gz2 ?_;exact ⟨(out.set y123 ⟨x.Source,x.No,x.At,y189,y196,x.Player,x.Stat,x.Count,x.Undo⟩,a3+4),⟨by simp;omega,zfk (P:=zdg) g2 (by
  have hgx:=g2 x (Ab hx);exact ⟨hgx.1,by simp at hy196;rcases hy196 with rfl|rfl;exact hgx.2.1;exact zqX,hgx.2.2.1,hgx.2.2.2⟩),uD⟩,trivial,uK,uP⟩
 refine gz4 ?_;refine uCo (fun h17=> ?_) fun h18=> ?_
 refine zbj (fun M=> ∃i:Nat,M[i]? =some (.arr (.slice (some ⟨ob,off,none⟩) (out.map zas).length cap) 9 (out.map zas))) [6,13] mixed ?_;refine gz6 ?_;refine uM 6 rfl ⟨1,rfl⟩ (fun M hM=>by obtain ⟨i,hi⟩:=hM;exact zaq (i:=i) (j:=y123) 7 ty3 rfl uO hi hx rfl rfl ⟨rfl,rfl⟩) ?_;refine uB 7 rfl (za (hs:=[_,_,_]) z8 ty3 rfl rfl (by decide) (by decide) rfl) ?_;refine uA 9 ?_;refine gz3 ?_;refine uM 13 rfl ⟨1,rfl⟩ (fun M hM=>by obtain ⟨i,hi⟩:=hM;exact zaq (i:=i) (j:=y123) 8 ty3 rfl uO hi hx rfl rfl ⟨rfl,rfl⟩) ?_;refine uB 14 rfl (za (hs:=[_,_,_]) z8 ty3 rfl rfl (by decide) (by decide) rfl) ?_;refine uF 8 ?_;refine zv rfl (uCx 0 ca6 rfl rfl (zf (L:=[_,_,_]) uO uSa uSa) ?_)
 rintro _ _ ⟨y211,rfl,hy211,rfl⟩;refine ⟨uE,?_⟩
 refine uF 15 ?_;refine zv rfl (uCx 0 ca6 rfl rfl (zf (L:=[_,_,_]) uO uSa uSa) ?_)
 rintro _ _ ⟨y218,rfl,hy218,rfl⟩;refine ⟨uE,?_⟩
 refine gz2 ?_;refine uF 18 ?_;refine zD (zQ (i:=1) (j:=y123) (f:=7) (y:=zas x) (y':=zas ⟨x.Source,x.No,x.At,x.Week,x.Match,x.Player,x.Stat,y211,x.Undo⟩) ty3 rfl uO rfl rfl (za9 hx) rfl rfl (by simp [zb]) rfl ?_)
 refine ⟨uE,?_⟩
 refine gz2 ?_;refine uF 21 ?_;refine zD (zQ (i:=1) (j:=y123) (f:=8) (y:=zas ⟨x.Source,x.No,x.At,x.Week,x.Match,x.Player,x.Stat,y211,x.Undo⟩) (y':=zas ⟨x.Source,x.No,x.At,x.Week,x.Match,x.Player,x.Stat,y211,y218⟩) ty3 rfl uO rfl rfl (zaL (za9 hx)) rfl rfl (by simp [zb]) rfl ?_)
 refine ⟨uE,?_⟩
 refine gz2 ?_;exact ⟨(out.set y123 ⟨x.Source,x.No,x.At,x.Week,x.Match,x.Player,x.Stat,y211,y218⟩,a3+4),⟨by simp;omega,zfk (P:=zdg) g2 (by
  have hgx:=g2 x (Ab hx);exact ⟨hgx.1,hgx.2.1,hgx.2.2.1,hgx.2.2.2⟩),uD⟩,trivial,uK,uP⟩
 refine zbj (fun M=> ∃i:Nat,M[i]? =some (.arr (.slice (some ⟨ob,off,none⟩) (out.map zas).length cap) 9 (out.map zas))) [7,14,21] mixed ?_;refine gz7 ?_;refine uM 7 rfl ⟨1,rfl⟩ (fun M hM=>by obtain ⟨i,hi⟩:=hM;exact zaq (i:=i) (j:=y123) 5 ty9 rfl uO hi hx rfl rfl ⟨rfl,rfl⟩) ?_;refine uB 8 rfl (za (hs:=[_,_]) zq ty9 rfl rfl (by decide) (by decide) rfl) ?_;refine uA 10 ?_;refine gz3 ?_;refine uM 14 rfl ⟨1,rfl⟩ (fun M hM=>by obtain ⟨i,hi⟩:=hM;exact zaq (i:=i) (j:=y123) 6 ty9 rfl uO hi hx rfl rfl ⟨rfl,rfl⟩) ?_;refine uB 15 rfl (za (hs:=[_,_]) zq ty9 rfl rfl (by decide) (by decide) rfl) ?_;refine uA 17 ?_;refine gz3 ?_;refine uM 21 rfl ⟨1,rfl⟩ (fun M hM=>by obtain ⟨i,hi⟩:=hM;exact zaq (i:=i) (j:=y123) 2 ty3 rfl uO hi hx rfl rfl ⟨rfl,rfl⟩) ?_;refine uB 22 rfl (za (hs:=[_,_]) z8 ty3 rfl rfl (by decide) (by decide) rfl) ?_;refine uF 9 ?_;refine zv rfl (uCx 0 zbS rfl rfl (zo (L:=[_,_]) uO uSa uSa) ?_)
 rintro _ _ ⟨y136,rfl,hy136,rfl⟩;refine ⟨uE,?_⟩
 refine uF 16 ?_;refine zv rfl (uCx 0 zbS rfl rfl (zo (L:=[_,_]) uO uSa uSa) ?_)
 rintro _ _ ⟨y143,rfl,hy143,rfl⟩;refine ⟨uE,?_⟩
 refine uF 23 ?_;refine zv rfl (uCx 0 ca6 rfl rfl (zf (L:=[_,_]) uO uSa uSa) ?_)
 rintro _ _ ⟨y150,rfl,hy150,rfl⟩;refine ⟨uE,?_⟩
 refine gz2 ?_;refine uF 26 ?_;refine zD (zQ (i:=1) (j:=y123) (f:=5) (y:=zas x) (y':=zas ⟨x.Source,x.No,x.At,x.Week,x.Match,y136,x.Stat,x.Count,x.Undo⟩) ty9 rfl uO rfl rfl (za9 hx) rfl rfl (by simp [zb]) rfl ?_)
 refine ⟨uE,?_⟩
 refine gz2 ?_;refine uF 29 ?_;refine zD (zQ (i:=1) (j:=y123) (f:=6) (y:=zas ⟨x.Source,x.No,x.At,x.Week,x.Match,y136,x.Stat,x.Count,x.Undo⟩) (y':=zas ⟨x.Source,x.No,x.At,x.Week,x.Match,y136,y143,x.Count,x.Undo⟩) ty9 rfl uO rfl rfl (zaL (za9 hx)) rfl rfl (by simp [zb]) rfl ?_)
 refine ⟨uE,?_⟩
 refine gz2 ?_;refine uF 32 ?_;refine zD (zQ (i:=1) (j:=y123) (f:=2) (y:=zas ⟨x.Source,x.No,x.At,x.Week,x.Match,y136,y143,x.Count,x.Undo⟩) (y':=zas ⟨x.Source,x.No,y150,x.Week,x.Match,y136,y143,x.Count,x.Undo⟩) ty3 rfl uO rfl rfl (zaL (zaL (za9 hx))) rfl rfl (by simp [zb]) rfl ?_)
 refine ⟨uE,?_⟩
 refine gz2 ?_;exact ⟨(out.set y123 ⟨x.Source,x.No,y150,x.Week,x.Match,y136,y143,x.Count,x.Undo⟩,a3+5),⟨by simp;omega,zfk (P:=zdg) g2 (by
  have hgx:=g2 x (Ab hx);exact ⟨hgx.1,hgx.2.1,by simp at hy136;rcases hy136 with rfl|rfl;exact hgx.2.2.1;(unfold Sh;simp),by simp at hy143;rcases hy143 with rfl|rfl;exact hgx.2.2.2;exact zqX⟩),uD⟩,trivial,uK,uP⟩
 refine gz1 ?_;exact ⟨(out,a3),⟨uD,g2,uD⟩,trivial,uK,uP⟩
 intro q5 hq5
 obtain ⟨k1,a4⟩:=q5;dsimp only at hq5;obtain ⟨q1,q2,q3⟩:=hq5;refine gz5 ?_;exact zat (zaJ 2 (i:=1) rfl rfl) rfl ⟨k1,a4,rfl,⟨by omega,q2⟩,by omega,rfl⟩
end
section
open Go.Proofs.Tryz
open Go.HL
theorem zdN [Tracks] {b:Nat} {l:List Int} {a:Nat} (ha:a<=800000):Con prog 174 [pAt b] [St b l a] (fun x M'=> ∃t a',x=eSs t/\t.length<=4/\a'<=a+5/\M'=[St b l a']):=by
 refine uOb func174 ntmps174 ?_;refine gz6 ?_;refine ze (zN 1) ?_;refine gz2 ?_;refine dq (za (hs:=[_,_,_,_]) zq ty9 rfl rfl (by decide) (by decide) rfl) ?_;refine dq (zao (f:=HVal.str) (l:=sp4) zq rfl) ?_;refine gz3 ?_;refine uV2 [3,1,5,1,8,11] (fun (k:Nat) (q:GL Str)=>[(8,.int .i64 k),(3,.raw q.u)]) (fun (k:Nat) (q:GL Str)=>[St b l q.a,.arr q.u 1 (q.out.map HVal.str)]) (fun (k:Nat) (q:GL Str)=>k<=sp4.length/\(GLok (fun _=>True) (k) (a+k) q)) (fun (k:Nat) (q:GL Str)=>sp4.length-k) (0) (⟨.slice none 0 0,[],a⟩) ?_ ?_ ?_ ?_
 ·exact ⟨Ad _,⟨by simp,by simp,uD⟩⟩
 ·exact ⟨rfl,rfl,trivial⟩
 ·exact uP
 ·intro k q hinv
  obtain ⟨hk,hq⟩:=hinv;have hlen:sp4.length=4:=rfl;obtain ⟨u,out,a2⟩:=q;obtain ⟨g1,g2,g3⟩:=id hq;dsimp only at g1 g2 g3;refine gz4 ?_;refine uCo (fun h1=> ?_) fun h2=> ?_
  ·obtain ⟨x,hx⟩: ∃x,sp4[k]? =some x:=⟨_,Aa h1⟩
   have hdx:=zi hx;refine gz5 ?_;refine dq (zy (f:=HVal.str) (l:=sp4) (j:=k) (a:=x) zq ty9 rfl rfl rfl hx) ?_;refine gz5 ?_;refine de rfl (uCx 0 zes rfl rfl (zI uS uS) ?_)
   rintro _ _ ⟨y13,rfl,rfl⟩;refine gz1 ?_;refine uCo (fun h3=> ?_) fun h4=> ?_
   ·refine gz3 ?_;refine dq (za (hs:=[_]) zq ty9 rfl rfl (by decide) (by decide) rfl) ?_;refine de rfl (zK (i:=1) zq ty9 rfl rfl rfl rfl rfl (by simp [zar,zb,zaz,za4]) uSo fun v17=> ?_)
    refine gz8 ?_;exact ⟨k+1,⟨v17,out++[x],a2+1⟩,⟨by omega,hq.add (x:=x) trivial uO⟩,uD,⟨rfl,rfl,trivial⟩,uK,zm (by dsimp only;first|rfl|(rw [Az];rfl))⟩
   ·refine gz7 ?_;exact ⟨k+1,⟨u,out,a2+1⟩,⟨by omega,hq.same uO⟩,uD,⟨rfl,rfl,trivial⟩,uK,zm (by dsimp only;first|rfl|(rw [Az];rfl))⟩
  ·have hnk:sp4.length<=k:=by omega
   obtain rfl:k=sp4.length:=by omega
   refine gz2 ?_;refine zM ?_;refine gz5 ?_;refine de rfl (zaT (i:=1) zq rfl rfl ?_)
   refine gz2 ?_;refine uCo (fun h5=> ?_) fun h6=> ?_
   ·refine gz2 ?_;refine dq (za (hs:=[_,_,_]) zq ty9 rfl rfl (by decide) (by decide) rfl) ?_;refine de rfl (uCx 0 zbS rfl rfl (zo (L:=[_,_,_]) uS uS uS) ?_)
    rintro _ _ ⟨y24,rfl,hy24,rfl⟩;refine dq (za (hs:=[_]) zq ty9 rfl rfl (by decide) (by decide) rfl) ?_;refine gz3 ?_;exact zat ((zaQ (M':=[St b l (a2+1),.arr u 1 (out.map HVal.str)]) rfl).trans ((Ghost.perm (List.Perm.swap _ _ _)).trans Ghost.drop)) rfl ⟨[y24],_,rfl,by simp,by omega,rfl⟩
   ·refine gz7 ?_;exact zat (zaJ 2 (i:=1) rfl rfl) rfl ⟨out,a2,rfl,by omega,by omega,rfl⟩
theorem zd0 [Tracks] {b:Nat} {l:List Int} {a:Nat} (ha:a<=700000):Con prog 87 [pAt b] [St b l a] (fun x M'=> ∃k a',x=zbi k/\GoodPys k/\a'<=a+40/\M'=[St b l a']):=by
 refine uOb func87 ntmps87 ?_;refine gz6 ?_;refine ze (zN 3) ?_;refine gz2 ?_;refine dq (za (hs:=[_,_,_,_,_]) zq ty9 rfl rfl (by decide) (by decide) rfl) ?_;refine dq (zao (f:=HVal.str) (l:=nm5) zq rfl) ?_;refine gz3 ?_;refine uV2 [3,1,5,1,8,17] (fun (k:Nat) (q:GL PlayerS)=>[(8,.int .i64 k),(3,.raw q.u)]) (fun (k:Nat) (q:GL PlayerS)=>[St b l q.a,.arr q.u 3 (q.out.map zeL)]) (fun (k:Nat) (q:GL PlayerS)=>k<=nm5.length/\(GLok (GoodPy) (k) (a+8*k) q)) (fun (k:Nat) (q:GL PlayerS)=>nm5.length-k) (0) (⟨.slice none 0 0,[],a⟩) ?_ ?_ ?_ ?_;exact ⟨Ad _,⟨by simp,by simp,uD⟩⟩;exact ⟨rfl,rfl,trivial⟩;exact uP
 intro k q hinv
 obtain ⟨hk,hq⟩:=hinv;have hlen:nm5.length=5:=rfl;obtain ⟨u,out,a2⟩:=q;obtain ⟨g1,g2,g3⟩:=id hq;dsimp only at g1 g2 g3;refine gz4 ?_;refine uCo (fun h1=> ?_) fun h2=> ?_
 obtain ⟨x,hx⟩: ∃x,nm5[k]? =some x:=⟨_,Aa h1⟩
 have hdx:=zi hx;refine gz5 ?_;refine dq (zy (f:=HVal.str) (l:=nm5) (j:=k) (a:=x) zq ty9 rfl rfl rfl hx) ?_;refine gz6 ?_;refine de rfl (uCx 0 zes rfl rfl (zI uS uS) ?_)
 rintro _ _ ⟨y13,rfl,rfl⟩;refine gz1 ?_;refine uCo (fun h3=> ?_) fun h4=> ?_
 refine gz8 ?_;exact ⟨k+1,⟨u,out,a2+1⟩,⟨by omega,hq.same uO⟩,uD,⟨rfl,rfl,trivial⟩,uK,zm (by dsimp only;first|rfl|(rw [Az];rfl))⟩;refine gz6 ?_;refine dq (za (hs:=[_,_,_,_,_,_]) zq ty9 rfl rfl (by decide) (by decide) rfl) ?_;refine de rfl (uCx 0 zbS rfl rfl (zo (L:=[_,_,_,_,_,_]) uS uS uS) ?_)
 rintro _ _ ⟨y18,rfl,hy18,rfl⟩;refine gz1 ?_;refine de rfl (uCx 0 zwO rfl rfl (zdN uS) ?_)
 rintro _ _ ⟨t20,a20,rfl,ht20,ha20,rfl⟩;refine dq (zF (cs:=[_,_,_]) zeF zGg rfl) ?_;refine dq (za (hs:=[_]) zm3 zeF rfl rfl (by decide) (by decide) rfl) ?_;refine de rfl (zK (i:=1) zm3 zeF rfl rfl rfl rfl rfl (by simp [zar,zb,zaz,za4]) uSo fun v23=> ?_)
 refine gz8 ?_;exact ⟨k+1,⟨v23,out++[(⟨x,y18,t20⟩:PlayerS)],a20⟩,⟨by omega,hq.add (x:=(⟨x,y18,t20⟩:PlayerS)) ⟨by exact hy18,ht20⟩ (by dsimp only at ha20;omega)⟩,uD,⟨rfl,rfl,trivial⟩,uK,zm (by dsimp only;first|rfl|(rw [Az];rfl))⟩;have hnk:nm5.length<=k:=by omega
 obtain rfl:k=nm5.length:=by omega
 refine gz2 ?_;refine zM ?_;refine gz7 ?_;exact zat (zaJ 2 (i:=1) rfl rfl) rfl ⟨out,a2,rfl,⟨by omega,g2⟩,by omega,rfl⟩
theorem zaN [Tracks] {b:Nat} {l:List Int} {a:Nat} (ha:a<=800000):Con prog 91 [pAt b] [St b l a] (fun x M'=> ∃y:BoundS,x=zfZ y/\M'=[St b l (a+4)]):=by
 refine zbb func91 rfl ntmps91 rfl rfl ?_;refine gz1 ?_;refine de rfl (zj zji rfl fun b2=> ?_)
 refine gz3 ?_;refine dq (za (hs:=[_,_,_,_]) z8 ty3 rfl rfl (by decide) (by decide) rfl) ?_;refine de rfl (uCx 1 ca6 rfl rfl (zf (L:=[_,_,_,_]) uS uS uS) ?_)
 rintro _ _ ⟨y5,rfl,hy5,rfl⟩;refine gz1 ?_;refine dq (za (hs:=[_,_,_]) z8 ty3 rfl rfl (by decide) (by decide) rfl) ?_;refine de rfl (uCx 0 ca6 rfl rfl (zf (L:=[_,_,_]) uS uS uS) ?_)
 rintro _ _ ⟨y8,rfl,hy8,rfl⟩;refine gz1 ?_;refine dq (za (hs:=[_,_,_,_]) z8 ty3 rfl rfl (by decide) (by decide) rfl) ?_;refine de rfl (uCx 0 ca6 rfl rfl (zf (L:=[_,_,_,_]) uS uS uS) ?_)
 rintro _ _ ⟨y11,rfl,hy11,rfl⟩;refine gz1 ?_;refine dq (za (hs:=[_,_,_,_]) z8 ty3 rfl rfl (by decide) (by decide) rfl) ?_;refine de rfl (uCx 0 ca6 rfl rfl (zf (L:=[_,_,_,_]) uS uS uS) ?_)
 rintro _ _ ⟨y14,rfl,hy14,rfl⟩;refine dq (zF (cs:=[_,_,_,_]) zji pl32 rfl) ?_;refine de0 (uY 1 ?_)
 refine gz2 ?_;exact ⟨_,_,zbr 2 (i:=1) rfl rfl,[_],_,⟨⟨_,_,_,_,_,rfl,zji,.inr ⟨rfl,rfl,rfl⟩⟩,trivial⟩,Weak.refl _,⟨y5,y8,y11,y14⟩,rfl,rfl⟩
theorem zbl [Tracks] {b:Nat} {l:List Int} {a:Nat} (ha:a<=700000):Con prog 90 [pAt b] [St b l a] (fun x M'=> ∃k a',x=zbB k/\GoodS4s k/\0<k.length/\a'<=a+25/\M'=[St b l a']):=by
 refine uOb func90 ntmps90 ?_;refine gz6 ?_;refine ze (zN 2) ?_;refine gz2 ?_;refine dq (za (hs:=[_,_,_,_]) zq ty9 rfl rfl (by decide) (by decide) rfl) ?_;refine gz1 ?_;refine de rfl (uCx 1 zeJ rfl rfl (zJ uS uS uS uS) ?_)
 rintro _ _ ⟨y8,rfl,hy8,rfl⟩;refine dq (zaP (es:=sl4) (f:=HVal.str) (h:=y8.toNat) zq ty9 rfl rfl ⟨_,_,rfl,by omega⟩ uO (by simp [sl4];omega)) ?_;refine dq (zao (f:=HVal.str) (l:=(sl4.take y8.toNat)) zq rfl) ?_;refine gz2 ?_;have hlen:(sl4.take y8.toNat).length=y8.toNat:=by simp [sl4];omega
 refine gz1 ?_;refine uV2 [3,1,5,1,11,12] (fun (k:Nat) (q:GL SlotS)=>[(11,.int .i64 k),(3,.raw q.u)]) (fun (k:Nat) (q:GL SlotS)=>[St b l q.a,.arr q.u 2 (q.out.map zbo)]) (fun (k:Nat) (q:GL SlotS)=>k<=(sl4.take y8.toNat).length/\(q.out.length=k/\GLok zlC k (a+1+5*k) q)) (fun (k:Nat) (q:GL SlotS)=>(sl4.take y8.toNat).length-k) (0) (⟨.slice none 0 0,[],a+1⟩) ?_ ?_ ?_ ?_;exact ⟨Ad _,rfl,⟨by simp,by simp,uD⟩⟩;exact ⟨rfl,rfl,trivial⟩;exact uP
 intro k q hinv
 obtain ⟨hk,⟨hn,hq⟩⟩:=hinv;obtain ⟨u,out,a2⟩:=q;obtain ⟨g1,g2,g3⟩:=id hq;dsimp only at g1 g2 g3;dsimp only at hn;refine gz4 ?_;refine uCo (fun h1=> ?_) fun h2=> ?_
 obtain ⟨x,hx⟩: ∃x,(sl4.take y8.toNat)[k]? =some x:=⟨_,Aa (by simpa using h1)⟩
 have hdx:=zi hx;refine gz5 ?_;refine dq (zy (f:=HVal.str) (l:=(sl4.take y8.toNat)) (j:=k) (a:=x) zq ty9 rfl rfl rfl hx) ?_;refine gz7 ?_;refine de rfl (uCx 0 zwO rfl rfl (zdN uS) ?_)
 rintro _ _ ⟨t18,a18,rfl,ht18,ha18,rfl⟩;refine dq (zF (cs:=[_,_]) zce zAh rfl) ?_;refine dq (za (hs:=[_]) zbG zce rfl rfl (by decide) (by decide) rfl) ?_;refine de rfl (zK (i:=1) zbG zce rfl rfl rfl rfl rfl (by simp [zar,zb,zaz,za4]) uSo fun v21=> ?_)
 refine gz8 ?_;exact ⟨k+1,⟨v21,out++[(⟨x,t18⟩:SlotS)],a18⟩,⟨by omega,by simp;omega,hq.add (x:=(⟨x,t18⟩:SlotS)) (by show t18.length<=4;omega) (by dsimp only at ha18;omega)⟩,uD,⟨rfl,rfl,trivial⟩,uK,zm (by dsimp only;first|rfl|(rw [Az];rfl))⟩;have hnk:(sl4.take y8.toNat).length<=k:=by simpa using h2
 obtain rfl:k=(sl4.take y8.toNat).length:=by omega
 refine gz2 ?_;refine zM ?_;refine gz7 ?_;exact zat (zaJ 2 (i:=1) rfl rfl) rfl ⟨out,a2,rfl,⟨by omega,g2⟩,by omega,by omega,rfl⟩
end
section
open Go.HL
set_option linter.unusedSimpArgs false
end
end Go.Proofs.YtbmggbfabohegaaGreatDoor
namespace Go.HL
section
section
variable {P:Program} {e:Env} {dst:Option Tmp} {ty:TypeId} {pos:String} {af:Array Edge} {g:Option (Nat×Bool)} {M:List MObj} {K:HVal->List MObj->Prop}
end
end
end Go.HL
namespace Go.Proofs.YtbmggbfabohegaaGreatDoor
set_option maxRecDepth 100000
set_option linter.unusedVariables false
set_option linter.unusedSimpArgs false
section
open Go.Proofs.Tryz
open Go.HL
theorem zgD [Tracks] {l:List MoveS} {v:Value} (hl:l.length<=1000000):Con prog 43 [.raw v] [.arr v 4 (l.map zdh)] (fun x M'=> ∃u,x= .raw u/\M'=[.arr u 4 ((zai none l).map zdh)]):=by
 refine uOb func43 ntmps43 ?_;refine gz6 ?_;refine de rfl (zaT (i:=0) zcq rfl rfl ?_)
 refine gz2 ?_;refine uCo (fun h1=> ?_) fun h2=> ?_
 refine gz5 ?_
 (refine zad rfl ⟨_,rfl,?_⟩
  rw [zsV uO])
 refine gz3 ?_;refine zdi (i:=0) rfl (fun h0 he=> ?_) (fun b off cap hv hcap=> ?_)
 exfalso;have:=congrArg List.length he;simp at this;subst this;simp at h2
 rw [Ah] at hv hcap;subst hv;refine gz4 ?_;refine uT1 [2,4,10,50] (fun k=>[(3,.int .i64 (k:Int))]) (fun k=>[.arr (.slice (some ⟨b,off,none⟩) l.length cap) 4 (l.map zdh)]) (fun k=>(1<=k/\k<=l.length)/\zai none (l.take k)=l.take k) (fun k=>l.length-k) (1) ?_ ?_;exact ⟨⟨by omega,by omega⟩,zsV uSo⟩;rintro k ⟨⟨hk1,hk⟩,hu⟩;refine gz4 ?_;refine de rfl (zaT (i:=0) zcq rfl rfl ?_)
 refine gz2 ?_;refine uCo (fun h3=> ?_) fun h4=> ?_
 obtain ⟨x,hx⟩: ∃x,l[k]? =some x:=⟨_,Aa uO⟩
 obtain ⟨y,hy⟩: ∃y,l[k-1]? =some y:=⟨_,Aa uO⟩
 refine gz4 ?_;refine zbT (fun M=>M=[.arr (.slice (some ⟨b,off,none⟩) l.length cap) 4 (l.map zdh)]) [3,8] mixed ?_;refine gz2 ?_;refine uB 2 rfl (zx (j:=k) zcq zG rfl rfl rfl uO) ?_;refine uM 3 rfl rfl (uW (zab (i:=0) (j:=k) zG rfl uO rfl hx rfl rfl rfl ⟨rfl,rfl⟩)) ?_;refine gz3 ?_;refine uB 7 rfl (zx (j:=k-1) zcq zG rfl rfl uO uO) ?_;refine uM 8 rfl rfl (uW (zab (i:=0) (j:=k-1) zG rfl uO rfl hy rfl rfl rfl ⟨rfl,rfl⟩)) ?_;refine uB 9 rfl (zAl zG zBy rfl rfl ⟨rfl,⟨_,_,_,_,ty3,rfl⟩,⟨rfl,⟨_,_,_,_,ty3,rfl⟩,⟨rfl,⟨_,_,_,_,ty9,rfl⟩,⟨rfl,⟨_,_,_,_,ty9,rfl⟩,trivial⟩⟩⟩⟩) ?_;refine gz1 ?_;refine uCo (fun h5=> ?_) fun h6=> ?_
 have hxy:x=y:=(zi4 _ _).1 (by simpa using h5);obtain ⟨hC0,hU0⟩:=CmpA.start hx hy uO hxy hu;refine gz3 ?_;refine dq (ze1 (l:=k) (h:=l.length) zcq zG rfl ⟨_,_,rfl,rfl⟩ rfl uO uO hcap) ?_;refine gz2 ?_;rw [zsO uO];refine gz5 ?_;refine uV2 [3,1,5,1,29,25] (fun (k2:Nat) (D:List MoveS)=>[(5,.int .i64 (k2:Int)),(3,.int .i64 ((zai none (l.take (k+k2))).length:Int))]) (fun (k2:Nat) (D:List MoveS)=>[.arr (.slice (some ⟨b,off,none⟩) l.length cap) 4 (D.map zdh)]) (fun (k2:Nat) (D:List MoveS)=>(1<=k2/\k+k2<=l.length)/\CmpA l (k+k2) D) (fun (k2:Nat) (D:List MoveS)=>l.length-k2) (1) (l) ?_ ?_ ?_ ?_;exact ⟨⟨by omega,by have:=zn hx;omega⟩,hC0⟩;exact ⟨rfl,zP (by rw [hU0]),trivial⟩;exact Ac _
 intro k2 D hinv
 obtain ⟨⟨hk2,hkk⟩,hD⟩:=hinv;have hlt0:=hD.lt;have hle0:=hD.len;refine gz4 ?_;refine dq (zdD zcq rfl) ?_;refine gz2 ?_;refine uCo (fun h7=> ?_) fun h8=> ?_
 obtain ⟨x2,hx2⟩: ∃x,l[k+k2]? =some x:=⟨_,Aa uO⟩
 obtain ⟨y2,hy2⟩: ∃y,l[k+k2-1]? =some y:=⟨_,Aa uO⟩
 have hDx:D[k+k2]? =some x2:=by rw [hD.hi _ uO,hx2]
 have hDy:D[k+k2-1]? =some y2:=by rw [hD.hi _ uO,hy2]
 refine gz4 ?_;refine zbT (fun M=>M=[.arr (.slice (some ⟨b,off,none⟩) l.length cap) 4 (D.map zdh)]) [3,8] mixed ?_;refine gz2 ?_;refine uB 2 rfl (zx (j:=k2) zcq zG rfl rfl rfl uO) ?_;refine uM 3 rfl rfl (uW (zab (i:=0) (j:=(k+k2)) zG rfl uO rfl hDx rfl rfl rfl ⟨rfl,rfl⟩)) ?_;refine gz3 ?_;refine uB 7 rfl (zx (j:=k2-1) zcq zG rfl rfl uO uO) ?_;refine uM 8 rfl rfl (uW (zab (i:=0) (j:=(k+k2-1)) zG rfl uO rfl hDy rfl rfl rfl ⟨rfl,rfl⟩)) ?_;refine uB 9 rfl (zi8 zG zBy rfl rfl ⟨rfl,⟨_,_,_,_,ty3,rfl⟩,⟨rfl,⟨_,_,_,_,ty3,rfl⟩,⟨rfl,⟨_,_,_,_,ty9,rfl⟩,⟨rfl,⟨_,_,_,_,ty9,rfl⟩,trivial⟩⟩⟩⟩) ?_;refine gz1 ?_;refine uCo (fun h9=> ?_) fun h10=> ?_
 refine gz5 ?_;refine dq (zx (j:=k2) zcq zG rfl rfl rfl uO) ?_;refine de rfl (zab (i:=0) (j:=(k+k2)) zG rfl uO rfl hDx rfl rfl rfl ?_)
 refine dq (zx (j:=(zai none (l.take (k+k2))).length) zcq zG rfl rfl rfl uO) ?_;refine de0 (za2 (i:=0) (j:=(zai none (l.take (k+k2))).length) (y:=D[(zai none (l.take (k+k2))).length]'uO) (y':=x2) zG rfl rfl rfl rfl (Aa _) rfl rfl rfl ?_)
 refine zd3 ?_;have hxy:x2≠y2:=fun q=>by have q2:=(zi4 _ _).2 q;simp_all
 obtain ⟨hC1,hU1⟩:=hD.more hx2 hy2 hxy;exact ⟨k2+1,_,⟨⟨by omega,by omega⟩,hC1⟩,uD,⟨rfl,zP (by rw [<-A3,hU1];rfl),trivial⟩,uK,Ac _⟩;refine gz8 ?_;have hxy:x2=y2:=(zi4 _ _).1 (by simpa using h10);obtain ⟨hC1,hU1⟩:=hD.same hx2 hy2 hxy;exact ⟨k2+1,D,⟨⟨by omega,by omega⟩,hC1⟩,uD,⟨rfl,zP (by rw [<-A3,hU1]),trivial⟩,uK,Ac _⟩;have hkl:k+k2=l.length:=by omega
 refine gz2 ?_;refine zM ?_;refine gz5 ?_;refine dq (ze1 (l:=(zai none (l.take (k+k2))).length) (h:=l.length) zcq zG rfl ⟨_,_,rfl,rfl⟩ rfl uO uO hcap) ?_;refine de0 (zeM (i:=0) (m:=(zai none (l.take (k+k2))).length) ((zai none (l.take (k+k2))).length) zcq zG rfl rfl rfl (ziA uO hcap) rfl uO (Af _) (by rw [Ah,hD.len];omega) ?_)
 refine gz4 ?_;refine dq (zgv (h:=(zai none (l.take (k+k2))).length) zcq zG rfl ⟨_,_,rfl,rfl⟩ uO) ?_;refine gz3 ?_
 (refine zad rfl ⟨_,rfl,?_⟩
  have hlo:=hD.lo;rw [hkl,Ak] at hlo⊢;rw [<-BG,hlo];rfl)
 refine gz8 ?_;have hxy:x≠y:=fun q=>by have q2:=(zi4 _ _).2 q;simp_all
 exact ⟨k+1,⟨⟨by omega,by omega⟩,by rw [zjK hx hy uO,if_neg hxy,hu,z6 hx]⟩,uD,⟨rfl,trivial⟩,uK,Ac _⟩;have hkl:k=l.length:=by omega
 rw [hkl,Ak] at hu;refine gz2 ?_;refine zt ?_;refine gz7 ?_
 (refine zad rfl ⟨_,rfl,?_⟩
  rw [hu])
theorem ze4 [Tracks] {l:List HealthS} {fid:FuncId} {caps:List HVal} {p:HealthS->Bool} (hca:Callable prog fid) (hp: ∀x,ConP prog fid ([zcs x]++caps) (.bool (p x))) (hl:l.length<=1000000):ConP prog 264 [.slice 4 (l.map zcs),.fn (.func fid) [] caps] (.int .i64 (zT p l 0)):=by
 refine uOb func264 ntmps264 ?_;refine zau ?_;refine uT1 [4,2,8,11] (fun k=>[(8,.int .i64 k)]) (fun k=>[]) (fun k=>k<=l.length/\(zT p l 0=zT p (l.drop k) k)) (fun k=>l.length-k) (0) ?_ ?_;exact ⟨Ad _,rfl⟩;rintro k ⟨hk,hg⟩;refine gz4 ?_;refine uCo (fun h1=> ?_) fun h2=> ?_
 obtain ⟨x,hx⟩: ∃x,l[k]? =some x:=⟨_,Aa h1⟩
 have hdx:=zi hx;rw [hdx] at hg;refine zdm ?_;refine dq (zal hca rfl rfl (WeakL.refl _) (hp _)) ?_;refine gz1 ?_;refine uCo (fun h3=> ?_) fun h4=> ?_
 refine gz5 ?_;refine uRp ?_
 (rw [hg];simp_all [zT])
 refine gz7 ?_;refine ⟨k+1,?_,?_,⟨rfl,trivial⟩,uK,Ac _⟩
 refine ⟨by omega,?_⟩
 rw [hg,zT,if_neg uSa];rfl
 dsimp only;omega
 have hnk:l.length<=k:=by omega
 obtain rfl:k=l.length:=by omega
 rw [zH (Af _)] at hg;refine gz2 ?_;refine zt ?_;refine gz6 ?_;refine uRp ?_
 (rw [hg];rfl)
end
section
open Go.Proofs.Tryz
open Go.HL
theorem zim [Tracks] {b:Nat} {l:List Int} {a:Nat} {lo hi:Int} (ha:a<=900000) (hlh:lo<=hi) (h0: -1000000000<=lo) (h1:hi<=1000000000):Con prog 102 [pAt b,.int .i64 lo,.int .i64 hi] [St b l a] (fun x M'=> ∃y:Int,x= .int .i64 y/\(-2000000000000<=y/\y<=2000000000000)/\M'=[St b l (a+2)]):=by
 refine uOb func102 ntmps102 ?_;refine gz6 ?_;refine de rfl (uCx 0 zes rfl rfl (zI uS uS) ?_)
 rintro _ _ ⟨y8,rfl,rfl⟩;refine gz1 ?_;refine uCo (fun h1=> ?_) fun h2=> ?_
 refine gz8 ?_;refine dq (za (hs:=[_,_,_,_,_,_]) z8 ty3 rfl rfl (by decide) (by decide) rfl) ?_;refine de rfl (uCx 0 ca6 rfl rfl (zf (L:=[_,_,_,_,_,_]) uS uS uS) ?_)
 rintro _ _ ⟨y17,rfl,hy17,rfl⟩;refine gz3 ?_;exact zad rfl ⟨_,rfl,by simp at hy17;rcases hy17 with rfl|rfl|rfl|rfl|rfl|rfl<;>omega,rfl⟩;refine gz6 ?_;refine de rfl (uCx 0 zeJ rfl rfl (zJ uS uS uS uS) ?_)
 rintro _ _ ⟨y21,rfl,hy21,rfl⟩;refine gz3 ?_;exact zad rfl ⟨_,rfl,by omega,rfl⟩
theorem zeV [Tracks] {l:List HealthS} {fid:FuncId} {caps:List HVal} {p:HealthS->Bool} {v:Value} (hca:Callable prog fid) (hp: ∀x,ConP prog fid ([zcs x]++caps) (.bool (p x))) (hl:l.length<=1000000):Con prog 192 [.raw v,.fn (.func fid) [] caps] [.arr v 4 (l.map zcs)] (fun x M'=> ∃u,x= .raw u/\M'=[.arr u 4 ((l.filter (fun x=> !p x)).map zcs)]):=by
 refine uOb func192 ntmps192 ?_;refine gz6 ?_;refine de rfl (zeY (hs':=[.slice 4 (l.map zcs),.fn (.func fid) [] caps]) zFr rfl ⟨.arr (i:=0) rfl,.weak (Weak.refl _),trivial⟩ (ze4 (p:=p) hca hp hl) rfl ?_)
 refine gz7 ?_;refine uCo (fun h1=> ?_) fun h2=> ?_
 ·refine gz5 ?_
  (refine zad rfl ⟨_,rfl,?_⟩
   rw [zhC p l 0 uO h1]
   done)
 ·refine gz3 ?_;obtain ⟨i0,hi0,hil,⟨x0,hx0,hp0⟩,hb0⟩:=zgs p l 0 uO h2;rw [Cw] at hi0;obtain ⟨hD0,hn0⟩:=DelInv.start (p:=p) hil hx0 hp0 hb0;refine zdi (i:=0) rfl (fun h0 he=> ?_) (fun b off cap hv hcap=> ?_)
  ·exfalso;have:=congrArg List.length he;simp at this;subst this;simp at hil
  rw [Ah] at hv hcap;subst hv;refine gz2 ?_;refine dq (zU (zaX rfl rfl (by rw [hi0];omega) (by rw [hi0];omega)) (congrArg _ (by rw [hi0]))) ?_;refine gz3 ?_;refine uV2 [5,3,16,20] (fun (j:Nat) (D:List HealthS)=>[(6,.int .i64 (j:Int)),(5,.int .i64 (((l.take j).filter (fun x=> !p x)).length:Int))]) (fun (j:Nat) (D:List HealthS)=>[.arr (.slice (some ⟨b,off,none⟩) l.length cap) 4 (D.map zcs)]) (fun (j:Nat) (D:List HealthS)=>DelInv p l j D) (fun (j:Nat) (D:List HealthS)=>l.length-j) (i0+1) (l) ?_ ?_ ?_ ?_
  ·exact hD0
  ·exact ⟨rfl,zP (by rw [hn0,hi0]),trivial⟩
  ·exact Ac _
  ·intro j D hD
   have hlt0:=hD.lt;have hle0:=hD.len;refine gz4 ?_;refine de rfl (zaT (i:=0) zjj rfl rfl ?_)
   refine gz2 ?_;refine uCo (fun h3=> ?_) fun h4=> ?_
   ·obtain ⟨x,hx⟩: ∃x,l[j]? =some x:=⟨_,Aa uO⟩
    refine gz7 ?_;refine dq (zx (j:=j) zjj zcw rfl rfl rfl uO) ?_;refine de rfl (zab (i:=0) (j:=j) zcw rfl rfl rfl (hD.get hx) rfl rfl rfl ?_)
    refine de rfl (zj zcw rfl fun b7=> ?_)
    refine de0 (zp zcw rfl rfl rfl rfl rfl ?_)
    refine gz1 ?_;refine ze (zk 7 rfl) ?_;refine gz3 ?_;refine dq (zal hca rfl rfl (WeakL.refl _) (hp _)) ?_;refine gz2 ?_;refine uCo (fun h5=> ?_) fun h6=> ?_
    ·refine gz4 ?_;refine dq (zx (j:=((l.take j).filter (fun x=> !p x)).length) zjj zcw rfl rfl rfl (by have:=hD.lt;omega)) ?_;refine de0 (za2 (i:=0) (j:=((l.take j).filter (fun x=> !p x)).length) (y:=D[((l.take j).filter (fun x=> !p x)).length]'(by have:=hD.lt;have:=hD.len;omega)) (y':=x) zcw rfl rfl rfl rfl (Aa _) rfl rfl rfl ?_)
     refine gz3 ?_;refine dq (zaX rfl rfl uO (by have:=hD.lt;omega)) ?_;refine gz9 ?_;exact ⟨j+1,_,(hD.keep hx uSa).1,uD,⟨rfl,zP (by rw [(hD.keep hx uSa).2];rfl),trivial⟩,uK,Ac _⟩
    ·refine gz8 ?_;exact ⟨j+1,_,(hD.skip hx uSa).1,uD,⟨rfl,zP (by rw [(hD.skip hx uSa).2]),trivial⟩,uK,Ac _⟩
   ·obtain rfl:j=l.length:=by have:=hD.jle;omega
    have hend:=hD.done;refine gz2 ?_;refine zM ?_;refine gz5 ?_;refine dq (ze1 (l:=((l.take l.length).filter (fun x=> !p x)).length) zjj zcw rfl ⟨_,_,rfl,rfl⟩ rfl uO uO hcap) ?_;refine de0 (zeM (i:=0) (m:=((l.take l.length).filter (fun x=> !p x)).length) (((l.take l.length).filter (fun x=> !p x)).length) zjj zcw rfl rfl rfl (ziA uO hcap) rfl uO (Af _) (by rw [Ah,hD.len];omega) ?_)
    refine gz4 ?_;refine dq (zgv (h:=((l.take l.length).filter (fun x=> !p x)).length) zjj zcw rfl ⟨_,_,rfl,rfl⟩ uO) ?_;refine gz3 ?_
    (refine zad rfl ⟨_,rfl,?_⟩
     rw [Ak,<-BG,hend];rfl)
theorem zft [Tracks] {l:List StintS} {fid:FuncId} {caps:List HVal} {p:StintS->Bool} (hca:Callable prog fid) (hp: ∀x,ConP prog fid ([zda x]++caps) (.bool (p x))) (hl:l.length<=1000000):ConP prog 305 [.slice 3 (l.map zda),.fn (.func fid) [] caps] (.int .i64 (zT p l 0)):=by
 refine uOb func305 ntmps305 ?_;refine zau ?_;refine uT1 [4,2,8,11] (fun k=>[(8,.int .i64 k)]) (fun k=>[]) (fun k=>k<=l.length/\(zT p l 0=zT p (l.drop k) k)) (fun k=>l.length-k) (0) ?_ ?_;exact ⟨Ad _,rfl⟩;rintro k ⟨hk,hg⟩;refine gz4 ?_;refine uCo (fun h1=> ?_) fun h2=> ?_
 obtain ⟨x,hx⟩: ∃x,l[k]? =some x:=⟨_,Aa h1⟩
 have hdx:=zi hx;rw [hdx] at hg;refine zdm ?_;refine dq (zal hca rfl rfl (WeakL.refl _) (hp _)) ?_;refine gz1 ?_;refine uCo (fun h3=> ?_) fun h4=> ?_
 refine gz5 ?_;refine uRp ?_
 (rw [hg];simp_all [zT])
 refine gz7 ?_;refine ⟨k+1,?_,?_,⟨rfl,trivial⟩,uK,Ac _⟩
 refine ⟨by omega,?_⟩
 rw [hg,zT,if_neg uSa];rfl
 dsimp only;omega
 have hnk:l.length<=k:=by omega
 obtain rfl:k=l.length:=by omega
 rw [zH (Af _)] at hg;refine gz2 ?_;refine zt ?_;refine gz6 ?_;refine uRp ?_
 (rw [hg];rfl)
theorem zfd [Tracks] {l:List StintS} {fid:FuncId} {caps:List HVal} {p:StintS->Bool} {v:Value} (hca:Callable prog fid) (hp: ∀x,ConP prog fid ([zda x]++caps) (.bool (p x))) (hl:l.length<=1000000):Con prog 250 [.raw v,.fn (.func fid) [] caps] [.arr v 3 (l.map zda)] (fun x M'=> ∃u,x= .raw u/\M'=[.arr u 3 ((l.filter (fun x=> !p x)).map zda)]):=by
 refine uOb func250 ntmps250 ?_;refine gz6 ?_;refine de rfl (zeY (hs':=[.slice 3 (l.map zda),.fn (.func fid) [] caps]) zFN rfl ⟨.arr (i:=0) rfl,.weak (Weak.refl _),trivial⟩ (zft (p:=p) hca hp hl) rfl ?_)
 refine gz7 ?_;refine uCo (fun h1=> ?_) fun h2=> ?_
 ·refine gz5 ?_
  (refine zad rfl ⟨_,rfl,?_⟩
   rw [zhC p l 0 uO h1]
   done)
 ·refine gz3 ?_;obtain ⟨i0,hi0,hil,⟨x0,hx0,hp0⟩,hb0⟩:=zgs p l 0 uO h2;rw [Cw] at hi0;obtain ⟨hD0,hn0⟩:=DelInv.start (p:=p) hil hx0 hp0 hb0;refine zdi (i:=0) rfl (fun h0 he=> ?_) (fun b off cap hv hcap=> ?_)
  ·exfalso;have:=congrArg List.length he;simp at this;subst this;simp at hil
  rw [Ah] at hv hcap;subst hv;refine gz2 ?_;refine dq (zU (zaX rfl rfl (by rw [hi0];omega) (by rw [hi0];omega)) (congrArg _ (by rw [hi0]))) ?_;refine gz3 ?_;refine uV2 [5,3,16,20] (fun (j:Nat) (D:List StintS)=>[(6,.int .i64 (j:Int)),(5,.int .i64 (((l.take j).filter (fun x=> !p x)).length:Int))]) (fun (j:Nat) (D:List StintS)=>[.arr (.slice (some ⟨b,off,none⟩) l.length cap) 3 (D.map zda)]) (fun (j:Nat) (D:List StintS)=>DelInv p l j D) (fun (j:Nat) (D:List StintS)=>l.length-j) (i0+1) (l) ?_ ?_ ?_ ?_
  ·exact hD0
  ·exact ⟨rfl,zP (by rw [hn0,hi0]),trivial⟩
  ·exact Ac _
  ·intro j D hD
   have hlt0:=hD.lt;have hle0:=hD.len;refine gz4 ?_;refine de rfl (zaT (i:=0) zhn rfl rfl ?_)
   refine gz2 ?_;refine uCo (fun h3=> ?_) fun h4=> ?_
   ·obtain ⟨x,hx⟩: ∃x,l[j]? =some x:=⟨_,Aa uO⟩
    refine gz7 ?_;refine dq (zx (j:=j) zhn zcN rfl rfl rfl uO) ?_;refine de rfl (zab (i:=0) (j:=j) zcN rfl rfl rfl (hD.get hx) rfl rfl rfl ?_)
    refine de rfl (zj zcN rfl fun b7=> ?_)
    refine de0 (zp zcN rfl rfl rfl rfl rfl ?_)
    refine gz1 ?_;refine ze (zk 7 rfl) ?_;refine gz3 ?_;refine dq (zal hca rfl rfl (WeakL.refl _) (hp _)) ?_;refine gz2 ?_;refine uCo (fun h5=> ?_) fun h6=> ?_
    ·refine gz4 ?_;refine dq (zx (j:=((l.take j).filter (fun x=> !p x)).length) zhn zcN rfl rfl rfl (by have:=hD.lt;omega)) ?_;refine de0 (za2 (i:=0) (j:=((l.take j).filter (fun x=> !p x)).length) (y:=D[((l.take j).filter (fun x=> !p x)).length]'(by have:=hD.lt;have:=hD.len;omega)) (y':=x) zcN rfl rfl rfl rfl (Aa _) rfl rfl rfl ?_)
     refine gz3 ?_;refine dq (zaX rfl rfl uO (by have:=hD.lt;omega)) ?_;refine gz9 ?_;exact ⟨j+1,_,(hD.keep hx uSa).1,uD,⟨rfl,zP (by rw [(hD.keep hx uSa).2];rfl),trivial⟩,uK,Ac _⟩
    ·refine gz8 ?_;exact ⟨j+1,_,(hD.skip hx uSa).1,uD,⟨rfl,zP (by rw [(hD.skip hx uSa).2]),trivial⟩,uK,Ac _⟩
   ·obtain rfl:j=l.length:=by have:=hD.jle;omega
    have hend:=hD.done;refine gz2 ?_;refine zM ?_;refine gz5 ?_;refine dq (ze1 (l:=((l.take l.length).filter (fun x=> !p x)).length) zhn zcN rfl ⟨_,_,rfl,rfl⟩ rfl uO uO hcap) ?_;refine de0 (zeM (i:=0) (m:=((l.take l.length).filter (fun x=> !p x)).length) (((l.take l.length).filter (fun x=> !p x)).length) zhn zcN rfl rfl rfl (ziA uO hcap) rfl uO (Af _) (by rw [Ah,hD.len];omega) ?_)
    refine gz4 ?_;refine dq (zgv (h:=((l.take l.length).filter (fun x=> !p x)).length) zhn zcN rfl ⟨_,_,rfl,rfl⟩ uO) ?_;refine gz3 ?_
    (refine zad rfl ⟨_,rfl,?_⟩
     rw [Ak,<-BG,hend];rfl)
theorem zex [Tracks] {x:HealthS}:ConP prog 104 [zcs x] (.str x.Player):=by
 refine uOb func104 ntmps104 ?_;refine zau ?_;refine zw rfl ?_
 rfl
theorem znP [Tracks] {L:List PlayerS} {x:HealthS} (hL:L.length<=1000000):ConP prog 193 [zcs x,.vptr [zbi L] 0,.vptr [.fn (.func 104) [] []] 0] (.bool (ofB L x.Player)):=by
 refine uOb func193 ntmps193 ?_;refine gz4 ?_;refine uDr mixed ?_;refine gz3 ?_;refine uB 3 rfl (zal zAT rfl rfl (WeakL.refl _) (zex (x:=x))) ?_;refine uB 4 rfl (uCl ztm rfl (zds (l:=L) (s:=x.Player) hL)) ?_;refine gz4 ?_;refine uGy 9 rfl rfl (fun hc=>zal zAT rfl rfl (WeakL.refl _) (zex (x:=x))) ?_;refine gz5 ?_;refine zw rfl ?_;refine congrArg _ ?_;unfold ofB
 cases decide (zT (fun x_1:PlayerS=>x_1.Key==x.Player) L 0<0)
 rfl
 rfl
theorem zpK [Tracks] {L:List PlayerS} {l:List HealthS} {v:Value} (hL:L.length<=1000000) (hl:l.length<=1000000):Con prog 103 [zbi L,.raw v,.fn (.func 104) [] []] [.arr v 4 (l.map zcs)] (fun x M'=> ∃u,x= .raw u/\M'=[.arr u 4 ((l.filter fun x=> !(ofB L x.Player)).map zcs)]):=by
 refine uOb func103 ntmps103 ?_;refine gz8 ?_;refine de rfl (uCx 0 zEO rfl rfl (zeV (l:=l) (p:=fun x=>ofB L x.Player) zEP (fun _=>znP hL) hl) ?_)
 rintro _ _ ⟨u9,rfl,rfl⟩;refine gz3 ?_;exact zad rfl ⟨u9,rfl,rfl⟩
theorem zey [Tracks] {x:StintS}:ConP prog 185 [zda x] (.str x.Player):=by
 refine uOb func185 ntmps185 ?_;refine zau ?_;refine zw rfl ?_
 rfl
theorem zpe [Tracks] {L:List PlayerS} {x:StintS} (hL:L.length<=1000000):ConP prog 251 [zda x,.vptr [zbi L] 0,.vptr [.fn (.func 185) [] []] 0] (.bool (ofB L x.Player)):=by
 refine uOb func251 ntmps251 ?_;refine gz4 ?_;refine uDr mixed ?_;refine gz3 ?_;refine uB 3 rfl (zal zA7 rfl rfl (WeakL.refl _) (zey (x:=x))) ?_;refine uB 4 rfl (uCl ztm rfl (zds (l:=L) (s:=x.Player) hL)) ?_;refine gz4 ?_;refine uGy 9 rfl rfl (fun hc=>zal zA7 rfl rfl (WeakL.refl _) (zey (x:=x))) ?_;refine gz5 ?_;refine zw rfl ?_;refine congrArg _ ?_;unfold ofB
 cases decide (zT (fun x_1:PlayerS=>x_1.Key==x.Player) L 0<0)
 rfl
 rfl
theorem zql [Tracks] {L:List PlayerS} {l:List StintS} {v:Value} (hL:L.length<=1000000) (hl:l.length<=1000000):Con prog 183 [zbi L,.raw v,.fn (.func 185) [] []] [.arr v 3 (l.map zda)] (fun x M'=> ∃u,x= .raw u/\M'=[.arr u 3 ((l.filter fun x=> !(ofB L x.Player)).map zda)]):=by
 refine uOb func183 ntmps183 ?_;refine gz8 ?_;refine de rfl (uCx 0 zFp rfl rfl (zfd (l:=l) (p:=fun x=>ofB L x.Player) zFq (fun _=>zpe hL) hl) ?_)
 rintro _ _ ⟨u9,rfl,rfl⟩;refine gz3 ?_;exact zad rfl ⟨u9,rfl,rfl⟩
theorem ziS [Tracks] {b:Nat} {l:List Int} {a:Nat} {L:List PlayerS} (ha:a<=700000) (hL:L.length<=1000000):Con prog 44 [pAt b,zbi L] [St b l a] (fun x M'=> ∃k a',x=zcF k/\GoodHes k/\a'<=a+150/\M'=[St b l a']):=by
 refine uOb func44 ntmps44 ?_;refine gz6 ?_;refine ze (zN 4) ?_;refine gz2 ?_;refine dq (za (hs:=[_,_,_,_,_]) zq ty9 rfl rfl (by decide) (by decide) rfl) ?_;refine dq (zao (f:=HVal.str) (l:=nm5) zq rfl) ?_;refine gz3 ?_;refine uV2 [5,1,7,3,12,47] (fun (k:Nat) (q:GL HealthS)=>[(12,.int .i64 k),(5,.raw q.u)]) (fun (k:Nat) (q:GL HealthS)=>[St b l q.a,.arr q.u 4 (q.out.map zcs)]) (fun (k:Nat) (q:GL HealthS)=>k<=nm5.length/\(GLok ztN (2*k) (a+24*k) q)) (fun (k:Nat) (q:GL HealthS)=>nm5.length-k) (0) (⟨.slice none 0 0,[],a⟩) ?_ ?_ ?_ ?_;exact ⟨Ad _,⟨by simp,by simp,uD⟩⟩;exact ⟨rfl,rfl,trivial⟩;exact uP
 intro k q hinv
 obtain ⟨hk,hq⟩:=hinv;have hlen:nm5.length=5:=rfl;obtain ⟨u,out,a2⟩:=q;obtain ⟨g1,g2,g3⟩:=id hq;dsimp only at g1 g2 g3;refine gz4 ?_;refine uCo (fun h1=> ?_) fun h2=> ?_
 obtain ⟨x,hx⟩: ∃x,nm5[k]? =some x:=⟨_,Aa h1⟩
 have hdx:=zi hx;refine gz5 ?_;refine dq (zy (f:=HVal.str) (l:=nm5) (j:=k) (a:=x) zq ty9 rfl rfl rfl hx) ?_;refine gz5 ?_;refine de rfl (uCx 0 zeJ rfl rfl (zJ uS uS uS uS) ?_)
 rintro _ _ ⟨y17,rfl,hy17,rfl⟩;refine gz4 ?_;refine de rfl (uCx 0 zeJ rfl rfl (zJ uS uS uS uS) ?_)
 rintro _ _ ⟨y19,rfl,hy19,rfl⟩;refine gz3 ?_;refine uV3 [5,1,8,2,20,38] (fun (n:Nat) (wk:Int) (q2:GL HealthS)=>[(20,.int .i64 (n:Int)),(8,.int .i64 wk),(5,.raw q2.u)]) (fun (n:Nat) (wk:Int) (q2:GL HealthS)=>[St b l q2.a,.arr q2.u 4 (q2.out.map zcs)]) (fun (n:Nat) (wk:Int) (q2:GL HealthS)=>(n:Int)<=y19/\(1<=wk/\wk<=3+4*n)/\GLok ztN (2*k+n) (a+24*k+2+11*n) q2) (fun (n:Nat) (wk:Int) (q2:GL HealthS)=>y19.toNat-n) (0) (y17) (⟨u,out,a2+2⟩) ?_ ?_ ?_ ?_;exact ⟨by omega,by omega,⟨uD,g2,uD⟩⟩;exact ⟨rfl,rfl,rfl,trivial⟩;exact uP
 intro n wk q2 hinv
 obtain ⟨hn,hw,hq2⟩:=hinv;obtain ⟨u,out,a2⟩:=q2;obtain ⟨g1,g2,g3⟩:=id hq2;dsimp only at g1 g2 g3;refine gz4 ?_;refine uCo (fun h3=> ?_) fun h4=> ?_
 refine gz9 ?_;refine de rfl (uCx 0 zeJ rfl rfl (zJ uS uS uS uS) ?_)
 rintro _ _ ⟨y26,rfl,hy26,rfl⟩;refine gz2 ?_;refine dq (za (hs:=[_,_]) z8 ty3 rfl rfl (by decide) (by decide) rfl) ?_;refine de rfl (uCx 0 ca6 rfl rfl (zf (L:=[_,_]) uS uS uS) ?_)
 rintro _ _ ⟨y30,rfl,hy30,rfl⟩;refine dq (zF (cs:=[_,_,_,_]) zcw zGj rfl) ?_;refine de rfl (zj zcw rfl fun b9=> ?_)
 refine de0 (uY 0 ?_)
 refine gz1 ?_;refine zbT (fun M=> ∃i:Nat,M[i]? =some (.cells b9 (zb (zcs (⟨x,wk,wk+y26,y30⟩:HealthS))))) [1] mixed ?_;refine gz1 ?_;refine uM 1 rfl ⟨0,rfl⟩ (fun M hM=>by obtain ⟨i,hi⟩:=hM;exact zan (i:=i) (h:= .int .i64 (wk+y26)) ty3 rfl hi (.inl ⟨rfl,rfl⟩) ⟨rfl,rfl⟩) ?_;refine gz1 ?_;refine uF 3 ?_;refine zv rfl (uCx 1 zeJ rfl rfl (zJ uS uS uS uS) ?_)
 rintro _ _ ⟨y35,rfl,hy35,rfl⟩;refine ⟨uE,?_⟩
 refine gz3 ?_;refine uVj [37,16] (fun (q4:HealthS×Nat)=>[]) (fun (q4:HealthS×Nat)=>[St b l q4.2,.arr u 4 (out.map zcs),.cells b9 (zb (zcs q4.1))]) (fun (q4:HealthS×Nat)=>ztN q4.1/\q4.2<=a2+11) ?_ ?_
 skip
 refine gz2 ?_;refine de rfl (uCx 0 zes rfl rfl (zI uS uS) ?_)
 rintro _ _ ⟨y38,rfl,rfl⟩;refine gz1 ?_;refine uCo (fun h5=> ?_) fun h6=> ?_
 refine gz3 ?_;refine dq (za (hs:=[_,_]) zq ty9 rfl rfl (by decide) (by decide) rfl) ?_;refine de rfl (uCx 0 zbS rfl rfl (zo (L:=[_,_]) uS uS uS) ?_)
 rintro _ _ ⟨y42,rfl,hy42,rfl⟩;refine gz1 ?_;refine de rfl (uCx 0 zmy rfl rfl (zim uS uS uS uS) ?_)
 rintro _ _ ⟨y44,rfl,hy44,rfl⟩;refine gz1 ?_;refine de rfl (uCx 0 zmy rfl rfl (zim uS uS uS uS) ?_)
 rintro _ _ ⟨y46,rfl,hy46,rfl⟩;refine gz1 ?_;refine de rfl (uCx 0 zmy rfl rfl (zim uS uS uS uS) ?_)
 rintro _ _ ⟨y48,rfl,hy48,rfl⟩;refine gz1 ?_;refine de0 (uY 1 ?_)
 refine gz1 ?_;refine de0 (uY 1 ?_)
 refine gz1 ?_;refine de0 (uY 1 ?_)
 refine gz1 ?_;refine de0 (uY 1 ?_)
 refine gz1 ?_;exact ⟨((⟨y42,y44,y46,y48⟩:HealthS),a2+11),⟨⟨uD,uD⟩,uD⟩,trivial,uK,uP⟩;refine gz1 ?_;exact ⟨((⟨x,wk,wk+y26,y30⟩:HealthS),a2+4),⟨⟨uD,uD⟩,uD⟩,trivial,uK,uP⟩
 intro q4 hq4
 obtain ⟨x5,a5⟩:=q4;obtain ⟨hx5,ha5⟩:=hq4;dsimp only at hx5 ha5;refine ze (zbr 9 (i:=2) rfl rfl) ?_;refine gz3 ?_;refine dq (za (hs:=[_]) zjj zcw rfl rfl (by decide) (by decide) rfl) ?_;refine de rfl (zK (i:=1) zjj zcw rfl rfl rfl rfl rfl (by simp [zar,zb,zaz,za4]) uSo fun v56=> ?_)
 refine gz8 ?_;exact ⟨n+1,wk+y26+y35,⟨v56,out++[x5],a5⟩,⟨by omega,⟨by omega,by omega⟩,hq2.add (x:=x5) hx5 uO⟩,uD,⟨rfl,rfl,rfl,trivial⟩,uK,uP⟩;refine gz2 ?_;refine zcI ?_;refine gz7 ?_;exact ⟨k+1,⟨u,out,a2⟩,⟨by omega,hq2.mono uO uO⟩,uD,⟨rfl,rfl,trivial⟩,uK,uP⟩;have hnk:nm5.length<=k:=by omega
 obtain rfl:k=nm5.length:=by omega
 refine gz2 ?_;refine zM ?_;refine gz5 ?_;refine de rfl (uCx 1 zDX rfl rfl (zpK (L:=L) (l:=out) hL uO) ?_)
 rintro _ _ ⟨u61,rfl,rfl⟩;refine gz3 ?_;exact zat (zaJ 4 (i:=0) rfl rfl) rfl ⟨_,a2,rfl,GoodHes.filter uO g2,by omega,rfl⟩
theorem zjq [Tracks] {b:Nat} {l:List Int} {a:Nat} (ha:a<=700000):Con prog 184 [pAt b] [St b l a] (fun x M'=> ∃(u:Value) (k:List StintS) (a':Nat),x= .raw u/\k.length<=10/\a'<=a+100/\M'=[.arr u 3 (k.map zda),St b l a']):=by
 refine uOb func184 ntmps184 ?_;refine gz6 ?_;refine ze (zN 3) ?_;refine gz2 ?_;refine dq (za (hs:=[_,_,_,_,_]) zq ty9 rfl rfl (by decide) (by decide) rfl) ?_;refine dq (zao (f:=HVal.str) (l:=nm5) zq rfl) ?_;refine gz3 ?_;refine uV2 [3,1,5,3,10,40] (fun (k:Nat) (q:GL StintS)=>[(10,.int .i64 k),(3,.raw q.u)]) (fun (k:Nat) (q:GL StintS)=>[St b l q.a,.arr q.u 3 (q.out.map zda)]) (fun (k:Nat) (q:GL StintS)=>k<=nm5.length/\(GLok (fun _=>True) (2*k) (a+20*k) q)) (fun (k:Nat) (q:GL StintS)=>nm5.length-k) (0) (⟨.slice none 0 0,[],a⟩) ?_ ?_ ?_ ?_
 ·exact ⟨Ad _,⟨by simp,by simp,uD⟩⟩
 ·exact ⟨rfl,rfl,trivial⟩
 ·exact uP
 ·intro k q hinv
  obtain ⟨hk,hq⟩:=hinv;have hlen:nm5.length=5:=rfl;obtain ⟨u,out,a2⟩:=q;obtain ⟨g1,g2,g3⟩:=id hq;dsimp only at g1 g2 g3;refine gz4 ?_;refine uCo (fun h1=> ?_) fun h2=> ?_
  ·obtain ⟨x,hx⟩: ∃x,nm5[k]? =some x:=⟨_,Aa h1⟩
   have hdx:=zi hx;refine gz5 ?_;refine dq (zy (f:=HVal.str) (l:=nm5) (j:=k) (a:=x) zq ty9 rfl rfl rfl hx) ?_;refine gz5 ?_;refine de rfl (uCx 0 zeJ rfl rfl (zJ uS uS uS uS) ?_)
   rintro _ _ ⟨y15,rfl,hy15,rfl⟩;refine gz4 ?_;refine de rfl (uCx 0 zeJ rfl rfl (zJ uS uS uS uS) ?_)
   rintro _ _ ⟨y17,rfl,hy17,rfl⟩;refine gz3 ?_;refine uV3 [3,1,6,2,18,31] (fun (n:Nat) (wk:Int) (q2:GL StintS)=>[(18,.int .i64 (n:Int)),(6,.int .i64 wk),(3,.raw q2.u)]) (fun (n:Nat) (wk:Int) (q2:GL StintS)=>[St b l q2.a,.arr q2.u 3 (q2.out.map zda)]) (fun (n:Nat) (wk:Int) (q2:GL StintS)=>(n:Int)<=y17/\(1<=wk/\wk<=2+3*n)/\GLok (fun _=>True) (2*k+n) (a+20*k+2+9*n) q2) (fun (n:Nat) (wk:Int) (q2:GL StintS)=>y17.toNat-n) (0) (y15) (⟨u,out,a2+2⟩) ?_ ?_ ?_ ?_
   ·exact ⟨by omega,by omega,⟨uD,g2,uD⟩⟩
   ·exact ⟨rfl,rfl,rfl,trivial⟩
   ·exact uP
   ·intro n wk q2 hinv
    obtain ⟨hn,hw,hq2⟩:=hinv;obtain ⟨u,out,a2⟩:=q2;obtain ⟨g1,g2,g3⟩:=id hq2;dsimp only at g1 g2 g3;refine gz4 ?_;refine uCo (fun h3=> ?_) fun h4=> ?_
    ·refine gz7 ?_;refine dq (za (hs:=[_,_,_,_]) zq ty9 rfl rfl (by decide) (by decide) rfl) ?_;refine de rfl (uCx 0 zbS rfl rfl (zo (L:=[_,_,_,_]) uS uS uS) ?_)
     rintro _ _ ⟨y23,rfl,hy23,rfl⟩;refine gz1 ?_;refine dq (zF (cs:=[_,_,_]) zcN zGo rfl) ?_;refine de rfl (zj zcN rfl fun b7=> ?_)
     refine de0 (uY 0 ?_)
     refine gz1 ?_;refine uVj [26,14] (fun (q4:StintS×Nat)=>[]) (fun (q4:StintS×Nat)=>[St b l q4.2,.arr u 3 (out.map zda),.cells b7 (zb (zda q4.1))]) (fun (q4:StintS×Nat)=>q4.2<=a2+8) ?_ ?_
     ·skip
      refine gz2 ?_;refine de rfl (uCx 1 zes rfl rfl (zI uS uS) ?_)
      rintro _ _ ⟨y27,rfl,rfl⟩;refine gz1 ?_;refine uCo (fun h5=> ?_) fun h6=> ?_
      ·refine gz3 ?_;refine dq (za (hs:=[_,_,_]) zq ty9 rfl rfl (by decide) (by decide) rfl) ?_;refine de rfl (uCx 0 zbS rfl rfl (zo (L:=[_,_,_]) uS uS uS) ?_)
       rintro _ _ ⟨y31,rfl,hy31,rfl⟩;refine gz1 ?_;refine dq (za (hs:=[_,_]) zq ty9 rfl rfl (by decide) (by decide) rfl) ?_;refine de rfl (uCx 0 zbS rfl rfl (zo (L:=[_,_]) uS uS uS) ?_)
       rintro _ _ ⟨y34,rfl,hy34,rfl⟩;refine gz1 ?_;refine de rfl (uCx 0 zmy rfl rfl (zim uS uS uS uS) ?_)
       rintro _ _ ⟨y36,rfl,hy36,rfl⟩;refine gz1 ?_;refine de0 (uY 1 ?_)
       refine gz1 ?_;refine de0 (uY 1 ?_)
       refine gz1 ?_;refine de0 (uY 1 ?_)
       refine gz1 ?_;exact ⟨((⟨y31,y34,y36⟩:StintS),a2+6),uD,trivial,uK,uP⟩
      ·refine gz1 ?_;exact ⟨((⟨x,y23,wk⟩:StintS),a2+2),uD,trivial,uK,uP⟩
     ·intro q4 ha5
      obtain ⟨x5,a5⟩:=q4;dsimp only at ha5;refine ze (zbr 7 (i:=2) rfl rfl) ?_;refine gz3 ?_;refine dq (za (hs:=[_]) zhn zcN rfl rfl (by decide) (by decide) rfl) ?_;refine de rfl (zK (i:=1) zhn zcN rfl rfl rfl rfl rfl (by simp [zar,zb,zaz,za4]) uSo fun v43=> ?_)
      refine gz5 ?_;refine de rfl (uCx 0 zeJ rfl rfl (zJ uS uS uS uS) ?_)
      rintro _ _ ⟨y46,rfl,hy46,rfl⟩;refine gz9 ?_;exact ⟨n+1,wk+y46,⟨v43,out++[x5],a5+1⟩,⟨by omega,⟨by omega,by omega⟩,hq2.add (x:=x5) trivial uO⟩,uD,⟨rfl,rfl,rfl,trivial⟩,uK,uP⟩
    ·refine gz2 ?_;refine zcI ?_;refine gz7 ?_;exact ⟨k+1,⟨u,out,a2⟩,⟨by omega,hq2.mono uO uO⟩,uD,⟨rfl,rfl,trivial⟩,uK,uP⟩
  ·have hnk:nm5.length<=k:=by omega
   obtain rfl:k=nm5.length:=by omega
   refine gz2 ?_;refine zM ?_;refine gz7 ?_;exact zat (Ghost.perm (List.Perm.swap _ _ _)) rfl ⟨_,out,a2,rfl,by omega,by omega,rfl⟩
theorem ziU [Tracks] {b:Nat} {l:List Int} {a:Nat} {L:List PlayerS} (ha:a<=700000) (hL:L.length<=1000000):Con prog 94 [pAt b,zbi L] [St b l a] (fun x M'=> ∃k a',x=zfo k/\k.length<=10/\a'<=a+100/\M'=[St b l a']):=by
 refine uOb func94 ntmps94 ?_;refine gz6 ?_;refine de rfl (uCx 0 zEM rfl rfl (zjq (b:=b) (l:=l) (a:=a) ha) ?_)
 rintro _ _ ⟨u7,k7,a7,rfl,hk7,ha7,rfl⟩;refine de rfl (uCx 0 zEL rfl rfl (zql (L:=L) (l:=k7) hL uO) ?_)
 rintro _ _ ⟨u8,rfl,rfl⟩;refine gz3 ?_;exact zat (zaJ 4 (i:=0) rfl rfl) rfl ⟨_,a7,rfl,Aq (AW _ _) hk7,by omega,rfl⟩
end
section
open Go.Proofs.Tryz
open Go.HL
theorem znH [Tracks] {n d:Int} (hn: -1000000<=n/\n<=1000000) (hd:1<=d/\d<=1000000):ConP prog 249 [.int .i64 n,.int .i64 d] (.agg [.int .i64 (n.tdiv (zhY n d)),.int .i64 (d.tdiv (zhY n d))]):=by
 have hg0:=zCp (n:=n) hd.1;refine zbb func249 rfl ntmps249 rfl rfl ?_;refine gz1 ?_;refine de rfl (zj zav rfl fun b4=> ?_)
 refine gz4 ?_;refine dq (uCl zBt rfl (zif (n:=n) (d:=d) uO uO)) ?_;refine gz2 ?_;refine uDr mixed ?_;refine gz2 ?_;refine uB 2 rfl (zdE (n:=zhY n d) rfl rfl uO uO uO) ?_;refine gz2 ?_;refine uB 5 rfl (zdE (n:=zhY n d) rfl rfl uO uO uO) ?_;refine uB 6 rfl (zF (cs:=[_,_]) zav zkn rfl) ?_;refine uF 7 ?_;refine zD (uY 0 ?_)
 refine ⟨uE,?_⟩
 refine gz2 ?_;exact ⟨_,_,zk 4 rfl,[_],_,⟨⟨_,_,_,_,_,rfl,zav,.inr ⟨rfl,rfl,rfl⟩⟩,trivial⟩,Weak.refl _,rfl,rfl⟩
theorem zj3 [Tracks] {n:Int} (hn: -1000000<=n/\n<=1000000):ConP prog 181 [.int .i64 n] (.agg [.int .i64 (n.tdiv (zhY n 100)),.int .i64 ((100:Int).tdiv (zhY n 100))]):=by
 refine zbb func181 rfl ntmps181 rfl rfl ?_;refine gz1 ?_;refine de rfl (zj zav rfl fun b2=> ?_)
 refine gz3 ?_;refine dq (uCl zFo rfl (znH (n:=n) (d:=100) hn uO)) ?_;refine de0 (uY 0 ?_)
 refine gz2 ?_;exact ⟨_,_,zk 2 rfl,[_],_,⟨⟨_,_,_,_,_,rfl,zav,.inr ⟨rfl,rfl,rfl⟩⟩,trivial⟩,Weak.refl _,rfl,rfl⟩
theorem zrn [Tracks] {b:Nat} {l:List Int} {a:Nat} (ha:a<=700000):Con prog 90 [pAt b] [St b l a] (fun x M'=> ∃(u:Value) (k:List SlotS) (a':Nat),x= .raw u/\GoodS4s k/\0<k.length/\a'<=a+25/\M'=[.arr u 2 (k.map zbo),St b l a']):=by
 refine uOb func90 ntmps90 ?_;refine gz6 ?_;refine ze (zN 2) ?_;refine gz2 ?_;refine dq (za (hs:=[_,_,_,_]) zq ty9 rfl rfl (by decide) (by decide) rfl) ?_;refine gz1 ?_;refine de rfl (uCx 1 zeJ rfl rfl (zJ uS uS uS uS) ?_)
 rintro _ _ ⟨y8,rfl,hy8,rfl⟩;refine dq (zaP (es:=sl4) (f:=HVal.str) (h:=y8.toNat) zq ty9 rfl rfl ⟨_,_,rfl,by omega⟩ uO (by simp [sl4];omega)) ?_;refine dq (zao (f:=HVal.str) (l:=(sl4.take y8.toNat)) zq rfl) ?_;refine gz2 ?_;have hlen:(sl4.take y8.toNat).length=y8.toNat:=by simp [sl4];omega
 refine gz1 ?_;refine uV2 [3,1,5,1,11,12] (fun (k:Nat) (q:GL SlotS)=>[(11,.int .i64 k),(3,.raw q.u)]) (fun (k:Nat) (q:GL SlotS)=>[St b l q.a,.arr q.u 2 (q.out.map zbo)]) (fun (k:Nat) (q:GL SlotS)=>k<=(sl4.take y8.toNat).length/\(q.out.length=k/\GLok zlC k (a+1+5*k) q)) (fun (k:Nat) (q:GL SlotS)=>(sl4.take y8.toNat).length-k) (0) (⟨.slice none 0 0,[],a+1⟩) ?_ ?_ ?_ ?_
 ·exact ⟨Ad _,rfl,⟨by simp,by simp,uD⟩⟩
 ·exact ⟨rfl,rfl,trivial⟩
 ·exact uP
 ·intro k q hinv
  obtain ⟨hk,⟨hn,hq⟩⟩:=hinv;obtain ⟨u,out,a2⟩:=q;obtain ⟨g1,g2,g3⟩:=id hq;dsimp only at g1 g2 g3;dsimp only at hn;refine gz4 ?_;refine uCo (fun h1=> ?_) fun h2=> ?_
  ·obtain ⟨x,hx⟩: ∃x,(sl4.take y8.toNat)[k]? =some x:=⟨_,Aa (by simpa using h1)⟩
   have hdx:=zi hx;refine gz5 ?_;refine dq (zy (f:=HVal.str) (l:=(sl4.take y8.toNat)) (j:=k) (a:=x) zq ty9 rfl rfl rfl hx) ?_;refine gz7 ?_;refine de rfl (uCx 0 zwO rfl rfl (zdN uS) ?_)
   rintro _ _ ⟨t18,a18,rfl,ht18,ha18,rfl⟩;refine dq (zF (cs:=[_,_]) zce zAh rfl) ?_;refine dq (za (hs:=[_]) zbG zce rfl rfl (by decide) (by decide) rfl) ?_;refine de rfl (zK (i:=1) zbG zce rfl rfl rfl rfl rfl (by simp [zar,zb,zaz,za4]) uSo fun v21=> ?_)
   refine gz8 ?_;exact ⟨k+1,⟨v21,out++[(⟨x,t18⟩:SlotS)],a18⟩,⟨by omega,by simp;omega,hq.add (x:=(⟨x,t18⟩:SlotS)) (by show t18.length<=4;omega) (by dsimp only at ha18;omega)⟩,uD,⟨rfl,rfl,trivial⟩,uK,zm (by dsimp only;first|rfl|(rw [Az];rfl))⟩
  ·have hnk:(sl4.take y8.toNat).length<=k:=by simpa using h2
   obtain rfl:k=(sl4.take y8.toNat).length:=by omega
   refine gz2 ?_;refine zM ?_;refine gz7 ?_;exact zat (Ghost.perm (List.Perm.swap _ _ _)) rfl ⟨_,out,a2,rfl,⟨by omega,g2⟩,by omega,by omega,rfl⟩
theorem zbU [Tracks] {b:Nat} {l:List Int} {a:Nat} (ha:a<=700000):Con prog 89 [pAt b] [St b l a] (fun x M'=> ∃k a',x=zf0 k/\GoodRus k/\a'<=a+40/\M'=[St b l a']):=by
 refine uOb func89 ntmps89 ?_;refine gz6 ?_;refine ze (zN 7) ?_;refine gz2 ?_;refine dq (za (hs:=[_,_,_,_,_]) zq ty9 rfl rfl (by decide) (by decide) rfl) ?_;refine dq (zao (f:=HVal.str) (l:=ru5) zq rfl) ?_;refine gz3 ?_;refine uV2 [3,1,5,2,9,37] (fun (k:Nat) (q:GL RuleS)=>[(9,.int .i64 k),(3,.raw q.u)]) (fun (k:Nat) (q:GL RuleS)=>[St b l q.a,.arr q.u 7 (q.out.map zoR)]) (fun (k:Nat) (q:GL RuleS)=>k<=ru5.length/\(GLok zzg k (a+8*k) q)) (fun (k:Nat) (q:GL RuleS)=>ru5.length-k) (0) (⟨.slice none 0 0,[],a⟩) ?_ ?_ ?_ ?_;exact ⟨Ad _,⟨by simp,by simp,uD⟩⟩;exact ⟨rfl,rfl,trivial⟩;exact uP
 intro k q hinv
 obtain ⟨hk,hq⟩:=hinv;have hlen:ru5.length=5:=rfl;obtain ⟨u,out,a2⟩:=q;obtain ⟨g1,g2,g3⟩:=id hq;dsimp only at g1 g2 g3;refine gz4 ?_;refine uCo (fun h1=> ?_) fun h2=> ?_
 obtain ⟨x,hx⟩: ∃x,ru5[k]? =some x:=⟨_,Aa h1⟩
 have hdx:=zi hx;refine gz5 ?_;refine dq (zy (f:=HVal.str) (l:=ru5) (j:=k) (a:=x) zq ty9 rfl rfl rfl hx) ?_;refine gz6 ?_;refine de rfl (uCx 0 zes rfl rfl (zI uS uS) ?_)
 rintro _ _ ⟨y14,rfl,rfl⟩;refine gz1 ?_;refine uCo (fun h3=> ?_) fun h4=> ?_
 refine gz8 ?_;exact ⟨k+1,⟨u,out,a2+1⟩,⟨by omega,hq.same uO⟩,uD,⟨rfl,rfl,trivial⟩,uK,uP⟩;refine gz5 ?_;refine dq (za (hs:=[_,_,_,_]) zq ty9 rfl rfl (by decide) (by decide) rfl) ?_;refine de rfl (uCx 0 zbS rfl rfl (zo (L:=[_,_,_,_]) uS uS uS) ?_)
 rintro _ _ ⟨y18,rfl,hy18,rfl⟩;refine gz1 ?_;refine dq (za (hs:=[_,_,_,_]) zq ty9 rfl rfl (by decide) (by decide) rfl) ?_;refine de rfl (uCx 0 zbS rfl rfl (zo (L:=[_,_,_,_]) uS uS uS) ?_)
 rintro _ _ ⟨y21,rfl,hy21,rfl⟩;refine gz1 ?_;refine de rfl (uCx 0 zeJ rfl rfl (zJ uS uS uS uS) ?_)
 rintro _ _ ⟨y23,rfl,hy23,rfl⟩;refine gz1 ?_;refine dq (za (hs:=[_,_,_,_,_,_]) z8 ty3 rfl rfl (by decide) (by decide) rfl) ?_;refine de rfl (uCx 0 ca6 rfl rfl (zf (L:=[_,_,_,_,_,_]) uS uS uS) ?_)
 rintro _ _ ⟨y26,rfl,hy26,rfl⟩;refine dq (uCl zEK rfl (zj3 (n:=y26) (by simp at hy26;omega))) ?_;refine dq (zF (cs:=[_,_,_,_,_,_,_]) zgy zGn rfl) ?_;refine de rfl (zj zgy rfl fun b6=> ?_)
 refine de0 (uY 0 ?_)
 refine gz1 ?_;have hb1:=zvS (n:=y26) (g:=zhY y26 100) (by simp at hy26;omega);have hb2:=zvS (n:=100) (g:=zhY y26 100) uO;refine uVj [29,12] (fun (q4:RuleS×Nat)=>[]) (fun (q4:RuleS×Nat)=>[St b l q4.2,.arr u 7 (out.map zoR),.cells b6 (zb (zoR q4.1))]) (fun (q4:RuleS×Nat)=>zzg q4.1/\q4.2<=a2+7) ?_ ?_
 skip
 refine gz2 ?_;refine de rfl (uZ 0 ?_)
 refine gz3 ?_;refine dgl rfl rfl (fun hc=>⟨_,OpenTo.upd (t:=33) rfl (hc) (OpenTo.refl _),zan (i:=0) ty3 rfl rfl (.inl ⟨rfl,rfl⟩) ⟨rfl,rfl⟩⟩) ?_;refine gz3 ?_;refine uCo (fun h5=> ?_) fun h6=> ?_
 refine gz2 ?_;refine dq (za (hs:=[_,_,_,_,_]) z8 ty3 rfl rfl (by decide) (by decide) rfl) ?_;refine de rfl (uCx 1 ca6 rfl rfl (zf (L:=[_,_,_,_,_]) uS uS uS) ?_)
 rintro _ _ ⟨y39,rfl,hy39,rfl⟩;refine gz1 ?_;refine de0 (uY 1 ?_)
 refine gz1 ?_;exact ⟨((⟨x,y18,y21,y23,y39,y26.tdiv (zhY y26 100),(100:Int).tdiv (zhY y26 100)⟩:RuleS),a2+6),⟨⟨hb1,hb2⟩,uD⟩,trivial,uK,uP⟩;refine gz1 ?_;exact ⟨((⟨x,y18,y21,y23,0,y26.tdiv (zhY y26 100),(100:Int).tdiv (zhY y26 100)⟩:RuleS),a2+5),⟨⟨hb1,hb2⟩,uD⟩,trivial,uK,uP⟩
 intro q4 hq4
 obtain ⟨x5,a5⟩:=q4;obtain ⟨hx5,ha5⟩:=hq4;dsimp only at hx5 ha5;refine ze (zbr 6 (i:=2) rfl rfl) ?_;refine gz3 ?_;refine dq (za (hs:=[_]) zoH zgy rfl rfl (by decide) (by decide) rfl) ?_;refine de rfl (zK (i:=1) zoH zgy rfl rfl rfl rfl rfl (by simp [zar,zb,zaz,za4]) uSo fun v44=> ?_)
 refine gz8 ?_;exact ⟨k+1,⟨v44,out++[x5],a5⟩,⟨by omega,hq.add (x:=x5) hx5 uO⟩,uD,⟨rfl,rfl,trivial⟩,uK,uP⟩;have hnk:ru5.length<=k:=by omega
 obtain rfl:k=ru5.length:=by omega
 refine gz2 ?_;refine zM ?_;refine gz7 ?_;exact zat (zaJ 2 (i:=1) rfl rfl) rfl ⟨out,a2,rfl,⟨by omega,g2⟩,by omega,rfl⟩
theorem zj0 [Tracks] {b:Nat} {l:List Int} {a:Nat} (ha:a<=600000):Con prog 98 [pAt b] [St b l a] (fun x M'=> ∃k a',x=zbB k/\GoodSlos k/\a'<=a+40/\M'=[St b l a']):=by
 refine uOb func98 ntmps98 ?_;refine gz5 ?_;refine de rfl (uCx 0 zry rfl rfl (zrn uS) ?_)
 rintro _ _ ⟨u6,k6,a6,rfl,hk6,hn6,ha6,rfl⟩;refine gz2 ?_;have hl6:=hk6.len;have hg6:=hk6.all;refine ze (zaQ (M':=[.arr u6 2 (k6.map zbo),St b l a6]) rfl) ?_;refine ze (Ghost.perm (List.Perm.swap _ _ _)) ?_;refine uVj [4,1,7,31] (fun (q:List SlotS×Nat)=>[]) (fun (q:List SlotS×Nat)=>[St b l q.2,.arr u6 2 (q.1.map zbo)]) (fun (q:List SlotS×Nat)=>GoodSlos q.1/\q.2<=a6+5) ?_ ?_
 ·skip
  refine gz2 ?_;refine de rfl (uCx 0 zes rfl rfl (zI uS uS) ?_)
  rintro _ _ ⟨y8,rfl,rfl⟩;refine gz1 ?_;refine uCo (fun h1=> ?_) fun h2=> ?_
  ·refine zdi (i:=1) rfl (fun h0 he=> ?_) (fun ob off cap hv hcap=> ?_)
   ·exfalso;have:=congrArg List.length he;simp at this;subst this;simp at hn6
   subst hv;refine gz4 ?_;refine de rfl (zaT (i:=1) (es:=k6) zbG rfl rfl ?_)
   refine de rfl (uCx 0 zjd rfl rfl (zak uS uS) ?_)
   rintro _ _ ⟨y13,rfl,hy13,rfl⟩;refine dq (zx (j:=y13) zbG zce rfl rfl rfl uSo) ?_;refine gz2 ?_;obtain ⟨x,hx⟩: ∃x,k6[y13]? =some x:=⟨_,Aa uO⟩
   have hgx:=hg6 x (Ab hx);dsimp only [zlC] at hgx;refine zbj (fun M=> ∃i:Nat,M[i]? =some (.arr (.slice (some ⟨ob,off,none⟩) (k6.map zbo).length cap) 2 (k6.map zbo))) [6,12] mixed ?_;refine gz6 ?_;refine uM 6 rfl ⟨1,rfl⟩ (fun M hM=>by obtain ⟨i,hi⟩:=hM;exact zaq (i:=i) (j:=y13) 0 ty9 rfl uO hi hx rfl rfl ⟨rfl,rfl⟩) ?_;refine uB 7 rfl (za (hs:=[_,_,_]) zq ty9 rfl rfl (by decide) (by decide) rfl) ?_;refine uA 9 ?_;refine gz2 ?_;refine uM 12 rfl ⟨1,rfl⟩ (fun M hM=>by obtain ⟨i,hi⟩:=hM;exact zaq (i:=i) (j:=y13) 1 zq rfl uO hi hx rfl rfl ⟨rfl,rfl⟩) ?_;refine uA 14 ?_;refine uB 15 rfl (za (hs:=[_,_,_]) zq ty9 rfl rfl (by decide) (by decide) rfl) ?_;refine uF 8 ?_;refine zv rfl (uCx 0 zbS rfl rfl (zo (L:=[_,_,_]) uS uS uS) ?_)
   rintro _ _ ⟨y23,rfl,hy23,rfl⟩;refine ⟨uE,?_⟩
   refine uF 13 ?_;refine zv rfl (uCa zkc rfl (z7 uO) fun v28=> ?_)
   refine ⟨uE,?_⟩
   refine uF 16 ?_;refine zv rfl (uCx 1 zbS rfl rfl (zo (L:=[_,_,_]) uS uS uS) ?_)
   rintro _ _ ⟨y31,rfl,hy31,rfl⟩;refine ⟨uE,?_⟩
   refine uB 17 rfl (za (hs:=[_]) zq ty9 rfl rfl (by decide) (by decide) rfl) ?_;refine uF 18 ?_;refine zv rfl (zlA (N:=[St b l (a6+1+1+1+1),.arr (.slice (some ⟨ob,off,none⟩) (k6.map zbo).length cap) 2 (k6.map zbo)]) (sz:=1) (es:=(x.Positions++[y31]).map .str) 1 (zK (i:=1) zq ty9 rfl rfl rfl rfl rfl (by simp [zar,zb]) uSo fun v=>⟨v,rfl,by simp,rfl⟩) ?_)
   refine ⟨fun _=> .inl ⟨1,rfl⟩,?_⟩
   refine gz2 ?_;refine uF 21 ?_;refine zD (zQ (i:=1) (j:=y13) (f:=0) (y:=zbo x) (y':=zbo ⟨y23,x.Positions⟩) ty9 rfl uO rfl rfl (za9 hx) rfl rfl (by simp [zb]) rfl ?_)
   refine ⟨uE,?_⟩
   refine gz2 ?_;refine uF 24 ?_;refine zD (zQ (i:=1) (j:=y13) (f:=1) (y:=zbo ⟨y23,x.Positions⟩) (y':=zbo ⟨y23,x.Positions++[y31]⟩) zq rfl uO rfl rfl (zaL (za9 hx)) rfl rfl (by simp [zb]) rfl ?_)
   refine ⟨uE,?_⟩
   refine gz1 ?_;exact ⟨(k6.set y13 ⟨y23,x.Positions++[y31]⟩,a6+4),⟨⟨by simp;omega,zfk (P:=zoJ) hk6.up.all (by dsimp only [zoJ];simp;omega)⟩,uD⟩,trivial,uK,uP⟩
  ·refine gz1 ?_;exact ⟨(k6,a6+1),⟨hk6.up,uD⟩,trivial,uK,uP⟩
 ·intro q hq3
  obtain ⟨k1,a4⟩:=q;obtain ⟨q1,q3⟩:=hq3;dsimp only at q1 q3;refine gz3 ?_;refine de rfl (uCx 0 zes rfl rfl (zI uS uS) ?_)
  rintro _ _ ⟨y39,rfl,rfl⟩;refine gz1 ?_;refine uCo (fun h3=> ?_) fun h4=> ?_
  ·refine gz4 ?_;exact ⟨_,_,(zaQ (M':=[St b l (a4+1),.arr u6 2 (k1.map zbo)]) rfl).trans ((Ghost.perm (List.Perm.swap _ _ _)).trans Ghost.drop),_,.slice 2 [],rfl,zW 2,[],a4+1,rfl,⟨by simp,by simp⟩,by omega,rfl⟩
  ·refine gz7 ?_;exact zat (zaJ 2 (i:=1) rfl rfl) rfl ⟨k1,a4+1,rfl,q1,by omega,rfl⟩
theorem zaD [Tracks] {b:Nat} {l:List Int} {a:Nat} (ha:a<=600000):Con prog 92 [pAt b] [St b l a] (fun x M'=> ∃k a',x=eIs k/\k.length<=6/\a'<=a+20/\M'=[St b l a']):=by
 refine uOb func92 ntmps92 ?_;refine gz6 ?_;refine ze (zN 1) ?_;refine gz3 ?_;refine de rfl (uCx 1 zA6 rfl rfl (zfL (n:=5) uO uO uO) ?_)
 rintro _ _ ⟨L7,a7,rfl,hL7,ha7,rfl⟩;refine gz1 ?_;refine de rfl (uCx 0 zeJ rfl rfl (zJ uS uS uS uS) ?_)
 rintro _ _ ⟨y9,rfl,hy9,rfl⟩;refine dq (zaP (es:=L7) (f:=HVal.int .i64) (h:=y9.toNat) z8 ty3 rfl rfl ⟨_,_,rfl,by omega⟩ uO (by have:=hL7.1;omega)) ?_;refine dq (zao (f:=HVal.int .i64) (l:=L7.take y9.toNat) z8 rfl) ?_;refine gz2 ?_;obtain ⟨hLn,hLb⟩:=hL7;have hlen:(L7.take y9.toNat).length=y9.toNat:=by simp;omega
 refine gz1 ?_;refine uV2 [3,1,5,1,12,10] (fun (k:Nat) (q:GL Int)=>[(12,.int .i64 k),(3,.raw q.u)]) (fun (k:Nat) (q:GL Int)=>[St b l (a7+1),.arr q.u 1 (q.out.map (.int .i64))]) (fun (k:Nat) (q:GL Int)=>k<=(L7.take y9.toNat).length/\(q.out.length<=k)) (fun (k:Nat) (q:GL Int)=>(L7.take y9.toNat).length-k) (0) (⟨.slice none 0 0,[],a⟩) ?_ ?_ ?_ ?_;exact ⟨Ad _,by simp⟩;exact ⟨rfl,rfl,trivial⟩;exact uP
 intro k q hinv
 obtain ⟨hk,hq⟩:=hinv;obtain ⟨u,out,a2⟩:=q;dsimp only at hq;refine gz4 ?_;refine uCo (fun h1=> ?_) fun h2=> ?_
 obtain ⟨y,hy⟩: ∃y,(L7.take y9.toNat)[k]? =some y:=⟨_,Aa (by simpa using h1)⟩
 have hdy:=zi hy;refine gz5 ?_;refine dq (zy (f:=HVal.int .i64) (l:=L7.take y9.toNat) (j:=k) (a:=y) z8 ty3 rfl rfl rfl hy) ?_;refine gz6 ?_;refine dq (zaX rfl rfl (by have:=hLb y (AL (Ab hy));omega) (by have:=hLb y (AL (Ab hy));omega)) ?_;refine dq (za (hs:=[_]) z8 ty3 rfl rfl (by decide) (by decide) rfl) ?_;refine de rfl (zK (i:=1) z8 ty3 rfl rfl rfl rfl rfl (by simp [zar,zb,zaz,za4]) uSo fun v20=> ?_)
 refine gz8 ?_;exact ⟨k+1,⟨v20,out++[y+1],a⟩,⟨by omega,by simp;omega⟩,uD,⟨rfl,rfl,trivial⟩,uK,uP⟩;have hnk:(L7.take y9.toNat).length<=k:=by simpa using h2
 obtain rfl:k=(L7.take y9.toNat).length:=by omega
 refine gz2 ?_;refine zM ?_;refine gz5 ?_;refine de rfl (uCx 0 zes rfl rfl (zI uS uS) ?_)
 rintro _ _ ⟨y23,rfl,rfl⟩;refine gz1 ?_;refine uCo (fun h3=> ?_) fun h4=> ?_
 refine gz3 ?_;refine de rfl (uCx 0 zmy rfl rfl (zim uS uS uS uS) ?_)
 rintro _ _ ⟨y26,rfl,hy26,rfl⟩;refine dq (za (hs:=[_]) z8 ty3 rfl rfl (by decide) (by decide) rfl) ?_;refine de rfl (zK (i:=1) z8 ty3 rfl rfl rfl rfl rfl (by simp [zar,zb,zaz,za4]) uSo fun v28=> ?_)
 refine gz8 ?_;exact zat (zaJ 2 (i:=1) rfl rfl) rfl ⟨out++[y26],_,by simp,by simp;omega,by omega,rfl⟩;refine gz7 ?_;exact zat (zaJ 2 (i:=1) rfl rfl) rfl ⟨out,_,rfl,by omega,by omega,rfl⟩
end
section
open Go.Proofs.Tryz
open Go.HL
theorem znV [Tracks] {l:List GameS} (hb: ∀x∈l,GamB x) (hl:l.length<=1000000) {v:Value}:
 Con prog 96 [.raw v,.fn (.func 97) [] []] [.arr v 8 (l.map zaS)] fun x M'=> ∃l':List GameS,x= .tup []/\l'.Perm l/\l'.Pairwise (fun a b=> ¬zgi b a<0)/\M'=[.arr v 8 (l'.map zaS)]:=by
 have h:=zn4 (e:=fun x:{m:GameS//GamB m}=>zaS x.1) zzh (Tryz.isAgg59) (Tryz.sizeOf59) (fun _=>rfl) (fun _=>rfl) (fun _=>rfl) (c:=fun x y=>zgi x.1 y.1) (zo4 zwE) ca97 (fun x y=> @zhr zhE x.1 y.1 x.2.week y.2.week) (l:=l.attachWith _ hb) (by simpa using hl) (v:=v);rw [zqd hb zaS] at h;refine h.mono fun x M' ⟨l',e1,hp,hw,e2⟩=>⟨l'.map Subtype.val,e1,?_,?_,?_⟩
 have h9:=hp.map Subtype.val;rw [zmf hb] at h9;exact h9;exact List.pairwise_map.2 hw;rw [e2,AY];rfl
theorem zfM [Tracks] {T:List Str} {W p n:Int} (hT:T.length<=1000000) (hW:1<=W/\W<=10) (hp:0<=p/\p<=10) (hn:2<=n/\n<=10):ConP prog 186 [.int .i64 W,.int .i64 p,.vptr [.int .i64 n] 0,.vptr [eSs T] 0] (.str (onS T W p n)):=by
 obtain ⟨o1,o2,o3⟩:=zF8 (W:=W) hp hn;refine uOb func186 ntmps186 ?_;refine gz7 ?_;refine uVj [7,1,9,17] (fun (i1:Int)=>[(7,.int .i64 i1)]) (fun (i1:Int)=>[]) (fun (i1:Int)=>i1=onI W p n) ?_ ?_
 skip
 refine gz4 ?_;refine uCo (fun h1=> ?_) fun h2=> ?_
 refine zia mixed ?_;refine gz7 ?_;refine uB 7 rfl (zcP (n:=n-1) rfl rfl uO) ?_;refine gz5 ?_;refine uB 13 rfl (zcP (n:=n-1) rfl rfl uO) ?_;refine gz3 ?_;exact ⟨1+((p-1-(W-1)).tmod (n-1)+(n-1)).tmod (n-1),by rw [onI,if_pos h1],⟨rfl,trivial⟩,uK,Ac _⟩;refine gz1 ?_;exact ⟨p,by rw [onI,if_neg uO],⟨rfl,trivial⟩,uK,Ac _⟩
 intro i1 hi1
 have hi0:0<=i1:=by rw [hi1];exact o3
 refine gz7 ?_;refine uCo (fun h3=> ?_) fun h4=> ?_
 refine gz4 ?_;refine zw rfl ?_
 show HVal.str _=_
 (rw [onS,if_pos uO])
 refine gz5 ?_;refine dq (zy (f:=HVal.str) (l:=T) (j:=i1.toNat) (a:=T.getD i1.toNat []) zq ty9 rfl rfl uO (getD_some uO)) ?_;refine gz4 ?_;refine zw rfl ?_
 show HVal.str _=_
 (rw [onS,if_neg uO,<-hi1])
theorem zla [Tracks] {T:List Str} (hT:2<=T.length/\T.length<=4):Con prog 95 [eSs T,.int .i64 3] [] (fun x M'=> ∃k,x=zlM k/\GoodGas k/\M'=[]):=by
 obtain ⟨n1,n2,n3,n4⟩:=zDx hT;refine uOb func95 ntmps95 ?_;refine gz9 ?_;refine dq (zcP rfl rfl uO) ?_;refine dq (zU (h':= .int .i64 (nOf T)) (zaX rfl rfl uO uO) rfl) ?_;refine de rfl (zj ty3 rfl fun b5=> ?_)
 refine de0 (uY 0 ?_)
 refine gz1 ?_;refine ze (zbr 5 (i:=0) rfl rfl) ?_;refine gz7 ?_;refine ze (zN 8) ?_;refine gz5 ?_;refine uV2 [7,5,19,56] (fun (w:Nat) (q:GL GameS)=>[(8,.int .i64 ((w:Int)+1)),(7,.raw q.u)]) (fun (w:Nat) (q:GL GameS)=>[.arr q.u 8 (q.out.map zaS)]) (fun (w:Nat) (q:GL GameS)=>w<=3/\GLok GamB (2*w) 0 q) (fun (w:Nat) (q:GL GameS)=>3-w) (0) (⟨.slice none 0 0,[],0⟩) ?_ ?_ ?_ ?_;exact ⟨by omega,⟨by simp,by simp,by simp⟩⟩;exact ⟨zP uO,rfl,trivial⟩;exact Ac _
 intro w q hinv
 obtain ⟨hw,hq⟩:=hinv;obtain ⟨u,out,a2⟩:=q;obtain ⟨g1,g2,g3⟩:=id hq;dsimp only at g1 g2 g3;refine gz6 ?_;refine uCo (fun h1=> ?_) fun h2=> ?_
 refine gz6 ?_;refine dq (zU (h':= .int .i64 (mOf T)) (zdE rfl rfl uO uO uO) rfl) ?_;refine gz3 ?_;refine uU2 [7,1,9,3,26,49] (fun (j:Nat) (q2:GL GameS)=>[(26,.int .i64 (j:Int)),(7,.raw q2.u)]) (fun (j:Nat) (q2:GL GameS)=>[.arr q2.u 8 (q2.out.map zaS)]) (fun (j:Nat) (q2:GL GameS)=>(j:Int)<=mOf T/\GLok GamB (2*w+j) 0 q2) (fun (j:Nat) (q2:GL GameS)=>(mOf T).toNat-j) (0) (⟨u,out,0⟩) ?_ ?_;exact ⟨by omega,⟨uD,g2,by simp⟩⟩;rintro j q2 ⟨hj,hq2⟩;obtain ⟨u,out,a2⟩:=q2;obtain ⟨g1,g2,g3⟩:=id hq2;dsimp only at g1 g2 g3;refine gz4 ?_;refine uCo (fun h3=> ?_) fun h4=> ?_
 refine gz8 ?_;refine uDr mixed ?_;refine gz4 ?_;refine uB 4 rfl (zal zA8 rfl rfl (WeakL.refl _) (zfM (T:=T) (W:=((w:Int)+1)) (p:=(j:Int)) (n:=nOf T) uO uO uO uO)) ?_;refine gz3 ?_;refine uB 8 rfl (zem (m:=nOf T) rfl rfl uO uO) ?_;refine gz1 ?_;refine uB 10 rfl (zem (m:=nOf T-1) rfl rfl uO uO) ?_;refine uB 11 rfl (zal zA8 rfl rfl (WeakL.refl _) (zfM (T:=T) (W:=((w:Int)+1)) (p:=(nOf T-1-j)) (n:=nOf T) uO uO uO uO)) ?_;refine uB 12 rfl (zF (cs:=[_,_,_,_,_,_,_,_]) zdr pl59 rfl) ?_;refine uF 13 ?_;refine zv rfl (zj zdr rfl fun b10=> ?_)
 refine ⟨uE,?_⟩
 refine uF 14 ?_;refine zD (uY 0 ?_)
 refine ⟨uE,?_⟩
 refine gz3 ?_;refine dq (zcP rfl rfl uO) ?_;refine gz3 ?_;refine uVj [11,1,45,10] (fun (tn:Bool)=>[(11,.bool tn)]) (fun (tn:Bool)=>[.cells b10 (zb (zaS (⟨(w:Int)+1,onS T ((w:Int)+1) j (nOf T),onS T ((w:Int)+1) (nOf T-1-j) (nOf T),false,0,0,0,0⟩:GameS))),.arr u 8 (out.map zaS)]) (fun (tn:Bool)=>True) ?_ ?_
 skip
 refine gz4 ?_;refine uCo (fun h5=> ?_) fun h6=> ?_
 refine gz4 ?_;refine dq (zem (m:=nOf T) rfl rfl uO uO) ?_;refine dq (zdE (n:=nOf T-1) rfl rfl uO uO uO) ?_;refine dq (zcP rfl rfl uO) ?_;refine gz1 ?_;refine dq (zAs ty4 rfl rfl) ?_;refine gz2 ?_;exact ⟨_,trivial,⟨rfl,trivial⟩,uK,zm rfl⟩;refine gz1 ?_;exact ⟨_,trivial,⟨rfl,trivial⟩,uK,zm rfl⟩
 intro tn _
 refine uVj [55,7] (fun (g5:GameS)=>[]) (fun (g5:GameS)=>[.cells b10 (zb (zaS g5)),.arr u 8 (out.map zaS)]) (fun (g5:GameS)=>GamB g5) ?_ ?_
 skip
 refine gz3 ?_;refine uCo (fun h7=> ?_) fun h8=> ?_
 refine gz2 ?_;refine de rfl (uZ 0 ?_)
 refine gz1 ?_;refine de rfl (uZ 0 ?_)
 refine gz1 ?_;refine de0 (uY 0 ?_)
 refine gz1 ?_;refine de0 (uY 0 ?_)
 refine gz1 ?_;exact ⟨(⟨(w:Int)+1,onS T ((w:Int)+1) (nOf T-1-j) (nOf T),onS T ((w:Int)+1) j (nOf T),false,0,0,0,0⟩:GameS),zvV uO,trivial,uK,zm rfl⟩;refine gz1 ?_;exact ⟨(⟨(w:Int)+1,onS T ((w:Int)+1) j (nOf T),onS T ((w:Int)+1) (nOf T-1-j) (nOf T),false,0,0,0,0⟩:GameS),zvV uO,trivial,uK,zm rfl⟩
 intro g5 hg5
 refine gz2 ?_;refine de rfl (uZ 0 ?_)
 refine gz3 ?_;refine dgl rfl rfl (fun hc=>⟨_,OpenTo.upd (t:=66) rfl (hc) (OpenTo.refl _),zan (i:=0) ty9 rfl rfl (.inl ⟨rfl,rfl⟩) ⟨rfl,rfl⟩⟩) ?_;refine gz3 ?_;refine uCo (fun h9=> ?_) fun h10=> ?_
 refine gz2 ?_;refine de rfl (zi3 (i:=0) (h:=zaS g5) zdr rfl rfl rfl rfl rfl ?_)
 refine dq (za (hs:=[_]) zgd zdr rfl rfl (by decide) (by decide) rfl) ?_;refine de rfl (zK (i:=1) zgd zdr rfl rfl rfl rfl rfl (by simp [zar,zb,zaz,za4]) uSo fun v73=> ?_)
 refine gz4 ?_;refine ze Ghost.drop ?_;refine gz4 ?_;exact ⟨j+1,⟨v73,out++[g5],0⟩,⟨by omega,hq2.add (x:=g5) hg5 uO⟩,uD,⟨rfl,rfl,trivial⟩,uK,zm (by dsimp only;rw [Az];rfl)⟩;refine gz3 ?_;refine ze Ghost.drop ?_;refine gz4 ?_;exact ⟨j+1,⟨u,out,0⟩,⟨by omega,hq2.same uO⟩,uD,⟨rfl,rfl,trivial⟩,uK,zm rfl⟩;refine gz2 ?_;refine zM ?_;refine gz8 ?_;exact ⟨w+1,⟨u,out,0⟩,⟨by omega,⟨uD,g2,by simp⟩⟩,uD,⟨zP uO,rfl,trivial⟩,uK,zm rfl⟩;refine gz2 ?_;refine zM ?_;refine gz4 ?_;refine de rfl (uCx 0 ca96 rfl rfl (znV (l:=out) g2 uO) ?_)
 rintro _ _ ⟨Z,rfl,hz1,hz2,rfl⟩;have hzl:=hz1.length_eq;refine gz6 ?_;exact zat (zaJ 4 (i:=0) rfl rfl) rfl ⟨Z,rfl,⟨by omega,fun x hx=>g2 x (hz1.mem_iff.1 hx)⟩,rfl⟩
end
section
open Go.Proofs.Tryz
open Go.HL
theorem zml [Tracks] {a b:Str}:ConP prog 248 [.str a,.str b] (.int .i64 (zV a b)):=by
 refine uOb func248 ntmps248 ?_;refine gz5 ?_;refine dq (uCl ztq rfl zef) ?_;refine gz4 ?_;refine dq (uCl ztq rfl zef) ?_;refine gz6 ?_;refine zdC rfl ?_;refine gz6 ?_;refine zdC rfl ?_;refine gz8 ?_;refine uCo (fun h1=> ?_) fun h2=> ?_
 refine gz4 ?_;refine uRp ?_;rw [zgn]
 (rw [if_pos (by assumption)])
 refine gz8 ?_;refine uCo (fun h3=> ?_) fun h4=> ?_
 refine gz4 ?_;refine uRp ?_;rw [zgn]
 (rw [if_neg uSa,if_neg uSa])
 refine gz6 ?_;refine uRp ?_;rw [zgn]
 (rw [if_neg uSa];simp_all)
theorem zhL [Tracks] {l m:List Str} (hl:l.length<=1000000) (hm:m.length<=1000000):ConP prog 178 [eSs l,eSs m] (.int .i64 (zhd l m)):=by
 refine uOb func178 ntmps178 ?_;refine zau ?_;refine uT1 [4,5,11,20] (fun k=>[(11,.int .i64 k)]) (fun k=>[]) (fun k=>k<=l.length/\(k<=m.length/\zhd l m=zhd (l.drop k) (m.drop k))) (fun k=>l.length-k) (0) ?_ ?_;exact ⟨Ad _,Ad _,rfl⟩;rintro k ⟨hk,⟨hkm,hg⟩⟩;refine gz4 ?_;refine uCo (fun h1=> ?_) fun h2=> ?_
 obtain ⟨x,hx⟩: ∃x,l[k]? =some x:=⟨_,Aa h1⟩
 have hdx:=zi hx;rw [hdx] at hg;refine gz18 ?_;refine uCo (fun h3=> ?_) fun h4=> ?_
 refine gz4 ?_;refine uRp ?_
 (rw [hg,zzy (.inr (BB uO)) (by simp)])
 refine gz5 ?_;refine dq (zy (j:=k) (a:=m.getD k []) zq ty9 rfl rfl rfl (getD_some uO)) ?_;refine gz6 ?_;refine dq (uCl zFn rfl zml) ?_;refine gz6 ?_;refine uCo (fun h5=> ?_) fun h6=> ?_
 refine gz5 ?_;refine uRp ?_
 (rw [hg,zmC (m:=m) (k:=k) h4,zx9 (by rw [Ae];exact h5)])
 refine gz7 ?_;refine ⟨k+1,?_,?_,⟨rfl,trivial⟩,uK,Ac _⟩
 refine ⟨by omega,by omega,?_⟩
 rw [hg,zmC (m:=m) (k:=k) h4];exact zx8 (by rw [Ae];exact h6)
 dsimp only;omega
 have hnk:l.length<=k:=by omega
 obtain rfl:k=l.length:=by omega
 rw [zH (Af _)] at hg;refine gz2 ?_;refine zt ?_;refine zau ?_;refine uCo (fun h7=> ?_) fun h8=> ?_
 refine gz4 ?_;refine uRp ?_
 (rw [hg,zub,if_pos uO])
 refine gz6 ?_;refine uRp ?_
 (rw [hg,zub,if_neg uO])
theorem zmj [Tracks] {l:List FixS} {v:Value} {fid:FuncId} {caps:List HVal} {p:FixS->FixS->Bool} (hca:Callable prog fid) (hp: ∀x y,ConP prog fid ([za1 x,za1 y]++caps) (.bool (p x y))) (hl:l.length<=1000000):Con prog 179 [.raw v,.fn (.func fid) [] caps] [.arr v 4 (l.map za1)] (fun x M'=> ∃(u:Value) (D:List FixS),x= .raw u/\(D.length<=l.length/\∀x∈D,x∈l)/\M'=[.arr u 4 (D.map za1)]):=by
 refine uOb func179 ntmps179 ?_;refine gz6 ?_;refine de rfl (zaT (i:=0) zc1 rfl rfl ?_)
 refine gz2 ?_;refine uCo (fun h1=> ?_) fun h2=> ?_
 refine gz5 ?_;exact zad rfl ⟨_,l,rfl,⟨Af _,fun _ q=>q⟩,rfl⟩;refine gz3 ?_;refine zdi (i:=0) rfl (fun h0 he=> ?_) (fun b off cap hv hcap=> ?_)
 exfalso;have:=congrArg List.length he;simp at this;subst this;simp at h2
 rw [Ah] at hv hcap;subst hv;refine gz4 ?_;refine uT1 [4,4,12,53] (fun k=>[(5,.int .i64 (k:Int))]) (fun k=>[.arr (.slice (some ⟨b,off,none⟩) l.length cap) 4 (l.map za1)]) (fun k=>1<=k/\k<=l.length) (fun k=>l.length-k) (1) ?_ ?_;exact ⟨by omega,by omega⟩;rintro k ⟨hk1,hk⟩;refine gz4 ?_;refine de rfl (zaT (i:=0) zc1 rfl rfl ?_)
 refine gz2 ?_;refine uCo (fun h3=> ?_) fun h4=> ?_
 obtain ⟨x,hx⟩: ∃x,l[k]? =some x:=⟨_,Aa uO⟩
 obtain ⟨y,hy⟩: ∃y,l[k-1]? =some y:=⟨_,Aa uO⟩
 refine gz4 ?_;refine zbT (fun M=>M=[.arr (.slice (some ⟨b,off,none⟩) l.length cap) 4 (l.map za1)]) [4,9] mixed ?_;refine gz3 ?_;refine uB 3 rfl (zx (j:=k) zc1 zaI rfl rfl rfl uO) ?_;refine uM 4 rfl rfl (uW (zab (i:=0) (j:=k) zaI rfl uO rfl hx rfl rfl rfl ⟨rfl,rfl⟩)) ?_;refine gz3 ?_;refine uB 8 rfl (zx (j:=k-1) zc1 zaI rfl rfl uO uO) ?_;refine uM 9 rfl rfl (uW (zab (i:=0) (j:=k-1) zaI rfl uO rfl hy rfl rfl rfl ⟨rfl,rfl⟩)) ?_;refine uB 10 rfl (zal hca rfl rfl (WeakL.refl _) (hp x y)) ?_;refine gz1 ?_;refine uCo (fun h5=> ?_) fun h6=> ?_
 refine gz3 ?_;refine dq (ze1 (l:=k) (h:=l.length) zc1 zaI rfl ⟨_,_,rfl,rfl⟩ rfl uO uO hcap) ?_;refine gz2 ?_;rw [zsO uO];refine gz5 ?_;refine uU3 [5,1,7,1,32,27] (fun (k2:Nat) (kk:Nat) (D:List FixS)=>[(7,.int .i64 (k2:Int)),(5,.int .i64 (kk:Int))]) (fun (k2:Nat) (kk:Nat) (D:List FixS)=>[.arr (.slice (some ⟨b,off,none⟩) l.length cap) 4 (D.map za1)]) (fun (k2:Nat) (kk:Nat) (D:List FixS)=>(1<=k2/\k+k2<=l.length)/\(k<=kk/\kk+1<=k+k2)/\D.length=l.length/\∀x∈D,x∈l) (fun (k2:Nat) (kk:Nat) (D:List FixS)=>l.length-k2) (1) (k) (l) ?_ ?_;exact ⟨⟨by omega,by have:=zn hx;omega⟩,⟨by omega,by omega⟩,rfl,fun _ q=>q⟩;rintro k2 kk D ⟨⟨hk2,hkk⟩,⟨hc1,hc2⟩,hDl,hDm⟩;refine gz4 ?_;refine dq (zdD zc1 rfl) ?_;refine gz2 ?_;refine uCo (fun h7=> ?_) fun h8=> ?_
 obtain ⟨x2,hDx⟩: ∃x,D[k+k2]? =some x:=⟨_,Aa uO⟩
 obtain ⟨y2,hDy⟩: ∃y,D[k+k2-1]? =some y:=⟨_,Aa uO⟩
 refine gz4 ?_;refine zbT (fun M=>M=[.arr (.slice (some ⟨b,off,none⟩) l.length cap) 4 (D.map za1)]) [4,9] mixed ?_;refine gz3 ?_;refine uB 3 rfl (zx (j:=k2) zc1 zaI rfl rfl rfl uO) ?_;refine uM 4 rfl rfl (uW (zab (i:=0) (j:=(k+k2)) zaI rfl uO rfl hDx rfl rfl rfl ⟨rfl,rfl⟩)) ?_;refine gz3 ?_;refine uB 8 rfl (zx (j:=k2-1) zc1 zaI rfl rfl uO uO) ?_;refine uM 9 rfl rfl (uW (zab (i:=0) (j:=(k+k2-1)) zaI rfl uO rfl hDy rfl rfl rfl ⟨rfl,rfl⟩)) ?_;refine uB 10 rfl (zal hca rfl rfl (WeakL.refl _) (hp x2 y2)) ?_;refine gz2 ?_;refine uCo (fun h9=> ?_) fun h10=> ?_
 refine gz5 ?_;refine dq (zx (j:=k2) zc1 zaI rfl rfl rfl uO) ?_;refine de rfl (zab (i:=0) (j:=(k+k2)) zaI rfl uO rfl hDx rfl rfl rfl ?_)
 refine dq (zx (j:=kk) zc1 zaI rfl rfl rfl uO) ?_;refine de0 (za2 (i:=0) (j:=kk) (y:=D[kk]'uO) (y':=x2) zaI rfl rfl rfl rfl (Aa _) rfl rfl rfl ?_)
 refine zd3 ?_;exact ⟨k2+1,kk+1,D.set kk x2,⟨⟨by omega,by omega⟩,⟨by omega,by omega⟩,by simp;omega,fun z hz=>(Cg hz).elim (hDm z) (fun q=>by rw [q];exact hDm x2 (Ab hDx))⟩,uD,⟨rfl,zP uO,trivial⟩,uK,Ac _⟩;refine gz8 ?_;exact ⟨k2+1,kk,D,⟨⟨by omega,by omega⟩,⟨by omega,by omega⟩,hDl,hDm⟩,uD,⟨rfl,rfl,trivial⟩,uK,Ac _⟩;refine gz2 ?_;refine zcI ?_;refine gz5 ?_;refine dq (ze1 (l:=kk) (h:=l.length) zc1 zaI rfl ⟨_,_,rfl,rfl⟩ rfl uO uO hcap) ?_;refine de0 (zeM (i:=0) (m:=kk) (kk) zc1 zaI rfl rfl rfl (ziA uO hcap) rfl uO (Af _) (by rw [Ah,hDl];omega) ?_)
 refine gz4 ?_;refine dq (zgv (h:=kk) zc1 zaI rfl ⟨_,_,rfl,rfl⟩ uO) ?_;refine gz3 ?_;exact zad rfl ⟨_,D.take kk,rfl,⟨by simp;omega,fun z hz=>hDm z (AL hz)⟩,by rw [BG];rfl⟩;refine gz8 ?_;exact ⟨k+1,⟨by omega,by omega⟩,uD,⟨rfl,trivial⟩,uK,Ac _⟩;refine gz2 ?_;refine zt ?_;refine gz7 ?_;exact zad rfl ⟨_,l,rfl,⟨Af _,fun _ q=>q⟩,rfl⟩
theorem ziX [Tracks] {A X C:List FixS} {ia ib:Int} {n b off cap:Nat} {fid:FuncId} {caps:List HVal} {c:FixS->FixS->Int} (hca:Callable prog fid) (hp: ∀x y,ConP prog fid ([za1 x,za1 y]++caps) (.int .i64 (c x y))) (hn:A.length+X.length+C.length=n) (hia:ia=(A.length:Int)) (hib:ib=(A.length:Int)+X.length) (hl:n<=1000000):Con prog 302 [.raw (.slice (some ⟨b,off,none⟩) n cap),.int .i64 ia,.int .i64 ib,.fn (.func fid) [] caps] [.arr (.slice (some ⟨b,off,none⟩) n cap) 4 ((A++X++C).map za1)] (fun x M'=>x= .tup []/\M'=[.arr (.slice (some ⟨b,off,none⟩) n cap) 4 ((A++zaj c X++C).map za1)]):=by
 refine uOb func302 ntmps302 ?_;refine gz6 ?_;refine uV1 [8,2,12,41] (fun (k:Nat)=>[(8,.int .i64 ((A.length+k:Nat):Int))]) (fun (k:Nat)=>[.arr (.slice (some ⟨b,off,none⟩) n cap) 4 ((A++(zaj c (X.take k)++X.drop k)++C).map za1)]) (fun (k:Nat)=>1<=k) (fun (k:Nat)=>X.length-k) (1) ?_ ?_ ?_ ?_;exact Af _;exact ⟨zP uO,trivial⟩;exact zm (by rw [zlt])
 intro k hk
 refine gz6 ?_;refine uCo (fun h1=> ?_) fun h2=> ?_
 obtain ⟨x,hx⟩: ∃x,X[k]? =some x:=⟨_,Aa uO⟩
 refine gz9 ?_;refine uV2 [9,1,18,35] (fun (D:List FixS) (B:List FixS)=>[(9,.int .i64 ((A.length+D.length:Nat):Int))]) (fun (D:List FixS) (B:List FixS)=>[.arr (.slice (some ⟨b,off,none⟩) n cap) 4 (((A++D)++x::(B++X.drop (k+1)++C)).map za1)]) (fun (D:List FixS) (B:List FixS)=>D.length+B.length=k/\zdu c x (zaj c (X.take k))=zdu c x D++B) (fun (D:List FixS) (B:List FixS)=>D.length) (zaj c (X.take k)) ([]) ?_ ?_ ?_ ?_;exact ⟨by simp [za8];omega,by simp⟩;exact ⟨zP (by simp [za8];omega),trivial⟩;exact zm (by rw [zi hx];simp)
 intro D B hinv
 obtain ⟨hA,hB⟩:=hinv;have hlA:D.length<X.length:=by omega
 refine gz1 ?_;refine zbT (fun M=>M=[.arr (.slice (some ⟨b,off,none⟩) n cap) 4 (((A++D)++x::(B++X.drop (k+1)++C)).map za1)]) [8,13] mixed ?_;refine gz7 ?_;refine ahg 7 rfl rfl (by kernel_rfl) (by kernel_rfl) rfl (fun hc=>by
  have hq:0<D.length:=by simp at hc;omega
  exact ⟨_,OpenTo.upd (t:=24) rfl (hc) (OpenTo.upd (t:=23) rfl (hc) (OpenTo.refl _)),zx (j:=(A++D).length) zc1 zaI rfl rfl (by simp) uSo⟩) ?_
 refine zpB 8 rfl rfl (by kernel_rfl) (by kernel_rfl) (by simp) rfl rfl (fun hc=>⟨_,OpenTo.upd (t:=25) rfl (hc) (OpenTo.refl _),fun M hM=>by
  subst hM;exact zab (i:=0) (j:=(A++D).length) zaI rfl rfl rfl zgp rfl rfl rfl ⟨rfl,rfl⟩
  ⟩) ?_
 refine gz2 ?_;refine ahg 11 rfl rfl (by kernel_rfl) (by kernel_rfl) rfl (fun hc=>by
  have hq:0<D.length:=by simp at hc;omega
  exact ⟨_,OpenTo.upd (t:=28) rfl (hc) (OpenTo.refl _),zem rfl rfl uO uO⟩) ?_
 refine ahg 12 rfl rfl (by kernel_rfl) (by kernel_rfl) rfl (fun hc=>by
  have hq:0<D.length:=by simp at hc;omega
  exact ⟨_,OpenTo.upd (t:=29) rfl (hc) (OpenTo.upd (t:=27) rfl (hc) (OpenTo.refl _)),zx (j:=(A++D).length-1) zc1 zaI rfl rfl uSo uSo⟩) ?_
 refine zpB 13 rfl rfl (by kernel_rfl) (by kernel_rfl) (by simp) rfl rfl (fun hc=>⟨_,OpenTo.upd (t:=30) rfl (hc) (OpenTo.refl _),fun M hM=>by
  have hq:0<D.length:=by simp at hc;omega
  subst hM;exact zab (i:=0) (j:=(A++D).length-1) zaI rfl rfl rfl (zhU uSo) rfl rfl rfl ⟨rfl,rfl⟩
  ⟩) ?_
 refine uGy 14 rfl rfl (fun hc=>zal hca rfl rfl (WeakL.refl _) (hp _ _)) ?_;refine gz3 ?_;refine uCo (fun h3=> ?_) fun h4=> ?_
 obtain ⟨hA0,hcx⟩:=h3;obtain ⟨D1,y,rfl⟩:=zo2 (A:=D) uO;rw [zuv] at hcx;have hD1:(D1++[y]).length=D1.length+1:=by simp
 refine gz4 ?_;refine zbj (fun M=>M=[.arr (.slice (some ⟨b,off,none⟩) n cap) 4 (((A++(D1++[y]))++x::(B++X.drop (k+1)++C)).map za1)]) [9,13] mixed ?_;refine gz8 ?_;refine uB 8 rfl (zx (j:=(A++(D1++[y])).length-1) zc1 zaI rfl rfl uSo uSo) ?_;refine uM 9 rfl rfl (uW (zab (i:=0) (j:=(A++(D1++[y])).length-1) zaI rfl rfl rfl (zmL) rfl rfl rfl ⟨rfl,rfl⟩)) ?_;refine gz2 ?_;refine uB 12 rfl (zx (j:=(A++(D1++[y])).length) zc1 zaI rfl rfl (by simp) uSo) ?_;refine uM 13 rfl rfl (uW (zab (i:=0) (j:=(A++(D1++[y])).length) zaI rfl rfl rfl zgp rfl rfl rfl ⟨rfl,rfl⟩)) ?_;refine uB 14 rfl (zx (j:=(A++(D1++[y])).length) zc1 zaI rfl rfl (by simp) uSo) ?_;refine uF 15 ?_;refine zD (za2 (i:=0) (j:=(A++(D1++[y])).length) (y:=x) (y':=y) zaI rfl rfl rfl rfl zgp rfl rfl rfl ?_)
 refine ⟨uE,?_⟩
 refine uB 16 rfl (zx (j:=(A++(D1++[y])).length-1) zc1 zaI rfl rfl uSo uSo) ?_;refine uF 17 ?_;refine zD (za2 (i:=0) (j:=(A++(D1++[y])).length-1) (y:=y) (y':=x) zaI rfl rfl rfl rfl (by rw [A7 (by simp)];exact zmL) rfl rfl rfl ?_)
 refine ⟨uE,?_⟩
 refine gz8 ?_;exact ⟨D1,y::B,⟨by simp at hA⊢;omega,zpT hB hcx⟩,uD,⟨zP uO,trivial⟩,uK,zm (by rw [<-AV,zp3];simp)⟩;have hins:=zpS (l:=X) (k:=k) hx hB (by intro h0;have h9:=h4 uO;rw [zoq h0] at h9;omega);refine gz2 ?_;refine zM ?_;refine gz8 ?_;exact ⟨k+1,by omega,uD,⟨zP uO,trivial⟩,uK,zm (by rw [zv0 hins])⟩;have hend:zaj c (X.take k)++X.drop k=zaj c X:=by rw [AZ uO,zH uO];simp
 refine gz2 ?_;refine zt ?_;refine gz1 ?_;exact zad rfl ⟨rfl,by rw [hend]⟩
theorem zmx [Tracks] {l:List FixS} {n0:Int} {n b off cap:Nat} {fid:FuncId} {caps:List HVal} {c:FixS->FixS->Int} (hca:Callable prog fid) (hp: ∀x y,ConP prog fid ([za1 x,za1 y]++caps) (.int .i64 (c x y))) (hc:Cmp c fun _=>True) (hn:l.length=n) (hn0:n0=(n:Int)) (hl:n<=20):Con prog 247 [.raw (.slice (some ⟨b,off,none⟩) n cap),.int .i64 n0,.fn (.func fid) [] caps] [.arr (.slice (some ⟨b,off,none⟩) n cap) 4 ((l).map za1)] (fun x M'=> ∃Z:List FixS,x= .tup []/\(Z.Perm l/\Srt c Z)/\M'=[.arr (.slice (some ⟨b,off,none⟩) n cap) 4 ((Z).map za1)]):=by
 refine uOb func247 ntmps247 ?_;refine zau ?_;refine uV3 [7,2,11,12] (fun (a0:Nat) (k:Nat) (Z:List FixS)=>[(7,.int .i64 (a0:Int)),(8,.int .i64 ((a0+20:Nat):Int))]) (fun (a0:Nat) (k:Nat) (Z:List FixS)=>[.arr (.slice (some ⟨b,off,none⟩) n cap) 4 ((Z++l.drop a0).map za1)]) (fun (a0:Nat) (k:Nat) (Z:List FixS)=>a0=20*k/\a0<=n/\Blk c 20 Z/\Z.length=a0/\Z.Perm (l.take a0)) (fun (a0:Nat) (k:Nat) (Z:List FixS)=>n-a0) (0) (0) ([]) ?_ ?_ ?_ ?_
 ·exact ⟨rfl,Ad _,Blk.nil,rfl,by simp⟩
 ·exact ⟨rfl,rfl,trivial⟩
 ·exact zm (by simp)
 ·intro a0 k Z hinv
  obtain ⟨ha0,ha1,hZ,hZl,hZp⟩:=hinv;refine gz6 ?_;refine uCo (fun h1=> ?_) fun h2=> ?_
  ·refine gz3 ?_;refine ze (zaQ (M':=[.arr (.slice (some ⟨b,off,none⟩) n cap) 4 ((Z++(l.drop a0).take 20++l.drop (a0+20)).map za1)]) (by rw [AV Z,<-win])) ?_;refine gz5 ?_;refine de rfl (uCx 0 zwT rfl rfl (ziX (A:=Z) (X:=((l.drop a0).take 20)) (C:=(l.drop (a0+20))) (n:=n) hca hp (by first|omega|(simp;omega)) uO (by first|omega|(simp;omega)) uO) ?_)
   rintro _ _ ⟨rfl,rfl⟩;refine zdb ?_;exact ⟨a0+20,k+1,Z++zaj c ((l.drop a0).take 20),⟨by omega,by omega,hZ.add (k:=k) uO (zkP hc _) (by rw [za8,AD];omega),by rw [Av,za8,AD,Bq];omega,by rw [zsT];exact hZp.append (zbp c _)⟩,uD,⟨zP uO,zP uO,trivial⟩,uK,Ac _⟩
  ·refine gz2 ?_;refine zcI ?_;refine gz2 ?_;refine ze (zaQ (M':=[.arr (.slice (some ⟨b,off,none⟩) n cap) 4 ((Z++l.drop a0++[]).map za1)]) (by simp)) ?_;refine gz5 ?_;refine de rfl (uCx 0 zwT rfl rfl (ziX (A:=Z) (X:=(l.drop a0)) (C:=[]) (n:=n) hca hp (by first|omega|(simp;omega)) uO (by first|omega|(simp;omega)) uO) ?_)
   rintro _ _ ⟨rfl,rfl⟩;refine gz2 ?_;refine uV2 [6,4,28,35] (fun (bs:Nat) (D:List FixS)=>[(6,.int .i64 (bs:Int))]) (fun (bs:Nat) (D:List FixS)=>[.arr (.slice (some ⟨b,off,none⟩) n cap) 4 ((D).map za1)]) (fun (bs:Nat) (D:List FixS)=>20<=bs/\bs<=2*n+20/\Blk c bs D/\D.Perm l) (fun (bs:Nat) (D:List FixS)=>n-bs) (20) (Z++zaj c (l.drop a0)) ?_ ?_ ?_ ?_
   ·refine ⟨Af _,by omega,hZ.add (k:=k) uO (zkP hc _) (by rw [za8,Bq];omega),?_⟩
    have:=hZp.append (zbp c (l.drop a0))
    rwa [Be] at this
   ·exact ⟨rfl,trivial⟩
   ·exact zm (by simp)
   ·intro bs D hinv
    obtain ⟨hb1,hb2,hD,hDp⟩:=hinv;have hDl:D.length=n:=by rw [hDp.length_eq];exact hn
    refine gz6 ?_;refine zX rfl (fun h3=> ?_) (fun h3=> ?_)
    ·exfalso
     try simp at h3
     all_goals omega
    ·try simp at h3
     refine gz2 ?_;refine zM ?_;refine gz1 ?_;have hDs:=hD.all uO;exact zad rfl ⟨D,rfl,⟨hDp,hDs⟩,rfl⟩
theorem znK [Tracks] {v:Value} {fid:FuncId} {caps:List HVal}:Con prog 302 [.raw v,.int .i64 0,.int .i64 0,.fn (.func fid) [] caps] [.arr v 4 []] (fun x M'=>x= .tup []/\M'=[.arr v 4 []]):=by
 refine uOb func302 ntmps302 ?_;refine gz6 ?_;refine uU1 [8,2,12,41] (fun (u:Unit)=>[(8,.int .i64 1)]) (fun (u:Unit)=>[.arr v 4 []]) (fun (u:Unit)=>True) (fun (u:Unit)=>0) (()) ?_ ?_
 ·trivial
 ·intro u hu
  refine gz6 ?_;refine zX rfl (fun h1=> ?_) (fun h1=> ?_)
  ·exfalso
   try simp at h1
   all_goals omega
  ·try simp at h1
   refine gz2 ?_;refine zt ?_;refine gz1 ?_;exact zad rfl ⟨rfl,rfl⟩
theorem zlK [Tracks] {v:Value} {fid:FuncId} {caps:List HVal}:Con prog 247 [.raw v,.int .i64 0,.fn (.func fid) [] caps] [.arr v 4 []] (fun x M'=>x= .tup []/\M'=[.arr v 4 []]):=by
 refine uOb func247 ntmps247 ?_;refine zau ?_;refine uU1 [7,2,11,12] (fun (u:Unit)=>[(7,.int .i64 0),(8,.int .i64 20)]) (fun (u:Unit)=>[.arr v 4 []]) (fun (u:Unit)=>True) (fun (u:Unit)=>0) (()) ?_ ?_
 ·trivial
 ·intro u hu
  refine gz6 ?_;refine zX rfl (fun h1=> ?_) (fun h1=> ?_)
  ·exfalso
   try simp at h1
   all_goals omega
  ·try simp at h1
   refine gz2 ?_;refine zt ?_;refine gz7 ?_;refine de rfl (uCx 0 zwT rfl rfl znK ?_)
   rintro _ _ ⟨rfl,rfl⟩;refine gz2 ?_;refine uU1 [6,4,28,35] (fun (u:Unit)=>[(6,.int .i64 20)]) (fun (u:Unit)=>[.arr v 4 []]) (fun (u:Unit)=>True) (fun (u:Unit)=>0) (()) ?_ ?_
   ·trivial
   ·intro u hu
    refine gz6 ?_;refine zX rfl (fun h2=> ?_) (fun h2=> ?_)
    ·exfalso
     try simp at h2
     all_goals omega
    ·try simp at h2
     refine gz2 ?_;refine zt ?_;refine gz1 ?_;exact zad rfl ⟨rfl,rfl⟩
theorem zlf [Tracks] {fid:FuncId} {caps:List HVal}:Con prog 175 [.raw (.slice none 0 0),.fn (.func fid) [] caps] [.arr (.slice none 0 0) 4 []] (fun x M'=>x= .tup []/\M'=[.arr (.slice none 0 0) 4 []]):=by
 refine uOb func175 ntmps175 ?_;refine gz3 ?_;refine dq (zdD zc1 rfl) ?_;refine gz1 ?_;refine de rfl (uCx 0 zBq rfl rfl zlK ?_)
 rintro _ _ ⟨rfl,rfl⟩;refine gz1 ?_;exact zad rfl ⟨rfl,rfl⟩
theorem zlg [Tracks] {l:List FixS} {n b off cap:Nat} {fid:FuncId} {caps:List HVal} {c:FixS->FixS->Int} (hca:Callable prog fid) (hp: ∀x y,ConP prog fid ([za1 x,za1 y]++caps) (.int .i64 (c x y))) (hc:Cmp c fun _=>True) (hn:l.length=n) (hl:n<=20):Con prog 175 [.raw (.slice (some ⟨b,off,none⟩) n cap),.fn (.func fid) [] caps] [.arr (.slice (some ⟨b,off,none⟩) n cap) 4 ((l).map za1)] (fun x M'=> ∃Z:List FixS,x= .tup []/\(Z.Perm l/\Srt c Z)/\M'=[.arr (.slice (some ⟨b,off,none⟩) n cap) 4 ((Z).map za1)]):=by
 refine uOb func175 ntmps175 ?_;refine gz3 ?_;refine dq (zdD zc1 rfl) ?_;refine gz1 ?_;refine de rfl (uCx 0 zBq rfl rfl (zmx hca hp hc hn rfl hl) ?_)
 rintro _ _ ⟨Z,rfl,hz,rfl⟩;refine gz1 ?_;exact zad rfl ⟨Z,rfl,hz,rfl⟩
theorem zlJ [Tracks] {l:List FixS} {v:Value} {fid:FuncId} {caps:List HVal} {c:FixS->FixS->Int} (hca:Callable prog fid) (hp: ∀x y,ConP prog fid ([za1 x,za1 y]++caps) (.int .i64 (c x y))) (hc:Cmp c fun _=>True) (hl:l.length<=20):Con prog 175 [.raw v,.fn (.func fid) [] caps] [.arr v 4 (l.map za1)] fun x M'=> ∃Z:List FixS,x= .tup []/\(Z.Perm l/\Srt c Z)/\M'=[.arr v 4 (Z.map za1)]:=
 zue (fun h1 h2=>by
  have h3:l=[]:=by first|exact List.map_eq_nil_iff.1 h2|simpa using h2
  subst h1 h3;exact zlf.mono fun x M' ⟨e1,e2⟩=>⟨[],e1,⟨Ac _,Srt.nil⟩,e2⟩)
  fun b off cap h1=>by
   rw [Ah] at h1;subst h1;exact zlg hca hp hc rfl hl
theorem zib [Tracks] {x y:FixS}:ConP prog 176 [za1 x,za1 y] (.int .i64 (zpD x y)):=by
 refine uOb func176 ntmps176 ?_;refine zcl ?_;refine dq (za (hs:=[_,_]) z8 ty3 rfl rfl (by decide) (by decide) rfl) ?_;refine gz4 ?_;refine dq (za (hs:=[_,_]) z8 ty3 rfl rfl (by decide) (by decide) rfl) ?_;refine dq (uCl zA5 rfl (zfQ (a:=[x.Week,x.At]) (b:=[y.Week,y.At]) (by simp) (by simp))) ?_;refine gz6 ?_;refine uCo (fun h1=> ?_) fun h2=> ?_
 refine gz5 ?_;refine uRp ?_
 (rw [zpD,if_pos (by assumption)])
 refine gz5 ?_;refine dq (za (hs:=[_]) zq ty9 rfl rfl (by decide) (by decide) rfl) ?_;refine gz2 ?_;refine dq (za (hs:=[_]) zq ty9 rfl rfl (by decide) (by decide) rfl) ?_;refine dq (uCl zEH rfl (zhL (l:=[x.Home]) (m:=[y.Home]) (by simp) (by simp))) ?_;refine gz3 ?_;refine uRp ?_
 (rw [zpD,if_neg uO])
theorem zic [Tracks] {x y:FixS}:ConP prog 180 [za1 x,za1 y] (.bool (bif (bif x.Week==y.Week then x.At==y.At else false) then x.Home==y.Home else false)):=by
 refine uOb func180 ntmps180 ?_;refine gz28 ?_;refine zw rfl ?_
 rfl
theorem zc9 [Tracks] {b:Nat} {l:List Int} {a:Nat} (ha:a<=700000):Con prog 88 [pAt b] [St b l a] (fun x M'=> ∃k a',x=zmD k/\k.length<=12/\a'<=a+150/\M'=[St b l a']):=by
 refine uOb func88 ntmps88 ?_;refine gz6 ?_;refine ze (zN 4) ?_;refine gz5 ?_;refine uV2 [3,58] (fun (w:Nat) (q:GL FixS)=>[(4,.int .i64 ((w:Int)+1)),(3,.raw q.u)]) (fun (w:Nat) (q:GL FixS)=>[St b l q.a,.arr q.u 4 (q.out.map za1)]) (fun (w:Nat) (q:GL FixS)=>w<=4/\GLok (fun _=>True) (3*w) (a+32*w) q) (fun (w:Nat) (q:GL FixS)=>4-w) (0) (⟨.slice none 0 0,[],a⟩) ?_ ?_ ?_ ?_;exact ⟨by omega,⟨by simp,by simp,uD⟩⟩;exact ⟨zP uO,rfl,trivial⟩;exact uP
 intro w q hinv
 obtain ⟨hw,hq⟩:=hinv;obtain ⟨u,out,a2⟩:=q;obtain ⟨g1,g2,g3⟩:=id hq;dsimp only at g1 g2 g3;refine gz5 ?_;refine uCo (fun h1=> ?_) fun h2=> ?_
 refine gz6 ?_;refine dq (zcg rfl rfl uO uO) ?_;refine gz4 ?_;refine de rfl (uCx 0 zeJ rfl rfl (zJ uS uS uS uS) ?_)
 rintro _ _ ⟨y14,rfl,hy14,rfl⟩;refine gz3 ?_;refine uV3 [3,1,5,2,15,46] (fun (n:Nat) (at1:Int) (q2:GL FixS)=>[(15,.int .i64 (n:Int)),(5,.int .i64 at1),(3,.raw q2.u)]) (fun (n:Nat) (at1:Int) (q2:GL FixS)=>[St b l q2.a,.arr q2.u 4 (q2.out.map za1)]) (fun (n:Nat) (at1:Int) (q2:GL FixS)=>(n:Int)<=y14/\(0<=at1/\at1<=1000+20*n)/\GLok (fun _=>True) (3*w+n) (a+32*w+1+10*n) q2) (fun (n:Nat) (at1:Int) (q2:GL FixS)=>y14.toNat-n) (0) (100*((w:Int)+1)) (⟨u,out,a2+1⟩) ?_ ?_ ?_ ?_;exact ⟨by omega,by omega,⟨uD,g2,uD⟩⟩;exact ⟨rfl,rfl,rfl,trivial⟩;exact uP
 intro n at1 q2 hinv
 obtain ⟨hn,hat,hq2⟩:=hinv;obtain ⟨u,out,a2⟩:=q2;obtain ⟨g1,g2,g3⟩:=id hq2;dsimp only at g1 g2 g3;refine gz4 ?_;refine uCo (fun h3=> ?_) fun h4=> ?_
 refine gz7 ?_;refine dq (za (hs:=[_,_,_]) z8 ty3 rfl rfl (by decide) (by decide) rfl) ?_;refine de rfl (uCx 0 ca6 rfl rfl (zf (L:=[_,_,_]) uS uS uS) ?_)
 rintro _ _ ⟨y20,rfl,hy20,rfl⟩;refine dq (zaX rfl rfl (by simp at hy20;omega) (by simp at hy20;omega)) ?_;refine gz6 ?_;refine dq (za (hs:=[_,_,_]) zq ty9 rfl rfl (by decide) (by decide) rfl) ?_;refine de rfl (uCx 0 zbS rfl rfl (zo (L:=[_,_,_]) uS uS uS) ?_)
 rintro _ _ ⟨y26,rfl,hy26,rfl⟩;refine gz1 ?_;refine dq (za (hs:=[_,_,_]) zq ty9 rfl rfl (by decide) (by decide) rfl) ?_;refine de rfl (uCx 0 zbS rfl rfl (zo (L:=[_,_,_]) uS uS uS) ?_)
 rintro _ _ ⟨y29,rfl,hy29,rfl⟩;refine dq (zF (cs:=[_,_,_,_]) zaI zGm rfl) ?_;refine de rfl (zj zaI rfl fun b6=> ?_)
 refine de0 (uY 0 ?_)
 refine gz1 ?_;refine uVj [31,11] (fun (q3:FixS×Nat)=>[]) (fun (q3:FixS×Nat)=>[St b l q3.2,.arr u 4 (out.map za1),.cells b6 (zb (za1 q3.1))]) (fun (q3:FixS×Nat)=>q3.2<=a2+4) ?_ ?_
 skip
 refine ze (Ghost.perm (M':=[St b l (a2+3),.cells b6 (zb (za1 (⟨(w:Int)+1,at1+y20,y26,y29⟩:FixS))),.arr u 4 (out.map za1)]) uP) ?_;refine gz2 ?_;refine de rfl (uZ 1 ?_)
 refine gz1 ?_;refine de rfl (uZ 1 ?_)
 refine gz3 ?_;refine dgx (fun xq M'=> ∃(y:Bool) (a4:Nat),xq= .bool y/\a4<=a2+4/\M'=[St b l a4,.cells b6 (zb (za1 (⟨(w:Int)+1,at1+y20,y26,y29⟩:FixS))),.arr u 4 (out.map za1)]) rfl rfl (fun hc=>⟨_,false,a2+3,rfl,by omega,rfl⟩) (fun hc=>⟨_,OpenTo.upd (t:=37) rfl (hc) (OpenTo.refl _),uCx 0 zes rfl rfl (zI (a:=a2+3) uO uO) (fun h M' hh=>by
  obtain ⟨y,h1,h2⟩:=hh;exact ⟨y,a2+4,h1,by omega,by rw [h2];rfl⟩)⟩) ?_
 rintro _ _ ⟨y38,a4,rfl,ha4,rfl⟩;refine gz3 ?_;refine uCo (fun h5=> ?_) fun h6=> ?_
 refine gz2 ?_;refine de0 (uY 1 ?_)
 refine gz1 ?_;exact ⟨((⟨(w:Int)+1,at1+y20,y26,[112,105,110,107]⟩:FixS),a4),ha4,trivial,uK,uP⟩;refine gz1 ?_;exact ⟨((⟨(w:Int)+1,at1+y20,y26,y29⟩:FixS),a4),ha4,trivial,uK,uP⟩
 intro q3 ha4
 obtain ⟨x4,a4⟩:=q3;dsimp only at ha4;refine uVj [42,14] (fun (q4:FixS×Nat)=>[]) (fun (q4:FixS×Nat)=>[St b l q4.2,.arr u 4 (out.map za1),.cells b6 (zb (za1 q4.1))]) (fun (q4:FixS×Nat)=>q4.2<=a2+10) ?_ ?_
 skip
 refine gz2 ?_;refine de rfl (uCx 0 zes rfl rfl (zI uS uS) ?_)
 rintro _ _ ⟨y43,rfl,rfl⟩;refine gz1 ?_;refine uCo (fun h7=> ?_) fun h8=> ?_
 refine zbj (fun M=> ∃i:Nat,M[i]? =some (.cells b6 (zb (za1 x4)))) [6] mixed ?_;refine gz1 ?_;refine gx2 [2,4] ?_;refine gz1 ?_;refine uM 6 rfl (⟨2,rfl⟩) (fun M hM=>by obtain ⟨i,hi⟩:=hM;exact zan (i:=i) ty9 rfl hi (.inl ⟨rfl,rfl⟩) ⟨rfl,rfl⟩) ?_;refine uB 7 rfl (za (hs:=[_,_]) zq ty9 rfl rfl (by decide) (by decide) rfl) ?_;refine uF 1 ?_;refine zv rfl (uCx 0 zmy rfl rfl (zim uS uS uS uS) ?_)
 rintro _ _ ⟨y45,rfl,hy45,rfl⟩;refine ⟨uE,?_⟩
 refine uA 9 ?_;refine uF 3 ?_;refine zv rfl (uCx 0 zmy rfl rfl (zim uS uS uS uS) ?_)
 rintro _ _ ⟨y47,rfl,hy47,rfl⟩;refine ⟨uE,?_⟩
 refine uF 8 ?_;refine zv rfl (uCx 0 zbS rfl rfl (zo (L:=[_,_]) uS uS uS) ?_)
 rintro _ _ ⟨y52,rfl,hy52,rfl⟩;refine ⟨uE,?_⟩
 refine uF 10 ?_;refine zD (uY 2 ?_)
 refine ⟨uE,?_⟩
 refine gz1 ?_;refine uF 12 ?_;refine zD (uY 2 ?_)
 refine ⟨uE,?_⟩
 refine gz1 ?_;refine uF 14 ?_;refine zD (uY 2 ?_)
 refine ⟨uE,?_⟩
 refine gz1 ?_;exact ⟨((⟨y45,y47,y52,x4.Away⟩:FixS),a4+6),uD,trivial,uK,uP⟩;refine gz1 ?_;exact ⟨(x4,a4+1),uD,trivial,uK,uP⟩
 intro q4 ha5
 obtain ⟨x5,a5⟩:=q4;dsimp only at ha5;refine ze (zbr 6 (i:=2) rfl rfl) ?_;refine gz3 ?_;refine dq (za (hs:=[_]) zc1 zaI rfl rfl (by decide) (by decide) rfl) ?_;refine de rfl (zK (i:=1) zc1 zaI rfl rfl rfl rfl rfl (by simp [zar,zb,zaz,za4]) uSo fun v59=> ?_)
 refine gz8 ?_;exact ⟨n+1,at1+y20,⟨v59,out++[x5],a5⟩,⟨by omega,by simp at hy20;omega,hq2.add (x:=x5) trivial uO⟩,uD,⟨rfl,rfl,rfl,trivial⟩,uK,uP⟩;refine gz2 ?_;refine zcI ?_;refine gz8 ?_;exact ⟨w+1,⟨u,out,a2⟩,⟨by omega,hq2.mono uO uO⟩,uD,⟨zP uO,rfl,trivial⟩,uK,uP⟩;refine gz2 ?_;refine zM ?_;refine gz4 ?_;refine de rfl (uCx 1 zEF rfl rfl (zlJ (l:=out) (c:=zpD) zEG (fun _ _=>zib) zzm uO) ?_)
 rintro _ _ ⟨Z,rfl,⟨hz1,hz2⟩,rfl⟩;have hzl:=hz1.length_eq;refine gz3 ?_;refine de rfl (uCx 0 zEI rfl rfl (zmj (l:=Z) zEJ (fun _ _=>zic) uO) ?_)
 rintro _ _ ⟨u64,D64,rfl,⟨hD1,hD2⟩,rfl⟩;refine gz3 ?_;exact zat (zaJ 2 (i:=0) rfl rfl) rfl ⟨D64,a2,rfl,by omega,by omega,rfl⟩
end
end Go.Proofs.YtbmggbfabohegaaGreatDoor
namespace Go.HL
section
open Go
theorem zcn {e:Env} {places:List (Nat×Nat)} {cs cs' out:List HVal} {i off sz:Nat} {x:Operand} {h:HVal} {r:List (Nat×Operand)} (h1:places[i]? =some (off,sz)) (h2:zh e x=some h) (h3:zdU sz h=true)
 (h4:Nat.ble (off+sz) cs.length=true) (h5:zaC cs off (zb h)=cs') (k:zgZ e places cs' r=some out):zgZ e places cs ((i,x)::r)=some out:=by
 rw [zgZ,h1,h2];simp only [h3,h4];rw [h5];exact k
theorem zqE {e:Env} {places:List (Nat×Nat)} {cs:List HVal}:zgZ e places cs []=some cs:=rfl
theorem zq1 [Tracks] {P:Program} {e:Env} {dst:Option Tmp} {ty:TypeId} {pos:String} {af:Array Edge} {g:Option (Nat×Bool)} {t:TypeId} {fs:List (Nat×Nat)} {size bytes:Nat} {zs:Array Value} {parts:Array (Nat×Operand)} {ps:List (Nat×Operand)} {places:List (Nat×Nat)} {cs zc:List HVal}
 (hf:Fits P t (.struct fs) size bytes (.agg zs)) (hp:Places P fs places) (hz:zs.toList.map za4=zc) (hps:parts.toList=ps)
 (hr:zgZ e places zc ps=some cs):POp P e ⟨dst,.build t parts,ty,pos,af,g⟩ (.agg cs):=
 zF hf hp (by rw [hz,hps];exact hr)
theorem ziM [Tracks] {P:Program} {e:Env} {dst:Option Tmp} {ty:TypeId} {pos:String} {af:Array Edge} {g:Option (Nat×Bool)} {t:TypeId} {fs:List (Nat×Nat)} {size bytes:Nat} {zs:Array Value} {parts:Array (Nat×Operand)} {ps:List (Nat×Operand)} {places:List (Nat×Nat)} {cs zc:List HVal}
 (hf:Fits P t (.struct fs) size bytes (.agg zs)) (hp:Places P fs places) (hz:zs.toList.map za4=zc:=by exact (show _=[_,_,_,_,_,_,_,_,_,_,_,_,_,_] from rfl)) (hps:parts.toList=ps:=by exact (show _=[_,_,_,_,_,_,_,_,_] from rfl))
 (hr:zgZ e places zc ps=some cs:=by exact zcn (cs':=[_,_,_,_,_,_,_,_,_,_,_,_,_,_]) rfl rfl rfl rfl rfl (zcn (cs':=[_,_,_,_,_,_,_,_,_,_,_,_,_,_]) rfl rfl rfl rfl rfl (zcn (cs':=[_,_,_,_,_,_,_,_,_,_,_,_,_,_]) rfl rfl rfl rfl rfl (zcn (cs':=[_,_,_,_,_,_,_,_,_,_,_,_,_,_]) rfl rfl rfl rfl rfl (zcn (cs':=[_,_,_,_,_,_,_,_,_,_,_,_,_,_]) rfl rfl rfl rfl rfl (zcn (cs':=[_,_,_,_,_,_,_,_,_,_,_,_,_,_]) rfl rfl rfl rfl rfl (zcn (cs':=[_,_,_,_,_,_,_,_,_,_,_,_,_,_]) rfl rfl rfl rfl rfl (zcn (cs':=[_,_,_,_,_,_,_,_,_,_,_,_,_,_]) rfl rfl rfl rfl rfl (zcn (cs':=[_,_,_,_,_,_,_,_,_,_,_,_,_,_]) rfl rfl rfl rfl rfl (zqE)))))))))):POp P e ⟨dst,.build t parts,ty,pos,af,g⟩ (.agg cs):=zq1 hf hp hz hps hr
theorem zGw [Tracks] {P:Program} {e:Env} {dst:Option Tmp} {ty:TypeId} {pos:String} {af:Array Edge} {g:Option (Nat×Bool)} {t:TypeId} {fs:List (Nat×Nat)} {size bytes:Nat} {zs:Array Value} {parts:Array (Nat×Operand)} {ps:List (Nat×Operand)} {places:List (Nat×Nat)} {cs zc:List HVal}
 (hf:Fits P t (.struct fs) size bytes (.agg zs)) (hp:Places P fs places) (hz:zs.toList.map za4=zc:=by exact (show _=[_,_,_,_,_,_,_,_,_,_,_,_,_,_,_,_,_,_,_] from rfl)) (hps:parts.toList=ps:=by exact (show _=[_,_,_] from rfl))
 (hr:zgZ e places zc ps=some cs:=by exact zcn (cs':=[_,_,_,_,_,_,_,_,_,_,_,_,_,_,_,_,_,_,_]) rfl rfl rfl rfl rfl (zcn (cs':=[_,_,_,_,_,_,_,_,_,_,_,_,_,_,_,_,_,_,_]) rfl rfl rfl rfl rfl (zcn (cs':=[_,_,_,_,_,_,_,_,_,_,_,_,_,_,_,_,_,_,_]) rfl rfl rfl rfl rfl (zqE)))):POp P e ⟨dst,.build t parts,ty,pos,af,g⟩ (.agg cs):=zq1 hf hp hz hps hr
end
section
open Op
abbrev zvh:List HVal:=[.raw (.slice none 0 0),.raw (.slice none 0 0),.raw (.slice none 0 0),.raw (.slice none 0 0),.raw (.slice none 0 0),.int .i64 0,.int .i64 0,.int .i64 0,.int .i64 0,.raw (.slice none 0 0),.raw (.slice none 0 0),.raw (.slice none 0 0),.raw (.slice none 0 0),.int .i64 0]
abbrev zjl:List HVal:=[.raw (.slice none 0 0),.raw (.slice none 0 0),.raw (.slice none 0 0),.raw (.slice none 0 0),.raw (.slice none 0 0),.int .i64 0,.int .i64 0,.int .i64 0,.int .i64 0,.raw (.slice none 0 0),.raw (.slice none 0 0),.raw (.slice none 0 0),.raw (.slice none 0 0),.int .i64 0,.raw (.slice none 0 0),.raw (.slice none 0 0),.raw (.slice none 0 0),.raw (.slice none 0 0),.raw (.slice none 0 0)]
abbrev lgC (p:List PlayerS) (st:HVal) (f:List FixS) (r:List RuleS) (s:List SlotS) (b:BoundS) (t:List Str) (ga:HVal) (br:List Int) (tr:List Str) (w:Int):List HVal:=[zbi p,st,zmD f,zf0 r,zbB s,.int .i64 b.Most,.int .i64 b.Hurt,.int .i64 b.Adds,.int .i64 b.Hold,eSs t,ga,eIs br,eSs tr,.int .i64 w]
abbrev bkC (g:LeagueS) (mv pl me he ch:HVal):List HVal:=[zbi g.Players,zfo g.Stints,zmD g.Fixtures,zf0 g.Rules,zbB g.Slots,.int .i64 g.Bounds.Most,.int .i64 g.Bounds.Hurt,.int .i64 g.Bounds.Adds,.int .i64 g.Bounds.Hold,eSs g.Teams,zlM g.Games,eIs g.Breaks,eSs g.Trust,.int .i64 g.Start,mv,pl,me,he,ch]
end
end Go.HL
namespace Go.Proofs.YtbmggbfabohegaaGreatDoor
set_option maxRecDepth 100000
set_option linter.unusedVariables false
set_option linter.unusedSimpArgs false
section
open Go.Proofs.Tryz
open Go.HL
theorem ziT [Tracks] {b:Nat} {l:List Int} {a:Nat} (ha:a<=500000):Con prog 38 [pAt b] [St b l a] (fun x M'=> ∃g a',x=zfn g/\LeaC g/\a'<=a+500/\M'=[St b l a']):=by
 refine zbb func38 rfl ntmps38 rfl rfl ?_;refine gz1 ?_;refine de rfl (zj zaM rfl fun b2=> ?_)
 refine gz1 ?_;refine uVj [3,1,6,23] (fun (q:Nat×LeagueS×Nat)=>[(3,pAt q.1)]) (fun (q:Nat×LeagueS×Nat)=>[.cells q.1 (lgC q.2.1.Players (.raw (.slice none 0 0)) q.2.1.Fixtures q.2.1.Rules q.2.1.Slots q.2.1.Bounds q.2.1.Teams (.raw (.slice none 0 0)) q.2.1.Breaks q.2.1.Trust q.2.1.Start),.cells b2 zvh,St b l q.2.2]) (fun (q:Nat×LeagueS×Nat)=>LeaD q.2.1/\q.2.2<=a+300) ?_ ?_
 ·skip
  refine zia mixed ?_;refine gz1 ?_;refine gx4 [2,4,6,8] ?_;refine uB 10 rfl (za (hs:=[_,_,_,_]) zq ty9 rfl rfl (by decide) (by decide) rfl) ?_;refine gz1 ?_;refine uB 12 rfl (za (hs:=[_,_,_]) z8 ty3 rfl rfl (by decide) (by decide) rfl) ?_;refine gx3 [15,17,19] ?_;refine uB 20 rfl (za (hs:=[_,_,_]) z8 ty3 rfl rfl (by decide) (by decide) rfl) ?_;refine zij 1 23 rfl rfl (by kernel_rfl) ?_ ?_
  ·skip
   refine zv rfl (uCx 1 ca87 rfl rfl (zd0 uS) ?_)
   rintro _ _ ⟨k7,a7,rfl,hk7,ha7,rfl⟩;refine ⟨uE,?_⟩
   refine zij 3 23 rfl rfl (by kernel_rfl) ?_ ?_
   ·skip
    refine zv rfl (uCx 0 zzt rfl rfl (zc9 uS) ?_)
    rintro _ _ ⟨k9,a9,rfl,hk9,ha9,rfl⟩;refine ⟨uE,?_⟩
    refine zij 5 23 rfl rfl (by kernel_rfl) ?_ ?_
    ·skip
     refine zv rfl (uCx 0 zwV rfl rfl (zbU uS) ?_)
     rintro _ _ ⟨k11,a11,rfl,hk11,ha11,rfl⟩;refine ⟨uE,?_⟩
     refine zij 7 23 rfl rfl (by kernel_rfl) ?_ ?_
     ·skip
      refine zv rfl (uCx 0 zry rfl rfl (zbl uS) ?_)
      rintro _ _ ⟨k13,a13,rfl,hk13,hn13,ha13,rfl⟩;refine ⟨uE,?_⟩
      refine zij 9 23 rfl rfl (by kernel_rfl) ?_ ?_
      ·skip
       refine zv rfl (uCx 0 zrz rfl rfl (zaN uS) ?_)
       rintro _ _ ⟨y15,rfl,rfl⟩;refine ⟨uE,?_⟩
       refine zij 13 23 rfl rfl (by kernel_rfl) ?_ ?_
       ·skip
        refine zv rfl (uCx 0 ca6 rfl rfl (zf (L:=[_,_,_]) uS uS uS) ?_)
        rintro _ _ ⟨y19,rfl,hy19,rfl⟩;refine ⟨uE,?_⟩
        refine uB 14 rfl (zaP (es:=tm4) (f:=HVal.str) (h:=y19.toNat) zq ty9 rfl rfl ⟨_,_,rfl,by simp at hy19;omega⟩ uO (by simp [tm4];simp at hy19;omega)) ?_;refine zij 16 23 rfl rfl (by kernel_rfl) ?_ ?_
        ·skip
         refine zv rfl (uCx 0 znZ rfl rfl (zaD uS) ?_)
         rintro _ _ ⟨k22,a22,rfl,hk22,ha22,rfl⟩;refine ⟨uE,?_⟩
         refine zij 18 23 rfl rfl (by kernel_rfl) ?_ ?_
         ·skip
          refine zv rfl (uCx 0 zmA rfl rfl (zaw uS) ?_)
          rintro _ _ ⟨t24,a24,rfl,ht24,ha24,rfl⟩;refine ⟨uE,?_⟩
          refine zij 21 23 rfl rfl (by kernel_rfl) ?_ ?_
          ·skip
           refine zv rfl (uCx 0 ca6 rfl rfl (zf (L:=[_,_,_]) uS uS uS) ?_)
           rintro _ _ ⟨y27,rfl,hy27,rfl⟩;refine ⟨uE,?_⟩
           refine uB 22 rfl (ziM zaM zkm) ?_;refine uF 23 ?_;refine zv rfl (zj zaM rfl fun b3=> ?_)
           refine ⟨uE,?_⟩
           refine uF 24 ?_;refine zD (uY 0 ?_)
           refine ⟨uE,?_⟩
           refine uAz ?_;refine ⟨(b3,⟨k7,[],k9,k11,k13,y15,(tm4.take y19.toNat),[],k22,t24,y27⟩,a24+1),?_,⟨rfl,trivial⟩,uK,?_⟩
           ·exact ⟨⟨hk7,hk9,hk11,hk13,⟨by dsimp only;simp [tm4];simp at hy19;omega,by dsimp only;simp [tm4];simp at hy19;omega⟩,hk22,ht24,by simp at hy27;dsimp only;omega,zfj (by simp at hy19;omega)⟩,uD⟩
           ·exact uP
          ·skip
           refine zv rfl (zj zaM rfl fun b3=> ?_)
           refine ⟨uE,?_⟩
           refine uF 21 ?_;refine zv rfl (uCx 1 ca6 rfl rfl (zf (L:=[_,_,_]) uS uS uS) ?_)
           rintro _ _ ⟨y27,rfl,hy27,rfl⟩;refine ⟨uE,?_⟩
           refine uB 22 rfl (ziM zaM zkm) ?_;refine uF 24 ?_;refine zD (uY 1 ?_)
           refine ⟨uE,?_⟩
           refine uAz ?_;refine ⟨(b3,⟨k7,[],k9,k11,k13,y15,(tm4.take y19.toNat),[],k22,t24,y27⟩,a24+1),?_,⟨rfl,trivial⟩,uK,?_⟩
           ·exact ⟨⟨hk7,hk9,hk11,hk13,⟨by dsimp only;simp [tm4];simp at hy19;omega,by dsimp only;simp [tm4];simp at hy19;omega⟩,hk22,ht24,by simp at hy27;dsimp only;omega,zfj (by simp at hy19;omega)⟩,uD⟩
           ·exact uP
         ·skip
          refine zv rfl (zj zaM rfl fun b3=> ?_)
          refine ⟨uE,?_⟩
          refine uF 18 ?_;refine zv rfl (uCx 1 zmA rfl rfl (zaw uS) ?_)
          rintro _ _ ⟨t24,a24,rfl,ht24,ha24,rfl⟩;refine ⟨uE,?_⟩
          refine uF 21 ?_;refine zv rfl (uCx 0 ca6 rfl rfl (zf (L:=[_,_,_]) uS uS uS) ?_)
          rintro _ _ ⟨y27,rfl,hy27,rfl⟩;refine ⟨uE,?_⟩
          refine uB 22 rfl (ziM zaM zkm) ?_;refine uF 24 ?_;refine zD (uY 1 ?_)
          refine ⟨uE,?_⟩
          refine uAz ?_;refine ⟨(b3,⟨k7,[],k9,k11,k13,y15,(tm4.take y19.toNat),[],k22,t24,y27⟩,a24+1),?_,⟨rfl,trivial⟩,uK,?_⟩
          ·exact ⟨⟨hk7,hk9,hk11,hk13,⟨by dsimp only;simp [tm4];simp at hy19;omega,by dsimp only;simp [tm4];simp at hy19;omega⟩,hk22,ht24,by simp at hy27;dsimp only;omega,zfj (by simp at hy19;omega)⟩,uD⟩
          ·exact uP
        ·skip
         refine zv rfl (zj zaM rfl fun b3=> ?_)
         refine ⟨uE,?_⟩
         refine uF 16 ?_;refine zv rfl (uCx 1 znZ rfl rfl (zaD uS) ?_)
         rintro _ _ ⟨k22,a22,rfl,hk22,ha22,rfl⟩;refine ⟨uE,?_⟩
         refine uF 18 ?_;refine zv rfl (uCx 0 zmA rfl rfl (zaw uS) ?_)
         rintro _ _ ⟨t24,a24,rfl,ht24,ha24,rfl⟩;refine ⟨uE,?_⟩
         refine uF 21 ?_;refine zv rfl (uCx 0 ca6 rfl rfl (zf (L:=[_,_,_]) uS uS uS) ?_)
         rintro _ _ ⟨y27,rfl,hy27,rfl⟩;refine ⟨uE,?_⟩
         refine uB 22 rfl (ziM zaM zkm) ?_;refine uF 24 ?_;refine zD (uY 1 ?_)
         refine ⟨uE,?_⟩
         refine uAz ?_;refine ⟨(b3,⟨k7,[],k9,k11,k13,y15,(tm4.take y19.toNat),[],k22,t24,y27⟩,a24+1),?_,⟨rfl,trivial⟩,uK,?_⟩
         ·exact ⟨⟨hk7,hk9,hk11,hk13,⟨by dsimp only;simp [tm4];simp at hy19;omega,by dsimp only;simp [tm4];simp at hy19;omega⟩,hk22,ht24,by simp at hy27;dsimp only;omega,zfj (by simp at hy19;omega)⟩,uD⟩
         ·exact uP
       ·skip
        refine zv rfl (zj zaM rfl fun b3=> ?_)
        refine ⟨uE,?_⟩
        refine uF 13 ?_;refine zv rfl (uCx 1 ca6 rfl rfl (zf (L:=[_,_,_]) uS uS uS) ?_)
        rintro _ _ ⟨y19,rfl,hy19,rfl⟩;refine ⟨uE,?_⟩
        refine uB 14 rfl (zaP (es:=tm4) (f:=HVal.str) (h:=y19.toNat) zq ty9 rfl rfl ⟨_,_,rfl,by simp at hy19;omega⟩ uO (by simp [tm4];simp at hy19;omega)) ?_;refine uF 16 ?_;refine zv rfl (uCx 0 znZ rfl rfl (zaD uS) ?_)
        rintro _ _ ⟨k22,a22,rfl,hk22,ha22,rfl⟩;refine ⟨uE,?_⟩
        refine uF 18 ?_;refine zv rfl (uCx 0 zmA rfl rfl (zaw uS) ?_)
        rintro _ _ ⟨t24,a24,rfl,ht24,ha24,rfl⟩;refine ⟨uE,?_⟩
        refine uF 21 ?_;refine zv rfl (uCx 0 ca6 rfl rfl (zf (L:=[_,_,_]) uS uS uS) ?_)
        rintro _ _ ⟨y27,rfl,hy27,rfl⟩;refine ⟨uE,?_⟩
        refine uB 22 rfl (ziM zaM zkm) ?_;refine uF 24 ?_;refine zD (uY 1 ?_)
        refine ⟨uE,?_⟩
        refine uAz ?_;refine ⟨(b3,⟨k7,[],k9,k11,k13,y15,(tm4.take y19.toNat),[],k22,t24,y27⟩,a24+1),?_,⟨rfl,trivial⟩,uK,?_⟩
        ·exact ⟨⟨hk7,hk9,hk11,hk13,⟨by dsimp only;simp [tm4];simp at hy19;omega,by dsimp only;simp [tm4];simp at hy19;omega⟩,hk22,ht24,by simp at hy27;dsimp only;omega,zfj (by simp at hy19;omega)⟩,uD⟩
        ·exact uP
      ·skip
       refine zv rfl (zj zaM rfl fun b3=> ?_)
       refine ⟨uE,?_⟩
       refine uF 9 ?_;refine zv rfl (uCx 1 zrz rfl rfl (zaN uS) ?_)
       rintro _ _ ⟨y15,rfl,rfl⟩;refine ⟨uE,?_⟩
       refine uF 13 ?_;refine zv rfl (uCx 0 ca6 rfl rfl (zf (L:=[_,_,_]) uS uS uS) ?_)
       rintro _ _ ⟨y19,rfl,hy19,rfl⟩;refine ⟨uE,?_⟩
       refine uB 14 rfl (zaP (es:=tm4) (f:=HVal.str) (h:=y19.toNat) zq ty9 rfl rfl ⟨_,_,rfl,by simp at hy19;omega⟩ uO (by simp [tm4];simp at hy19;omega)) ?_;refine uF 16 ?_;refine zv rfl (uCx 0 znZ rfl rfl (zaD uS) ?_)
       rintro _ _ ⟨k22,a22,rfl,hk22,ha22,rfl⟩;refine ⟨uE,?_⟩
       refine uF 18 ?_;refine zv rfl (uCx 0 zmA rfl rfl (zaw uS) ?_)
       rintro _ _ ⟨t24,a24,rfl,ht24,ha24,rfl⟩;refine ⟨uE,?_⟩
       refine uF 21 ?_;refine zv rfl (uCx 0 ca6 rfl rfl (zf (L:=[_,_,_]) uS uS uS) ?_)
       rintro _ _ ⟨y27,rfl,hy27,rfl⟩;refine ⟨uE,?_⟩
       refine uB 22 rfl (ziM zaM zkm) ?_;refine uF 24 ?_;refine zD (uY 1 ?_)
       refine ⟨uE,?_⟩
       refine uAz ?_;refine ⟨(b3,⟨k7,[],k9,k11,k13,y15,(tm4.take y19.toNat),[],k22,t24,y27⟩,a24+1),?_,⟨rfl,trivial⟩,uK,?_⟩
       ·exact ⟨⟨hk7,hk9,hk11,hk13,⟨by dsimp only;simp [tm4];simp at hy19;omega,by dsimp only;simp [tm4];simp at hy19;omega⟩,hk22,ht24,by simp at hy27;dsimp only;omega,zfj (by simp at hy19;omega)⟩,uD⟩
       ·exact uP
     ·skip
      refine zv rfl (zj zaM rfl fun b3=> ?_)
      refine ⟨uE,?_⟩
      refine uF 7 ?_;refine zv rfl (uCx 1 zry rfl rfl (zbl uS) ?_)
      rintro _ _ ⟨k13,a13,rfl,hk13,hn13,ha13,rfl⟩;refine ⟨uE,?_⟩
      refine uF 9 ?_;refine zv rfl (uCx 0 zrz rfl rfl (zaN uS) ?_)
      rintro _ _ ⟨y15,rfl,rfl⟩;refine ⟨uE,?_⟩
      refine uF 13 ?_;refine zv rfl (uCx 0 ca6 rfl rfl (zf (L:=[_,_,_]) uS uS uS) ?_)
      rintro _ _ ⟨y19,rfl,hy19,rfl⟩;refine ⟨uE,?_⟩
      refine uB 14 rfl (zaP (es:=tm4) (f:=HVal.str) (h:=y19.toNat) zq ty9 rfl rfl ⟨_,_,rfl,by simp at hy19;omega⟩ uO (by simp [tm4];simp at hy19;omega)) ?_;refine uF 16 ?_;refine zv rfl (uCx 0 znZ rfl rfl (zaD uS) ?_)
      rintro _ _ ⟨k22,a22,rfl,hk22,ha22,rfl⟩;refine ⟨uE,?_⟩
      refine uF 18 ?_;refine zv rfl (uCx 0 zmA rfl rfl (zaw uS) ?_)
      rintro _ _ ⟨t24,a24,rfl,ht24,ha24,rfl⟩;refine ⟨uE,?_⟩
      refine uF 21 ?_;refine zv rfl (uCx 0 ca6 rfl rfl (zf (L:=[_,_,_]) uS uS uS) ?_)
      rintro _ _ ⟨y27,rfl,hy27,rfl⟩;refine ⟨uE,?_⟩
      refine uB 22 rfl (ziM zaM zkm) ?_;refine uF 24 ?_;refine zD (uY 1 ?_)
      refine ⟨uE,?_⟩
      refine uAz ?_;refine ⟨(b3,⟨k7,[],k9,k11,k13,y15,(tm4.take y19.toNat),[],k22,t24,y27⟩,a24+1),?_,⟨rfl,trivial⟩,uK,?_⟩
      ·exact ⟨⟨hk7,hk9,hk11,hk13,⟨by dsimp only;simp [tm4];simp at hy19;omega,by dsimp only;simp [tm4];simp at hy19;omega⟩,hk22,ht24,by simp at hy27;dsimp only;omega,zfj (by simp at hy19;omega)⟩,uD⟩
      ·exact uP
    ·skip
     refine zv rfl (zj zaM rfl fun b3=> ?_)
     refine ⟨uE,?_⟩
     refine uF 5 ?_;refine zv rfl (uCx 1 zwV rfl rfl (zbU uS) ?_)
     rintro _ _ ⟨k11,a11,rfl,hk11,ha11,rfl⟩;refine ⟨uE,?_⟩
     refine uF 7 ?_;refine zv rfl (uCx 0 zry rfl rfl (zbl uS) ?_)
     rintro _ _ ⟨k13,a13,rfl,hk13,hn13,ha13,rfl⟩;refine ⟨uE,?_⟩
     refine uF 9 ?_;refine zv rfl (uCx 0 zrz rfl rfl (zaN uS) ?_)
     rintro _ _ ⟨y15,rfl,rfl⟩;refine ⟨uE,?_⟩
     refine uF 13 ?_;refine zv rfl (uCx 0 ca6 rfl rfl (zf (L:=[_,_,_]) uS uS uS) ?_)
     rintro _ _ ⟨y19,rfl,hy19,rfl⟩;refine ⟨uE,?_⟩
     refine uB 14 rfl (zaP (es:=tm4) (f:=HVal.str) (h:=y19.toNat) zq ty9 rfl rfl ⟨_,_,rfl,by simp at hy19;omega⟩ uO (by simp [tm4];simp at hy19;omega)) ?_;refine uF 16 ?_;refine zv rfl (uCx 0 znZ rfl rfl (zaD uS) ?_)
     rintro _ _ ⟨k22,a22,rfl,hk22,ha22,rfl⟩;refine ⟨uE,?_⟩
     refine uF 18 ?_;refine zv rfl (uCx 0 zmA rfl rfl (zaw uS) ?_)
     rintro _ _ ⟨t24,a24,rfl,ht24,ha24,rfl⟩;refine ⟨uE,?_⟩
     refine uF 21 ?_;refine zv rfl (uCx 0 ca6 rfl rfl (zf (L:=[_,_,_]) uS uS uS) ?_)
     rintro _ _ ⟨y27,rfl,hy27,rfl⟩;refine ⟨uE,?_⟩
     refine uB 22 rfl (ziM zaM zkm) ?_;refine uF 24 ?_;refine zD (uY 1 ?_)
     refine ⟨uE,?_⟩
     refine uAz ?_;refine ⟨(b3,⟨k7,[],k9,k11,k13,y15,(tm4.take y19.toNat),[],k22,t24,y27⟩,a24+1),?_,⟨rfl,trivial⟩,uK,?_⟩
     ·exact ⟨⟨hk7,hk9,hk11,hk13,⟨by dsimp only;simp [tm4];simp at hy19;omega,by dsimp only;simp [tm4];simp at hy19;omega⟩,hk22,ht24,by simp at hy27;dsimp only;omega,zfj (by simp at hy19;omega)⟩,uD⟩
     ·exact uP
   ·skip
    refine zv rfl (zj zaM rfl fun b3=> ?_)
    refine ⟨uE,?_⟩
    refine uF 3 ?_;refine zv rfl (uCx 1 zzt rfl rfl (zc9 uS) ?_)
    rintro _ _ ⟨k9,a9,rfl,hk9,ha9,rfl⟩;refine ⟨uE,?_⟩
    refine uF 5 ?_;refine zv rfl (uCx 0 zwV rfl rfl (zbU uS) ?_)
    rintro _ _ ⟨k11,a11,rfl,hk11,ha11,rfl⟩;refine ⟨uE,?_⟩
    refine uF 7 ?_;refine zv rfl (uCx 0 zry rfl rfl (zbl uS) ?_)
    rintro _ _ ⟨k13,a13,rfl,hk13,hn13,ha13,rfl⟩;refine ⟨uE,?_⟩
    refine uF 9 ?_;refine zv rfl (uCx 0 zrz rfl rfl (zaN uS) ?_)
    rintro _ _ ⟨y15,rfl,rfl⟩;refine ⟨uE,?_⟩
    refine uF 13 ?_;refine zv rfl (uCx 0 ca6 rfl rfl (zf (L:=[_,_,_]) uS uS uS) ?_)
    rintro _ _ ⟨y19,rfl,hy19,rfl⟩;refine ⟨uE,?_⟩
    refine uB 14 rfl (zaP (es:=tm4) (f:=HVal.str) (h:=y19.toNat) zq ty9 rfl rfl ⟨_,_,rfl,by simp at hy19;omega⟩ uO (by simp [tm4];simp at hy19;omega)) ?_;refine uF 16 ?_;refine zv rfl (uCx 0 znZ rfl rfl (zaD uS) ?_)
    rintro _ _ ⟨k22,a22,rfl,hk22,ha22,rfl⟩;refine ⟨uE,?_⟩
    refine uF 18 ?_;refine zv rfl (uCx 0 zmA rfl rfl (zaw uS) ?_)
    rintro _ _ ⟨t24,a24,rfl,ht24,ha24,rfl⟩;refine ⟨uE,?_⟩
    refine uF 21 ?_;refine zv rfl (uCx 0 ca6 rfl rfl (zf (L:=[_,_,_]) uS uS uS) ?_)
    rintro _ _ ⟨y27,rfl,hy27,rfl⟩;refine ⟨uE,?_⟩
    refine uB 22 rfl (ziM zaM zkm) ?_;refine uF 24 ?_;refine zD (uY 1 ?_)
    refine ⟨uE,?_⟩
    refine uAz ?_;refine ⟨(b3,⟨k7,[],k9,k11,k13,y15,(tm4.take y19.toNat),[],k22,t24,y27⟩,a24+1),?_,⟨rfl,trivial⟩,uK,?_⟩
    ·exact ⟨⟨hk7,hk9,hk11,hk13,⟨by dsimp only;simp [tm4];simp at hy19;omega,by dsimp only;simp [tm4];simp at hy19;omega⟩,hk22,ht24,by simp at hy27;dsimp only;omega,zfj (by simp at hy19;omega)⟩,uD⟩
    ·exact uP
  ·skip
   refine zv rfl (zj zaM rfl fun b3=> ?_)
   refine ⟨uE,?_⟩
   refine uF 1 ?_;refine zv rfl (uCx 2 ca87 rfl rfl (zd0 uS) ?_)
   rintro _ _ ⟨k7,a7,rfl,hk7,ha7,rfl⟩;refine ⟨uE,?_⟩
   refine uF 3 ?_;refine zv rfl (uCx 0 zzt rfl rfl (zc9 uS) ?_)
   rintro _ _ ⟨k9,a9,rfl,hk9,ha9,rfl⟩;refine ⟨uE,?_⟩
   refine uF 5 ?_;refine zv rfl (uCx 0 zwV rfl rfl (zbU uS) ?_)
   rintro _ _ ⟨k11,a11,rfl,hk11,ha11,rfl⟩;refine ⟨uE,?_⟩
   refine uF 7 ?_;refine zv rfl (uCx 0 zry rfl rfl (zbl uS) ?_)
   rintro _ _ ⟨k13,a13,rfl,hk13,hn13,ha13,rfl⟩;refine ⟨uE,?_⟩
   refine uF 9 ?_;refine zv rfl (uCx 0 zrz rfl rfl (zaN uS) ?_)
   rintro _ _ ⟨y15,rfl,rfl⟩;refine ⟨uE,?_⟩
   refine uF 13 ?_;refine zv rfl (uCx 0 ca6 rfl rfl (zf (L:=[_,_,_]) uS uS uS) ?_)
   rintro _ _ ⟨y19,rfl,hy19,rfl⟩;refine ⟨uE,?_⟩
   refine uB 14 rfl (zaP (es:=tm4) (f:=HVal.str) (h:=y19.toNat) zq ty9 rfl rfl ⟨_,_,rfl,by simp at hy19;omega⟩ uO (by simp [tm4];simp at hy19;omega)) ?_;refine uF 16 ?_;refine zv rfl (uCx 0 znZ rfl rfl (zaD uS) ?_)
   rintro _ _ ⟨k22,a22,rfl,hk22,ha22,rfl⟩;refine ⟨uE,?_⟩
   refine uF 18 ?_;refine zv rfl (uCx 0 zmA rfl rfl (zaw uS) ?_)
   rintro _ _ ⟨t24,a24,rfl,ht24,ha24,rfl⟩;refine ⟨uE,?_⟩
   refine uF 21 ?_;refine zv rfl (uCx 0 ca6 rfl rfl (zf (L:=[_,_,_]) uS uS uS) ?_)
   rintro _ _ ⟨y27,rfl,hy27,rfl⟩;refine ⟨uE,?_⟩
   refine uB 22 rfl (ziM zaM zkm) ?_;refine uF 24 ?_;refine zD (uY 1 ?_)
   refine ⟨uE,?_⟩
   refine uAz ?_;refine ⟨(b3,⟨k7,[],k9,k11,k13,y15,(tm4.take y19.toNat),[],k22,t24,y27⟩,a24+1),?_,⟨rfl,trivial⟩,uK,?_⟩
   ·exact ⟨⟨hk7,hk9,hk11,hk13,⟨by dsimp only;simp [tm4];simp at hy19;omega,by dsimp only;simp [tm4];simp at hy19;omega⟩,hk22,ht24,by simp at hy27;dsimp only;omega,zfj (by simp at hy19;omega)⟩,uD⟩
   ·exact uP
 ·intro q hq0
  obtain ⟨b3,⟨k7,kst,k9,k11,k13,y15,T,kga,k22,t24,y27⟩,a27⟩:=q;obtain ⟨⟨hk7,hk9,hk11,hk13,htl,hk22,ht24,hst,htt⟩,ha27⟩:=hq0;dsimp only at hk7 hk9 hk11 hk13 htl hk22 ht24 hst htt ha27⊢;have hp5:=hk7.len;have htr:t24.length<=100/\∀s∈t24,Sh s:=⟨by have:=ht24.len;omega,ht24.all⟩
  refine gz3 ?_;refine de rfl (uZ 0 ?_)
  refine de rfl (uCx 2 ca94 rfl rfl (ziU (a:=a27) (L:=k7) uO uO) ?_)
  rintro _ _ ⟨k32,a32,rfl,hk32,ha32,rfl⟩;refine gz1 ?_;refine de0 (uY 1 ?_)
  refine gz4 ?_;refine de rfl (uZ 1 ?_)
  refine de rfl (za7 (M1:=[]) (R:=[_,_,_]) ca95 rfl (WeakL.refl _) (Ac _) (zla (T:=T) htl) ?_)
  rintro _ _ ⟨k36,rfl,hk36,rfl⟩;refine gz3 ?_;have hl36:=hk36.len;have hg36:=hk36.all;refine ze (zN 8) ?_;refine gz1 ?_;refine uV2 [5,1,38,14] (fun (k:Nat) (q:GL GameS)=>[(38,.int .i64 k)]) (fun (k:Nat) (q:GL GameS)=>[St b l q.a,.cells b2 zvh,.cells b3 (lgC k7 (zfo k32) k9 k11 k13 y15 T (.raw q.u) k22 t24 y27),.arr q.u 8 (q.out.map zaS)]) (fun (k:Nat) (q:GL GameS)=>k<=k36.length/\(GLok GamB k (a32+k) q)) (fun (k:Nat) (q:GL GameS)=>k36.length-k) (0) (⟨.slice none 0 0,[],a32⟩) ?_ ?_ ?_ ?_
  ·exact ⟨Ad _,⟨by simp,by simp,uD⟩⟩
  ·exact ⟨rfl,trivial⟩
  ·exact uP
  ·intro k q hinv
   obtain ⟨hk,hq⟩:=hinv;obtain ⟨u,out,a2⟩:=q;obtain ⟨g1,g2,g3⟩:=id hq;dsimp only at g1 g2 g3;refine gz4 ?_;refine uCo (fun h1=> ?_) fun h2=> ?_
   ·obtain ⟨x,hx⟩: ∃x,k36[k]? =some x:=⟨_,Aa h1⟩
    have hdx:=zi hx;refine gz7 ?_;refine de rfl (zj zdr rfl fun b5=> ?_)
    refine de0 (uY 0 ?_)
    refine gz3 ?_;refine de rfl (uCx 1 zes rfl rfl (zI uS uS) ?_)
    rintro _ _ ⟨y43,rfl,rfl⟩;refine gz2 ?_;refine uCo (fun h3=> ?_) fun h4=> ?_
    ·refine gz2 ?_;refine de rfl (uZ 3 ?_)
     refine de rfl (zi3 (i:=1) (h:=zaS x) zdr rfl rfl rfl rfl rfl ?_)
     refine dq (za (hs:=[_]) zgd zdr rfl rfl (by decide) (by decide) rfl) ?_;refine de rfl (zK (i:=4) zgd zdr rfl rfl rfl rfl rfl (by simp [zar,zb,zaz,za4]) uSo fun v49=> ?_)
     refine gz1 ?_;refine de0 (uY 3 ?_)
     refine gz3 ?_;refine ze (zbr 5 (i:=1) rfl rfl) ?_;refine gz4 ?_;exact ⟨k+1,⟨v49,out++[x],a2+1⟩,⟨by omega,hq.add (x:=x) (hg36 x (Ab hx)) uO⟩,uD,⟨rfl,trivial⟩,uK,zm (by dsimp only;rw [Az];rfl)⟩
    ·refine gz3 ?_;refine ze (zbr 5 (i:=1) rfl rfl) ?_;refine gz4 ?_;exact ⟨k+1,⟨u,out,a2+1⟩,⟨by omega,hq.same uO⟩,uD,⟨rfl,trivial⟩,uK,zm rfl⟩
   ·have hnk:k36.length<=k:=by omega
    obtain rfl:k=k36.length:=by omega
    refine gz2 ?_;refine zM ?_;refine gz4 ?_;refine de rfl (uZ 2 ?_)
    refine de rfl (uCx 3 ca96 rfl rfl (znV (l:=out) g2 uO) ?_)
    rintro _ _ ⟨Z,rfl,hz1,hz2,rfl⟩;have hzl:=hz1.length_eq;refine gz1 ?_;have hgz:Z.length<=6/\∀x∈Z,GamB x:=⟨by omega,fun x hx=>g2 x (hz1.mem_iff.1 hx)⟩
    refine uVj [55,44] (fun (q5:LeagueS×Nat)=>[]) (fun (q5:LeagueS×Nat)=>[St b l q5.2,.cells b2 zvh,.cells b3 (lgC q5.1.Players (zfo q5.1.Stints) q5.1.Fixtures q5.1.Rules q5.1.Slots q5.1.Bounds q5.1.Teams (.raw u) q5.1.Breaks q5.1.Trust q5.1.Start),.arr u 8 (q5.1.Games.map zaS)]) (fun (q5:LeagueS×Nat)=>LeaC q5.1/\q5.2<=a+500) ?_ ?_
    ·skip
     refine gz2 ?_;refine de rfl (uCx 1 zes rfl rfl (zI uS uS) ?_)
     rintro _ _ ⟨y56,rfl,rfl⟩;refine gz1 ?_;refine uCo (fun h5=> ?_) fun h6=> ?_
     ·refine gz2 ?_;refine de rfl (uCx 0 zjd rfl rfl (zak uS uS) ?_)
      rintro _ _ ⟨y58,rfl,hy58,rfl⟩;refine gz6 ?_;refine uCo (fun h7=> ?_) fun h8=> ?_
      ·refine gz2 ?_;refine dq (za (hs:=[_,_,_]) z8 ty3 rfl rfl (by decide) (by decide) rfl) ?_;refine de rfl (uCx 0 ca6 rfl rfl (zf (L:=[_,_,_]) uS uS uS) ?_)
       rintro _ _ ⟨y81,rfl,hy81,rfl⟩;refine gz1 ?_;refine de0 (uY 3 ?_)
       refine gz2 ?_;exact ⟨((⟨k7,k32,k9,k11,k13,y15,T,Z,k22,t24,y81⟩:LeagueS),a2+3),⟨zjP (h1:=hk7) (h2:=by dsimp only;omega) (h3:=by dsimp only;omega) (h4:=hk11) (h5:=hk13.up) (h6:=by dsimp only;omega) (h7:=hgz) (h8:=by dsimp only;omega) (h9:=htr) (h10:=by simp at hy81;dsimp only;omega) (h11:=htt),uD⟩,trivial,uK,uP⟩
      ·refine gz4 ?_;refine uCo (fun h9=> ?_) fun h10=> ?_
       ·refine gz2 ?_;refine de rfl (uZ 3 ?_)
        refine de rfl (uCa zkc rfl (z7 uO) fun v87=> ?_)
        refine gz1 ?_;refine dq (za (hs:=[_,_]) zq ty9 rfl rfl (by decide) (by decide) rfl) ?_;refine de rfl (uCx 1 zbS rfl rfl (zo (L:=[_,_]) uS uS uS) ?_)
        rintro _ _ ⟨y90,rfl,hy90,rfl⟩;refine dq (za (hs:=[_]) zq ty9 rfl rfl (by decide) (by decide) rfl) ?_;refine de rfl (zlA (N:=[St b l (a2+3),.arr u 8 (Z.map zaS),.cells b2 zvh,.cells b3 (lgC k7 (zfo k32) k9 k11 k13 y15 T (.raw u) k22 t24 y27)]) (sz:=1) (es:=(T++[y90]).map .str) 1 (zK (i:=1) zq ty9 rfl rfl rfl rfl rfl (by simp [zar,zb]) uSo fun v=>⟨v,rfl,by simp,rfl⟩) ?_)
        refine gz1 ?_;refine de0 (uY 3 ?_)
        refine gz2 ?_;exact ⟨((⟨k7,k32,k9,k11,k13,y15,T++[y90],Z,k22,t24,y27⟩:LeagueS),a2+3),⟨zjP (h1:=hk7) (h2:=by dsimp only;omega) (h3:=by dsimp only;omega) (h4:=hk11) (h5:=hk13.up) (h6:=by dsimp only;rw [Av];simp only [Ai,AB];omega) (h7:=hgz) (h8:=by dsimp only;omega) (h9:=htr) (h10:=hst) (h11:=htt.app _),uD⟩,trivial,uK,uP⟩
       ·refine gz4 ?_;refine uCo (fun h11=> ?_) fun h12=> ?_
        ·refine gz2 ?_;refine de rfl (uCx 0 ca98 rfl rfl (zj0 uS) ?_)
         rintro _ _ ⟨k97,a97,rfl,hk97,ha97,rfl⟩;refine gz1 ?_;refine de0 (uY 3 ?_)
         refine gz2 ?_;exact ⟨((⟨k7,k32,k9,k11,k97,y15,T,Z,k22,t24,y27⟩:LeagueS),a97),⟨zjP (h1:=hk7) (h2:=by dsimp only;omega) (h3:=by dsimp only;omega) (h4:=hk11) (h5:=hk97) (h6:=by dsimp only;omega) (h7:=hgz) (h8:=by dsimp only;omega) (h9:=htr) (h10:=hst) (h11:=htt),by dsimp only at ha97⊢;omega⟩,trivial,uK,uP⟩
        ·refine gz2 ?_;refine de rfl (uZ 3 ?_)
         refine de rfl (zaT (i:=1) zgd rfl rfl ?_)
         refine gz2 ?_;refine uCo (fun h13=> ?_) fun h14=> ?_
         ·have hz0:0<Z.length:=by first|assumption|omega|simp_all
          obtain ⟨x0,hx0⟩: ∃x,Z[0]? =some x:=⟨_,Aa hz0⟩
          refine zdi (i:=1) rfl (fun h0 he=> ?_) (fun ob off cap hv hcap=> ?_)
          ·exfalso;have:=congrArg List.length he;simp at this;subst this;simp at hz0
          subst hv;refine zbj (fun M=> ∃i:Nat,M[i]? =some (.cells b3 (lgC k7 (zfo k32) k9 k11 k13 y15 T (.raw (.slice (some ⟨ob,off,none⟩) (Z.map zaS).length cap)) k22 t24 y27))) [1,3,5] mixed ?_;refine gz1 ?_;refine uM 1 rfl (⟨3,rfl⟩) (fun M hM=>by obtain ⟨i,hi⟩:=hM;exact zan (i:=i) zgd rfl hi (.inl ⟨rfl,rfl⟩) ⟨rfl,rfl⟩) ?_;refine gz1 ?_;refine uM 3 rfl (⟨3,rfl⟩) (fun M hM=>by obtain ⟨i,hi⟩:=hM;exact zan (i:=i) zgd rfl hi (.inl ⟨rfl,rfl⟩) ⟨rfl,rfl⟩) ?_;refine gz1 ?_;refine uM 5 rfl (⟨3,rfl⟩) (fun M hM=>by obtain ⟨i,hi⟩:=hM;exact zan (i:=i) zgd rfl hi (.inl ⟨rfl,rfl⟩) ⟨rfl,rfl⟩) ?_;refine uB 6 rfl (zF (cs:=[_,_]) zav zkn rfl) ?_;refine uB 7 rfl (zF (cs:=[_,_]) zav zkn rfl) ?_;refine uB 8 rfl (zx (j:=0) zgd zdr rfl rfl rfl uSo) ?_;refine gz1 ?_;refine uF 10 ?_;refine zD (zQ (i:=1) (j:=0) (f:=3) (y:=zaS x0) (y':=zaS (⟨x0.Week,x0.Home,x0.Away,true,x0.FNum,x0.FDen,x0.ONum,x0.ODen⟩:GameS)) ty4 rfl uO rfl rfl (za9 hx0) rfl rfl (by simp [zb]) rfl ?_)
          refine ⟨fun _=> .inl ⟨3,rfl⟩,?_⟩
          refine uB 11 rfl (zx (j:=0) zgd zdr rfl rfl rfl uSo) ?_;refine gz1 ?_;refine uF 13 ?_;refine zD (zQ (i:=1) (j:=0) (f:=4) (y:=zaS (⟨x0.Week,x0.Home,x0.Away,true,x0.FNum,x0.FDen,x0.ONum,x0.ODen⟩:GameS)) (y':=zaS (⟨x0.Week,x0.Home,x0.Away,true,1,1,x0.ONum,x0.ODen⟩:GameS)) zav rfl uO rfl rfl (zaL (za9 hx0)) rfl rfl (by simp [zb]) rfl ?_)
          refine ⟨fun _=> .inl ⟨3,rfl⟩,?_⟩
          refine uB 14 rfl (zx (j:=0) zgd zdr rfl rfl rfl uSo) ?_;refine gz1 ?_;refine uF 16 ?_;refine zD (zQ (i:=1) (j:=0) (f:=6) (y:=zaS (⟨x0.Week,x0.Home,x0.Away,true,1,1,x0.ONum,x0.ODen⟩:GameS)) (y':=zaS (⟨x0.Week,x0.Home,x0.Away,true,1,1,1,1⟩:GameS)) zav rfl uO rfl rfl (zaL (zaL (za9 hx0))) rfl rfl (by simp [zb]) rfl ?_)
          refine ⟨fun _=> .inl ⟨3,rfl⟩,?_⟩
          refine gz2 ?_;exact ⟨((⟨k7,k32,k9,k11,k13,y15,T,Z.set 0 (⟨x0.Week,x0.Home,x0.Away,true,1,1,1,1⟩:GameS),k22,t24,y27⟩:LeagueS),a2+2),⟨zjP (h1:=hk7) (h2:=by dsimp only;omega) (h3:=by dsimp only;omega) (h4:=hk11) (h5:=hk13.up) (h6:=by dsimp only;omega) (h7:=⟨by dsimp only;rw [List.length_set];omega,zfk (P:=GamB) hgz.2 ⟨(hgz.2 x0 (Ab hx0)).week,uD,uD⟩⟩) (h8:=by dsimp only;omega) (h9:=htr) (h10:=hst) (h11:=htt),uD⟩,trivial,uK,uP⟩
         ·refine gz2 ?_;exact ⟨((⟨k7,k32,k9,k11,k13,y15,T,Z,k22,t24,y27⟩:LeagueS),a2+2),⟨zjP (h1:=hk7) (h2:=by dsimp only;omega) (h3:=by dsimp only;omega) (h4:=hk11) (h5:=hk13.up) (h6:=by dsimp only;omega) (h7:=hgz) (h8:=by dsimp only;omega) (h9:=htr) (h10:=hst) (h11:=htt),uD⟩,trivial,uK,uP⟩
     ·refine gz1 ?_;exact ⟨((⟨k7,k32,k9,k11,k13,y15,T,Z,k22,t24,y27⟩:LeagueS),a2+1),⟨zjP (h1:=hk7) (h2:=by dsimp only;omega) (h3:=by dsimp only;omega) (h4:=hk11) (h5:=hk13.up) (h6:=by dsimp only;omega) (h7:=hgz) (h8:=by dsimp only;omega) (h9:=htr) (h10:=hst) (h11:=htt),uD⟩,trivial,uK,uP⟩
    ·intro q5 hq5
     obtain ⟨g5,a5⟩:=q5;obtain ⟨hg5,ha5⟩:=hq5;dsimp only at hg5 ha5;refine ze (ziF (i:=3) (k:=2) (j:=10) rfl rfl rfl) ?_;refine ze (Ghost.perm (M':=[.cells b2 zvh,St b l a5,.cells b3 (zb (zfn g5))]) uP) ?_;refine gz1 ?_;refine de rfl (zi3 (i:=2) (h:=zfn g5) zaM rfl rfl rfl rfl rfl ?_)
     refine de0 (zp (h:=zfn g5) zaM rfl rfl rfl rfl rfl ?_)
     refine gz2 ?_;exact ⟨_,_,(zk 2 rfl).trans ((Ghost.perm (List.Perm.swap _ _ _)).trans Ghost.drop),[_],_,⟨⟨_,_,_,_,_,rfl,zaM,.inr ⟨rfl,rfl,rfl⟩⟩,trivial⟩,Weak.refl _,g5,a5,rfl,hg5,ha5,rfl⟩
end
section
open Go.HL
set_option linter.unusedSimpArgs false
end
section
open Go.Proofs.Tryz
open Go.HL
theorem zkK [Tracks] {A X C:List MvS} {ia ib:Int} {n b off cap:Nat} {fid:FuncId} {caps:List HVal} {c:MvS->MvS->Int} (hca:Callable prog fid) (hp: ∀x y,ConP prog fid ([zdl x,zdl y]++caps) (.int .i64 (c x y))) (hn:A.length+X.length+C.length=n) (hia:ia=(A.length:Int)) (hib:ib=(A.length:Int)+X.length) (hl:n<=1000000):Con prog 189 [.raw (.slice (some ⟨b,off,none⟩) n cap),.int .i64 ia,.int .i64 ib,.fn (.func fid) [] caps] [.arr (.slice (some ⟨b,off,none⟩) n cap) 4 ((A++X++C).map zdl)] (fun x M'=>x= .tup []/\M'=[.arr (.slice (some ⟨b,off,none⟩) n cap) 4 ((A++zaj c X++C).map zdl)]):=by
 refine uOb func189 ntmps189 ?_;refine gz6 ?_;refine uV1 [8,2,12,41] (fun (k:Nat)=>[(8,.int .i64 ((A.length+k:Nat):Int))]) (fun (k:Nat)=>[.arr (.slice (some ⟨b,off,none⟩) n cap) 4 ((A++(zaj c (X.take k)++X.drop k)++C).map zdl)]) (fun (k:Nat)=>1<=k) (fun (k:Nat)=>X.length-k) (1) ?_ ?_ ?_ ?_;exact Af _;exact ⟨zP uO,trivial⟩;exact zm (by rw [zlt])
 intro k hk
 refine gz6 ?_;refine uCo (fun h1=> ?_) fun h2=> ?_
 obtain ⟨x,hx⟩: ∃x,X[k]? =some x:=⟨_,Aa uO⟩
 refine gz9 ?_;refine uV2 [9,1,18,35] (fun (D:List MvS) (B:List MvS)=>[(9,.int .i64 ((A.length+D.length:Nat):Int))]) (fun (D:List MvS) (B:List MvS)=>[.arr (.slice (some ⟨b,off,none⟩) n cap) 4 (((A++D)++x::(B++X.drop (k+1)++C)).map zdl)]) (fun (D:List MvS) (B:List MvS)=>D.length+B.length=k/\zdu c x (zaj c (X.take k))=zdu c x D++B) (fun (D:List MvS) (B:List MvS)=>D.length) (zaj c (X.take k)) ([]) ?_ ?_ ?_ ?_;exact ⟨by simp [za8];omega,by simp⟩;exact ⟨zP (by simp [za8];omega),trivial⟩;exact zm (by rw [zi hx];simp)
 intro D B hinv
 obtain ⟨hA,hB⟩:=hinv;have hlA:D.length<X.length:=by omega
 refine gz1 ?_;refine zbT (fun M=>M=[.arr (.slice (some ⟨b,off,none⟩) n cap) 4 (((A++D)++x::(B++X.drop (k+1)++C)).map zdl)]) [8,13] mixed ?_;refine gz7 ?_;refine ahg 7 rfl rfl (by kernel_rfl) (by kernel_rfl) rfl (fun hc=>by
  have hq:0<D.length:=by simp at hc;omega
  exact ⟨_,OpenTo.upd (t:=24) rfl (hc) (OpenTo.upd (t:=23) rfl (hc) (OpenTo.refl _)),zx (j:=(A++D).length) zcq zG rfl rfl (by simp) uSo⟩) ?_
 refine zpB 8 rfl rfl (by kernel_rfl) (by kernel_rfl) (by simp) rfl rfl (fun hc=>⟨_,OpenTo.upd (t:=25) rfl (hc) (OpenTo.refl _),fun M hM=>by
  subst hM;exact zab (i:=0) (j:=(A++D).length) zG rfl rfl rfl zgp rfl rfl rfl ⟨rfl,rfl⟩
  ⟩) ?_
 refine gz2 ?_;refine ahg 11 rfl rfl (by kernel_rfl) (by kernel_rfl) rfl (fun hc=>by
  have hq:0<D.length:=by simp at hc;omega
  exact ⟨_,OpenTo.upd (t:=28) rfl (hc) (OpenTo.refl _),zem rfl rfl uO uO⟩) ?_
 refine ahg 12 rfl rfl (by kernel_rfl) (by kernel_rfl) rfl (fun hc=>by
  have hq:0<D.length:=by simp at hc;omega
  exact ⟨_,OpenTo.upd (t:=29) rfl (hc) (OpenTo.upd (t:=27) rfl (hc) (OpenTo.refl _)),zx (j:=(A++D).length-1) zcq zG rfl rfl uSo uSo⟩) ?_
 refine zpB 13 rfl rfl (by kernel_rfl) (by kernel_rfl) (by simp) rfl rfl (fun hc=>⟨_,OpenTo.upd (t:=30) rfl (hc) (OpenTo.refl _),fun M hM=>by
  have hq:0<D.length:=by simp at hc;omega
  subst hM;exact zab (i:=0) (j:=(A++D).length-1) zG rfl rfl rfl (zhU uSo) rfl rfl rfl ⟨rfl,rfl⟩
  ⟩) ?_
 refine uGy 14 rfl rfl (fun hc=>zal hca rfl rfl (WeakL.refl _) (hp _ _)) ?_;refine gz3 ?_;refine uCo (fun h3=> ?_) fun h4=> ?_
 obtain ⟨hA0,hcx⟩:=h3;obtain ⟨D1,y,rfl⟩:=zo2 (A:=D) uO;rw [zuv] at hcx;have hD1:(D1++[y]).length=D1.length+1:=by simp
 refine gz4 ?_;refine zbj (fun M=>M=[.arr (.slice (some ⟨b,off,none⟩) n cap) 4 (((A++(D1++[y]))++x::(B++X.drop (k+1)++C)).map zdl)]) [9,13] mixed ?_;refine gz8 ?_;refine uB 8 rfl (zx (j:=(A++(D1++[y])).length-1) zcq zG rfl rfl uSo uSo) ?_;refine uM 9 rfl rfl (uW (zab (i:=0) (j:=(A++(D1++[y])).length-1) zG rfl rfl rfl (zmL) rfl rfl rfl ⟨rfl,rfl⟩)) ?_;refine gz2 ?_;refine uB 12 rfl (zx (j:=(A++(D1++[y])).length) zcq zG rfl rfl (by simp) uSo) ?_;refine uM 13 rfl rfl (uW (zab (i:=0) (j:=(A++(D1++[y])).length) zG rfl rfl rfl zgp rfl rfl rfl ⟨rfl,rfl⟩)) ?_;refine uB 14 rfl (zx (j:=(A++(D1++[y])).length) zcq zG rfl rfl (by simp) uSo) ?_;refine uF 15 ?_;refine zD (za2 (i:=0) (j:=(A++(D1++[y])).length) (y:=x) (y':=y) zG rfl rfl rfl rfl zgp rfl rfl rfl ?_)
 refine ⟨uE,?_⟩
 refine uB 16 rfl (zx (j:=(A++(D1++[y])).length-1) zcq zG rfl rfl uSo uSo) ?_;refine uF 17 ?_;refine zD (za2 (i:=0) (j:=(A++(D1++[y])).length-1) (y:=y) (y':=x) zG rfl rfl rfl rfl (by rw [A7 (by simp)];exact zmL) rfl rfl rfl ?_)
 refine ⟨uE,?_⟩
 refine gz8 ?_;exact ⟨D1,y::B,⟨by simp at hA⊢;omega,zpT hB hcx⟩,uD,⟨zP uO,trivial⟩,uK,zm (by rw [<-AV,zp3];simp)⟩;have hins:=zpS (l:=X) (k:=k) hx hB (by intro h0;have h9:=h4 uO;rw [zoq h0] at h9;omega);refine gz2 ?_;refine zM ?_;refine gz8 ?_;exact ⟨k+1,by omega,uD,⟨zP uO,trivial⟩,uK,zm (by rw [zv0 hins])⟩;have hend:zaj c (X.take k)++X.drop k=zaj c X:=by rw [AZ uO,zH uO];simp
 refine gz2 ?_;refine zt ?_;refine gz1 ?_;exact zad rfl ⟨rfl,by rw [hend]⟩
theorem zpl [Tracks] {l:List MvS} {n0:Int} {n b off cap:Nat} {fid:FuncId} {caps:List HVal} {c:MvS->MvS->Int} (hca:Callable prog fid) (hp: ∀x y,ConP prog fid ([zdl x,zdl y]++caps) (.int .i64 (c x y))) (hc:Cmp c fun _=>True) (hn:l.length=n) (hn0:n0=(n:Int)) (hl:n<=20):Con prog 99 [.raw (.slice (some ⟨b,off,none⟩) n cap),.int .i64 n0,.fn (.func fid) [] caps] [.arr (.slice (some ⟨b,off,none⟩) n cap) 4 ((l).map zdl)] (fun x M'=> ∃Z:List MvS,x= .tup []/\(Z.Perm l/\Srt c Z)/\M'=[.arr (.slice (some ⟨b,off,none⟩) n cap) 4 ((Z).map zdl)]):=by
 refine uOb func99 ntmps99 ?_;refine zau ?_;refine uV3 [7,2,11,12] (fun (a0:Nat) (k:Nat) (Z:List MvS)=>[(7,.int .i64 (a0:Int)),(8,.int .i64 ((a0+20:Nat):Int))]) (fun (a0:Nat) (k:Nat) (Z:List MvS)=>[.arr (.slice (some ⟨b,off,none⟩) n cap) 4 ((Z++l.drop a0).map zdl)]) (fun (a0:Nat) (k:Nat) (Z:List MvS)=>a0=20*k/\a0<=n/\Blk c 20 Z/\Z.length=a0/\Z.Perm (l.take a0)) (fun (a0:Nat) (k:Nat) (Z:List MvS)=>n-a0) (0) (0) ([]) ?_ ?_ ?_ ?_
 ·exact ⟨rfl,Ad _,Blk.nil,rfl,by simp⟩
 ·exact ⟨rfl,rfl,trivial⟩
 ·exact zm (by simp)
 ·intro a0 k Z hinv
  obtain ⟨ha0,ha1,hZ,hZl,hZp⟩:=hinv;refine gz6 ?_;refine uCo (fun h1=> ?_) fun h2=> ?_
  ·refine gz3 ?_;refine ze (zaQ (M':=[.arr (.slice (some ⟨b,off,none⟩) n cap) 4 ((Z++(l.drop a0).take 20++l.drop (a0+20)).map zdl)]) (by rw [AV Z,<-win])) ?_;refine gz5 ?_;refine de rfl (uCx 0 zwP rfl rfl (zkK (A:=Z) (X:=((l.drop a0).take 20)) (C:=(l.drop (a0+20))) (n:=n) hca hp (by first|omega|(simp;omega)) uO (by first|omega|(simp;omega)) uO) ?_)
   rintro _ _ ⟨rfl,rfl⟩;refine zdb ?_;exact ⟨a0+20,k+1,Z++zaj c ((l.drop a0).take 20),⟨by omega,by omega,hZ.add (k:=k) uO (zkP hc _) (by rw [za8,AD];omega),by rw [Av,za8,AD,Bq];omega,by rw [zsT];exact hZp.append (zbp c _)⟩,uD,⟨zP uO,zP uO,trivial⟩,uK,Ac _⟩
  ·refine gz2 ?_;refine zcI ?_;refine gz2 ?_;refine ze (zaQ (M':=[.arr (.slice (some ⟨b,off,none⟩) n cap) 4 ((Z++l.drop a0++[]).map zdl)]) (by simp)) ?_;refine gz5 ?_;refine de rfl (uCx 0 zwP rfl rfl (zkK (A:=Z) (X:=(l.drop a0)) (C:=[]) (n:=n) hca hp (by first|omega|(simp;omega)) uO (by first|omega|(simp;omega)) uO) ?_)
   rintro _ _ ⟨rfl,rfl⟩;refine gz2 ?_;refine uV2 [6,4,28,35] (fun (bs:Nat) (D:List MvS)=>[(6,.int .i64 (bs:Int))]) (fun (bs:Nat) (D:List MvS)=>[.arr (.slice (some ⟨b,off,none⟩) n cap) 4 ((D).map zdl)]) (fun (bs:Nat) (D:List MvS)=>20<=bs/\bs<=2*n+20/\Blk c bs D/\D.Perm l) (fun (bs:Nat) (D:List MvS)=>n-bs) (20) (Z++zaj c (l.drop a0)) ?_ ?_ ?_ ?_
   ·refine ⟨Af _,by omega,hZ.add (k:=k) uO (zkP hc _) (by rw [za8,Bq];omega),?_⟩
    have:=hZp.append (zbp c (l.drop a0))
    rwa [Be] at this
   ·exact ⟨rfl,trivial⟩
   ·exact zm (by simp)
   ·intro bs D hinv
    obtain ⟨hb1,hb2,hD,hDp⟩:=hinv;have hDl:D.length=n:=by rw [hDp.length_eq];exact hn
    refine gz6 ?_;refine zX rfl (fun h3=> ?_) (fun h3=> ?_)
    ·exfalso
     try simp at h3
     all_goals omega
    ·try simp at h3
     refine gz2 ?_;refine zM ?_;refine gz1 ?_;have hDs:=hD.all uO;exact zad rfl ⟨D,rfl,⟨hDp,hDs⟩,rfl⟩
theorem zqi [Tracks] {v:Value} {fid:FuncId} {caps:List HVal}:Con prog 189 [.raw v,.int .i64 0,.int .i64 0,.fn (.func fid) [] caps] [.arr v 4 []] (fun x M'=>x= .tup []/\M'=[.arr v 4 []]):=by
 refine uOb func189 ntmps189 ?_;refine gz6 ?_;refine uU1 [8,2,12,41] (fun (u:Unit)=>[(8,.int .i64 1)]) (fun (u:Unit)=>[.arr v 4 []]) (fun (u:Unit)=>True) (fun (u:Unit)=>0) (()) ?_ ?_
 ·trivial
 ·intro u hu
  refine gz6 ?_;refine zX rfl (fun h1=> ?_) (fun h1=> ?_)
  ·exfalso
   try simp at h1
   all_goals omega
  ·try simp at h1
   refine gz2 ?_;refine zt ?_;refine gz1 ?_;exact zad rfl ⟨rfl,rfl⟩
theorem znX [Tracks] {v:Value} {fid:FuncId} {caps:List HVal}:Con prog 99 [.raw v,.int .i64 0,.fn (.func fid) [] caps] [.arr v 4 []] (fun x M'=>x= .tup []/\M'=[.arr v 4 []]):=by
 refine uOb func99 ntmps99 ?_;refine zau ?_;refine uU1 [7,2,11,12] (fun (u:Unit)=>[(7,.int .i64 0),(8,.int .i64 20)]) (fun (u:Unit)=>[.arr v 4 []]) (fun (u:Unit)=>True) (fun (u:Unit)=>0) (()) ?_ ?_
 ·trivial
 ·intro u hu
  refine gz6 ?_;refine zX rfl (fun h1=> ?_) (fun h1=> ?_)
  ·exfalso
   try simp at h1
   all_goals omega
  ·try simp at h1
   refine gz2 ?_;refine zt ?_;refine gz7 ?_;refine de rfl (uCx 0 zwP rfl rfl zqi ?_)
   rintro _ _ ⟨rfl,rfl⟩;refine gz2 ?_;refine uU1 [6,4,28,35] (fun (u:Unit)=>[(6,.int .i64 20)]) (fun (u:Unit)=>[.arr v 4 []]) (fun (u:Unit)=>True) (fun (u:Unit)=>0) (()) ?_ ?_
   ·trivial
   ·intro u hu
    refine gz6 ?_;refine zX rfl (fun h2=> ?_) (fun h2=> ?_)
    ·exfalso
     try simp at h2
     all_goals omega
    ·try simp at h2
     refine gz2 ?_;refine zt ?_;refine gz1 ?_;exact zad rfl ⟨rfl,rfl⟩
theorem zno [Tracks] {fid:FuncId} {caps:List HVal}:Con prog 41 [.raw (.slice none 0 0),.fn (.func fid) [] caps] [.arr (.slice none 0 0) 4 []] (fun x M'=>x= .tup []/\M'=[.arr (.slice none 0 0) 4 []]):=by
 refine uOb func41 ntmps41 ?_;refine gz3 ?_;refine dq (zdD zcq rfl) ?_;refine gz1 ?_;refine de rfl (uCx 0 ca99 rfl rfl znX ?_)
 rintro _ _ ⟨rfl,rfl⟩;refine gz1 ?_;exact zad rfl ⟨rfl,rfl⟩
theorem znp [Tracks] {l:List MvS} {n b off cap:Nat} {fid:FuncId} {caps:List HVal} {c:MvS->MvS->Int} (hca:Callable prog fid) (hp: ∀x y,ConP prog fid ([zdl x,zdl y]++caps) (.int .i64 (c x y))) (hc:Cmp c fun _=>True) (hn:l.length=n) (hl:n<=20):Con prog 41 [.raw (.slice (some ⟨b,off,none⟩) n cap),.fn (.func fid) [] caps] [.arr (.slice (some ⟨b,off,none⟩) n cap) 4 ((l).map zdl)] (fun x M'=> ∃Z:List MvS,x= .tup []/\(Z.Perm l/\Srt c Z)/\M'=[.arr (.slice (some ⟨b,off,none⟩) n cap) 4 ((Z).map zdl)]):=by
 refine uOb func41 ntmps41 ?_;refine gz3 ?_;refine dq (zdD zcq rfl) ?_;refine gz1 ?_;refine de rfl (uCx 0 ca99 rfl rfl (zpl hca hp hc hn rfl hl) ?_)
 rintro _ _ ⟨Z,rfl,hz,rfl⟩;refine gz1 ?_;exact zad rfl ⟨Z,rfl,hz,rfl⟩
theorem znW [Tracks] {l:List MvS} {v:Value} {fid:FuncId} {caps:List HVal} {c:MvS->MvS->Int} (hca:Callable prog fid) (hp: ∀x y,ConP prog fid ([zdl x,zdl y]++caps) (.int .i64 (c x y))) (hc:Cmp c fun _=>True) (hl:l.length<=20):Con prog 41 [.raw v,.fn (.func fid) [] caps] [.arr v 4 (l.map zdl)] fun x M'=> ∃Z:List MvS,x= .tup []/\(Z.Perm l/\Srt c Z)/\M'=[.arr v 4 (Z.map zdl)]:=
 zue (fun h1 h2=>by
  have h3:l=[]:=by first|exact List.map_eq_nil_iff.1 h2|simpa using h2
  subst h1 h3;exact zno.mono fun x M' ⟨e1,e2⟩=>⟨[],e1,⟨Ac _,Srt.nil⟩,e2⟩)
  fun b off cap h1=>by
   rw [Ah] at h1;subst h1;exact znp hca hp hc rfl hl
theorem zqr [Tracks] {l:List MoveS} (hb: ∀x∈l,MovB x) (hl:l.length<=20) {v:Value}:
 Con prog 41 [.raw v,.fn (.func 42) [] []] [.arr v 4 (l.map zdh)] fun x M'=> ∃l':List MoveS,x= .tup []/\l'.Perm l/\M'=[.arr v 4 (l'.map zdh)]:=by
 have h:=znW (l:=l.attachWith _ hb) (v:=v) (c:=zAS) (caps:=[]) ca42 (fun x y=>zht (a:=x.1) (b:=y.1) x.2 y.2) zx5 (by simpa using hl);rw [show ((l.attachWith _ hb).map zdl)=l.map zdh from zqd hb zdh] at h;refine h.mono fun x M' ⟨l',e1,⟨hp,hw⟩,e2⟩=>⟨l'.map Subtype.val,e1,?_,?_⟩
 have h9:=hp.map Subtype.val;rw [zmf hb] at h9;exact h9;rw [e2,AY];rfl
end
section
open Go.Proofs.Tryz
open Go.HL
theorem zjZ [Tracks] {b:Nat} {l:List Int} {a:Nat} (ha:a<=700000):Con prog 40 [pAt b] [St b l a] (fun x M'=> ∃k a',x=zct k/\GoodMds k/\a'<=a+100/\M'=[St b l a']):=by
 refine uOb func40 ntmps40 ?_;refine gz6 ?_;refine ze (zN 7) ?_;refine gz2 ?_;refine dq (za (hs:=[_,_,_]) zq ty9 rfl rfl (by decide) (by decide) rfl) ?_;refine dq (zao (f:=HVal.str) (l:=mp3) zq rfl) ?_;refine gz3 ?_;refine uV2 [3,1,5,2,8,2,13,36] (fun (k:Nat) (q:GL MendS)=>[(13,.int .i64 k),(3,.raw q.u)]) (fun (k:Nat) (q:GL MendS)=>[St b l q.a,.arr q.u 7 (q.out.map zbV)]) (fun (k:Nat) (q:GL MendS)=>k<=mp3.length/\(GLok zhF (8*k) (a+24*k) q)) (fun (k:Nat) (q:GL MendS)=>mp3.length-k) (0) (⟨.slice none 0 0,[],a⟩) ?_ ?_ ?_ ?_;exact ⟨by decide,⟨by simp,by simp,uD⟩⟩;exact ⟨rfl,rfl,trivial⟩;exact uP
 intro k q hinv
 obtain ⟨hk,hq⟩:=hinv;have hk3:mp3.length=3:=rfl;obtain ⟨u,out,a2⟩:=q;obtain ⟨g1,g2,g3⟩:=id hq;dsimp only at g1 g2 g3;refine gz4 ?_;refine uCo (fun h1=> ?_) fun h2=> ?_
 obtain ⟨x,hx⟩: ∃x,mp3[k]? =some x:=⟨_,Aa h1⟩
 have hdx:=zi hx;refine gz5 ?_;refine dq (zy (f:=HVal.str) (l:=mp3) (j:=k) (a:=x) zq ty9 rfl rfl rfl hx) ?_;refine gz7 ?_;refine uV2 [3,1,6,1,8,2,17,31] (fun (w:Nat) (q2:GL MendS)=>[(6,.int .i64 ((w:Int)+1)),(3,.raw q2.u)]) (fun (w:Nat) (q2:GL MendS)=>[St b l q2.a,.arr q2.u 7 (q2.out.map zbV)]) (fun (w:Nat) (q2:GL MendS)=>w<=2/\GLok zhF (8*k+4*w) (a+24*k+12*w) q2) (fun (w:Nat) (q2:GL MendS)=>2-w) (0) (⟨u,out,a2⟩) ?_ ?_ ?_ ?_;exact ⟨by omega,hq.mono uO uO⟩;exact ⟨zP uO,rfl,trivial⟩;exact uP
 intro w q2 hinv
 obtain ⟨hw,hq2⟩:=hinv;obtain ⟨u,out,a2⟩:=q2;obtain ⟨g1,g2,g3⟩:=id hq2;dsimp only at g1 g2 g3;refine gz5 ?_;refine uCo (fun h3=> ?_) fun h4=> ?_
 refine gz5 ?_;refine dq (za (hs:=[_,_]) zq ty9 rfl rfl (by decide) (by decide) rfl) ?_;refine dq (zao (f:=HVal.str) (l:=ms2) zq rfl) ?_;refine gz3 ?_;refine uV2 [3,1,8,2,23,25] (fun (j:Nat) (q3:GL MendS)=>[(23,.int .i64 j),(3,.raw q3.u)]) (fun (j:Nat) (q3:GL MendS)=>[St b l q3.a,.arr q3.u 7 (q3.out.map zbV)]) (fun (j:Nat) (q3:GL MendS)=>j<=ms2.length/\(GLok zhF (8*k+4*w+2*j) (a+24*k+12*w+6*j) q3)) (fun (j:Nat) (q3:GL MendS)=>ms2.length-j) (0) (⟨u,out,a2⟩) ?_ ?_ ?_ ?_;exact ⟨by decide,hq2.mono uO uO⟩;exact ⟨rfl,rfl,trivial⟩;exact uP
 intro j q3 hinv
 obtain ⟨hj,hq3⟩:=hinv;have hj2:ms2.length=2:=rfl;obtain ⟨u,out,a2⟩:=q3;obtain ⟨g1,g2,g3⟩:=id hq3;dsimp only at g1 g2 g3;refine gz4 ?_;refine uCo (fun h5=> ?_) fun h6=> ?_
 obtain ⟨z,hz⟩: ∃z,ms2[j]? =some z:=⟨_,Aa h5⟩
 have hdz:=zi hz;refine gz5 ?_;refine dq (zy (f:=HVal.str) (l:=ms2) (j:=j) (a:=z) zq ty9 rfl rfl rfl hz) ?_;refine gz7 ?_;refine uV2 [3,1,9,1,27,20] (fun (v:Nat) (q4:GL MendS)=>[(9,.int .i64 ((v:Int)+1)),(3,.raw q4.u)]) (fun (v:Nat) (q4:GL MendS)=>[St b l q4.a,.arr q4.u 7 (q4.out.map zbV)]) (fun (v:Nat) (q4:GL MendS)=>v<=2/\GLok zhF (8*k+4*w+2*j+v) (a+24*k+12*w+6*j+3*v) q4) (fun (v:Nat) (q4:GL MendS)=>2-v) (0) (⟨u,out,a2⟩) ?_ ?_ ?_ ?_;exact ⟨by omega,hq3.mono uO uO⟩;exact ⟨zP uO,rfl,trivial⟩;exact uP
 intro v q4 hinv
 obtain ⟨hv,hq4⟩:=hinv;obtain ⟨u,out,a2⟩:=q4;obtain ⟨g1,g2,g3⟩:=id hq4;dsimp only at g1 g2 g3;refine gz5 ?_;refine uCo (fun h7=> ?_) fun h8=> ?_
 refine gz6 ?_;refine de rfl (uCx 0 zes rfl rfl (zI uS uS) ?_)
 rintro _ _ ⟨y32,rfl,rfl⟩;refine gz1 ?_;refine uCo (fun h9=> ?_) fun h10=> ?_
 refine gz6 ?_;refine dq (za (hs:=[_,_,_]) z8 ty3 rfl rfl (by decide) (by decide) rfl) ?_;refine de rfl (uCx 0 ca6 rfl rfl (zf (L:=[_,_,_]) uS uS uS) ?_)
 rintro _ _ ⟨y39,rfl,hy39,rfl⟩;refine gz1 ?_;refine dq (za (hs:=[_,_,_]) z8 ty3 rfl rfl (by decide) (by decide) rfl) ?_;refine de rfl (uCx 0 ca6 rfl rfl (zf (L:=[_,_,_]) uS uS uS) ?_)
 rintro _ _ ⟨y42,rfl,hy42,rfl⟩;refine gz1 ?_;refine dq (zF (cs:=[_,_,_,_,_,_,_]) zbq zGi rfl) ?_;refine dq (za (hs:=[_]) zgI zbq rfl rfl (by decide) (by decide) rfl) ?_;refine de rfl (zK (i:=1) zgI zbq rfl rfl rfl rfl rfl (by simp [zar,zb,zaz,za4]) uSo fun v46=> ?_)
 refine gz9 ?_;exact ⟨v+1,⟨v46,out++[(⟨x,(w:Int)+1,z,y39,y42,(v:Int)+1,[98,111,115,115]⟩:MendS)],a2+1+1+1⟩,⟨by omega,hq4.add (x:=(⟨x,(w:Int)+1,z,y39,y42,(v:Int)+1,[98,111,115,115]⟩:MendS)) ⟨zDu x (Ab hx),zDv z (Ab hz),by unfold Sh;simp⟩ uO⟩,uD,⟨zP uO,rfl,trivial⟩,uK,zm (by dsimp only;rw [Az];rfl)⟩;refine gz8 ?_;exact ⟨v+1,⟨u,out,a2+1⟩,⟨by omega,hq4.same uO⟩,uD,⟨zP uO,rfl,trivial⟩,uK,uP⟩;refine gz2 ?_;refine zM ?_;refine gz7 ?_;exact ⟨j+1,⟨u,out,a2⟩,⟨by omega,hq4.mono uO uO⟩,uD,⟨rfl,rfl,trivial⟩,uK,uP⟩;have hnj:ms2.length<=j:=by omega
 obtain rfl:j=ms2.length:=by omega
 refine gz2 ?_;refine zM ?_;refine gz8 ?_;exact ⟨w+1,⟨u,out,a2⟩,⟨by omega,hq3.mono uO uO⟩,uD,⟨zP uO,rfl,trivial⟩,uK,uP⟩;refine gz2 ?_;refine zM ?_;refine gz7 ?_;exact ⟨k+1,⟨u,out,a2⟩,⟨by omega,hq2.mono uO uO⟩,uD,⟨rfl,rfl,trivial⟩,uK,uP⟩;have hnk:mp3.length<=k:=by omega
 obtain rfl:k=mp3.length:=by omega
 refine gz2 ?_;refine zM ?_;refine gz2 ?_;refine uVj [10,1,49,59] (fun (q5:List MendS×Nat)=>[]) (fun (q5:List MendS×Nat)=>[St b l q5.2,.arr u 7 (q5.1.map zbV)]) (fun (q5:List MendS×Nat)=>q5.1.length<=24/\(∀x∈q5.1,zhF x)/\q5.2<=a+100) ?_ ?_
 skip
 refine gz2 ?_;refine de rfl (zaT (i:=1) zgI rfl rfl ?_)
 refine gz3 ?_;refine dgx (fun x M'=> ∃(y:Bool) (a3:Nat),x= .bool y/\a3<=a2+1/\M'=[St b l a3,.arr u 7 (out.map zbV)]) rfl rfl (fun hc=>⟨_,false,a2,rfl,by omega,rfl⟩) (fun hc=>⟨_,OpenTo.upd (t:=53) rfl (hc) (OpenTo.refl _),uCx 0 zes rfl rfl (zI (a:=a2) uO uO) (fun h M' hh=>by
  obtain ⟨y,h1,h2⟩:=hh;exact ⟨y,a2+1,h1,by omega,by rw [h2];rfl⟩)⟩) ?_
 rintro _ _ ⟨y,a3,rfl,ha3,rfl⟩;refine gz2 ?_;refine uCo (fun h11=> ?_) fun h12=> ?_
 have ho0:0<out.length:=by simp_all
 refine zdi (i:=1) rfl (fun h0 he=> ?_) (fun ob off cap hv hcap=> ?_)
 exfalso;have:=congrArg List.length he;simp at this;subst this;simp at ho0
 subst hv;refine gz4 ?_;refine de rfl (zaT (i:=1) zgI rfl rfl ?_)
 refine de rfl (uCx 0 zjd rfl rfl (zak uS uS) ?_)
 rintro _ _ ⟨y60,rfl,hy60,rfl⟩;refine dq (zx (j:=y60) zgI zbq rfl rfl rfl uSo) ?_;refine gz2 ?_;obtain ⟨x,hx⟩: ∃x,out[y60]? =some x:=⟨_,Aa uO⟩
 refine zbj (fun M=> ∃i:Nat,M[i]? =some (.arr (.slice (some ⟨ob,off,none⟩) (out.map zbV).length cap) 7 (out.map zbV))) [9,16,23,30] mixed ?_;refine gz9 ?_;refine uM 9 rfl ⟨1,rfl⟩ (fun M hM=>by obtain ⟨i,hi⟩:=hM;exact zaq (i:=i) (j:=y60) 0 ty9 rfl uO hi hx rfl rfl ⟨rfl,rfl⟩) ?_;refine uB 10 rfl (za (hs:=[_,_,_]) zq ty9 rfl rfl (by decide) (by decide) rfl) ?_;refine uA 12 ?_;refine gz3 ?_;refine uM 16 rfl ⟨1,rfl⟩ (fun M hM=>by obtain ⟨i,hi⟩:=hM;exact zaq (i:=i) (j:=y60) 1 ty3 rfl uO hi hx rfl rfl ⟨rfl,rfl⟩) ?_;refine uB 17 rfl (za (hs:=[_,_]) z8 ty3 rfl rfl (by decide) (by decide) rfl) ?_;refine uA 19 ?_;refine gz3 ?_;refine uM 23 rfl ⟨1,rfl⟩ (fun M hM=>by obtain ⟨i,hi⟩:=hM;exact zaq (i:=i) (j:=y60) 3 ty3 rfl uO hi hx rfl rfl ⟨rfl,rfl⟩) ?_;refine uB 24 rfl (za (hs:=[_,_]) z8 ty3 rfl rfl (by decide) (by decide) rfl) ?_;refine uA 26 ?_;refine gz3 ?_;refine uM 30 rfl ⟨1,rfl⟩ (fun M hM=>by obtain ⟨i,hi⟩:=hM;exact zaq (i:=i) (j:=y60) 5 ty3 rfl uO hi hx rfl rfl ⟨rfl,rfl⟩) ?_;refine uB 31 rfl (za (hs:=[_,_,_]) z8 ty3 rfl rfl (by decide) (by decide) rfl) ?_;refine uA 33 ?_;refine uB 34 rfl (za (hs:=[_,_]) zq ty9 rfl rfl (by decide) (by decide) rfl) ?_;refine uF 11 ?_;refine zv rfl (uCx 0 zbS rfl rfl (zo (L:=[_,_,_]) uS uS uS) ?_)
 rintro _ _ ⟨y73,rfl,hy73,rfl⟩;refine ⟨uE,?_⟩
 refine uF 18 ?_;refine zv rfl (uCx 0 ca6 rfl rfl (zf (L:=[_,_]) uS uS uS) ?_)
 rintro _ _ ⟨y80,rfl,hy80,rfl⟩;refine ⟨uE,?_⟩
 refine uF 25 ?_;refine zv rfl (uCx 0 ca6 rfl rfl (zf (L:=[_,_]) uS uS uS) ?_)
 rintro _ _ ⟨y87,rfl,hy87,rfl⟩;refine ⟨uE,?_⟩
 refine uF 32 ?_;refine zv rfl (uCx 0 ca6 rfl rfl (zf (L:=[_,_,_]) uS uS uS) ?_)
 rintro _ _ ⟨y94,rfl,hy94,rfl⟩;refine ⟨uE,?_⟩
 refine uF 35 ?_;refine zv rfl (uCx 0 zbS rfl rfl (zo (L:=[_,_]) uS uS uS) ?_)
 rintro _ _ ⟨y97,rfl,hy97,rfl⟩;refine ⟨uE,?_⟩
 refine gz2 ?_;refine uF 38 ?_;refine zD (zQ (i:=1) (j:=y60) (f:=0) (y:=zbV x) (y':=zbV ⟨y73,x.Week,x.Stat,x.Count,x.At,x.Version,x.By⟩) ty9 rfl uO rfl rfl (za9 hx) rfl rfl (by simp [zb]) rfl ?_)
 refine ⟨uE,?_⟩
 refine gz2 ?_;refine uF 41 ?_;refine zD (zQ (i:=1) (j:=y60) (f:=1) (y:=zbV ⟨y73,x.Week,x.Stat,x.Count,x.At,x.Version,x.By⟩) (y':=zbV ⟨y73,y80,x.Stat,x.Count,x.At,x.Version,x.By⟩) ty3 rfl uO rfl rfl (zaL (za9 hx)) rfl rfl (by simp [zb]) rfl ?_)
 refine ⟨uE,?_⟩
 refine gz2 ?_;refine uF 44 ?_;refine zD (zQ (i:=1) (j:=y60) (f:=3) (y:=zbV ⟨y73,y80,x.Stat,x.Count,x.At,x.Version,x.By⟩) (y':=zbV ⟨y73,y80,x.Stat,y87,x.At,x.Version,x.By⟩) ty3 rfl uO rfl rfl (zaL (zaL (za9 hx))) rfl rfl (by simp [zb]) rfl ?_)
 refine ⟨uE,?_⟩
 refine gz2 ?_;refine uF 47 ?_;refine zD (zQ (i:=1) (j:=y60) (f:=5) (y:=zbV ⟨y73,y80,x.Stat,y87,x.At,x.Version,x.By⟩) (y':=zbV ⟨y73,y80,x.Stat,y87,x.At,y94,x.By⟩) ty3 rfl uO rfl rfl (zaL (zaL (zaL (za9 hx)))) rfl rfl (by simp [zb]) rfl ?_)
 refine ⟨uE,?_⟩
 refine gz2 ?_;refine uF 50 ?_;refine zD (zQ (i:=1) (j:=y60) (f:=6) (y:=zbV ⟨y73,y80,x.Stat,y87,x.At,y94,x.By⟩) (y':=zbV ⟨y73,y80,x.Stat,y87,x.At,y94,y97⟩) ty9 rfl uO rfl rfl (zaL (zaL (zaL (zaL (za9 hx))))) rfl rfl (by simp [zb]) rfl ?_)
 refine ⟨uE,?_⟩
 refine gz1 ?_;exact ⟨(out.set y60 ⟨y73,y80,x.Stat,y87,x.At,y94,y97⟩,a3+1+1+1+1+1+1),⟨by simp;omega,zfk (P:=zhF) g2 (by
  have hgx:=g2 x (Ab hx);exact ⟨by simp at hy73;rcases hy73 with rfl|rfl|rfl;exact hgx.1;exact zqX;(unfold Sh;simp),hgx.2.1,by simp at hy97;rcases hy97 with rfl|rfl<;>(unfold Sh;simp)⟩),uD⟩,trivial,uK,uP⟩
 refine gz1 ?_;exact ⟨(out,a3),⟨uD,g2,uD⟩,trivial,uK,uP⟩
 intro q5 hq5
 obtain ⟨k1,a4⟩:=q5;dsimp only at hq5;obtain ⟨q1,q2,q3⟩:=hq5;refine gz5 ?_;exact zat (zaJ 2 (i:=1) rfl rfl) rfl ⟨k1,a4,rfl,⟨by omega,q2⟩,by omega,rfl⟩
end
end Go.Proofs.YtbmggbfabohegaaGreatDoor
