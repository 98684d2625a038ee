/- Part 5 of the proof: a program logic, contracts of functions and plain facts; no conditions. -/
import Derived.Test.YtbmggbfabohegaaGreatDoorQTurnedAreTurned4
import Derived.Calls
import Derived.Handed
import Derived.Lib.LaidU8
import GoSem.ClaimGoes
set_option linter.unusedVariables false
set_option linter.unusedSimpArgs false
set_option maxHeartbeats 16000000
namespace Go.Proofs.YtbmggbfabohegaaGreatDoor
set_option maxRecDepth 100000
set_option linter.unusedVariables false
set_option linter.unusedSimpArgs false
section
open Go.Proofs.Tryz
open Go.HL
theorem zg2 [Tracks] {b:BookS} {w:Int} (hs: -1000000000000000<=b.League.Start/\b.League.Start<=1000000000000000) (hw: -1000<=w/\w<=1000):ConP prog 58 [.vptr (zv7 b) 0,.int .i64 w] (.int .i64 (za9 b.League w)):=by
 refine uOb func58 ntmps58 ?_;refine zaz ?_;refine dq (zcs rfl rfl uO uO) ?_;refine gz4 ?_;refine zx rfl ?_
 rfl
theorem znF [Tracks] {S:List SlotS} {l:List ScorerS} {f:List FillS} (hz:zdr S=0) (hS0:S.length<=1000000) (hsp: ∀x∈S,x.Positions.length<=1000000) (hsc:zil l=0) (hl:l.length<=1000000) (hb:(∀x∈l,(-1000000000000000<=x.Num/\x.Num<=1000000000000000)/\ -1000000000<=x.Den/\x.Den<=1000000000)) (hf:FillOk l S S.length f):ConP prog 83 [zeE S,ze0 l,zlw f] (.int .i64 0):=by
 have hS:=zut hsc;have hfl:=hf.len;have hlp: ∀x∈l,x.Positions.length<=1000000:=fun x hx=>Au (hS.po x hx) (by decide)
 refine uOb func83 ntmps83 ?_;refine gz6 ?_;refine dq (uCl zAc rfl (ziN (l:=S) hS0 hsp)) ?_;refine gz1 ?_;refine dq (uCl ca72 rfl (zhD (l:=l) hl hlp hb)) ?_;refine dq (za (hs:=[_,_]) zeh zgA rfl rfl (by decide) (by decide) rfl) ?_;refine dq (uCl zk5 rfl (zch (l:=[_,_]) (by simp))) ?_;refine gz6 ?_;refine zW rfl (fun h1=> ?_) (fun h1=> ?_)
 exfalso
 try simp at h1
 simp [orI,hz,hsc] at h1
 try simp at h1
 refine zaz ?_;refine zW rfl (fun h2=> ?_) (fun h2=> ?_)
 exfalso
 try simp at h2
 omega
 try simp at h2
 refine gz9 ?_;refine uT1 [6,1,8,3,27,44] (fun k=>[(27,.int .i64 k)]) (fun k=>[]) (fun k=>k<=f.length/\(True)) (fun k=>f.length-k) (0) ?_ ?_;exact ⟨Ad _,trivial⟩;rintro k ⟨hk,-⟩;refine gz4 ?_;refine uCo (fun h3=> ?_) fun h4=> ?_
 obtain ⟨x,hx⟩: ∃x,f[k]? =some x:=⟨_,Aa h3⟩
 have hdx:=zi hx;have hx0:=hx;have hxl:=zo hx;refine gz8 ?_;refine de rfl (zj zhZ rfl fun b9=> ?_)
 refine gz1 ?_;refine de0 (zl zhZ rfl rfl rfl rfl rfl ?_)
 refine gz1 ?_;refine ze (zm 9 rfl) ?_;refine gz1 ?_;refine uDr mixed ?_;refine gz4 ?_;refine uB 4 rfl (zB (f:=zbT) (l:=S) (j:=k) (a:=S.getD k ze6) zfv zdt rfl rfl rfl (getD_some uO)) ?_;refine gz4 ?_;refine zW rfl (fun h5=> ?_) (fun h5=> ?_)
 exfalso
 try simp at h5
 have q:=hf.key k x hx0;simp_all
 try simp at h5
 refine gz8 ?_;refine uCo (fun h6=> ?_) fun h7=> ?_
 refine gz8 ?_;refine ⟨k+1,?_,?_,⟨rfl,trivial⟩,uK,Ac _⟩
 exact ⟨by omega,trivial⟩
 dsimp only;omega
 refine gz2 ?_;obtain ⟨hno,y,hy,hcm⟩:=hf.who k x hx0 (by assumption);obtain ⟨hc1,hc2⟩:=zAU hS.so hy;have hfn:zfB (l.map (·.Player)) x.Player=((zcd (l.map (·.Player)) x.Player:Nat):Int):=by unfold zfB;rw [if_pos hc1]
 refine gz4 ?_;refine dq (z8 (h':= .int .i64 ((zcd (l.map (·.Player)) x.Player:Nat):Int)) (uCl zAd rfl (znG (l:=l) (s:=x.Player) hl hS.so)) (by rw [hfn])) ?_;refine gz8 ?_;refine zW rfl (fun h8=> ?_) (fun h8=> ?_)
 exfalso
 try simp at h8
 omega
 try simp at h8
 refine uDr mixed ?_;refine gz2 ?_;refine uB 2 rfl (zaQ zoA zhZ rfl rfl ⟨_,_,rfl,rfl⟩ uO uO) ?_;refine gz2 ?_;refine uB 5 rfl (uCl zAe rfl (znH (f:=f.take k) (s:=x.Player) (by rw [Ax];omega))) ?_;refine gz2 ?_;refine zW rfl (fun h9=> ?_) (fun h9=> ?_)
 exfalso
 try simp at h9
 obtain ⟨z,hz1,hz2⟩:=h9;have q:=List.any_eq_false.1 hno z hz1
 simp [hz2] at q
 try simp at h9
 refine uDr mixed ?_;refine gz2 ?_;refine uB 2 rfl (zB (f:=zcr) (l:=l) (j:=zcd (l.map (·.Player)) x.Player) (a:=y) zkf zen rfl rfl rfl hc2) ?_;refine gz1 ?_;refine uB 4 rfl (zY (h:=eSs y.Positions) zp rfl rfl rfl) ?_;refine gz2 ?_;refine uB 7 rfl (zB (f:=zbT) (l:=S) (j:=k) (a:=S.getD k ze6) zfv zdt rfl rfl rfl (getD_some uO)) ?_;refine gz1 ?_;refine uB 9 rfl (zY (h:=eSs (S.getD k ze6).Positions) zp rfl rfl rfl) ?_;refine uB 10 rfl (uCl zwf rfl (zi2 (a:=y.Positions) (b:=(S.getD k ze6).Positions) (hlp y (zlG hy).1) (hsp _ (Ab (getD_some (d:=ze6) uO))))) ?_;refine gz3 ?_;refine zW rfl (fun h10=> ?_) (fun h10=> ?_)
 exfalso
 try simp at h10
 simp_all
 try simp at h10
 refine gz8 ?_;refine ⟨k+1,?_,?_,⟨rfl,trivial⟩,uK,Ac _⟩
 exact ⟨by omega,trivial⟩
 dsimp only;omega
 have hnk:f.length<=k:=by omega
 obtain rfl:k=f.length:=by omega
 refine gz2 ?_;refine zw ?_;refine gz6 ?_;refine zx rfl ?_
 rfl
theorem zuQ [Tracks] {S:List SlotS} {l:List ScorerS} {f:List FillS} {c:Str} (hS:ScoOk l) (hf:FillOk l S S.length f) (hS12:S.length<=12) (hl:l.length<=1000000):ConP prog 85 [ze0 l,zlw f,.str c] (.int .i64 (sfL l f c)):=by
 have hfl:=hf.len;refine uOb func85 ntmps85 ?_;refine zel ?_;refine uT1 [7,1,9,2,13,26] (fun k=>[(13,.int .i64 k),(7,.int .i64 (sfL l (f.take k) c))]) (fun k=>[]) (fun k=>k<=f.length/\(True)) (fun k=>f.length-k) (0) ?_ ?_;exact ⟨Ad _,trivial⟩;rintro k ⟨hk,-⟩;refine gz4 ?_;refine uCo (fun h1=> ?_) fun h2=> ?_
 obtain ⟨x,hx⟩: ∃x,f[k]? =some x:=⟨_,Aa h1⟩
 have hdx:=zi hx;have hx0:=hx;refine gz7 ?_;refine de rfl (zj zhZ rfl fun b9=> ?_)
 refine de0 (zl zhZ rfl rfl rfl rfl rfl ?_)
 refine gz1 ?_;refine ze (zm 9 rfl) ?_;refine gz6 ?_;refine uCo (fun h3=> ?_) fun h4=> ?_
 refine gz8 ?_;exact ⟨k+1,⟨by omega,trivial⟩,uD,⟨rfl,by rw [zrK hx0,zlh,if_pos (by assumption),Int.add_zero];rfl,trivial⟩,uK,Ac _⟩;refine gz2 ?_;obtain ⟨hno,y,hy,hcm⟩:=hf.who k x hx0 (by assumption);obtain ⟨hc1,hc2⟩:=zAU hS.so hy;have hfn:zfB (l.map (·.Player)) x.Player=((zcd (l.map (·.Player)) x.Player:Nat):Int):=by unfold zfB;rw [if_pos hc1]
 have hb2:=hS.w y (zlG hy).1;have hb1:=zw7 hS (f:=f) uO c k;have hho:zpG l x.Player=zcz y.Num y.Den:=by unfold zpG;rw [hy];rfl
 refine gz5 ?_;refine dq (z8 (h':= .int .i64 ((zcd (l.map (·.Player)) x.Player:Nat):Int)) (uCl zAd rfl (znG (l:=l) (s:=x.Player) hl hS.so)) (by rw [hfn])) ?_;refine dq (zB (f:=zcr) (l:=l) (j:=zcd (l.map (·.Player)) x.Player) (a:=y) zkf zen rfl rfl rfl hc2) ?_;refine gz1 ?_;refine dq (z8 (h':= .agg [.int .i64 y.Num,.int .i64 y.Den]) (zaS zax rfl rfl (An rfl)) rfl) ?_;refine dq (uCl zwo rfl (zer (n:=y.Num) (d:=y.Den) (hS.dn y (zlG hy).1) uO)) ?_;refine gz9 ?_;refine uCo (fun h5=> ?_) fun h6=> ?_
 refine gz2 ?_;refine dq (zcs rfl rfl uO uO) ?_;refine zhL ?_;exact ⟨k+1,⟨by omega,trivial⟩,uD,⟨rfl,by rw [zrK hx0,zlh,if_neg (by assumption),if_pos (by assumption),hho];rfl,trivial⟩,uK,Ac _⟩;refine zdg ?_;exact ⟨k+1,⟨by omega,trivial⟩,uD,⟨rfl,by rw [zrK hx0,zlh,if_neg (by assumption),if_neg (by assumption),hho];rfl,trivial⟩,uK,Ac _⟩;have hnk:f.length<=k:=by omega
 obtain rfl:k=f.length:=by omega
 rw [Ak];refine gz2 ?_;refine zw ?_;refine gz7 ?_;refine zx rfl ?_
 rfl
theorem zuP [Tracks] {S:List SlotS} {l:List ScorerS} {f:List FillS} {c:Str} (hz:zdr S=0) (hS0:S.length<=1000000) (hsp: ∀x∈S,x.Positions.length<=1000000) (hsc:zil l=0) (hl:l.length<=1000000) (hb:(∀x∈l,(-1000000000000000<=x.Num/\x.Num<=1000000000000000)/\ -1000000000<=x.Den/\x.Den<=1000000000)) (hf:FillOk l S S.length f) (hS12:S.length<=12) (hc:c≠[]->f.any (fun x=>x.Player==c)=true):ConP prog 135 [zeE S,ze0 l,zlw f,.str c] (.tup [zis (ofH (sfL l f c)),.int .i64 0]):=by
 have hS:=zut hsc;have hfl:=hf.len;have hbd:=zw7 hS (f:=f) uO c f.length;rw [Ak] at hbd;refine zba func135 rfl ntmps135 rfl rfl ?_;refine gz1 ?_;refine de rfl (zj zax rfl fun b8=> ?_)
 refine gz7 ?_;refine dq (uCl ca83 rfl (znF (S:=S) (l:=l) (f:=f) hz hS0 hsp hsc hl hb hf)) ?_;refine gz6 ?_;refine zW rfl (fun h1=> ?_) (fun h1=> ?_)
 ·exfalso
  try simp at h1
  done
 ·try simp at h1
  refine gz9 ?_;refine uGr rfl (fun hc=>by have hq:=hc;(try simp at hq);exact uCl zAe rfl (znH (f:=f) (s:=c) uO)) ?_;refine gz3 ?_;refine zW rfl (fun h2=> ?_) (fun h2=> ?_)
  ·exfalso
   try simp at h2
   obtain ⟨q1,q2⟩:=h2;obtain ⟨z,hz1,hz2⟩:=List.any_eq_true.1 (hc q1);exact q2 z hz1 (by simpa using hz2)
  ·try simp at h2
   refine gz6 ?_;refine dq (uCl ca85 rfl (zuQ (S:=S) (l:=l) (f:=f) (c:=c) hS hf hS12 hl)) ?_;refine dq (uCl ca84 rfl (zh3 (n:=sfL l f c) uO)) ?_;refine de0 (zl (h:=zis (ofH (sfL l f c))) zax rfl rfl rfl rfl rfl ?_)
   refine gz3 ?_;exact ⟨_,_,zm 8 rfl,[_,_],_,⟨⟨_,_,_,_,_,rfl,zax,.inr ⟨rfl,rfl,rfl⟩⟩,⟨rfl,trivial⟩⟩,Weak.refl _,rfl,rfl⟩
theorem zm0 [Tracks] {b:BookS} {n w:Int} (hT:Tracks.on=false) (hb:BookC b) (hX:BookX b) (hwk:za1 w=true) (hnm:zU n=true):ConP prog 77 [zfA b n,.int .i64 w] (.tup [zfb (wlL b w n),.int .i64 (wlE b w n)]):=by
 have hla:=hb.bb.lea;have hok:=ziv hX.pl;have hpl:=hb.l2;have hmd:=hb.l3;have hom:=zol (week:=w) hX.me;have hol:=zka b.Mends w;have h40:=zpL (l:=b.Plays) (t:=b.League.Trust) (m:=zf3 b.Mends w) (week:=w) (n:=n) hok hpl uO;obtain ⟨hsl,hsn⟩:=zj8 (t:=b.League.Trust) (week:=w) (n:=n) hok hpl;obtain ⟨hk1,hk2,hk3⟩:=zpK (t:=b.League.Trust) (m:=zf3 b.Mends w) (week:=w) (n:=n) hok hpl uO hwk hom;have hwl:(wlL b w n).length<=40:=hk2;refine uOb func77 ntmps77 ?_;refine gz5 ?_;refine uDr mixed ?_;refine uB 0 rfl ((by first|exact zg zbL rfl zbF (by decide) rfl|exact zd zbL rfl zbF (by decide) rfl)) ?_;refine uB 1 rfl (zY (h:= .vptr (zb (zbk b)) 0) zbF rfl rfl rfl) ?_;refine uB 2 rfl ((by first|exact zu rfl|exact zk rfl)) ?_;refine uB 3 rfl ((by first|exact zg zbj rfl zhf (by decide) rfl|exact zd zbj rfl zhf (by decide) rfl)) ?_;refine uB 4 rfl (zY (h:=zbY b.Plays) zhf rfl rfl rfl) ?_;refine uB 5 rfl ((by first|exact zg zbL rfl zbF (by decide) rfl|exact zd zbL rfl zbF (by decide) rfl)) ?_;refine uB 6 rfl (zY (h:= .vptr (zb (zbk b)) 0) zbF rfl rfl rfl) ?_;refine uB 7 rfl ((by first|exact zu rfl|exact zk rfl)) ?_;refine uB 8 rfl ((by first|exact zg zbj rfl zaN (by decide) rfl|exact zd zbj rfl zaN (by decide) rfl)) ?_;refine uB 9 rfl ((by first|exact zg zaN rfl zp (by decide) rfl|exact zd zaN rfl zp (by decide) rfl)) ?_;refine uB 10 rfl (zY (h:=eSs b.League.Trust) zp rfl rfl rfl) ?_;refine gz1 ?_;refine uB 12 rfl ((by first|exact zg zbL rfl ty3 (by decide) rfl|exact zd zbL rfl ty3 (by decide) rfl)) ?_;refine gz1 ?_;refine uB 14 rfl (z8 (h':= .tup [zfb (zdO b.Plays b.League.Trust w n),.int .i64 (wlE b w n)]) (uCl ca27 rfl (znD (l:=b.Plays) (trust:=b.League.Trust) (week:=w) (n:=n) hT uO hla.tr)) (by rw [(zt4 hX.pl hX.tr hwk hnm).1,(zt4 hX.pl hX.tr hwk hnm).2])) ?_;refine zcj ?_;refine uCo (fun h1=> ?_) fun h2=> ?_
 refine gz6 ?_
 focus first
 |exact zaq rfl (zC (by rw [wlL,knL,if_pos (by simpa using h1)];exact zt 3) (Weak.refl _))
 |exact zx rfl rfl
 refine gz5 ?_;refine ze (zN 7) ?_;refine gz2 ?_;refine dq ((by first|exact zg zbL rfl zbF (by decide) rfl|exact zd zbL rfl zbF (by decide) rfl)) ?_;refine dq (zY (h:= .vptr (zb (zbk b)) 0) zbF rfl rfl rfl) ?_;refine dq ((by first|exact zu rfl|exact zk rfl)) ?_;refine dq ((by first|exact zg zbj rfl zgz (by decide) rfl|exact zd zbj rfl zgz (by decide) rfl)) ?_;refine dq (zY (h:=zcq b.Mends) zgz rfl rfl rfl) ?_;refine dq (zaD (f:=zbS) (l:=b.Mends) zgz rfl) ?_;refine gz3 ?_;refine uV2 [8,1,10,1,38,13] (fun (k:Nat) (u:Value)=>[(38,.int .i64 k),(8,.raw u)]) (fun (k:Nat) (u:Value)=>[.arr u 7 ((zf3 (b.Mends.take k) w).map zbS)]) (fun (k:Nat) (u:Value)=>k<=b.Mends.length/\(True)) (fun (k:Nat) (u:Value)=>b.Mends.length-k) (0) (.slice none 0 0) ?_ ?_ ?_ ?_;exact ⟨Ad _,trivial⟩;exact ⟨rfl,rfl,trivial⟩;exact zn rfl
 intro k u hinv
 obtain ⟨hk,-⟩:=hinv;refine gz4 ?_;refine uCo (fun h3=> ?_) fun h4=> ?_
 obtain ⟨x,hx⟩: ∃x,b.Mends[k]? =some x:=⟨_,Aa h3⟩
 have hdx:=zi hx;refine gz5 ?_;refine dq (zB (f:=zbS) (l:=b.Mends) (j:=k) (a:=x) zgz zbr rfl rfl rfl hx) ?_;refine gz1 ?_;refine de rfl (zj zbr rfl fun b10=> ?_)
 refine de0 (zl zbr rfl rfl rfl rfl rfl ?_)
 refine gz1 ?_;refine ze (zm 10 rfl) ?_;refine gz1 ?_;refine dq ((by first|exact zg zbr rfl ty3 (by decide) rfl|exact zd zbr rfl ty3 (by decide) rfl)) ?_;refine gz4 ?_;refine uCo (fun h5=> ?_) fun h6=> ?_
 refine gz2 ?_;refine dq (zai (h:=zbS x) zbr rfl rfl rfl rfl) ?_;refine dq (za (hs:=[_]) zgz zbr rfl rfl (by decide) (by decide) rfl) ?_;refine de rfl (zO (i:=0) zgz zbr rfl rfl rfl rfl rfl (by simp [zaw,zb]) (by have:=zsV b.Mends w k;simp only [Ag,Ai,AD];omega) fun v49=> ?_)
 refine gz8 ?_;exact ⟨k+1,v49,⟨by omega,trivial⟩,uD,⟨rfl,rfl,trivial⟩,uK,zn (by dsimp only;rw [zzx hx (by assumption),Ay];rfl)⟩;refine gz7 ?_;exact ⟨k+1,u,⟨by omega,trivial⟩,uD,⟨rfl,rfl,trivial⟩,uK,zn (by dsimp only;rw [zBK hx (by assumption)])⟩;have hnk:b.Mends.length<=k:=by omega
 obtain rfl:k=b.Mends.length:=by omega
 rw [Ak];refine gz2 ?_;refine zM ?_;refine gz2 ?_;refine ze (zaB 8 (i:=0) rfl rfl) ?_;have hz:wlE b w n=0:=by simpa using h2
 refine gz3 ?_;refine dq ((by first|exact zg zbL rfl ty3 (by decide) rfl|exact zd zbL rfl ty3 (by decide) rfl)) ?_;refine gz1 ?_;refine dq (z8 (h':= .tup [zfb (wlL b w n),.int .i64 (wlE b w n)]) (uCl zDz rfl (zsI (l:=(zdO b.Plays b.League.Trust w n)) (m:=zf3 b.Mends w) (n:=n) uO uO (fun x hx=>Au (hsn x hx).1 (by decide)) (fun _=>h40))) (by rw [hz,(zsf (zlc hok hpl hwk hz) hom hnm).1,(zsf (zlc hok hpl hwk hz) hom hnm).2,wlL,knL,if_neg (fun q=>q hz)])) ?_;refine gz6 ?_
 focus first
 |exact zaq rfl (zC (by rw [wlL,knL,if_pos (by simpa using h1)];exact zt 3) (Weak.refl _))
 |exact zx rfl rfl
theorem zkn [Tracks] {x:LineS} {s:Str}:ConP prog 81 [zbP x,.vptr [.str s] 0] (.bool (x.Player==s)):=by
 refine uOb func81 ntmps81 ?_;refine zdf ?_;refine zx rfl ?_
 rfl
theorem zlr [Tracks] {b:BookS} {n w:Int} {t:Str} (hT:Tracks.on=false) (hb:BookC b) (hX:BookX b) (hwk:za1 w=true) (hnm:zU n=true) (htm:b.League.Teams.contains t=true):ConP prog 34 [zfA b n,.str t,.int .i64 w] (.tup [ze0 (zq7 b t w n),.int .i64 (wlE b w n)]):=by
 have hla:=hb.bb.lea;have hok:=ziv hX.pl;have hpl:=hb.l2;have hmd:=hb.l3;have hom:=zol (week:=w) hX.me;have hol:=zka b.Mends w;have h40:=zpL (l:=b.Plays) (t:=b.League.Trust) (m:=zf3 b.Mends w) (week:=w) (n:=n) hok hpl uO;obtain ⟨hsl,hsn⟩:=zj8 (t:=b.League.Trust) (week:=w) (n:=n) hok hpl;obtain ⟨hk1,hk2,hk3⟩:=zpK (t:=b.League.Trust) (m:=zf3 b.Mends w) (week:=w) (n:=n) hok hpl uO hwk hom;have hwl:(wlL b w n).length<=40:=hk2;obtain ⟨hbm,hb0,hb1,hb2,hb3⟩:=zxr hX hwk;have hW:=hX.w;have hwr:1<=w/\w<=60:=by unfold za1 out at hwk;simp at hwk;omega
 have hok2:=zoR (b:=b.League.Bounds) (n:=za9 b.League w) hW.f.mo;have hown:(zfu b t w).length<=1000000:=by
  have q:=(hok2.p t).2
  show (rPl (zgU b.League.Bounds b.Moves (za9 b.League w)) t).length<=1000000
  omega
 have hask:zkO b.League.Bounds b.Moves t (za9 b.League w)=0:=by
  unfold zkO;rw [if_neg (by simp [orI,hW.f.bo,hW.f.mo]),if_neg (by rw [hW.tm t htm];simp),if_neg (by rw [hbm];simp)]
 refine uOb func34 ntmps34 ?_;refine gz6 ?_;refine dq (zai (h:=zfA b n) zbL rfl rfl rfl rfl) ?_;refine gz1 ?_;refine dq (uCl ca77 rfl (zm0 (b:=b) (n:=n) (w:=w) hT hb hX hwk hnm)) ?_;refine zcj ?_;refine uCo (fun h1=> ?_) fun h2=> ?_
 ·refine gz6 ?_
  first
  |exact zaq rfl (zC (by rw [zq7,if_pos (by simpa using h1)];exact zt 5) (Weak.refl _))
  | (refine zap (zaB 6 (i:=0) rfl rfl) rfl ⟨?_,rfl⟩
     rw [zq7,if_neg (fun q=>q hz),hz]
     rfl)
 ·refine gz2 ?_;refine uDr mixed ?_;refine uB 0 rfl ((by first|exact zg zbL rfl zbF (by decide) rfl|exact zd zbL rfl zbF (by decide) rfl)) ?_;refine uB 1 rfl (zY (h:= .vptr (zb (zbk b)) 0) zbF rfl rfl rfl) ?_;refine uB 2 rfl ((by first|exact zu rfl|exact zk rfl)) ?_;refine uB 3 rfl ((by first|exact zg zbj rfl zaN (by decide) rfl|exact zd zbj rfl zaN (by decide) rfl)) ?_;refine uB 4 rfl ((by first|exact zg zaN rfl zja (by decide) rfl|exact zd zaN rfl zja (by decide) rfl)) ?_;refine uB 5 rfl (z8 (h':=zfS b.League.Bounds) (zaS zja rfl rfl (An rfl)) rfl) ?_;refine uB 6 rfl ((by first|exact zg zbL rfl zbF (by decide) rfl|exact zd zbL rfl zbF (by decide) rfl)) ?_;refine uB 7 rfl (zY (h:= .vptr (zb (zbk b)) 0) zbF rfl rfl rfl) ?_;refine uB 8 rfl ((by first|exact zu rfl|exact zk rfl)) ?_;refine uB 9 rfl ((by first|exact zg zbj rfl zcn (by decide) rfl|exact zd zbj rfl zcn (by decide) rfl)) ?_;refine uB 10 rfl (zY (h:=zcC b.Moves) zcn rfl rfl rfl) ?_;refine gz1 ?_;refine uB 12 rfl ((by first|exact zg zbL rfl zbF (by decide) rfl|exact zd zbL rfl zbF (by decide) rfl)) ?_;refine uB 13 rfl (zY (h:= .vptr (zb (zbk b)) 0) zbF rfl rfl rfl) ?_;refine uB 14 rfl ((by first|exact zu rfl|exact zk rfl)) ?_;refine uB 15 rfl ((by first|exact zg zbj rfl zaN (by decide) rfl|exact zd zbj rfl zaN (by decide) rfl)) ?_;refine gz1 ?_;refine uB 17 rfl (uCl zyR rfl (zg2 (b:=b) hla.sta uO)) ?_;refine uB 18 rfl (uCl ca78 rfl (zuN (b:=b.League.Bounds) (l:=b.Moves) (t:=t) (n:=za9 b.League w) hb.bb.mv hask)) ?_;refine gz3 ?_;refine uF 22 ?_;refine zv rfl (zj zhY rfl fun b10=> ?_)
  refine ⟨uE,?_⟩
  refine uF 23 ?_;refine zA (zl zhY rfl rfl rfl rfl rfl ?_)
  refine ⟨uE,?_⟩
  refine gz2 ?_;refine ze (zm 10 rfl) ?_;have hz:wlE b w n=0:=by simpa using h2
  refine gz3 ?_;refine ze (zN 5) ?_;refine gz2 ?_;refine dq ((by first|exact zg zhY rfl zp (by decide) rfl|exact zd zhY rfl zp (by decide) rfl)) ?_;refine dq (zY (h:=eSs (zfu b t w)) zp rfl rfl rfl) ?_;refine dq (zaD (f:=HVal.str) (l:=(zfu b t w)) zp rfl) ?_;refine gz3 ?_;refine uV2 [6,2,9,1,12,1,14,4,52,50] (fun (k:Nat) (u:Value)=>[(52,.int .i64 k),(12,.raw u)]) (fun (k:Nat) (u:Value)=>[.arr u 5 ((zkd b.League (wlL b w n) ((zfu b t w).take k)).map zcr)]) (fun (k:Nat) (u:Value)=>k<=(zfu b t w).length/\(True)) (fun (k:Nat) (u:Value)=>(zfu b t w).length-k) (0) (.slice none 0 0) ?_ ?_ ?_ ?_
  ·exact ⟨Ad _,trivial⟩
  ·exact ⟨rfl,rfl,trivial⟩
  ·exact zn rfl
  ·intro k u hinv
   obtain ⟨hk,-⟩:=hinv;refine gz4 ?_;refine uCo (fun h3=> ?_) fun h4=> ?_
   ·obtain ⟨s,hs⟩: ∃s,(zfu b t w)[k]? =some s:=⟨_,Aa h3⟩
    have hds:=zi hs;refine gz5 ?_;refine dq (zB (f:=HVal.str) (l:=(zfu b t w)) (j:=k) (a:=s) zp ty9 rfl rfl rfl hs) ?_;refine gz1 ?_;refine de rfl (zj ty9 rfl fun b14=> ?_)
    refine de0 (zl ty9 rfl rfl rfl rfl rfl ?_)
    refine gz1 ?_;refine ze (zm 14 rfl) ?_;refine gz1 ?_;refine dq (zai (h:=zfA b n) zbL rfl rfl rfl rfl) ?_;refine gz1 ?_;refine dq (uCl ca79 rfl (znA (b:=b) (n:=n) (s:=s) hla.pl hW.so)) ?_;refine gz5 ?_;refine dq (zw1 (o:=(plO b.League.Players s).map fun p=>zb (zeD p)) zFt rfl rfl) ?_;refine gz1 ?_;refine uCo (fun h5=> ?_) fun h6=> ?_
    ·refine gz8 ?_;exact ⟨k+1,u,⟨by omega,trivial⟩,uD,⟨rfl,rfl,trivial⟩,uK,zn (by dsimp only;rw [zpR hs,zuu uSa];simp)⟩
    ·refine gz2 ?_;obtain ⟨p,hp⟩:=zCJ (L:=b.League.Players) (s:=s) (by assumption);have hpm:=Bp hp;rw [hp];refine uVj [16,1,61,8] (fun (b16:Nat)=>[(16,pAt b16)]) (fun (b16:Nat)=>[.cells b16 [.str s,eSs p.Positions,.int .i64 0,.int .i64 1,.bool false],.arr u 5 ((zkd b.League (wlL b w n) ((zfu b t w).take k)).map zcr)]) (fun (b16:Nat)=>True) ?_ ?_
     ·skip
      refine zgB mixed ?_;refine gz2 ?_;refine uB 2 rfl ((by first|exact zu rfl|exact zk rfl)) ?_;refine uB 3 rfl ((by first|exact zg zew rfl zp (by decide) rfl|exact zd zew rfl zp (by decide) rfl)) ?_;refine uB 4 rfl (zY (h:=eSs p.Positions) zp rfl rfl rfl) ?_;refine uB 6 rfl (zG (cs:=[_,_]) zax zle rfl) ?_;refine zh8 5 8 rfl rfl (by kernel_rfl) ?_ ?_
      ·skip
       refine zv rfl (zpW (uCa zj0 rfl (z7 (l:=p.Positions) (hla.po p hpm)) fun v=>⟨v,rfl,rfl⟩) ?_)
       refine ⟨uE,?_⟩
       refine uB 7 rfl (zG (cs:=[_,_,_,_,_]) zen pl77 rfl) ?_;refine uF 8 ?_;refine zv rfl (zj zen rfl fun b16=> ?_)
       refine ⟨uE,?_⟩
       refine uF 9 ?_
       first
       |refine zA (uY 0 ?_)
       |refine zA (uY 1 ?_)
       |refine zA (uY 2 ?_)
       |refine zA (uY 3 ?_)
       refine ⟨uE,?_⟩
       refine uAz ?_;refine ⟨b16,?_,⟨rfl,trivial⟩,uK,zn rfl⟩
       ·trivial
      ·skip
       refine zv rfl (zj zen rfl fun b16=> ?_)
       refine ⟨uE,?_⟩
       refine uF 5 ?_;refine zv rfl (zpW (uCa zj0 rfl (z7 (l:=p.Positions) (hla.po p hpm)) fun v=>⟨v,rfl,rfl⟩) ?_)
       refine ⟨uE,?_⟩
       refine uB 7 rfl (zG (cs:=[_,_,_,_,_]) zen pl77 rfl) ?_;refine uF 9 ?_
       first
       |refine zA (uY 0 ?_)
       |refine zA (uY 1 ?_)
       |refine zA (uY 2 ?_)
       |refine zA (uY 3 ?_)
       refine ⟨uE,?_⟩
       refine uAz ?_;refine ⟨b16,?_,⟨rfl,trivial⟩,uK,zn rfl⟩
       ·trivial
     ·intro b16 _
      refine gz1 ?_;obtain ⟨sc,hsc⟩:=zCN (L:=wlL b w n) hp;refine gz3 ?_;refine dq (uCl ca80 rfl (zfN (l:=wlL b w n) (p:=fun x=>x.Player==s) ca81 (fun _=>zkn) uO)) ?_;refine gz6 ?_;refine uCo (fun h7=> ?_) fun h8=> ?_
      ·obtain ⟨i0,x0,e1,e2,e3⟩:=zr3 (p:=fun x:LineS=>x.Player==s) (l:=wlL b w n) (by assumption);rw [e1];refine gz2 ?_
       first
       |refine de0 (uY 0 ?_)
       |refine de0 (uY 1 ?_)
       |refine de0 (uY 2 ?_)
       |refine de0 (uY 3 ?_)
       refine gz1 ?_;refine uDr mixed ?_;refine uB 0 rfl ((by first|exact zg zbL rfl zbF (by decide) rfl|exact zd zbL rfl zbF (by decide) rfl)) ?_;refine uB 1 rfl (zY (h:= .vptr (zb (zbk b)) 0) zbF rfl rfl rfl) ?_;refine uB 2 rfl ((by first|exact zu rfl|exact zk rfl)) ?_;refine uB 3 rfl ((by first|exact zg zbj rfl zaN (by decide) rfl|exact zd zbj rfl zaN (by decide) rfl)) ?_;refine uB 4 rfl ((by first|exact zg zaN rfl zoy (by decide) rfl|exact zd zaN rfl zoy (by decide) rfl)) ?_;refine uB 5 rfl (zY (h:=zfT b.League.Rules) zoy rfl rfl rfl) ?_;refine gz1 ?_;refine uB 7 rfl ((by first|exact zu rfl|exact zk rfl)) ?_;refine uB 8 rfl ((by first|exact zg zew rfl zp (by decide) rfl|exact zd zew rfl zp (by decide) rfl)) ?_;refine uB 9 rfl (zY (h:=eSs p.Positions) zp rfl rfl rfl) ?_;refine gz2 ?_;refine uB 12 rfl (zB (f:=zbP) (l:=wlL b w n) (j:=i0) (a:=x0) zmJ zbU rfl rfl rfl e2) ?_;refine uB 13 rfl (zai (h:=zbP x0) zbU rfl rfl rfl rfl) ?_;refine uB 14 rfl (uCl ca82 rfl (zrf (R:=b.League.Rules) (pos:=p.Positions) (x:=x0) hla.ru hla.rw' hX.ru (hX.po p hpm) (zvz hk1 (Ab e2)))) ?_;refine gz4 ?_;refine uF 19 ?_
       first
       |refine zA (uY 0 ?_)
       |refine zA (uY 1 ?_)
       |refine zA (uY 2 ?_)
       |refine zA (uY 3 ?_)
       refine ⟨uE,?_⟩
       refine gz6 ?_;refine zW rfl (fun h9=> ?_) (fun h9=> ?_)
       ·exfalso
        try simp at h9
        done
       ·try simp at h9
        refine gz2 ?_;refine ze (Ghost.perm (M':=[.cells b16 (zb (zcr sc)),.arr u 5 ((zkd b.League (wlL b w n) ((zfu b t w).take k)).map zcr)]) (zn (by first|(rw [zlI hp e3] at hsc;cases hsc;rfl)|(rw [zlH hp (zoa uO)] at hsc;cases hsc;rfl)))) ?_;refine ze (zbV 16 (i:=0) rfl rfl) ?_;refine gz2 ?_;refine dq (zai (h:=zcr sc) zen rfl rfl rfl rfl) ?_;refine dq (za (hs:=[_]) zkf zen rfl rfl (by decide) (by decide) rfl) ?_;refine de rfl (zO (i:=0) zkf zen rfl rfl rfl rfl rfl (by simp [zaw,zb]) (by have:=zoS b.League (wlL b w n) ((zfu b t w).take k);simp only [Ag,Ai,AD,Ax] at*;omega) fun v100=> ?_)
        refine gz8 ?_;exact ⟨k+1,v100,⟨by omega,trivial⟩,uD,⟨rfl,rfl,trivial⟩,uK,zn (by dsimp only;rw [zpR hs,hsc];simp)⟩
      ·refine gz2 ?_;refine ze (Ghost.perm (M':=[.cells b16 (zb (zcr sc)),.arr u 5 ((zkd b.League (wlL b w n) ((zfu b t w).take k)).map zcr)]) (zn (by first|(rw [zlI hp e3] at hsc;cases hsc;rfl)|(rw [zlH hp (zoa uO)] at hsc;cases hsc;rfl)))) ?_;refine ze (zbV 16 (i:=0) rfl rfl) ?_;refine gz2 ?_;refine dq (zai (h:=zcr sc) zen rfl rfl rfl rfl) ?_;refine dq (za (hs:=[_]) zkf zen rfl rfl (by decide) (by decide) rfl) ?_;refine de rfl (zO (i:=0) zkf zen rfl rfl rfl rfl rfl (by simp [zaw,zb]) (by have:=zoS b.League (wlL b w n) ((zfu b t w).take k);simp only [Ag,Ai,AD,Ax] at*;omega) fun v100=> ?_)
       refine gz8 ?_;exact ⟨k+1,v100,⟨by omega,trivial⟩,uD,⟨rfl,rfl,trivial⟩,uK,zn (by dsimp only;rw [zpR hs,hsc];simp)⟩
   ·have hnk:(zfu b t w).length<=k:=by omega
    obtain rfl:k=(zfu b t w).length:=by omega
    rw [Ak];refine gz2 ?_;refine zM ?_;refine gz8 ?_
    first
    |exact zaq rfl (zC (by rw [zq7,if_pos (by simpa using h1)];exact zt 5) (Weak.refl _))
    | (refine zap (zaB 6 (i:=0) rfl rfl) rfl ⟨?_,rfl⟩
       rw [zq7,if_neg (fun q=>q hz),hz]
       rfl)
end
end Go.Proofs.YtbmggbfabohegaaGreatDoor
namespace Go.HL
section
section
variable {fit:Nat->Nat->Bool} {w:Nat->Int} {T:Nat->Bool} {fr m:Nat}
end
section
variable {fit:Nat->Nat->Bool} {w:Nat->Int} {n N:Nat} {T:Nat->Bool} {fr:Nat}
end
end
section
open Go Op
end
end Go.HL
namespace Go.Proofs.YtbmggbfabohegaaGreatDoor
set_option maxRecDepth 100000
set_option linter.unusedVariables false
set_option linter.unusedSimpArgs false
section
open Go.Proofs.Tryz
open Go.HL
theorem zg4 [Tracks] {l:List GameS} (hl:l.length<=1000000):ztn prog 57 [.slice 8 (l.map zaa)] 8 (l.map zaa):=by
 refine uOb func57 ntmps57 ?_;refine gz6 ?_;refine de rfl (znU zcI rfl rfl fun b4 hb4=> ?_)
 refine gz1 ?_;refine uCo (fun h1=> ?_) fun h2=> ?_
 refine gz4 ?_;exact zap (zN 8) rfl ⟨_,rfl,by simp_all⟩;refine gz3 ?_;refine de rfl (zrs zcI za7 fun v5=> ?_)
 refine gz1 ?_;refine de rfl (zO (i:=0) zcI za7 rfl rfl rfl rfl rfl (by simp [zaw,zb]) uSo fun v7=> ?_)
 refine gz3 ?_;exact zth rfl rfl
theorem zpx [Tracks] {x:ScorerS} {s:Str}:ConP prog 156 [zcr x,.vptr [.str s] 0] (.bool (x.Player==s)):=by
 refine uOb func156 ntmps156 ?_;refine zdf ?_;refine zx rfl ?_
 rfl
theorem zrc [Tracks] {S:List SlotS} {l:List ScorerS} {c:Option ChoiceS} (hS:S.length<=1000000) (hsp: ∀x∈S,x.Positions.length<=1000000) (hl:l.length<=1000000) (hlp: ∀x∈l,x.Positions.length<=1000000) (hcl: ∀c0,c=some c0->c0.Players.length=S.length):ConP prog 74 [zeE S,ze0 l,pCh c] (zlw (zcS l c S S.length)):=by
 refine uOb func74 ntmps74 ?_;refine gz6 ?_;refine ze (zN 2) ?_;refine gz1 ?_;refine de rfl (zaK fun m14=> ?_)
 refine gz9 ?_;refine uV2 [7,1,9,5,17,47] (fun (k:Nat) (u:Value)=>[(17,.int .i64 k),(7,.raw u)]) (fun (k:Nat) (u:Value)=>[.arr u 2 ((zcS l c S k).map zb0),.map m14 (sk (zaU (zb1 l c S k).2))]) (fun (k:Nat) (u:Value)=>k<=S.length/\(True)) (fun (k:Nat) (u:Value)=>S.length-k) (0) (.slice none 0 0) ?_ ?_ ?_ ?_;exact ⟨Ad _,trivial⟩;exact ⟨rfl,rfl,trivial⟩;exact uP
 intro k u hinv
 obtain ⟨hk,-⟩:=hinv;refine gz4 ?_;refine uCo (fun h1=> ?_) fun h2=> ?_
 obtain ⟨x,hx⟩: ∃x,S[k]? =some x:=⟨_,Aa h1⟩
 have hdx:=zi hx;have hx0:=hx;have hxl:=zo hx;have hsk:S.getD k ze6=x:=by rw [Af,hx];rfl
 refine gz8 ?_;refine de rfl (zj zdt rfl fun b10=> ?_)
 refine gz1 ?_;refine de0 (zl zdt rfl rfl rfl rfl rfl ?_)
 refine gz1 ?_;refine ze (zm 10 rfl) ?_;refine gz1 ?_;refine dq ((by first|exact zg zdt rfl ty9 (by decide) rfl|exact zd zdt rfl ty9 (by decide) rfl)) ?_;refine gz1 ?_;refine dq (zG (cs:=[_,_]) zhZ pl71 rfl) ?_;refine de rfl (zj zhZ rfl fun b11=> ?_)
 focus first
 |refine de0 (uY 0 ?_)
 |refine de0 (uY 1 ?_)
 |refine de0 (uY 2 ?_)
 |refine de0 (uY 3 ?_)
 refine gz4 ?_;refine dq (zvI (o:=c.map fun c=>zb (zar c)) zjx rfl rfl) ?_;refine gz1 ?_;refine uCo (fun h3=> ?_) fun h4=> ?_
 obtain ⟨c0,hc0⟩: ∃c0,c=some c0:=by
  cases c with
  |none=>simp_all
  |some c0=>exact ⟨c0,rfl⟩
 subst hc0;have hcn:=hcl c0 rfl;refine gz2 ?_;refine dq ((by first|exact zu rfl|exact zk rfl)) ?_;refine dq ((by first|exact zg zeg rfl zp (by decide) rfl|exact zd zeg rfl zp (by decide) rfl)) ?_;refine dq (zY (h:=eSs c0.Players) zp rfl rfl rfl) ?_;refine gz1 ?_;refine dq (zB (f:=HVal.str) (l:=c0.Players) (j:=k) (a:=zgC c0 k) zp ty9 rfl rfl rfl (getD_some uO)) ?_;refine gz1 ?_;refine de rfl (zj ty9 rfl fun b12=> ?_)
 refine de0 (zl ty9 rfl rfl rfl rfl rfl ?_)
 refine gz1 ?_;refine ze (zm 12 rfl) ?_;refine gz3 ?_;refine dq (uCl ca36 rfl (zeY (l:=l) (p:=fun x=>x.Player==zgC c0 k) zDx (fun _=>zpx) hl)) ?_;refine gz2 ?_;obtain ⟨z,i0,hz1,hz2,hz3⟩:=zzc l (zgC c0 k);rw [hz1];refine zbt (fun M=>M=[.cells b11 [.str x.Key,.str []],.arr u 2 ((zcS l (some c0) S k).map zb0),.map m14 (sk (zaU (zb1 l (some c0) S k).2))]) [5] mixed ?_;refine gz5 ?_;refine zpq 5 rfl rfl (by kernel_rfl) (by kernel_rfl) (by simp) rfl rfl (fun hc=>⟨_,OpenTo.upd (t:=41) rfl uC (OpenTo.upd (t:=40) rfl uC (OpenTo.refl _)),fun M hM=>by
  subst hM;exact zrr (i:=2) zix ty9 ty4 rfl rfl rfl ⟨rfl,rfl⟩
  ⟩) ?_
 refine gz5 ?_;refine ahg 11 rfl rfl (by kernel_rfl) (by kernel_rfl) rfl (fun hc=>by
  have hq:0<=z:=by (have q:=hc;simp at q;omega)
  exact ⟨_,OpenTo.upd (t:=47) rfl uC (OpenTo.upd (t:=46) rfl uC (OpenTo.refl _)),zB (f:=zcr) (l:=l) (j:=i0) (a:=l.getD i0 zcv) zkf zen rfl (by rw [<-(hz2 hq).1];rfl) rfl (hz2 hq).2.1⟩) ?_
 refine uGy 12 rfl rfl (fun hc=>(by first|exact zg zen rfl zp (by decide) rfl|exact zd zen rfl zp (by decide) rfl)) ?_;refine uGy 13 rfl rfl (fun hc=>zY (h:=eSs (l.getD i0 zcv).Positions) zp rfl rfl rfl) ?_;refine uGy 14 rfl rfl (fun hc=>(by first|exact zg zdt rfl zp (by decide) rfl|exact zd zdt rfl zp (by decide) rfl)) ?_;refine uGy 15 rfl rfl (fun hc=>zY (h:=eSs x.Positions) zp rfl rfl rfl) ?_;refine ahg 16 rfl rfl (by kernel_rfl) (by kernel_rfl) rfl (fun hc=>by
  have hq:0<=z:=by (have q:=hc;simp at q;omega)
  exact ⟨_,OpenTo.upd (t:=52) rfl uC (OpenTo.upd (t:=50) rfl uC (OpenTo.refl _)),uCl zwf rfl (zi2 (a:=(l.getD i0 zcv).Positions) (b:=x.Positions) (hlp _ (Ab (hz2 hq).2.1)) (hsp x (Ab hx0)))⟩) ?_
 refine gz2 ?_;refine uCo (fun h5=> ?_) fun h6=> ?_
 refine zgB mixed ?_;refine gz4 ?_;refine uF 4 ?_
 focus first
 |refine zA (uY 0 ?_)
 |refine zA (uY 1 ?_)
 |refine zA (uY 2 ?_)
 |refine zA (uY 3 ?_)
 refine ⟨uE,?_⟩
 refine uF 5 ?_
 focus first
 |refine zA (zcR (i:=0) zix ty9 rfl rfl rfl rfl ?_)
 |refine zA (zcR (i:=1) zix ty9 rfl rfl rfl rfl ?_)
 |refine zA (zcR (i:=2) zix ty9 rfl rfl rfl rfl ?_)
 |refine zA (zcR (i:=3) zix ty9 rfl rfl rfl rfl ?_)
 refine ⟨uE,?_⟩
 refine gz2 ?_
 focus first
 |refine ze (Ghost.perm (M':=[.cells b11 (zb (zb0 ⟨x.Key,zgC c0 k⟩)),.arr u 2 ((zcS l (some c0) S k).map zb0),.map m14 (sk (zaU (zb8 (zgC c0 k) (zb1 l (some c0) S k).2)))]) (zn rfl)) ?_
 |refine ze (Ghost.perm (M':=[.cells b11 (zb (zb0 ⟨x.Key,[]⟩)),.arr u 2 ((zcS l (some c0) S k).map zb0),.map m14 (sk (zaU (zb1 l (some c0) S k).2))]) (zn rfl)) ?_
 |refine ze (Ghost.perm (M':=[.cells b11 (zb (zb0 ⟨x.Key,[]⟩)),.arr u 2 ((zcS l c S k).map zb0),.map m14 (sk (zaU (zb1 l c S k).2))]) (zn rfl)) ?_
 refine ze (zbV 11 (i:=0) rfl rfl) ?_
 first|have hfn:=ze1 l (some c0) S k|have hfn:=ze1 l c S k
 refine gz3 ?_;refine dq (za (hs:=[_]) zoA zhZ rfl rfl (by decide) (by decide) rfl) ?_;refine de rfl (zO (i:=0) zoA zhZ rfl rfl rfl rfl rfl (by simp [zaw,zb]) (by simp only [Ag,Ai,AD];omega) fun v62=> ?_)
 refine gz8 ?_;have hyes:=zrt (l:=l) (c:=some c0) (S:=S) (n:=k) (by rw [zvE hz2 hz3,hsk];clear hz2 hz3 hz1 hsp hlp hcl;simp_all);exact ⟨k+1,v62,⟨by omega,trivial⟩,uD,⟨rfl,rfl,trivial⟩,uK,zn (by dsimp only;unfold zcS;rw [hyes,hsk];simp only [Ay];try rfl)⟩;refine gz2 ?_
 focus first
 |refine ze (Ghost.perm (M':=[.cells b11 (zb (zb0 ⟨x.Key,zgC c0 k⟩)),.arr u 2 ((zcS l (some c0) S k).map zb0),.map m14 (sk (zaU (zb8 (zgC c0 k) (zb1 l (some c0) S k).2)))]) (zn rfl)) ?_
 |refine ze (Ghost.perm (M':=[.cells b11 (zb (zb0 ⟨x.Key,[]⟩)),.arr u 2 ((zcS l (some c0) S k).map zb0),.map m14 (sk (zaU (zb1 l (some c0) S k).2))]) (zn rfl)) ?_
 |refine ze (Ghost.perm (M':=[.cells b11 (zb (zb0 ⟨x.Key,[]⟩)),.arr u 2 ((zcS l c S k).map zb0),.map m14 (sk (zaU (zb1 l c S k).2))]) (zn rfl)) ?_
 refine ze (zbV 11 (i:=0) rfl rfl) ?_
 first|have hfn:=ze1 l (some c0) S k|have hfn:=ze1 l c S k
 refine gz3 ?_;refine dq (za (hs:=[_]) zoA zhZ rfl rfl (by decide) (by decide) rfl) ?_;refine de rfl (zO (i:=0) zoA zhZ rfl rfl rfl rfl rfl (by simp [zaw,zb]) (by simp only [Ag,Ai,AD];omega) fun v62=> ?_)
 refine gz8 ?_;have hno:=zqq (l:=l) (c:=some c0) (S:=S) (n:=k) (by rw [zvE hz2 hz3,hsk];clear hz2 hz3 hz1 hsp hlp hcl;simp_all);exact ⟨k+1,v62,⟨by omega,trivial⟩,uD,⟨rfl,rfl,trivial⟩,uK,zn (by dsimp only;unfold zcS;rw [hno,hsk];simp only [Ay];try rfl)⟩;refine gz2 ?_
 focus first
 |refine ze (Ghost.perm (M':=[.cells b11 (zb (zb0 ⟨x.Key,zgC c0 k⟩)),.arr u 2 ((zcS l (some c0) S k).map zb0),.map m14 (sk (zaU (zb8 (zgC c0 k) (zb1 l (some c0) S k).2)))]) (zn rfl)) ?_
 |refine ze (Ghost.perm (M':=[.cells b11 (zb (zb0 ⟨x.Key,[]⟩)),.arr u 2 ((zcS l (some c0) S k).map zb0),.map m14 (sk (zaU (zb1 l (some c0) S k).2))]) (zn rfl)) ?_
 |refine ze (Ghost.perm (M':=[.cells b11 (zb (zb0 ⟨x.Key,[]⟩)),.arr u 2 ((zcS l c S k).map zb0),.map m14 (sk (zaU (zb1 l c S k).2))]) (zn rfl)) ?_
 refine ze (zbV 11 (i:=0) rfl rfl) ?_
 first|have hfn:=ze1 l (some c0) S k|have hfn:=ze1 l c S k
 refine gz3 ?_;refine dq (za (hs:=[_]) zoA zhZ rfl rfl (by decide) (by decide) rfl) ?_;refine de rfl (zO (i:=0) zoA zhZ rfl rfl rfl rfl rfl (by simp [zaw,zb]) (by simp only [Ag,Ai,AD];omega) fun v62=> ?_)
 refine gz8 ?_;have hcn:c=none:=by cases c with|none=>rfl|some c0=>simp_all
 subst hcn;have hno:=zqq (l:=l) (c:=none) (S:=S) (n:=k) rfl;exact ⟨k+1,v62,⟨by omega,trivial⟩,uD,⟨rfl,rfl,trivial⟩,uK,zn (by dsimp only;unfold zcS;rw [hno,hsk];simp only [Ay];try rfl)⟩;have hnk:S.length<=k:=by omega
 obtain rfl:k=S.length:=by omega
 refine gz2 ?_;refine zM ?_;refine gz7 ?_;exact zap ((zaB 6 (i:=0) rfl rfl).trans Ghost.clear) rfl ⟨rfl,rfl⟩
theorem zkm [Tracks] {x:FillS} {o:Option ChoiceS} (hq:o.isSome=true):ConP prog 76 [zb0 x,.vptr [pCh o] 0] (.bool (x.Player==(zeC o).Captain)):=by
 refine uOb func76 ntmps76 ?_;refine gz4 ?_;refine uDr mixed ?_;refine gz2 ?_;refine uB 2 rfl (z8 (h':= .vptr (zb (zar (zeC o))) 0) (zY (h:=pCh o) zjx rfl rfl rfl) (zpP hq)) ?_;refine uB 3 rfl ((by first|exact zu rfl|exact zk rfl)) ?_;refine gz6 ?_;refine zx rfl ?_
 rfl
theorem zlq [Tracks] {b:BookS} {n w:Int} {t:Str} (hT:Tracks.on=false) (hb:BookC b) (hX:BookX b) (hwk:za1 w=true) (hnm:zU n=true) (htm:b.League.Teams.contains t=true):ConP prog 33 [zfA b n,.str t,.int .i64 w] (.tup [ze0 (FdL b t w n),zlw (FdF b t w n),.str (FdP b t w n),.int .i64 (fdE b t w n)]):=by
 have hW:=hX.w;have hla:=hb.bb.lea;have hdn: ∀y∈dsL b t w n,(-1000000000000000<=y.Num/\y.Num<=1000000000000000)/\ -1000000000<=y.Den/\y.Den<=1000000000:=zyv hX.ru (zAM hX hb hwk n)
 have hdp: ∀y∈dsL b t w n,y.Positions.length<=1000000:=zvS hla.po
 have hdl:(dsL b t w n).length<=1000000:=Au (zoS b.League (wlL b w n) (zfu b t w)) (by
  have q2:=((zoR (b:=b.League.Bounds) (n:=za9 b.League w) hW.f.mo).p t).2
  show (rPl (zgU b.League.Bounds b.Moves (za9 b.League w)) t).length<=1000000
  omega)
 have hsl:=hW.sl;have hwr:1<=w/\w<=60:=by unfold za1 out at hwk;simp at hwk;omega
 refine uOb func33 ntmps33 ?_;refine gz8 ?_;refine dq (zai (h:=zfA b n) zbL rfl rfl rfl rfl) ?_;refine gz2 ?_;refine dq (uCl ca34 rfl (zlr (b:=b) (n:=n) (w:=w) (t:=t) hT hb hX hwk hnm htm)) ?_;refine zcj ?_;refine uCo (fun h1=> ?_) fun h2=> ?_
 refine gz8 ?_
 focus first
 | (have q1:fdE b t w n=wlE b w n:=zqp (by simpa using h1)
    have q2:fdE b t w n≠0:=by rw [q1];simpa using h1
    refine zaq rfl (zeU (by rw [FdL,if_pos q2];exact zt 5) (by rw [FdF,if_pos q2];exact zt 2) (by rw [FdP,if_pos q2];exact Weak.refl _) (by rw [q1];exact Weak.refl _)))
 | (have q1:fdE b t w n=zil (dsL b t w n):=zn0 hz
    have q2:fdE b t w n≠0:=by rw [q1];simpa using h3
    refine zaq rfl (zeU (by rw [FdL,if_pos q2];exact zt 5) (by rw [FdF,if_pos q2];exact zt 2) (by rw [FdP,if_pos q2];exact Weak.refl _) (by rw [q1];exact Weak.refl _)))
 | (refine zx rfl ?_
    rw [FdL,FdF,FdP,if_neg (fun q=>q hfz),if_neg (fun q=>q hfz),if_neg (fun q=>q hfz),hfz]
    focus first
    |(rw [show fdP b t w n=(zeC (fdC b t w n)).Captain from zme h5];focus first|done|rfl)
    | (rw [show fdP b t w n=[] from zoF h6];focus first|done|rfl))
 refine gz3 ?_;have hz:wlE b w n=0:=by simpa using h2
 rw [zq7,if_neg (fun q=>q hz)];refine gz2 ?_;refine dq (uCl ca72 rfl (zhD (l:=dsL b t w n) hdl hdp hdn)) ?_;refine gz6 ?_;refine uCo (fun h3=> ?_) fun h4=> ?_
 refine gz8 ?_
 focus first
 | (have q1:fdE b t w n=wlE b w n:=zqp (by simpa using h1)
    have q2:fdE b t w n≠0:=by rw [q1];simpa using h1
    refine zaq rfl (zeU (by rw [FdL,if_pos q2];exact zt 5) (by rw [FdF,if_pos q2];exact zt 2) (by rw [FdP,if_pos q2];exact Weak.refl _) (by rw [q1];exact Weak.refl _)))
 | (have q1:fdE b t w n=zil (dsL b t w n):=zn0 hz
    have q2:fdE b t w n≠0:=by rw [q1];simpa using h3
    refine zaq rfl (zeU (by rw [FdL,if_pos q2];exact zt 5) (by rw [FdF,if_pos q2];exact zt 2) (by rw [FdP,if_pos q2];exact Weak.refl _) (by rw [q1];exact Weak.refl _)))
 | (refine zx rfl ?_
    rw [FdL,FdF,FdP,if_neg (fun q=>q hfz),if_neg (fun q=>q hfz),if_neg (fun q=>q hfz),hfz]
    focus first
    |(rw [show fdP b t w n=(zeC (fdC b t w n)).Captain from zme h5];focus first|done|rfl)
    | (rw [show fdP b t w n=[] from zoF h6];focus first|done|rfl))
 refine gz2 ?_;have hs0:zil (dsL b t w n)=0:=by simp_all
 have hfz:fdE b t w n=0:=(zn0 hz).trans hs0;have hfl:(fdF b t w n).length=b.League.Slots.length:=ze1 (dsL b t w n) (fdC b t w n) b.League.Slots b.League.Slots.length;refine uDr mixed ?_;refine uB 0 rfl (zai (h:=zfA b n) zbL rfl rfl rfl rfl) ?_;refine gz3 ?_;refine uB 4 rfl (zY (h:= .vptr (zb (zbk b)) 0) zbF rfl rfl rfl) ?_;refine uB 5 rfl ((by first|exact zu rfl|exact zk rfl)) ?_;refine gz2 ?_;refine uB 8 rfl (uCl zyR rfl (zg2 (b:=b) hla.sta uO)) ?_;refine uB 9 rfl (uCl ca73 rfl (zl0 (b:=b) (n:=n) (w:=w) (t:=t) (f:=za9 b.League w) hb.bb.ch)) ?_;refine uF 10 ?_;refine zv rfl (zj zjx rfl fun b10=> ?_)
 refine ⟨uE,?_⟩
 refine uF 11 ?_;refine zA (zl (h:=pCh (fdC b t w n)) zjx rfl rfl (zBH _) (zxN _) rfl ?_)
 refine ⟨uE,?_⟩
 refine gz1 ?_;refine ze (zm 10 rfl) ?_;rw [show zb (pCh (fdC b t w n))=[pCh (fdC b t w n)] from zwq _];refine uDr mixed ?_;refine gz1 ?_;refine uB 1 rfl (zY (h:= .vptr (zb (zbk b)) 0) zbF rfl rfl rfl) ?_;refine uB 2 rfl ((by first|exact zu rfl|exact zk rfl)) ?_;refine gz2 ?_;refine uB 5 rfl (zY (h:=zeE b.League.Slots) zfv rfl rfl rfl) ?_;refine gz2 ?_;refine uB 8 rfl (uCl ca74 rfl (zrc (S:=b.League.Slots) (l:=dsL b t w n) (c:=(fdC b t w n)) hla.sl hla.sp hdl hdp (fun c0 e=>zBd hW e))) ?_;refine gz4 ?_;refine dq (zY (h:=pCh (fdC b t w n)) zjx rfl rfl rfl) ?_;refine dq (zvI (o:=(fdC b t w n).map fun c=>zb (zar c)) zjx rfl rfl) ?_;refine gz1 ?_;refine dg rfl rfl (fun hc=>by
  have hq:(fdC b t w n).isSome=true:=by (have q:=hc;cases hv:(fdC b t w n)<;>simp_all)
  exact ⟨_,OpenTo.refl _,z8 (h':= .vptr (zb (zar (zeC (fdC b t w n)))) 0) (zY (h:=pCh (fdC b t w n)) zjx rfl rfl rfl) (zpP hq)⟩) ?_
 refine uGr rfl (fun hc=>(by first|exact zu rfl|exact zk rfl)) ?_;refine gz7 ?_;refine dg rfl rfl (fun hc=>by
  have hq:(fdC b t w n).isSome=true:=by (have q:=hc;cases hv:(fdC b t w n)<;>simp_all)
  exact ⟨_,OpenTo.upd (t:=56) rfl uC (OpenTo.upd (t:=55) rfl uC (OpenTo.refl _)),uCl ca75 rfl (zcL (l:=fdF b t w n) (p:=fun x=>x.Player==(zeC (fdC b t w n)).Captain) ca76 (fun _=>zkm hq) uO)⟩) ?_
 refine gz2 ?_;refine uCo (fun h5=> ?_) fun h6=> ?_
 have hq:(fdC b t w n).isSome=true:=by cases hv:(fdC b t w n)<;>simp_all
 refine gz1 ?_;refine dq (z8 (h':= .vptr (zb (zar (zeC (fdC b t w n)))) 0) (zY (h:=pCh (fdC b t w n)) zjx rfl rfl rfl) (zpP hq)) ?_;refine dq ((by first|exact zu rfl|exact zk rfl)) ?_;refine zhL ?_
 focus first
 | (have q1:fdE b t w n=wlE b w n:=zqp (by simpa using h1)
    have q2:fdE b t w n≠0:=by rw [q1];simpa using h1
    refine zaq rfl (zeU (by rw [FdL,if_pos q2];exact zt 5) (by rw [FdF,if_pos q2];exact zt 2) (by rw [FdP,if_pos q2];exact Weak.refl _) (by rw [q1];exact Weak.refl _)))
 | (have q1:fdE b t w n=zil (dsL b t w n):=zn0 hz
    have q2:fdE b t w n≠0:=by rw [q1];simpa using h3
    refine zaq rfl (zeU (by rw [FdL,if_pos q2];exact zt 5) (by rw [FdF,if_pos q2];exact zt 2) (by rw [FdP,if_pos q2];exact Weak.refl _) (by rw [q1];exact Weak.refl _)))
 | (refine zx rfl ?_
    rw [FdL,FdF,FdP,if_neg (fun q=>q hfz),if_neg (fun q=>q hfz),if_neg (fun q=>q hfz),hfz]
    focus first
    |(rw [show fdP b t w n=(zeC (fdC b t w n)).Captain from zme h5];focus first|done|rfl)
    | (rw [show fdP b t w n=[] from zoF h6];focus first|done|rfl))
 refine zdf ?_
 focus first
 | (have q1:fdE b t w n=wlE b w n:=zqp (by simpa using h1)
    have q2:fdE b t w n≠0:=by rw [q1];simpa using h1
    refine zaq rfl (zeU (by rw [FdL,if_pos q2];exact zt 5) (by rw [FdF,if_pos q2];exact zt 2) (by rw [FdP,if_pos q2];exact Weak.refl _) (by rw [q1];exact Weak.refl _)))
 | (have q1:fdE b t w n=zil (dsL b t w n):=zn0 hz
    have q2:fdE b t w n≠0:=by rw [q1];simpa using h3
    refine zaq rfl (zeU (by rw [FdL,if_pos q2];exact zt 5) (by rw [FdF,if_pos q2];exact zt 2) (by rw [FdP,if_pos q2];exact Weak.refl _) (by rw [q1];exact Weak.refl _)))
 | (refine zx rfl ?_
    rw [FdL,FdF,FdP,if_neg (fun q=>q hfz),if_neg (fun q=>q hfz),if_neg (fun q=>q hfz),hfz]
    focus first
    |(rw [show fdP b t w n=(zeC (fdC b t w n)).Captain from zme h5];focus first|done|rfl)
    | (rw [show fdP b t w n=[] from zoF h6];focus first|done|rfl))
theorem zhz [Tracks] {b:BookS} {n w:Int} {t:Str} (hT:Tracks.on=false) (hb:BookC b) (hX:BookX b) (hwk:za1 w=true) (hnm:zU n=true) (htm:b.League.Teams.contains t=true):ConP prog 59 [zfA b n,.str t,.int .i64 w] (.tup [zis (PtF b t w n),.int .i64 (fdE b t w n)]):=by
 have hW:=hX.w;have hla:=hb.bb.lea;have hdn: ∀y∈dsL b t w n,(-1000000000000000<=y.Num/\y.Num<=1000000000000000)/\ -1000000000<=y.Den/\y.Den<=1000000000:=zyv hX.ru (zAM hX hb hwk n)
 have hdp: ∀y∈dsL b t w n,y.Positions.length<=1000000:=zvS hla.po
 have hdl:(dsL b t w n).length<=1000000:=Au (zoS b.League (wlL b w n) (zfu b t w)) (by
  have q2:=((zoR (b:=b.League.Bounds) (n:=za9 b.League w) hW.f.mo).p t).2
  show (rPl (zgU b.League.Bounds b.Moves (za9 b.League w)) t).length<=1000000
  omega)
 have hsl:=hW.sl;refine zba func59 rfl ntmps59 rfl rfl ?_;refine gz2 ?_;refine de rfl (zj zax rfl fun b6=> ?_)
 refine gz3 ?_;refine dq (zai (h:=zfA b n) zbL rfl rfl rfl rfl) ?_;refine gz2 ?_;refine dq (uCl ca33 rfl (zlq (b:=b) (n:=n) (w:=w) (t:=t) hT hb hX hwk hnm htm)) ?_;refine zhL ?_;refine uCo (fun h1=> ?_) fun h2=> ?_
 refine gz1 ?_;refine dq (zG (cs:=[_,_]) zax zle rfl) ?_;refine gz1 ?_
 focus first
 |refine de0 (uY 0 ?_)
 |refine de0 (uY 1 ?_)
 |refine de0 (uY 2 ?_)
 |refine de0 (uY 3 ?_)
 refine gz3 ?_
 focus first
 |exact ⟨_,_,zm 6 rfl,[_,_],_,⟨⟨_,_,_,_,_,rfl,zax,.inr ⟨rfl,rfl,rfl⟩⟩,⟨rfl,trivial⟩⟩,zC (by rw [PtF,if_pos (by simpa using h1)];exact Weak.refl _) (Weak.refl _),rfl,rfl⟩
 |exact ⟨_,_,zm 6 rfl,[_,_],_,⟨⟨_,_,_,_,_,rfl,zax,.inr ⟨rfl,rfl,rfl⟩⟩,⟨rfl,trivial⟩⟩,zC (by rw [PtF,if_neg (fun q=>q hfz)];exact Weak.refl _) (by rw [hfz];exact Weak.refl _),rfl,rfl⟩
 refine gz2 ?_;have hfz:fdE b t w n=0:=by simpa using h2
 obtain ⟨hz,hs0,hsk⟩:=zAI hfz;rw [FdL,FdF,FdP,if_neg (fun q=>q hfz),if_neg (fun q=>q hfz),if_neg (fun q=>q hfz)];refine gz2 ?_;refine dq (zY (h:= .vptr (zb (zbk b)) 0) zbF rfl rfl rfl) ?_;refine dq ((by first|exact zu rfl|exact zk rfl)) ?_;refine gz2 ?_;refine dq (zY (h:=zeE b.League.Slots) zfv rfl rfl rfl) ?_;refine gz3 ?_;refine dq (uCl zDh rfl (zuP (S:=b.League.Slots) (l:=dsL b t w n) (f:=fdF b t w n) (c:=fdP b t w n) hX.sl hla.sl hla.sp hs0 hdl hdn (zCk hsk (fdC b t w n) b.League.Slots b.League.Slots.length) hsl (fun q=>zCd q))) ?_;refine gz2 ?_;refine de0 (zl (h:=zis (ofH (ptV b t w n))) zax rfl rfl rfl rfl rfl ?_)
 refine gz3 ?_
 focus first
 |exact ⟨_,_,zm 6 rfl,[_,_],_,⟨⟨_,_,_,_,_,rfl,zax,.inr ⟨rfl,rfl,rfl⟩⟩,⟨rfl,trivial⟩⟩,zC (by rw [PtF,if_pos (by simpa using h1)];exact Weak.refl _) (Weak.refl _),rfl,rfl⟩
 |exact ⟨_,_,zm 6 rfl,[_,_],_,⟨⟨_,_,_,_,_,rfl,zax,.inr ⟨rfl,rfl,rfl⟩⟩,⟨rfl,trivial⟩⟩,zC (by rw [PtF,if_neg (fun q=>q hfz)];exact Weak.refl _) (by rw [hfz];exact Weak.refl _),rfl,rfl⟩
theorem zeA [Tracks] {b:BookS} {n:Int} (hT:Tracks.on=false) (hb:BookC b) (hX:BookX b) (hnm:zU n=true):ConP prog 25 [zfA b n] (.tup [zgI (if zbw b n≠0 then [] else zf5 b n),.int .i64 (zbw b n)]):=by
 have hla:=hb.bb.lea;have hW:=hX.w;have hga:=hla.ga;refine uOb func25 ntmps25 ?_;refine gz6 ?_;refine dq ((by first|exact zg zbL rfl zbF (by decide) rfl|exact zd zbL rfl zbF (by decide) rfl)) ?_;refine dq (zY (h:= .vptr (zb (zbk b)) 0) zbF rfl rfl rfl) ?_;refine dq ((by first|exact zu rfl|exact zk rfl)) ?_;refine dq ((by first|exact zg zbj rfl zaN (by decide) rfl|exact zd zbj rfl zaN (by decide) rfl)) ?_;refine dq ((by first|exact zg zaN rfl zcI (by decide) rfl|exact zd zaN rfl zcI (by decide) rfl)) ?_;refine dq (zY (h:=zgI b.League.Games) zcI rfl rfl rfl) ?_;refine de rfl (uCa ca57 rfl (zg4 (l:=b.League.Games) hga) fun v17=> ?_)
 refine gz5 ?_;refine de rfl (zaR (i:=0) (es:=b.League.Games) zcI rfl rfl ?_)
 refine gz3 ?_;refine uV1 [2,2,5,5,20,63] (fun (k:Nat)=>[(20,.int .i64 k)]) (fun (k:Nat)=>[.arr v17 8 (((b.League.Games.take k).map (gaV b n)++b.League.Games.drop k).map zaa)]) (fun (k:Nat)=>k<=b.League.Games.length/\(∀y∈(b.League.Games.take k),gaE b n y=0)) (fun (k:Nat)=>b.League.Games.length-k) (0) ?_ ?_ ?_ ?_;exact ⟨Ad _,fun y hy=>by simp at hy⟩;exact ⟨rfl,trivial⟩;exact zn (by simp)
 intro k hinv
 obtain ⟨hk,hall⟩:=hinv;refine gz4 ?_;refine uCo (fun h1=> ?_) fun h2=> ?_
 obtain ⟨x,hx⟩: ∃x,b.League.Games[k]? =some x:=⟨_,Aa h1⟩
 have hdx:=zi hx;have hkl:=zo hx;refine gz8 ?_;have hgm:=hX.gm x (Ab hx);have hwr:1<=x.Week/\x.Week<=60:=by have q:=hgm.1;unfold za1 out at q;simp at q;omega
 have hgl:((b.League.Games.take k).map (gaV b n)++b.League.Games.drop k).length=b.League.Games.length:=by rw [Aw,Ag,Ax,Bf];omega
 have hgk:((b.League.Games.take k).map (gaV b n)++b.League.Games.drop k)[k]? =some x:=by rw [Am (by rw [Ag,Ax];omega),Ag,Ax,Cb uO,AI,BY];exact hx
 refine zcT (i:=0) rfl (fun h0 he=> ?_) (fun ob off cap hv hcap=> ?_)
 exfalso;have q:=congrArg List.length he;rw [Ag,AD] at q;omega
 rw [Ag,hgl] at hv hcap;subst hv;refine gz3 ?_;refine dq (zD (j:=k) zcI za7 rfl rfl rfl uO) ?_;refine gz3 ?_;refine zbt (fun M=> ∃i:Nat,M[i]? =some (.arr (.slice (some ⟨ob,off,none⟩) b.League.Games.length cap) 8 (((b.League.Games.take k).map (gaV b n)++b.League.Games.drop k).map zaa))) [7] mixed ?_;refine uB 0 rfl ((by first|exact zg zbL rfl zbF (by decide) rfl|exact zd zbL rfl zbF (by decide) rfl)) ?_;refine uB 1 rfl (zY (h:= .vptr (zb (zbk b)) 0) zbF rfl rfl rfl) ?_;refine uB 2 rfl ((by first|exact zu rfl|exact zk rfl)) ?_;refine uB 3 rfl ((by first|exact zg zbj rfl zaN (by decide) rfl|exact zd zbj rfl zaN (by decide) rfl)) ?_;refine gz1 ?_;refine uB 5 rfl ((by first|exact zu rfl|exact zk rfl)) ?_;refine gz1 ?_;refine uM 7 rfl ⟨0,rfl⟩ (fun M hM=>by obtain ⟨i,hi⟩:=hM;exact zan (i:=i) (j:=k) 0 ty3 rfl uO hi hgk rfl rfl ⟨rfl,rfl⟩) ?_;refine gz1 ?_;refine uB 9 rfl (uCl zyR rfl (zg2 (b:=b) hla.sta uO)) ?_;refine uB 10 rfl ((by first|exact zg zbL rfl ty3 (by decide) rfl|exact zd zbL rfl ty3 (by decide) rfl)) ?_;refine gz3 ?_;refine uCo (fun h3=> ?_) fun h4=> ?_
 refine gz8 ?_;exact ⟨k+1,⟨by omega,zxQ hx hall (by unfold gaE;rw [if_pos uO])⟩,uD,⟨rfl,trivial⟩,uK,zn (by dsimp only;rw [zBi hx (by unfold gaV;rw [if_pos uO])])⟩;refine gz2 ?_;refine zbt (fun M=> ∃i:Nat,M[i]? =some (.arr (.slice (some ⟨ob,off,none⟩) b.League.Games.length cap) 8 (((b.League.Games.take k).map (gaV b n)++b.League.Games.drop k).map zaa))) [4,8] mixed ?_;refine uB 0 rfl (zai (h:=zfA b n) zbL rfl rfl rfl rfl) ?_;refine gz1 ?_;refine uB 2 rfl ((by first|exact zu rfl|exact zk rfl)) ?_;refine gz1 ?_;refine uM 4 rfl ⟨0,rfl⟩ (fun M hM=>by obtain ⟨i,hi⟩:=hM;exact zan (i:=i) (j:=k) 1 ty9 rfl uO hi hgk rfl rfl ⟨rfl,rfl⟩) ?_;refine gz1 ?_;refine uB 6 rfl ((by first|exact zu rfl|exact zk rfl)) ?_;refine gz1 ?_;refine uM 8 rfl ⟨0,rfl⟩ (fun M hM=>by obtain ⟨i,hi⟩:=hM;exact zan (i:=i) (j:=k) 0 ty3 rfl uO hi hgk rfl rfl ⟨rfl,rfl⟩) ?_;refine uB 9 rfl (uCl ca59 rfl (zhz (b:=b) (n:=n) (w:=x.Week) (t:=x.Home) hT hb hX hgm.1 hnm hgm.2.1)) ?_;refine gz3 ?_;refine uF 13 ?_;refine zv rfl (zj zax rfl fun b7=> ?_)
 refine ⟨uE,?_⟩
 refine uF 14 ?_;refine zA (zl zax rfl rfl rfl rfl rfl ?_)
 refine ⟨uE,?_⟩
 refine gz2 ?_;refine ze (zm 7 rfl) ?_;refine gz5 ?_;refine uCo (fun h5=> ?_) fun h6=> ?_
 refine gz6 ?_
 focus first
 | (obtain ⟨q1,q2⟩:=zmA hx hall (Int.not_lt.2 h4) h5
    exact ziX Ghost.clear rfl (zC (by rw [if_pos q2];exact zt 8) (by rw [q1];exact Weak.refl _)) ⟨rfl,rfl⟩)
 | (obtain ⟨q1,q2⟩:=zmz hx hall (Int.not_lt.2 h4) hf1 h7
    exact ziX Ghost.clear rfl (zC (by rw [if_pos q2];exact zt 8) (by rw [q1];exact Weak.refl _)) ⟨rfl,rfl⟩)
 | (have q1:=zhs hgz
    refine zaq rfl (zC (by rw [if_pos (by rw [q1];assumption)];exact zt 8) (by rw [q1];exact Weak.refl _)))
 | (have q1:zbw b n=0:=(zhs hgz).trans uSa
    refine zx rfl ?_;rw [if_neg (fun q=>q q1),q1]
    rfl)
 refine gz2 ?_;have hf1:fdE b x.Home x.Week n=0:=by simp_all
 refine zbt (fun M=> ∃i:Nat,M[i]? =some (.arr (.slice (some ⟨ob,off,none⟩) b.League.Games.length cap) 8 (((b.League.Games.take k).map (gaV b n)++b.League.Games.drop k).map zaa))) [4,8] mixed ?_;refine uB 0 rfl (zai (h:=zfA b n) zbL rfl rfl rfl rfl) ?_;refine gz1 ?_;refine uB 2 rfl ((by first|exact zu rfl|exact zk rfl)) ?_;refine gz1 ?_;refine uM 4 rfl ⟨0,rfl⟩ (fun M hM=>by obtain ⟨i,hi⟩:=hM;exact zan (i:=i) (j:=k) 2 ty9 rfl uO hi hgk rfl rfl ⟨rfl,rfl⟩) ?_;refine gz1 ?_;refine uB 6 rfl ((by first|exact zu rfl|exact zk rfl)) ?_;refine gz1 ?_;refine uM 8 rfl ⟨0,rfl⟩ (fun M hM=>by obtain ⟨i,hi⟩:=hM;exact zan (i:=i) (j:=k) 0 ty3 rfl uO hi hgk rfl rfl ⟨rfl,rfl⟩) ?_;refine uB 9 rfl (uCl ca59 rfl (zhz (b:=b) (n:=n) (w:=x.Week) (t:=x.Away) hT hb hX hgm.1 hnm hgm.2.2.1)) ?_;refine gz3 ?_;refine uF 13 ?_;refine zv rfl (zj zax rfl fun b9=> ?_)
 refine ⟨uE,?_⟩
 refine uF 14 ?_;refine zA (zl zax rfl rfl rfl rfl rfl ?_)
 refine ⟨uE,?_⟩
 refine gz2 ?_;refine ze (zm 9 rfl) ?_;refine gz5 ?_;refine uCo (fun h7=> ?_) fun h8=> ?_
 refine gz6 ?_
 focus first
 | (obtain ⟨q1,q2⟩:=zmA hx hall (Int.not_lt.2 h4) h5
    exact ziX Ghost.clear rfl (zC (by rw [if_pos q2];exact zt 8) (by rw [q1];exact Weak.refl _)) ⟨rfl,rfl⟩)
 | (obtain ⟨q1,q2⟩:=zmz hx hall (Int.not_lt.2 h4) hf1 h7
    exact ziX Ghost.clear rfl (zC (by rw [if_pos q2];exact zt 8) (by rw [q1];exact Weak.refl _)) ⟨rfl,rfl⟩)
 | (have q1:=zhs hgz
    refine zaq rfl (zC (by rw [if_pos (by rw [q1];assumption)];exact zt 8) (by rw [q1];exact Weak.refl _)))
 | (have q1:zbw b n=0:=(zhs hgz).trans uSa
    refine zx rfl ?_;rw [if_neg (fun q=>q q1),q1]
    rfl)
 refine gz2 ?_;have hf2:fdE b x.Away x.Week n=0:=by simp_all
 have hga0:gaE b n x=0:=by unfold gaE;rw [if_neg uO,if_neg (fun q=>q hf1)];exact hf2
 have hgv:gaV b n x=⟨x.Week,x.Home,x.Away,true,(ofH (ptV b x.Home x.Week n)).Num,(ofH (ptV b x.Home x.Week n)).Den,(ofH (ptV b x.Away x.Week n)).Num,(ofH (ptV b x.Away x.Week n)).Den⟩:=by unfold gaV;rw [if_neg uO]
 rw [PtF,if_neg (fun q=>q hf1),PtF,if_neg (fun q=>q hf2)];refine zgB mixed ?_;refine gz3 ?_;refine uB 3 rfl (zai (h:=zis (ofH (ptV b x.Home x.Week n))) zax rfl rfl rfl rfl) ?_;refine uB 4 rfl (zai (h:=zis (ofH (ptV b x.Away x.Week n))) zax rfl rfl rfl rfl) ?_;refine uB 5 rfl ((by first|exact zu rfl|exact zk rfl)) ?_;refine gz1 ?_;refine uF 7 ?_;refine zA (zR (i:=0) (j:=k) (f:=3) (y:=zaa x) (y':=zaa ⟨x.Week,x.Home,x.Away,true,x.FNum,x.FDen,x.ONum,x.ODen⟩) ty4 rfl uO rfl rfl (za6 hgk) rfl rfl (by simp [zb]) rfl ?_)
 refine ⟨uE,?_⟩
 refine uB 8 rfl ((by first|exact zu rfl|exact zk rfl)) ?_;refine gz1 ?_;refine uF 10 ?_;refine zA (zR (i:=0) (j:=k) (f:=4) (y:=zaa ⟨x.Week,x.Home,x.Away,true,x.FNum,x.FDen,x.ONum,x.ODen⟩) (y':=zaa ⟨x.Week,x.Home,x.Away,true,(ofH (ptV b x.Home x.Week n)).Num,(ofH (ptV b x.Home x.Week n)).Den,x.ONum,x.ODen⟩) zax rfl uO rfl rfl (zaF (za6 hgk)) rfl rfl (by simp [zb]) rfl ?_)
 refine ⟨uE,?_⟩
 refine uB 11 rfl ((by first|exact zu rfl|exact zk rfl)) ?_;refine gz1 ?_;refine uF 13 ?_;refine zA (zR (i:=0) (j:=k) (f:=6) (y:=zaa ⟨x.Week,x.Home,x.Away,true,(ofH (ptV b x.Home x.Week n)).Num,(ofH (ptV b x.Home x.Week n)).Den,x.ONum,x.ODen⟩) (y':=zaa ⟨x.Week,x.Home,x.Away,true,(ofH (ptV b x.Home x.Week n)).Num,(ofH (ptV b x.Home x.Week n)).Den,(ofH (ptV b x.Away x.Week n)).Num,(ofH (ptV b x.Away x.Week n)).Den⟩) zax rfl uO rfl rfl (zaF (zaF (za6 hgk))) rfl rfl (by simp [zb]) rfl ?_)
 refine ⟨uE,?_⟩
 refine gz7 ?_;exact ⟨k+1,⟨by omega,zxQ hx hall hga0⟩,uD,⟨rfl,trivial⟩,uK,zn (by dsimp only;simp only [List.set_cons_zero,List.set_set];rw [zCn hx hgv])⟩;have hnk:b.League.Games.length<=k:=by omega
 obtain rfl:k=b.League.Games.length:=by omega
 refine gz2 ?_;refine zw ?_;refine gz3 ?_;refine ze (zbx (M':=[.arr v17 8 ((zf5 b n).map zaa)]) (by rw [Ak,Bj (Ae _),A3])) ?_;refine ze (zaB 4 (i:=0) rfl rfl) ?_;rw [Ak] at hall;have hgz:=ztW hall;refine gz1 ?_;refine dq ((by first|exact zg zbL rfl zbF (by decide) rfl|exact zd zbL rfl zbF (by decide) rfl)) ?_;refine dq (zY (h:= .vptr (zb (zbk b)) 0) zbF rfl rfl rfl) ?_;refine dq ((by first|exact zu rfl|exact zk rfl)) ?_;refine dq ((by first|exact zg zbj rfl zaN (by decide) rfl|exact zd zbj rfl zaN (by decide) rfl)) ?_;refine dq ((by first|exact zg zaN rfl zp (by decide) rfl|exact zd zaN rfl zp (by decide) rfl)) ?_;refine dq (zY (h:=eSs b.League.Teams) zp rfl rfl rfl) ?_;refine gz1 ?_;refine dq (uCl ca60 rfl (ziL (T:=b.League.Teams) (l:=zf5 b n) hla.tm (by rw [Ag];exact hga) (zCL hb hW hall))) ?_;refine gz6 ?_;refine uCo (fun h9=> ?_) fun h10=> ?_
 refine gz6 ?_
 focus first
 | (obtain ⟨q1,q2⟩:=zmA hx hall (Int.not_lt.2 h4) h5
    exact ziX Ghost.clear rfl (zC (by rw [if_pos q2];exact zt 8) (by rw [q1];exact Weak.refl _)) ⟨rfl,rfl⟩)
 | (obtain ⟨q1,q2⟩:=zmz hx hall (Int.not_lt.2 h4) hf1 h7
    exact ziX Ghost.clear rfl (zC (by rw [if_pos q2];exact zt 8) (by rw [q1];exact Weak.refl _)) ⟨rfl,rfl⟩)
 | (have q1:=zhs hgz
    refine zaq rfl (zC (by rw [if_pos (by rw [q1];assumption)];exact zt 8) (by rw [q1];exact Weak.refl _)))
 | (have q1:zbw b n=0:=(zhs hgz).trans uSa
    refine zx rfl ?_;rw [if_neg (fun q=>q q1),q1]
    rfl)
 refine gz8 ?_
 focus first
 | (obtain ⟨q1,q2⟩:=zmA hx hall (Int.not_lt.2 h4) h5
    exact ziX Ghost.clear rfl (zC (by rw [if_pos q2];exact zt 8) (by rw [q1];exact Weak.refl _)) ⟨rfl,rfl⟩)
 | (obtain ⟨q1,q2⟩:=zmz hx hall (Int.not_lt.2 h4) hf1 h7
    exact ziX Ghost.clear rfl (zC (by rw [if_pos q2];exact zt 8) (by rw [q1];exact Weak.refl _)) ⟨rfl,rfl⟩)
 | (have q1:=zhs hgz
    refine zaq rfl (zC (by rw [if_pos (by rw [q1];assumption)];exact zt 8) (by rw [q1];exact Weak.refl _)))
 | (have q1:zbw b n=0:=(zhs hgz).trans uSa
    refine zx rfl ?_;rw [if_neg (fun q=>q q1),q1]
    rfl)
theorem zpw [Tracks] {b:BookS} {n:Int} (hT:Tracks.on=false) (hb:BookC b):ConP prog 9 [zbk b,.int .i64 n] (.tup [zgI (zq6 b n),.int .i64 (zi0 b n)]):=by
 refine uOb func9 ntmps9 ?_;refine gz8 ?_;refine dq (uCl ca23 rfl (zhB (b:=b) hT hb)) ?_;refine gz6 ?_;refine uCo (fun h1=> ?_) fun h2=> ?_
 refine gz6 ?_
 focus first
 |exact zaq rfl (zC (by rw [zq6,if_pos (by rw [zi0,if_pos (by simpa using h1)];simpa using h1)];exact zt 8) (by rw [zi0,if_pos (by simpa using h1)];exact Weak.refl _))
 | (have q:zi0 b n=zbw b n:=by rw [zi0,if_neg (fun z=>z (by simpa using h2))]
    refine zx rfl ?_;rw [zq6,q])
 refine gz2 ?_;obtain ⟨hbz,hnm⟩:=zwS (b:=b) (n:=n) (by simpa using h2);have hX:=ztC hbz;refine gz2 ?_;refine dq (zG (cs:=[_,_]) zbL zzB rfl) ?_;refine dq (uCl zyO rfl (zeA (b:=b) (n:=n) hT hb hX hnm)) ?_;refine gz6 ?_
 focus first
 |exact zaq rfl (zC (by rw [zq6,if_pos (by rw [zi0,if_pos (by simpa using h1)];simpa using h1)];exact zt 8) (by rw [zi0,if_pos (by simpa using h1)];exact Weak.refl _))
 | (have q:zi0 b n=zbw b n:=by rw [zi0,if_neg (fun z=>z (by simpa using h2))]
    refine zx rfl ?_;rw [zq6,q])
theorem zhA [Tracks] {x:GameS} (h1:1<=x.FDen/\x.FDen<=100) (h2: -100000000<=zcz x.FNum x.FDen/\zcz x.FNum x.FDen<=100000000) (h3:1<=x.ODen/\x.ODen<=100) (h4: -100000000<=zcz x.ONum x.ODen/\zcz x.ONum x.ODen<=100000000):ConP prog 26 [zaa x] (.int .i64 (znT x)):=by
 refine uOb func26 ntmps26 ?_;refine gz4 ?_;refine uDr mixed ?_;refine gz1 ?_;refine uB 1 rfl (z8 (h':= .agg [.int .i64 x.FNum,.int .i64 x.FDen]) (zaS zax rfl rfl (An rfl)) rfl) ?_;refine uB 2 rfl (uCl zwo rfl (zer (n:=x.FNum) (d:=x.FDen) h1 uO)) ?_;refine gz1 ?_;refine uB 4 rfl (z8 (h':= .agg [.int .i64 x.ONum,.int .i64 x.ODen]) (zaS zax rfl rfl (An rfl)) rfl) ?_;refine uB 5 rfl (uCl zwo rfl (zer (n:=x.ONum) (d:=x.ODen) h3 uO)) ?_;refine gz5 ?_;refine dq (zoP rfl rfl) ?_;refine dq (zvH rfl rfl) ?_;refine gz3 ?_;refine zx rfl ?_
 show HVal.int .i64 _=HVal.int .i64 _
 congr 1
 unfold znT
 (repeat' split)<;>omega
theorem zkx [Tracks] {b:BookS} {f t:Int} (hT:Tracks.on=false) (hb:BookC b):ConP prog 7 [zbk b,.int .i64 f,.int .i64 t] (.tup [zBc (zbA b f t),.int .i64 (zac b f t)]):=by
 have hga:=hb.bb.lea.ga;refine uOb func7 ntmps7 ?_;refine gz8 ?_;refine dq (uCl ca23 rfl (zhB (b:=b) hT hb)) ?_;refine gz6 ?_;refine uCo (fun h1=> ?_) fun h2=> ?_
 refine gz6 ?_
 focus first
 |exact zaq rfl (zC (by rw [zbA,if_pos (by rw [zac,if_pos (by simpa using h1)];simpa using h1)];exact zt 5) (by rw [zac,if_pos (by simpa using h1)];exact Weak.refl _))
 | (have q:zac b f t=1:=by rw [zac,if_neg (by simpa using h2),if_pos uSa]
    exact zaq rfl (zC (by rw [zbA,if_pos (by rw [q];decide)];exact zt 5) (by rw [q];exact Weak.refl _)))
 | (have q:zac b f t=7:=by rw [zac,if_neg (by simpa using h2),if_neg uSa,if_pos uO]
    exact zaq rfl (zC (by rw [zbA,if_pos (by rw [q];decide)];exact zt 5) (by rw [q];exact Weak.refl _)))
 | (have q:zac b f t=zbw b f:=by rw [zac,if_neg (by simpa using h2),if_neg (by rw [htm];simp),if_neg uO,if_pos (by assumption)]
    exact zaq rfl (zC (by rw [zbA,if_pos (by rw [q];assumption)];exact zt 5) (by rw [q];exact Weak.refl _)))
 | (have q:zac b f t=zbw b t:=by rw [zac,if_neg (by simpa using h2),if_neg (by rw [htm];simp),if_neg uO,if_neg (fun q=>q hf0)]
    exact zaq rfl (zC (by rw [zbA,if_pos (by rw [q];assumption)];exact zt 5) (by rw [q];exact Weak.refl _)))
 | (have q:zac b f t=0:=by rw [zac,if_neg (by simpa using h2),if_neg (by rw [htm];simp),if_neg uO,if_neg (fun q=>q hf0)];exact ht0
    refine zap (zaB 6 (i:=0) rfl rfl) rfl ⟨?_,rfl⟩
    rw [zbA,if_neg (fun z=>z q),q]
    rfl)
 refine gz6 ?_;refine dq (uCl zi4 rfl zbs) ?_;refine gz3 ?_;refine uCo (fun h3=> ?_) fun h4=> ?_
 refine gz5 ?_
 focus first
 |exact zaq rfl (zC (by rw [zbA,if_pos (by rw [zac,if_pos (by simpa using h1)];simpa using h1)];exact zt 5) (by rw [zac,if_pos (by simpa using h1)];exact Weak.refl _))
 | (have q:zac b f t=1:=by rw [zac,if_neg (by simpa using h2),if_pos uSa]
    exact zaq rfl (zC (by rw [zbA,if_pos (by rw [q];decide)];exact zt 5) (by rw [q];exact Weak.refl _)))
 | (have q:zac b f t=7:=by rw [zac,if_neg (by simpa using h2),if_neg uSa,if_pos uO]
    exact zaq rfl (zC (by rw [zbA,if_pos (by rw [q];decide)];exact zt 5) (by rw [q];exact Weak.refl _)))
 | (have q:zac b f t=zbw b f:=by rw [zac,if_neg (by simpa using h2),if_neg (by rw [htm];simp),if_neg uO,if_pos (by assumption)]
    exact zaq rfl (zC (by rw [zbA,if_pos (by rw [q];assumption)];exact zt 5) (by rw [q];exact Weak.refl _)))
 | (have q:zac b f t=zbw b t:=by rw [zac,if_neg (by simpa using h2),if_neg (by rw [htm];simp),if_neg uO,if_neg (fun q=>q hf0)]
    exact zaq rfl (zC (by rw [zbA,if_pos (by rw [q];assumption)];exact zt 5) (by rw [q];exact Weak.refl _)))
 | (have q:zac b f t=0:=by rw [zac,if_neg (by simpa using h2),if_neg (by rw [htm];simp),if_neg uO,if_neg (fun q=>q hf0)];exact ht0
    refine zap (zaB 6 (i:=0) rfl rfl) rfl ⟨?_,rfl⟩
    rw [zbA,if_neg (fun z=>z q),q]
    rfl)
 refine gz6 ?_;refine uCo (fun h5=> ?_) fun h6=> ?_
 refine gz5 ?_
 focus first
 |exact zaq rfl (zC (by rw [zbA,if_pos (by rw [zac,if_pos (by simpa using h1)];simpa using h1)];exact zt 5) (by rw [zac,if_pos (by simpa using h1)];exact Weak.refl _))
 | (have q:zac b f t=1:=by rw [zac,if_neg (by simpa using h2),if_pos uSa]
    exact zaq rfl (zC (by rw [zbA,if_pos (by rw [q];decide)];exact zt 5) (by rw [q];exact Weak.refl _)))
 | (have q:zac b f t=7:=by rw [zac,if_neg (by simpa using h2),if_neg uSa,if_pos uO]
    exact zaq rfl (zC (by rw [zbA,if_pos (by rw [q];decide)];exact zt 5) (by rw [q];exact Weak.refl _)))
 | (have q:zac b f t=zbw b f:=by rw [zac,if_neg (by simpa using h2),if_neg (by rw [htm];simp),if_neg uO,if_pos (by assumption)]
    exact zaq rfl (zC (by rw [zbA,if_pos (by rw [q];assumption)];exact zt 5) (by rw [q];exact Weak.refl _)))
 | (have q:zac b f t=zbw b t:=by rw [zac,if_neg (by simpa using h2),if_neg (by rw [htm];simp),if_neg uO,if_neg (fun q=>q hf0)]
    exact zaq rfl (zC (by rw [zbA,if_pos (by rw [q];assumption)];exact zt 5) (by rw [q];exact Weak.refl _)))
 | (have q:zac b f t=0:=by rw [zac,if_neg (by simpa using h2),if_neg (by rw [htm];simp),if_neg uO,if_neg (fun q=>q hf0)];exact ht0
    refine zap (zaB 6 (i:=0) rfl rfl) rfl ⟨?_,rfl⟩
    rw [zbA,if_neg (fun z=>z q),q]
    rfl)
 refine gz3 ?_;obtain ⟨hbz,hnm⟩:=zwS (b:=b) (n:=f) (by simpa using h2);have hX:=ztC hbz;have htm:zU t=true:=by simp_all
 have hft:f<=t:=by omega
 refine gz2 ?_;refine dq (zG (cs:=[_,_]) zbL zzB rfl) ?_;refine dq (uCl zyO rfl (zeA (b:=b) (n:=f) hT hb hX hnm)) ?_;refine zcj ?_;refine uCo (fun h7=> ?_) fun h8=> ?_
 refine gz6 ?_
 focus first
 |exact zaq rfl (zC (by rw [zbA,if_pos (by rw [zac,if_pos (by simpa using h1)];simpa using h1)];exact zt 5) (by rw [zac,if_pos (by simpa using h1)];exact Weak.refl _))
 | (have q:zac b f t=1:=by rw [zac,if_neg (by simpa using h2),if_pos uSa]
    exact zaq rfl (zC (by rw [zbA,if_pos (by rw [q];decide)];exact zt 5) (by rw [q];exact Weak.refl _)))
 | (have q:zac b f t=7:=by rw [zac,if_neg (by simpa using h2),if_neg uSa,if_pos uO]
    exact zaq rfl (zC (by rw [zbA,if_pos (by rw [q];decide)];exact zt 5) (by rw [q];exact Weak.refl _)))
 | (have q:zac b f t=zbw b f:=by rw [zac,if_neg (by simpa using h2),if_neg (by rw [htm];simp),if_neg uO,if_pos (by assumption)]
    exact zaq rfl (zC (by rw [zbA,if_pos (by rw [q];assumption)];exact zt 5) (by rw [q];exact Weak.refl _)))
 | (have q:zac b f t=zbw b t:=by rw [zac,if_neg (by simpa using h2),if_neg (by rw [htm];simp),if_neg uO,if_neg (fun q=>q hf0)]
    exact zaq rfl (zC (by rw [zbA,if_pos (by rw [q];assumption)];exact zt 5) (by rw [q];exact Weak.refl _)))
 | (have q:zac b f t=0:=by rw [zac,if_neg (by simpa using h2),if_neg (by rw [htm];simp),if_neg uO,if_neg (fun q=>q hf0)];exact ht0
    refine zap (zaB 6 (i:=0) rfl rfl) rfl ⟨?_,rfl⟩
    rw [zbA,if_neg (fun z=>z q),q]
    rfl)
 refine gz2 ?_;have hf0:zbw b f=0:=by simp_all
 rw [if_neg (fun q=>q hf0)];refine gz2 ?_;refine dq (zG (cs:=[_,_]) zbL zzB rfl) ?_;refine dq (uCl zyO rfl (zeA (b:=b) (n:=t) hT hb hX htm)) ?_;refine zcj ?_;refine uCo (fun h9=> ?_) fun h10=> ?_
 refine gz6 ?_
 focus first
 |exact zaq rfl (zC (by rw [zbA,if_pos (by rw [zac,if_pos (by simpa using h1)];simpa using h1)];exact zt 5) (by rw [zac,if_pos (by simpa using h1)];exact Weak.refl _))
 | (have q:zac b f t=1:=by rw [zac,if_neg (by simpa using h2),if_pos uSa]
    exact zaq rfl (zC (by rw [zbA,if_pos (by rw [q];decide)];exact zt 5) (by rw [q];exact Weak.refl _)))
 | (have q:zac b f t=7:=by rw [zac,if_neg (by simpa using h2),if_neg uSa,if_pos uO]
    exact zaq rfl (zC (by rw [zbA,if_pos (by rw [q];decide)];exact zt 5) (by rw [q];exact Weak.refl _)))
 | (have q:zac b f t=zbw b f:=by rw [zac,if_neg (by simpa using h2),if_neg (by rw [htm];simp),if_neg uO,if_pos (by assumption)]
    exact zaq rfl (zC (by rw [zbA,if_pos (by rw [q];assumption)];exact zt 5) (by rw [q];exact Weak.refl _)))
 | (have q:zac b f t=zbw b t:=by rw [zac,if_neg (by simpa using h2),if_neg (by rw [htm];simp),if_neg uO,if_neg (fun q=>q hf0)]
    exact zaq rfl (zC (by rw [zbA,if_pos (by rw [q];assumption)];exact zt 5) (by rw [q];exact Weak.refl _)))
 | (have q:zac b f t=0:=by rw [zac,if_neg (by simpa using h2),if_neg (by rw [htm];simp),if_neg uO,if_neg (fun q=>q hf0)];exact ht0
    refine zap (zaB 6 (i:=0) rfl rfl) rfl ⟨?_,rfl⟩
    rw [zbA,if_neg (fun z=>z q),q]
    rfl)
 refine gz2 ?_;have ht0:zbw b t=0:=by simp_all
 rw [if_neg (fun q=>q ht0)];refine gz3 ?_;refine ze (zN 5) ?_;refine gz3 ?_;refine dq (zaD (f:=zaa) (l:=zf5 b f) zcI rfl) ?_;refine gz3 ?_;refine uV2 [12,3,48,35] (fun (k:Nat) (u:Value)=>[(48,.int .i64 k),(12,.raw u)]) (fun (k:Nat) (u:Value)=>[.arr u 5 ((swL b f t (b.League.Games.take k)).map zj4)]) (fun (k:Nat) (u:Value)=>k<=b.League.Games.length/\(True)) (fun (k:Nat) (u:Value)=>b.League.Games.length-k) (0) (.slice none 0 0) ?_ ?_ ?_ ?_;exact ⟨Ad _,trivial⟩;exact ⟨rfl,rfl,trivial⟩;exact zn rfl
 intro k u hinv
 obtain ⟨hk,-⟩:=hinv;refine gz4 ?_;refine uCo (fun h11=> ?_) fun h12=> ?_
 obtain ⟨x,hx⟩: ∃x,b.League.Games[k]? =some x:=⟨_,Aa (by simpa using h11)⟩
 have hdx:=zi hx;have hxm:=Ab hx;have hx0:=(hX.gm x hxm).2.2.2;refine gz6 ?_;refine dq (zB (f:=zaa) (l:=zf5 b f) (j:=k) (a:=gaV b f x) zcI za7 rfl rfl rfl (ztV hx)) ?_;refine dq (zai (h:=zaa (gaV b f x)) za7 rfl rfl rfl rfl) ?_;refine de rfl (zj za7 rfl fun b14=> ?_)
 refine gz1 ?_;refine de0 (zl za7 rfl rfl rfl rfl rfl ?_)
 refine gz1 ?_;refine ze (zm 14 rfl) ?_;refine uDr mixed ?_;refine uB 0 rfl ((by first|exact zg za7 rfl ty4 (by decide) rfl|exact zd za7 rfl ty4 (by decide) rfl)) ?_;refine gz2 ?_;refine uGy 3 rfl rfl (fun hc=>zai (h:=zaa (gaV b f x)) za7 rfl rfl rfl rfl) ?_;refine ahg 4 rfl rfl (by kernel_rfl) (by kernel_rfl) rfl (fun hc=>by
  obtain ⟨⟨a1,a2⟩,a3,a4⟩:=zoQ hf0 hxm (by simpa using hc);exact ⟨_,OpenTo.upd (t:=56) rfl uC (OpenTo.refl _),uCl zwl rfl (zhA (x:=gaV b f x) a1 a2 a3 a4)⟩) ?_
 refine gz2 ?_;refine uGy 7 rfl rfl (fun hc=>zB (f:=zaa) (l:=zf5 b t) (j:=k) (a:=gaV b t x) zcI za7 rfl rfl rfl (ztV hx)) ?_;refine uGy 8 rfl rfl (fun hc=>zai (h:=zaa (gaV b t x)) za7 rfl rfl rfl rfl) ?_;refine ahg 9 rfl rfl (by kernel_rfl) (by kernel_rfl) rfl (fun hc=>by
  obtain ⟨⟨a1,a2⟩,a3,a4⟩:=zoQ ht0 hxm (zn3 (b:=b) (n:=t) (x:=x) (by have q:=zpE hx0 (by simpa using hc);omega));exact ⟨_,OpenTo.upd (t:=61) rfl uC (OpenTo.refl _),uCl zwl rfl (zhA (x:=gaV b t x) a1 a2 a3 a4)⟩) ?_
 refine gz3 ?_;refine uCo (fun h13=> ?_) fun h14=> ?_
 have hpp:(gaV b f x).Played=true:=by simp_all
 have hne:znT (gaV b f x)≠znT (gaV b t x):=by simp_all
 obtain ⟨⟨a1,a2⟩,a3,a4⟩:=zoQ hf0 hxm hpp;obtain ⟨⟨d1,d2⟩,d3,d4⟩:=zoQ ht0 hxm (zn3 (b:=b) (n:=t) (x:=x) (by have q:=zpE hx0 hpp;omega));refine zgB mixed ?_;refine gz1 ?_;refine uB 1 rfl ((by first|exact zg za7 rfl ty3 (by decide) rfl|exact zd za7 rfl ty3 (by decide) rfl)) ?_;refine gz1 ?_;refine uB 3 rfl ((by first|exact zg za7 rfl ty9 (by decide) rfl|exact zd za7 rfl ty9 (by decide) rfl)) ?_;refine gz1 ?_;refine uB 5 rfl ((by first|exact zg za7 rfl ty9 (by decide) rfl|exact zd za7 rfl ty9 (by decide) rfl)) ?_;refine gz1 ?_;refine uB 7 rfl (zai (h:=zaa (gaV b f x)) za7 rfl rfl rfl rfl) ?_;refine uB 8 rfl (uCl zwl rfl (zhA (x:=gaV b f x) a1 a2 a3 a4)) ?_;refine gz2 ?_;refine uB 11 rfl (zB (f:=zaa) (l:=zf5 b t) (j:=k) (a:=gaV b t x) zcI za7 rfl rfl rfl (ztV hx)) ?_;refine uB 12 rfl (zai (h:=zaa (gaV b t x)) za7 rfl rfl rfl rfl) ?_;refine uB 13 rfl (uCl zwl rfl (zhA (x:=gaV b t x) d1 d2 d3 d4)) ?_;refine uB 14 rfl (zG (cs:=[_,_,_,_,_]) zoz pl54 rfl) ?_;refine uB 15 rfl (za (hs:=[_]) zuE zoz rfl rfl (by decide) (by decide) rfl) ?_;refine uF 16 ?_;refine zv rfl (zO (i:=0) zuE zoz rfl rfl rfl rfl rfl (by simp [zaw,zb]) (by have q:=zyB b f t (b.League.Games.take k);rw [Ax] at q;simp only [Ag,Ai,AD];omega) fun v81=> ?_)
 refine ⟨uE,?_⟩
 refine gz8 ?_;exact ⟨k+1,_,⟨by omega,trivial⟩,uD,⟨rfl,rfl,trivial⟩,uK,zn (by dsimp only;rw [zvX hx,swI,if_pos ⟨hpp,hne⟩,Ay];rfl)⟩;refine gz7 ?_;exact ⟨k+1,u,⟨by omega,trivial⟩,uD,⟨rfl,rfl,trivial⟩,uK,zn (by dsimp only;rw [zvX hx,swI,if_neg uSa];simp)⟩;have hnk:b.League.Games.length<=k:=by simpa using h12
 obtain rfl:k=b.League.Games.length:=by omega
 rw [Ak];refine gz2 ?_;refine zM ?_;refine gz8 ?_
 focus first
 |exact zaq rfl (zC (by rw [zbA,if_pos (by rw [zac,if_pos (by simpa using h1)];simpa using h1)];exact zt 5) (by rw [zac,if_pos (by simpa using h1)];exact Weak.refl _))
 | (have q:zac b f t=1:=by rw [zac,if_neg (by simpa using h2),if_pos uSa]
    exact zaq rfl (zC (by rw [zbA,if_pos (by rw [q];decide)];exact zt 5) (by rw [q];exact Weak.refl _)))
 | (have q:zac b f t=7:=by rw [zac,if_neg (by simpa using h2),if_neg uSa,if_pos uO]
    exact zaq rfl (zC (by rw [zbA,if_pos (by rw [q];decide)];exact zt 5) (by rw [q];exact Weak.refl _)))
 | (have q:zac b f t=zbw b f:=by rw [zac,if_neg (by simpa using h2),if_neg (by rw [htm];simp),if_neg uO,if_pos (by assumption)]
    exact zaq rfl (zC (by rw [zbA,if_pos (by rw [q];assumption)];exact zt 5) (by rw [q];exact Weak.refl _)))
 | (have q:zac b f t=zbw b t:=by rw [zac,if_neg (by simpa using h2),if_neg (by rw [htm];simp),if_neg uO,if_neg (fun q=>q hf0)]
    exact zaq rfl (zC (by rw [zbA,if_pos (by rw [q];assumption)];exact zt 5) (by rw [q];exact Weak.refl _)))
 | (have q:zac b f t=0:=by rw [zac,if_neg (by simpa using h2),if_neg (by rw [htm];simp),if_neg uO,if_neg (fun q=>q hf0)];exact ht0
    refine zap (zaB 6 (i:=0) rfl rfl) rfl ⟨?_,rfl⟩
    rw [zbA,if_neg (fun z=>z q),q]
    rfl)
end
section
open Go.Proofs.Tryz
open Go.HL
theorem zay [Tracks] {b:Nat} {l:List Int} {a:Nat} (ha:a<=800000):Con prog 93 [pAt b] [St b l a] (fun x M'=> ∃t a',x=eSs t/\GoodTr t/\a'<=a+10/\M'=[St b l a']):=by
 refine uOb func93 ntmps93 ?_;refine gz6 ?_;refine ze (zN 1) ?_;refine gz3 ?_;refine de rfl (uCx 1 zAg rfl rfl (zfH (n:=3) uO uO uO) ?_)
 rintro _ _ ⟨L7,a7,rfl,hL7,ha7,rfl⟩;refine gz3 ?_;obtain ⟨hLn,hLb⟩:=hL7;refine gz1 ?_;refine uV2 [3,1,5,1,9,15] (fun (k:Nat) (q:GL Str)=>[(9,.int .i64 k),(3,.raw q.u)]) (fun (k:Nat) (q:GL Str)=>[St b l q.a,.arr q.u 1 (q.out.map .str)]) (fun (k:Nat) (q:GL Str)=>k<=L7.length/\(GLok Sh k (a7+k) q)) (fun (k:Nat) (q:GL Str)=>L7.length-k) (0) (⟨.slice none 0 0,[],a7⟩) ?_ ?_ ?_ ?_;exact ⟨Ad _,⟨by simp,by simp,uD⟩⟩;exact ⟨rfl,rfl,trivial⟩;exact uP
 intro k q hinv
 obtain ⟨hk,hq⟩:=hinv;obtain ⟨u,out,a2⟩:=q;obtain ⟨g1,g2,g3⟩:=id hq;dsimp only at g1 g2 g3;refine gz4 ?_;refine uCo (fun h1=> ?_) fun h2=> ?_
 obtain ⟨y,hy⟩: ∃y,L7[k]? =some y:=⟨_,Aa h1⟩
 have hdy:=zi hy;refine zcj ?_;refine de rfl (uCx 0 zek rfl rfl (zJ uSo uO) ?_)
 rintro _ _ ⟨y14,rfl,rfl⟩;refine gz2 ?_;refine uCo (fun h3=> ?_) fun h4=> ?_
 refine gz2 ?_;refine dq (za (hs:=[_,_,_]) zp ty9 rfl rfl (by decide) (by decide) rfl) ?_;refine gz1 ?_;refine dq (zB (f:=HVal.str) (l:=zgy) (j:=y.toNat) (a:=zgy.getD y.toNat []) zp ty9 rfl rfl (by have:=hLb y (Ab hy);omega) (getD_some (by have:=hLb y (Ab hy);simp [zgy];omega))) ?_;refine gz1 ?_;refine dq (za (hs:=[_]) zp ty9 rfl rfl (by decide) (by decide) rfl) ?_;refine de rfl (zO (i:=1) zp ty9 rfl rfl rfl rfl rfl (by simp [zaw,zb]) uSo fun v22=> ?_)
 refine gz8 ?_;exact ⟨k+1,⟨v22,out++[zgy.getD y.toNat []],a2+1⟩,⟨by omega,hq.add (x:=zgy.getD y.toNat []) (zlK _ (zy7 (by have:=hLb y (Ab hy);simp [zgy];omega))) uO⟩,uD,⟨rfl,rfl,trivial⟩,uK,uP⟩;refine gz7 ?_;exact ⟨k+1,⟨u,out,a2+1⟩,⟨by omega,hq.same uO⟩,uD,⟨rfl,rfl,trivial⟩,uK,uP⟩;have hnk:L7.length<=k:=by omega
 obtain rfl:k=L7.length:=by omega
 refine gz2 ?_;refine zM ?_;refine gz3 ?_
 dsimp only
 refine gz2 ?_;refine de rfl (uCx 0 zek rfl rfl (zJ uO uO) ?_)
 rintro _ _ ⟨y25,rfl,rfl⟩;refine gz1 ?_;refine uCo (fun h5=> ?_) fun h6=> ?_
 refine gz3 ?_;refine dq (za (hs:=[_,_,_]) zp ty9 rfl rfl (by decide) (by decide) rfl) ?_;refine de rfl (uCx 0 zci rfl rfl (zq (L:=[_,_,_]) uO uSa uSa) ?_)
 rintro _ _ ⟨y29,rfl,hy29,rfl⟩;refine dq (za (hs:=[_]) zp ty9 rfl rfl (by decide) (by decide) rfl) ?_;refine de rfl (zO (i:=1) zp ty9 rfl rfl rfl rfl rfl (by simp [zaw,zb]) uSo fun v31=> ?_)
 refine gz8 ?_;exact zap (zaB 2 (i:=1) rfl rfl) rfl ⟨out++[y29],_,by simp,⟨by simp;omega,fun s hs=>by
  rcases List.mem_append.1 hs with hs|hs
  exact g2 s hs;rw [List.mem_singleton.1 hs];simp at hy29;rcases hy29 with rfl|rfl|rfl<;>(unfold Sh;simp)⟩,by omega,rfl⟩
 refine gz7 ?_;exact zap (zaB 2 (i:=1) rfl rfl) rfl ⟨out,_,rfl,⟨by omega,g2⟩,by omega,rfl⟩
theorem zkg [Tracks] {b:Nat} {l:List Int} {a:Nat} (ha:a<=700000):Con prog 39 [pAt b] [St b l a] (fun x M'=> ∃k a',x=zbY k/\GoodPl k/\a'<=a+500/\M'=[St b l a']):=by
 refine uOb func39 ntmps39 ?_;refine gz6 ?_;refine ze (zN 9) ?_;refine gz2 ?_;refine dq (za (hs:=[_,_,_]) zp ty9 rfl rfl (by decide) (by decide) rfl) ?_;refine dq (zaD (f:=HVal.str) (l:=zgy) zp rfl) ?_;refine gz3 ?_;refine uV2 [3,1,5,5,11,1,15,97] (fun (k:Nat) (q:GL Play)=>[(15,.int .i64 k),(3,.raw q.u)]) (fun (k:Nat) (q:GL Play)=>[St b l q.a,.arr q.u 9 (q.out.map zav)]) (fun (k:Nat) (q:GL Play)=>k<=zgy.length/\(GLok zda (5*k) (a+130*k) q)) (fun (k:Nat) (q:GL Play)=>zgy.length-k) (0) (⟨.slice none 0 0,[],a⟩) ?_ ?_ ?_ ?_;exact ⟨by decide,⟨by simp,by simp,uD⟩⟩;exact ⟨rfl,rfl,trivial⟩;exact uP
 intro k q hinv
 obtain ⟨hk,hq⟩:=hinv;obtain ⟨u,out,a1⟩:=q;obtain ⟨g1,g2,g3⟩:=id hq;dsimp only at g1 g2 g3;have h3:zgy.length=3:=rfl;refine gz4 ?_;refine uCo (fun h1=> ?_) fun h2=> ?_
 obtain ⟨x,hx⟩: ∃x,zgy[k]? =some x:=⟨_,Aa h1⟩
 have hdx:=zi hx;refine gz5 ?_;refine dq (zB (f:=HVal.str) (l:=zgy) (j:=k) (a:=x) zp ty9 rfl rfl rfl hx) ?_;refine gz5 ?_;refine dq (za (hs:=[_,_]) zah ty3 rfl rfl (by decide) (by decide) rfl) ?_;refine de rfl (uCx 0 ca6 rfl rfl (zf (L:=[_,_]) uSo uSa uSa) ?_)
 rintro _ _ ⟨y21,rfl,hy21,rfl⟩;refine gz5 ?_;refine de rfl (uCx 0 zgu rfl rfl (zP uSo uO uO uO) ?_)
 rintro _ _ ⟨y23,rfl,hy23,rfl⟩;refine gz3 ?_;refine zxU (3::6::7::8::9::11::24::25::26::27::28::29::30::31::32::33::34::35::36::37::38::39::40::41::42::43::44::45::46::47::48::49::50::51::52::53::54::55::56::57::58::59::60::61::62::63::64::65::66::67::68::69::70::71::72::73::74::75::76::77::78::79::80::81::82::83::84::85::86::87::88::89::90::91::92::93::94::95::96::97::98::99::100::101::102::103::104::105::106::107::108::109::110::[]) (fun (n:Nat) (no:Int) (at1:Int) (q2:GL Play)=>[(24,.int .i64 (n:Int)),(6,.int .i64 no),(7,.int .i64 at1),(3,.raw q2.u)]) (fun (n:Nat) (no:Int) (at1:Int) (q2:GL Play)=>[St b l q2.a,.arr q2.u 9 (q2.out.map zav)]) (fun (n:Nat) (no:Int) (at1:Int) (q2:GL Play)=>(n:Int)<=y23/\(0<=no/\no<=2*n)/\(0<=at1/\at1<=5+40*n)/\GLok zda (5*k+n) (a1+2+25*n) q2) (fun (n:Nat) (no:Int) (at1:Int) (q2:GL Play)=>y23.toNat-n) (0) (0) (y21) (⟨u,out,a1+2⟩) ?_ ?_ ?_ ?_;exact ⟨by omega,⟨by omega,by omega⟩,⟨by simp at hy21;omega,by simp at hy21;omega⟩,⟨uD,g2,uD⟩⟩;exact ⟨rfl,rfl,rfl,rfl,trivial⟩;exact uP
 intro n no at1 q2 hinv
 obtain ⟨hn,hno,hat,hq2⟩:=hinv;obtain ⟨u,out,a2⟩:=q2;obtain ⟨g1,g2,g3⟩:=id hq2;dsimp only at g1 g2 g3;refine gz4 ?_;refine uCo (fun h3=> ?_) fun h4=> ?_
 refine gz7 ?_;refine dq (za (hs:=[_,_,_]) zah ty3 rfl rfl (by decide) (by decide) rfl) ?_;refine de rfl (uCx 0 ca6 rfl rfl (zf (L:=[_,_,_]) uSo uSa uSa) ?_)
 rintro _ _ ⟨y29,rfl,hy29,rfl⟩;refine dq (zbp rfl rfl (by simp at hy29;omega) (by simp at hy29;omega)) ?_;refine gz4 ?_;refine de rfl (uCx 0 zi3 rfl rfl (zam uSo uO) ?_)
 rintro _ _ ⟨y32,rfl,hy32,rfl⟩;refine gz2 ?_;have hyb:1<=y29/\y29<=2:=by simp at hy29;omega
 refine uVj [9,1,33,21] (fun (q9:Nat×Play)=>[(9,pAt q9.1)]) (fun (q9:Nat×Play)=>[St b l (a2+5),.arr u 9 (out.map zav),.cells q9.1 (zb (zav q9.2))]) (fun (q9:Nat×Play)=>zda q9.2) ?_ ?_
 skip
 refine zgB mixed ?_;refine gz3 ?_;refine uB 3 rfl (za (hs:=[_,_,_]) zah ty3 rfl rfl (by decide) (by decide) rfl) ?_;refine gz1 ?_;refine uB 5 rfl (zB (f:=HVal.int .i64) (l:=zmK) (j:=y32) (a:=zmK.getD y32 0) zah ty3 rfl rfl rfl (getD_some (by simp [zmK];omega))) ?_;refine gz1 ?_;refine uB 7 rfl (za (hs:=[_,_,_]) zp ty9 rfl rfl (by decide) (by decide) rfl) ?_;refine gz1 ?_;refine uB 9 rfl (zB (f:=HVal.str) (l:=zfc) (j:=y32) (a:=zfc.getD y32 []) zp ty9 rfl rfl rfl (getD_some (by simp [zfc];omega))) ?_;refine gz2 ?_;refine uB 12 rfl (za (hs:=[_,_,_]) zp ty9 rfl rfl (by decide) (by decide) rfl) ?_;refine uA 14 ?_;refine uB 15 rfl (za (hs:=[_,_,_,_]) zp ty9 rfl rfl (by decide) (by decide) rfl) ?_;refine uA 17 ?_;refine uB 18 rfl (za (hs:=[_,_,_,_,_]) zah ty3 rfl rfl (by decide) (by decide) rfl) ?_;refine zh8 13 21 rfl rfl (by kernel_rfl) ?_ ?_
 skip
 refine zv rfl (uCx 0 zci rfl rfl (zq (L:=[_,_,_]) uSo uSa uSa) ?_)
 rintro _ _ ⟨y46,rfl,hy46,rfl⟩;refine ⟨uE,?_⟩
 refine zh8 16 21 rfl rfl (by kernel_rfl) ?_ ?_
 skip
 refine zv rfl (uCx 0 zci rfl rfl (zq (L:=[_,_,_,_]) uSo uSa uSa) ?_)
 rintro _ _ ⟨y49,rfl,hy49,rfl⟩;refine ⟨uE,?_⟩
 refine zh8 19 21 rfl rfl (by kernel_rfl) ?_ ?_
 skip
 refine zv rfl (uCx 0 ca6 rfl rfl (zf (L:=[_,_,_,_,_]) uSo uSa uSa) ?_)
 rintro _ _ ⟨y52,rfl,hy52,rfl⟩;refine ⟨uE,?_⟩
 refine uB 20 rfl (zG (cs:=[_,_,_,_,_,_,_,_,_]) zbZ zui rfl) ?_;refine uF 21 ?_;refine zv rfl (zj zbZ rfl fun b9=> ?_)
 refine ⟨uE,?_⟩
 refine uF 22 ?_;refine zA (uY 0 ?_)
 refine ⟨uE,?_⟩
 refine uAz ?_;refine ⟨(b9,(⟨x,no+y29,at1,zmK.getD y32 0,zfc.getD y32 [],y46,y49,y52,0⟩:Play)),?_,⟨rfl,trivial⟩,uK,?_⟩
 exact ⟨zlK x (Ab hx),zkE y32,by simp at hy46;rcases hy46 with rfl|rfl|rfl<;>(unfold Sh;simp),by simp at hy49;rcases hy49 with rfl|rfl|rfl<;>(unfold Sh;simp)⟩;exact uP
 skip
 refine zv rfl (zj zbZ rfl fun b9=> ?_)
 refine ⟨uE,?_⟩
 refine uF 19 ?_;refine zv rfl (uCx 1 ca6 rfl rfl (zf (L:=[_,_,_,_,_]) uSo uSa uSa) ?_)
 rintro _ _ ⟨y52,rfl,hy52,rfl⟩;refine ⟨uE,?_⟩
 refine uB 20 rfl (zG (cs:=[_,_,_,_,_,_,_,_,_]) zbZ zui rfl) ?_;refine uF 22 ?_;refine zA (uY 1 ?_)
 refine ⟨uE,?_⟩
 refine uAz ?_;refine ⟨(b9,(⟨x,no+y29,at1,zmK.getD y32 0,zfc.getD y32 [],y46,y49,y52,0⟩:Play)),?_,⟨rfl,trivial⟩,uK,?_⟩
 exact ⟨zlK x (Ab hx),zkE y32,by simp at hy46;rcases hy46 with rfl|rfl|rfl<;>(unfold Sh;simp),by simp at hy49;rcases hy49 with rfl|rfl|rfl<;>(unfold Sh;simp)⟩;exact uP
 skip
 refine zv rfl (zj zbZ rfl fun b9=> ?_)
 refine ⟨uE,?_⟩
 refine uF 16 ?_;refine zv rfl (uCx 1 zci rfl rfl (zq (L:=[_,_,_,_]) uSo uSa uSa) ?_)
 rintro _ _ ⟨y49,rfl,hy49,rfl⟩;refine ⟨uE,?_⟩
 refine uF 19 ?_;refine zv rfl (uCx 0 ca6 rfl rfl (zf (L:=[_,_,_,_,_]) uSo uSa uSa) ?_)
 rintro _ _ ⟨y52,rfl,hy52,rfl⟩;refine ⟨uE,?_⟩
 refine uB 20 rfl (zG (cs:=[_,_,_,_,_,_,_,_,_]) zbZ zui rfl) ?_;refine uF 22 ?_;refine zA (uY 1 ?_)
 refine ⟨uE,?_⟩
 refine uAz ?_;refine ⟨(b9,(⟨x,no+y29,at1,zmK.getD y32 0,zfc.getD y32 [],y46,y49,y52,0⟩:Play)),?_,⟨rfl,trivial⟩,uK,?_⟩
 exact ⟨zlK x (Ab hx),zkE y32,by simp at hy46;rcases hy46 with rfl|rfl|rfl<;>(unfold Sh;simp),by simp at hy49;rcases hy49 with rfl|rfl|rfl<;>(unfold Sh;simp)⟩;exact uP
 skip
 refine zv rfl (zj zbZ rfl fun b9=> ?_)
 refine ⟨uE,?_⟩
 refine uF 13 ?_;refine zv rfl (uCx 1 zci rfl rfl (zq (L:=[_,_,_]) uSo uSa uSa) ?_)
 rintro _ _ ⟨y46,rfl,hy46,rfl⟩;refine ⟨uE,?_⟩
 refine uF 16 ?_;refine zv rfl (uCx 0 zci rfl rfl (zq (L:=[_,_,_,_]) uSo uSa uSa) ?_)
 rintro _ _ ⟨y49,rfl,hy49,rfl⟩;refine ⟨uE,?_⟩
 refine uF 19 ?_;refine zv rfl (uCx 0 ca6 rfl rfl (zf (L:=[_,_,_,_,_]) uSo uSa uSa) ?_)
 rintro _ _ ⟨y52,rfl,hy52,rfl⟩;refine ⟨uE,?_⟩
 refine uB 20 rfl (zG (cs:=[_,_,_,_,_,_,_,_,_]) zbZ zui rfl) ?_;refine uF 22 ?_;refine zA (uY 1 ?_)
 refine ⟨uE,?_⟩
 refine uAz ?_;refine ⟨(b9,(⟨x,no+y29,at1,zmK.getD y32 0,zfc.getD y32 [],y46,y49,y52,0⟩:Play)),?_,⟨rfl,trivial⟩,uK,?_⟩
 exact ⟨zlK x (Ab hx),zkE y32,by simp at hy46;rcases hy46 with rfl|rfl|rfl<;>(unfold Sh;simp),by simp at hy49;rcases hy49 with rfl|rfl|rfl<;>(unfold Sh;simp)⟩;exact uP
 intro q9 hq9
 obtain ⟨b9,x9⟩:=q9;dsimp only at hq9;refine uVj [11,1,54,47] (fun (q4:Play×Nat)=>[]) (fun (q4:Play×Nat)=>[St b l q4.2,.arr u 9 (out.map zav),.cells b9 (zb (zav q4.1))]) (fun (q4:Play×Nat)=>zda q4.1/\q4.2<=a2+22) ?_ ?_
 skip
 refine gz5 ?_;refine dgx (fun x M'=> ∃(y:Bool) (a3:Nat),x= .bool y/\a3<=(a2+5)+1/\M'=[St b l a3,.arr u 9 (out.map zav),.cells b9 (zb (zav x9))]) rfl rfl (fun hc=>⟨_,false,(a2+5),rfl,by omega,rfl⟩) (fun hc=>⟨_,OpenTo.upd (t:=57) rfl (hc) (OpenTo.refl _),uCx 0 zek rfl rfl (zJ (a:=(a2+5)) uO uO) (fun h M' hh=>by
  obtain ⟨y,h1,h2⟩:=hh;exact ⟨y,(a2+5)+1,h1,by omega,by rw [h2];rfl⟩)⟩) ?_
 rintro _ _ ⟨y10,a310,rfl,ha310,rfl⟩;refine gz2 ?_;refine uCo (fun h5=> ?_) fun h6=> ?_
 refine gz4 ?_;refine de rfl (uCx 0 zgu rfl rfl (zP uO uO uO uO) ?_)
 rintro _ _ ⟨y63,rfl,hy63,rfl⟩;refine gz1 ?_;refine de0 (uY 2 ?_)
 refine gz1 ?_;refine de0 (uY 2 ?_)
 refine gz1 ?_;obtain ⟨s9,n9,t9,w9,m9,p9,st9,c9,u9⟩:=x9;refine ze (Ghost.perm (M':=[St b l (a310+1),.arr u 9 (out.map zav),.cells b9 (zb (zav ⟨s9,n9,t9,w9,m9,p9,st9,0,y63⟩))]) uP) ?_;refine gz2 ?_;refine de rfl (zaR (i:=1) (es:=out) zhf rfl rfl ?_)
 refine gz3 ?_;refine uV2 [11,1,68,33] (fun (j:Nat) (q3:Play×Nat)=>[(68,.int .i64 j)]) (fun (j:Nat) (q3:Play×Nat)=>[St b l q3.2,.arr u 9 (out.map zav),.cells b9 (zb (zav q3.1))]) (fun (j:Nat) (q3:Play×Nat)=>j<=out.length/\(zda q3.1/\q3.2<=a310+1+j)) (fun (j:Nat) (q3:Play×Nat)=>out.length-j) (0) ((⟨s9,n9,t9,w9,m9,p9,st9,0,y63⟩,a310+1)) ?_ ?_ ?_ ?_;exact ⟨Ad _,hq9,uD⟩;exact ⟨rfl,trivial⟩;exact uP
 intro j q3 hinv
 obtain ⟨hj,hq3⟩:=hinv;obtain ⟨⟨s3,n3,t3,w3,m3,p3,st3,c3,u3⟩,a4⟩:=q3;obtain ⟨hs3,ha4⟩:=hq3;dsimp only at hs3 ha4;refine gz4 ?_;refine uCo (fun h7=> ?_) fun h8=> ?_
 obtain ⟨z,hz⟩: ∃z,out[j]? =some z:=⟨_,Aa h7⟩
 have hdz:=zi hz;have hgz:=g2 z (Ab hz);refine zcT (i:=1) rfl (fun h0 he=> ?_) (fun ob off cap hv hcap=> ?_)
 exfalso;have:=congrArg List.length he;simp at this;subst this;simp at hz
 subst hv;refine gz5 ?_;refine dq (zD (j:=j) zhf zbZ rfl rfl rfl uSo) ?_;refine de rfl (zab (i:=1) (j:=j) (f:=zav) (es:=out) zbZ rfl rfl rfl hz rfl rfl rfl ?_)
 refine de rfl (zj zbZ rfl fun b11=> ?_)
 refine de0 (zl zbZ rfl rfl rfl rfl rfl ?_)
 refine gz1 ?_;refine ze (zm 11 rfl) ?_;refine gz9 ?_;refine dgl rfl rfl (fun hc=>⟨_,OpenTo.upd (t:=79) rfl (hc) (OpenTo.refl _),zas (i:=2) ty3 rfl rfl (.inl ⟨rfl,rfl⟩) ⟨rfl,rfl⟩⟩) ?_;refine gz4 ?_;refine dgx (fun x M'=> ∃(y:Bool) (a3:Nat),x= .bool y/\a3<=a4+1/\M'=[St b l a3,.arr (.slice (some ⟨ob,off,none⟩) (out.map zav).length cap) 9 (out.map zav),.cells b9 (zb (zav ⟨s3,n3,t3,w3,m3,p3,st3,c3,u3⟩))]) rfl rfl (fun hc=>⟨_,false,a4,rfl,by omega,rfl⟩) (fun hc=>⟨_,OpenTo.upd (t:=84) rfl (hc) (OpenTo.refl _),uCx 0 zek rfl rfl (zJ (a:=a4) uO uO) (fun h M' hh=>by
  obtain ⟨y,h1,h2⟩:=hh;exact ⟨y,a4+1,h1,by omega,by rw [h2];rfl⟩)⟩) ?_
 rintro _ _ ⟨y6,a36,rfl,ha36,rfl⟩;refine gz3 ?_;refine uCo (fun h9=> ?_) fun h10=> ?_
 refine zgB mixed ?_;refine gz9 ?_;refine uF 9 ?_;refine zA (uY 2 ?_)
 refine ⟨uE,?_⟩
 refine gz1 ?_;refine uF 11 ?_;refine zA (uY 2 ?_)
 refine ⟨uE,?_⟩
 refine gz1 ?_;refine uF 13 ?_;refine zA (uY 2 ?_)
 refine ⟨uE,?_⟩
 refine gz1 ?_;refine uF 15 ?_;refine zA (uY 2 ?_)
 refine ⟨uE,?_⟩
 refine gz7 ?_;exact ⟨j+1,(⟨s3,n3,t3,z.Week,z.Match,z.Player,z.Stat,c3,u3⟩,a36),⟨by omega,⟨hs3.1,hgz.2.1,hgz.2.2.1,hgz.2.2.2⟩,uD⟩,uD,⟨rfl,trivial⟩,uK,uP⟩;refine gz7 ?_;exact ⟨j+1,(⟨s3,n3,t3,w3,m3,p3,st3,c3,u3⟩,a36),⟨by omega,hs3,uD⟩,uD,⟨rfl,trivial⟩,uK,uP⟩;have hnj:out.length<=j:=by omega
 obtain rfl:j=out.length:=by omega
 refine gz2 ?_;refine zM ?_;refine gz1 ?_;exact ⟨(⟨s3,n3,t3,w3,m3,p3,st3,c3,u3⟩,a4),⟨hs3,uD⟩,trivial,uK,uP⟩;refine gz1 ?_;exact ⟨(x9,a310),⟨hq9,uD⟩,trivial,uK,uP⟩
 intro q4 hq4
 obtain ⟨x5,a5⟩:=q4;obtain ⟨hx5,ha5⟩:=hq4;dsimp only at hx5 ha5;refine ze (zbV 9 (i:=2) rfl rfl) ?_;refine gz3 ?_;refine dq (za (hs:=[_]) zhf zbZ rfl rfl (by decide) (by decide) rfl) ?_;refine de rfl (zO (i:=1) zhf zbZ rfl rfl rfl rfl rfl (by simp [zaw,zb]) uSo fun v104=> ?_)
 refine gz5 ?_;refine dq (za (hs:=[_,_,_,_]) zah ty3 rfl rfl (by decide) (by decide) rfl) ?_;refine de rfl (uCx 0 ca6 rfl rfl (zf (L:=[_,_,_,_]) uO uSa uSa) ?_)
 rintro _ _ ⟨y108,rfl,hy108,rfl⟩;refine dq (zbp rfl rfl (by simp at hy108;omega) (by simp at hy108;omega)) ?_;refine gz8 ?_;exact ⟨n+1,no+y29,at1+y108,⟨v104,out++[x5],a5+1⟩,⟨by omega,⟨by simp at hy29;omega,by simp at hy29;omega⟩,⟨by simp at hy108;omega,by simp at hy108;omega⟩,hq2.add (x:=x5) hx5 uO⟩,uD,⟨rfl,rfl,rfl,rfl,trivial⟩,uK,uP⟩;refine gz2 ?_;refine zzm ?_;refine gz7 ?_;exact ⟨k+1,⟨u,out,a2⟩,⟨by omega,⟨uD,g2,uD⟩⟩,uD,⟨rfl,rfl,trivial⟩,uK,uP⟩;have hnk:zgy.length<=k:=by omega
 obtain rfl:k=zgy.length:=by omega
 refine gz2 ?_;refine zM ?_;refine gz2 ?_;refine uVj [12,1,112,111] (fun (q5:List Play×Nat)=>[]) (fun (q5:List Play×Nat)=>[St b l q5.2,.arr u 9 (q5.1.map zav)]) (fun (q5:List Play×Nat)=>q5.1.length<=15/\(∀x∈q5.1,zda x)/\q5.2<=a+500) ?_ ?_
 skip
 refine gz2 ?_;refine de rfl (zaR (i:=1) zhf rfl rfl ?_)
 refine gz3 ?_;refine dgx (fun x M'=> ∃(y:Bool) (a3:Nat),x= .bool y/\a3<=a1+1/\M'=[St b l a3,.arr u 9 (out.map zav)]) rfl rfl (fun hc=>⟨_,false,a1,rfl,by omega,rfl⟩) (fun hc=>⟨_,OpenTo.upd (t:=116) rfl (hc) (OpenTo.refl _),uCx 0 zek rfl rfl (zJ (a:=a1) uO uO) (fun h M' hh=>by
  obtain ⟨y,h1,h2⟩:=hh;exact ⟨y,a1+1,h1,by omega,by rw [h2];rfl⟩)⟩) ?_
 rintro _ _ ⟨y,a3,rfl,ha3,rfl⟩;refine gz2 ?_;refine uCo (fun h11=> ?_) fun h12=> ?_
 have ho0:0<out.length:=by simp_all
 refine zcT (i:=1) rfl (fun h0 he=> ?_) (fun ob off cap hv hcap=> ?_)
 exfalso;have:=congrArg List.length he;simp at this;subst this;simp at ho0
 subst hv;refine gz4 ?_;refine de rfl (zaR (i:=1) zhf rfl rfl ?_)
 refine de rfl (uCx 0 zi3 rfl rfl (zam uO uO) ?_)
 rintro _ _ ⟨y123,rfl,hy123,rfl⟩;refine dq (zD (j:=y123) zhf zbZ rfl rfl rfl uSo) ?_;refine gz2 ?_;obtain ⟨x,hx⟩: ∃x,out[y123]? =some x:=⟨_,Aa uO⟩
 refine gz2 ?_;refine de rfl (uCx 0 zi3 rfl rfl (zam uO uO) ?_)
 rintro _ _ ⟨y126,rfl,hy126,rfl⟩;refine gz6 ?_;refine uCo (fun h13=> ?_) fun h14=> ?_
 refine zbu (fun M=> ∃i:Nat,M[i]? =some (.arr (.slice (some ⟨ob,off,none⟩) (out.map zav).length cap) 9 (out.map zav))) [6,13] mixed ?_;refine gz6 ?_;refine uM 6 rfl ⟨1,rfl⟩ (fun M hM=>by obtain ⟨i,hi⟩:=hM;exact zan (i:=i) (j:=y123) 0 ty9 rfl uO hi hx rfl rfl ⟨rfl,rfl⟩) ?_;refine uB 7 rfl (za (hs:=[_,_,_]) zp ty9 rfl rfl (by decide) (by decide) rfl) ?_;refine uA 9 ?_;refine gz3 ?_;refine uM 13 rfl ⟨1,rfl⟩ (fun M hM=>by obtain ⟨i,hi⟩:=hM;exact zan (i:=i) (j:=y123) 1 ty3 rfl uO hi hx rfl rfl ⟨rfl,rfl⟩) ?_;refine uB 14 rfl (za (hs:=[_,_,_,_]) zah ty3 rfl rfl (by decide) (by decide) rfl) ?_;refine uF 8 ?_;refine zv rfl (uCx 0 zci rfl rfl (zq (L:=[_,_,_]) uO uSa uSa) ?_)
 rintro _ _ ⟨y167,rfl,hy167,rfl⟩;refine ⟨uE,?_⟩
 refine uF 15 ?_;refine zv rfl (uCx 0 ca6 rfl rfl (zf (L:=[_,_,_,_]) uO uSa uSa) ?_)
 rintro _ _ ⟨y174,rfl,hy174,rfl⟩;refine ⟨uE,?_⟩
 refine gz2 ?_;refine uF 18 ?_;refine zA (zR (i:=1) (j:=y123) (f:=0) (y:=zav x) (y':=zav ⟨y167,x.No,x.At,x.Week,x.Match,x.Player,x.Stat,x.Count,x.Undo⟩) ty9 rfl uO rfl rfl (za6 hx) rfl rfl (by simp [zb]) rfl ?_)
 refine ⟨uE,?_⟩
 refine gz2 ?_;refine uF 21 ?_;refine zA (zR (i:=1) (j:=y123) (f:=1) (y:=zav ⟨y167,x.No,x.At,x.Week,x.Match,x.Player,x.Stat,x.Count,x.Undo⟩) (y':=zav ⟨y167,y174,x.At,x.Week,x.Match,x.Player,x.Stat,x.Count,x.Undo⟩) ty3 rfl uO rfl rfl (zaF (za6 hx)) rfl rfl (by simp [zb]) rfl ?_)
 refine ⟨uE,?_⟩
 refine gz2 ?_;exact ⟨(out.set y123 ⟨y167,y174,x.At,x.Week,x.Match,x.Player,x.Stat,x.Count,x.Undo⟩,a3+4),⟨by simp;omega,zff (P:=zda) g2 (by
  have hgx:=g2 x (Ab hx);exact ⟨by simp at hy167;rcases hy167 with rfl|rfl|rfl;exact hgx.1;exact zqJ;(unfold Sh;simp),hgx.2.1,hgx.2.2.1,hgx.2.2.2⟩),uD⟩,trivial,uK,uP⟩
 refine gz4 ?_;refine uCo (fun h15=> ?_) fun h16=> ?_
 refine zbu (fun M=> ∃i:Nat,M[i]? =some (.arr (.slice (some ⟨ob,off,none⟩) (out.map zav).length cap) 9 (out.map zav))) [6,13] mixed ?_;refine gz6 ?_;refine uM 6 rfl ⟨1,rfl⟩ (fun M hM=>by obtain ⟨i,hi⟩:=hM;exact zan (i:=i) (j:=y123) 3 ty3 rfl uO hi hx rfl rfl ⟨rfl,rfl⟩) ?_;refine uB 7 rfl (za (hs:=[_,_,_]) zah ty3 rfl rfl (by decide) (by decide) rfl) ?_;refine uA 9 ?_;refine gz3 ?_;refine uM 13 rfl ⟨1,rfl⟩ (fun M hM=>by obtain ⟨i,hi⟩:=hM;exact zan (i:=i) (j:=y123) 4 ty9 rfl uO hi hx rfl rfl ⟨rfl,rfl⟩) ?_;refine uB 14 rfl (za (hs:=[_,_]) zp ty9 rfl rfl (by decide) (by decide) rfl) ?_;refine uF 8 ?_;refine zv rfl (uCx 0 ca6 rfl rfl (zf (L:=[_,_,_]) uO uSa uSa) ?_)
 rintro _ _ ⟨y189,rfl,hy189,rfl⟩;refine ⟨uE,?_⟩
 refine uF 15 ?_;refine zv rfl (uCx 0 zci rfl rfl (zq (L:=[_,_]) uO uSa uSa) ?_)
 rintro _ _ ⟨y196,rfl,hy196,rfl⟩;refine ⟨uE,?_⟩
 refine gz2 ?_;refine uF 18 ?_;refine zA (zR (i:=1) (j:=y123) (f:=3) (y:=zav x) (y':=zav ⟨x.Source,x.No,x.At,y189,x.Match,x.Player,x.Stat,x.Count,x.Undo⟩) ty3 rfl uO rfl rfl (za6 hx) rfl rfl (by simp [zb]) rfl ?_)
 refine ⟨uE,?_⟩
 refine gz2 ?_;refine uF 21 ?_;refine zA (zR (i:=1) (j:=y123) (f:=4) (y:=zav ⟨x.Source,x.No,x.At,y189,x.Match,x.Player,x.Stat,x.Count,x.Undo⟩) (y':=zav ⟨x.Source,x.No,x.At,y189,y196,x.Player,x.Stat,x.Count,x.Undo⟩) ty9 rfl uO rfl rfl (zaF (za6 hx)) rfl rfl (by simp [zb]) rfl ?_)
 refine ⟨uE,?_⟩
 refine gz2 ?_;exact ⟨(out.set y123 ⟨x.Source,x.No,x.At,y189,y196,x.Player,x.Stat,x.Count,x.Undo⟩,a3+4),⟨by simp;omega,zff (P:=zda) g2 (by
  have hgx:=g2 x (Ab hx);exact ⟨hgx.1,by simp at hy196;rcases hy196 with rfl|rfl;exact hgx.2.1;exact zqJ,hgx.2.2.1,hgx.2.2.2⟩),uD⟩,trivial,uK,uP⟩
 refine gz4 ?_;refine uCo (fun h17=> ?_) fun h18=> ?_
 refine zbu (fun M=> ∃i:Nat,M[i]? =some (.arr (.slice (some ⟨ob,off,none⟩) (out.map zav).length cap) 9 (out.map zav))) [6,13] mixed ?_;refine gz6 ?_;refine uM 6 rfl ⟨1,rfl⟩ (fun M hM=>by obtain ⟨i,hi⟩:=hM;exact zan (i:=i) (j:=y123) 7 ty3 rfl uO hi hx rfl rfl ⟨rfl,rfl⟩) ?_;refine uB 7 rfl (za (hs:=[_,_,_]) zah ty3 rfl rfl (by decide) (by decide) rfl) ?_;refine uA 9 ?_;refine gz3 ?_;refine uM 13 rfl ⟨1,rfl⟩ (fun M hM=>by obtain ⟨i,hi⟩:=hM;exact zan (i:=i) (j:=y123) 8 ty3 rfl uO hi hx rfl rfl ⟨rfl,rfl⟩) ?_;refine uB 14 rfl (za (hs:=[_,_,_]) zah ty3 rfl rfl (by decide) (by decide) rfl) ?_;refine uF 8 ?_;refine zv rfl (uCx 0 ca6 rfl rfl (zf (L:=[_,_,_]) uO uSa uSa) ?_)
 rintro _ _ ⟨y211,rfl,hy211,rfl⟩;refine ⟨uE,?_⟩
 refine uF 15 ?_;refine zv rfl (uCx 0 ca6 rfl rfl (zf (L:=[_,_,_]) uO uSa uSa) ?_)
 rintro _ _ ⟨y218,rfl,hy218,rfl⟩;refine ⟨uE,?_⟩
 refine gz2 ?_;refine uF 18 ?_;refine zA (zR (i:=1) (j:=y123) (f:=7) (y:=zav x) (y':=zav ⟨x.Source,x.No,x.At,x.Week,x.Match,x.Player,x.Stat,y211,x.Undo⟩) ty3 rfl uO rfl rfl (za6 hx) rfl rfl (by simp [zb]) rfl ?_)
 refine ⟨uE,?_⟩
 refine gz2 ?_;refine uF 21 ?_;refine zA (zR (i:=1) (j:=y123) (f:=8) (y:=zav ⟨x.Source,x.No,x.At,x.Week,x.Match,x.Player,x.Stat,y211,x.Undo⟩) (y':=zav ⟨x.Source,x.No,x.At,x.Week,x.Match,x.Player,x.Stat,y211,y218⟩) ty3 rfl uO rfl rfl (zaF (za6 hx)) rfl rfl (by simp [zb]) rfl ?_)
 refine ⟨uE,?_⟩
 refine gz2 ?_;exact ⟨(out.set y123 ⟨x.Source,x.No,x.At,x.Week,x.Match,x.Player,x.Stat,y211,y218⟩,a3+4),⟨by simp;omega,zff (P:=zda) g2 (by
  have hgx:=g2 x (Ab hx);exact ⟨hgx.1,hgx.2.1,hgx.2.2.1,hgx.2.2.2⟩),uD⟩,trivial,uK,uP⟩
 refine zbu (fun M=> ∃i:Nat,M[i]? =some (.arr (.slice (some ⟨ob,off,none⟩) (out.map zav).length cap) 9 (out.map zav))) [7,14,21] mixed ?_;refine gz7 ?_;refine uM 7 rfl ⟨1,rfl⟩ (fun M hM=>by obtain ⟨i,hi⟩:=hM;exact zan (i:=i) (j:=y123) 5 ty9 rfl uO hi hx rfl rfl ⟨rfl,rfl⟩) ?_;refine uB 8 rfl (za (hs:=[_,_]) zp ty9 rfl rfl (by decide) (by decide) rfl) ?_;refine uA 10 ?_;refine gz3 ?_;refine uM 14 rfl ⟨1,rfl⟩ (fun M hM=>by obtain ⟨i,hi⟩:=hM;exact zan (i:=i) (j:=y123) 6 ty9 rfl uO hi hx rfl rfl ⟨rfl,rfl⟩) ?_;refine uB 15 rfl (za (hs:=[_,_]) zp ty9 rfl rfl (by decide) (by decide) rfl) ?_;refine uA 17 ?_;refine gz3 ?_;refine uM 21 rfl ⟨1,rfl⟩ (fun M hM=>by obtain ⟨i,hi⟩:=hM;exact zan (i:=i) (j:=y123) 2 ty3 rfl uO hi hx rfl rfl ⟨rfl,rfl⟩) ?_;refine uB 22 rfl (za (hs:=[_,_]) zah ty3 rfl rfl (by decide) (by decide) rfl) ?_;refine uF 9 ?_;refine zv rfl (uCx 0 zci rfl rfl (zq (L:=[_,_]) uO uSa uSa) ?_)
 rintro _ _ ⟨y136,rfl,hy136,rfl⟩;refine ⟨uE,?_⟩
 refine uF 16 ?_;refine zv rfl (uCx 0 zci rfl rfl (zq (L:=[_,_]) uO uSa uSa) ?_)
 rintro _ _ ⟨y143,rfl,hy143,rfl⟩;refine ⟨uE,?_⟩
 refine uF 23 ?_;refine zv rfl (uCx 0 ca6 rfl rfl (zf (L:=[_,_]) uO uSa uSa) ?_)
 rintro _ _ ⟨y150,rfl,hy150,rfl⟩;refine ⟨uE,?_⟩
 refine gz2 ?_;refine uF 26 ?_;refine zA (zR (i:=1) (j:=y123) (f:=5) (y:=zav x) (y':=zav ⟨x.Source,x.No,x.At,x.Week,x.Match,y136,x.Stat,x.Count,x.Undo⟩) ty9 rfl uO rfl rfl (za6 hx) rfl rfl (by simp [zb]) rfl ?_)
 refine ⟨uE,?_⟩
 refine gz2 ?_;refine uF 29 ?_;refine zA (zR (i:=1) (j:=y123) (f:=6) (y:=zav ⟨x.Source,x.No,x.At,x.Week,x.Match,y136,x.Stat,x.Count,x.Undo⟩) (y':=zav ⟨x.Source,x.No,x.At,x.Week,x.Match,y136,y143,x.Count,x.Undo⟩) ty9 rfl uO rfl rfl (zaF (za6 hx)) rfl rfl (by simp [zb]) rfl ?_)
 refine ⟨uE,?_⟩
 refine gz2 ?_;refine uF 32 ?_;refine zA (zR (i:=1) (j:=y123) (f:=2) (y:=zav ⟨x.Source,x.No,x.At,x.Week,x.Match,y136,y143,x.Count,x.Undo⟩) (y':=zav ⟨x.Source,x.No,y150,x.Week,x.Match,y136,y143,x.Count,x.Undo⟩) ty3 rfl uO rfl rfl (zaF (zaF (za6 hx))) rfl rfl (by simp [zb]) rfl ?_)
 refine ⟨uE,?_⟩
 refine gz2 ?_;exact ⟨(out.set y123 ⟨x.Source,x.No,y150,x.Week,x.Match,y136,y143,x.Count,x.Undo⟩,a3+5),⟨by simp;omega,zff (P:=zda) g2 (by
  have hgx:=g2 x (Ab hx);exact ⟨hgx.1,hgx.2.1,by simp at hy136;rcases hy136 with rfl|rfl;exact hgx.2.2.1;(unfold Sh;simp),by simp at hy143;rcases hy143 with rfl|rfl;exact hgx.2.2.2;exact zqJ⟩),uD⟩,trivial,uK,uP⟩
 refine gz1 ?_;exact ⟨(out,a3),⟨uD,g2,uD⟩,trivial,uK,uP⟩
 intro q5 hq5
 obtain ⟨k1,a4⟩:=q5;dsimp only at hq5;obtain ⟨q1,q2,q3⟩:=hq5;refine gz5 ?_;exact zap (zaB 2 (i:=1) rfl rfl) rfl ⟨k1,a4,rfl,⟨by omega,q2⟩,by omega,rfl⟩
end
section
open Go.Proofs.Tryz
open Go.HL
theorem zdH [Tracks] {b:Nat} {l:List Int} {a:Nat} (ha:a<=800000):Con prog 174 [pAt b] [St b l a] (fun x M'=> ∃t a',x=eSs t/\t.length<=4/\a'<=a+5/\M'=[St b l a']):=by
 refine uOb func174 ntmps174 ?_;refine gz6 ?_;refine ze (zN 1) ?_;refine gz2 ?_;refine dq (za (hs:=[_,_,_,_]) zp ty9 rfl rfl (by decide) (by decide) rfl) ?_;refine dq (zaD (f:=HVal.str) (l:=sp4) zp rfl) ?_;refine gz3 ?_;refine uV2 [3,1,5,1,8,11] (fun (k:Nat) (q:GL Str)=>[(8,.int .i64 k),(3,.raw q.u)]) (fun (k:Nat) (q:GL Str)=>[St b l q.a,.arr q.u 1 (q.out.map HVal.str)]) (fun (k:Nat) (q:GL Str)=>k<=sp4.length/\(GLok (fun _=>True) (k) (a+k) q)) (fun (k:Nat) (q:GL Str)=>sp4.length-k) (0) (⟨.slice none 0 0,[],a⟩) ?_ ?_ ?_ ?_
 ·exact ⟨Ad _,⟨by simp,by simp,uD⟩⟩
 ·exact ⟨rfl,rfl,trivial⟩
 ·exact uP
 ·intro k q hinv
  obtain ⟨hk,hq⟩:=hinv;have hlen:sp4.length=4:=rfl;obtain ⟨u,out,a2⟩:=q;obtain ⟨g1,g2,g3⟩:=id hq;dsimp only at g1 g2 g3;refine gz4 ?_;refine uCo (fun h1=> ?_) fun h2=> ?_
  ·obtain ⟨x,hx⟩: ∃x,sp4[k]? =some x:=⟨_,Aa h1⟩
   have hdx:=zi hx;refine gz5 ?_;refine dq (zB (f:=HVal.str) (l:=sp4) (j:=k) (a:=x) zp ty9 rfl rfl rfl hx) ?_;refine gz5 ?_;refine de rfl (uCx 0 zek rfl rfl (zJ uS uS) ?_)
   rintro _ _ ⟨y13,rfl,rfl⟩;refine gz1 ?_;refine uCo (fun h3=> ?_) fun h4=> ?_
   ·refine gz3 ?_;refine dq (za (hs:=[_]) zp ty9 rfl rfl (by decide) (by decide) rfl) ?_;refine de rfl (zO (i:=1) zp ty9 rfl rfl rfl rfl rfl (by simp [zaw,zb,zaH,za2]) uSo fun v17=> ?_)
    refine gz8 ?_;exact ⟨k+1,⟨v17,out++[x],a2+1⟩,⟨by omega,hq.add (x:=x) trivial uO⟩,uD,⟨rfl,rfl,trivial⟩,uK,zn (by dsimp only;first|rfl|(rw [Ay];rfl))⟩
   ·refine gz7 ?_;exact ⟨k+1,⟨u,out,a2+1⟩,⟨by omega,hq.same uO⟩,uD,⟨rfl,rfl,trivial⟩,uK,zn (by dsimp only;first|rfl|(rw [Ay];rfl))⟩
  ·have hnk:sp4.length<=k:=by omega
   obtain rfl:k=sp4.length:=by omega
   refine gz2 ?_;refine zM ?_;refine gz5 ?_;refine de rfl (zaR (i:=1) zp rfl rfl ?_)
   refine gz2 ?_;refine uCo (fun h5=> ?_) fun h6=> ?_
   ·refine gz2 ?_;refine dq (za (hs:=[_,_,_]) zp ty9 rfl rfl (by decide) (by decide) rfl) ?_;refine de rfl (uCx 0 zci rfl rfl (zq (L:=[_,_,_]) uS uS uS) ?_)
    rintro _ _ ⟨y24,rfl,hy24,rfl⟩;refine dq (za (hs:=[_]) zp ty9 rfl rfl (by decide) (by decide) rfl) ?_;refine gz3 ?_;exact zap ((zbx (M':=[St b l (a2+1),.arr u 1 (out.map HVal.str)]) rfl).trans ((Ghost.perm (List.Perm.swap _ _ _)).trans Ghost.drop)) rfl ⟨[y24],_,rfl,by simp,by omega,rfl⟩
   ·refine gz7 ?_;exact zap (zaB 2 (i:=1) rfl rfl) rfl ⟨out,a2,rfl,by omega,by omega,rfl⟩
theorem zdV [Tracks] {b:Nat} {l:List Int} {a:Nat} (ha:a<=700000):Con prog 87 [pAt b] [St b l a] (fun x M'=> ∃k a',x=zbh k/\GoodPys k/\a'<=a+40/\M'=[St b l a']):=by
 refine uOb func87 ntmps87 ?_;refine gz6 ?_;refine ze (zN 3) ?_;refine gz2 ?_;refine dq (za (hs:=[_,_,_,_,_]) zp ty9 rfl rfl (by decide) (by decide) rfl) ?_;refine dq (zaD (f:=HVal.str) (l:=nm5) zp rfl) ?_;refine gz3 ?_;refine uV2 [3,1,5,1,8,17] (fun (k:Nat) (q:GL PlayerS)=>[(8,.int .i64 k),(3,.raw q.u)]) (fun (k:Nat) (q:GL PlayerS)=>[St b l q.a,.arr q.u 3 (q.out.map zeD)]) (fun (k:Nat) (q:GL PlayerS)=>k<=nm5.length/\(GLok (GoodPy) (k) (a+8*k) q)) (fun (k:Nat) (q:GL PlayerS)=>nm5.length-k) (0) (⟨.slice none 0 0,[],a⟩) ?_ ?_ ?_ ?_;exact ⟨Ad _,⟨by simp,by simp,uD⟩⟩;exact ⟨rfl,rfl,trivial⟩;exact uP
 intro k q hinv
 obtain ⟨hk,hq⟩:=hinv;have hlen:nm5.length=5:=rfl;obtain ⟨u,out,a2⟩:=q;obtain ⟨g1,g2,g3⟩:=id hq;dsimp only at g1 g2 g3;refine gz4 ?_;refine uCo (fun h1=> ?_) fun h2=> ?_
 obtain ⟨x,hx⟩: ∃x,nm5[k]? =some x:=⟨_,Aa h1⟩
 have hdx:=zi hx;refine gz5 ?_;refine dq (zB (f:=HVal.str) (l:=nm5) (j:=k) (a:=x) zp ty9 rfl rfl rfl hx) ?_;refine gz6 ?_;refine de rfl (uCx 0 zek rfl rfl (zJ uS uS) ?_)
 rintro _ _ ⟨y13,rfl,rfl⟩;refine gz1 ?_;refine uCo (fun h3=> ?_) fun h4=> ?_
 refine gz8 ?_;exact ⟨k+1,⟨u,out,a2+1⟩,⟨by omega,hq.same uO⟩,uD,⟨rfl,rfl,trivial⟩,uK,zn (by dsimp only;first|rfl|(rw [Ay];rfl))⟩;refine gz6 ?_;refine dq (za (hs:=[_,_,_,_,_,_]) zp ty9 rfl rfl (by decide) (by decide) rfl) ?_;refine de rfl (uCx 0 zci rfl rfl (zq (L:=[_,_,_,_,_,_]) uS uS uS) ?_)
 rintro _ _ ⟨y18,rfl,hy18,rfl⟩;refine gz1 ?_;refine de rfl (uCx 0 zwg rfl rfl (zdH uS) ?_)
 rintro _ _ ⟨t20,a20,rfl,ht20,ha20,rfl⟩;refine dq (zG (cs:=[_,_,_]) zew zFj rfl) ?_;refine dq (za (hs:=[_]) zmI zew rfl rfl (by decide) (by decide) rfl) ?_;refine de rfl (zO (i:=1) zmI zew rfl rfl rfl rfl rfl (by simp [zaw,zb,zaH,za2]) uSo fun v23=> ?_)
 refine gz8 ?_;exact ⟨k+1,⟨v23,out++[(⟨x,y18,t20⟩:PlayerS)],a20⟩,⟨by omega,hq.add (x:=(⟨x,y18,t20⟩:PlayerS)) ⟨by exact hy18,ht20⟩ (by dsimp only at ha20;omega)⟩,uD,⟨rfl,rfl,trivial⟩,uK,zn (by dsimp only;first|rfl|(rw [Ay];rfl))⟩;have hnk:nm5.length<=k:=by omega
 obtain rfl:k=nm5.length:=by omega
 refine gz2 ?_;refine zM ?_;refine gz7 ?_;exact zap (zaB 2 (i:=1) rfl rfl) rfl ⟨out,a2,rfl,⟨by omega,g2⟩,by omega,rfl⟩
theorem zaO [Tracks] {b:Nat} {l:List Int} {a:Nat} (ha:a<=800000):Con prog 91 [pAt b] [St b l a] (fun x M'=> ∃y:BoundS,x=zfS y/\M'=[St b l (a+4)]):=by
 refine zba func91 rfl ntmps91 rfl rfl ?_;refine gz1 ?_;refine de rfl (zj zja rfl fun b2=> ?_)
 refine gz3 ?_;refine dq (za (hs:=[_,_,_,_]) zah ty3 rfl rfl (by decide) (by decide) rfl) ?_;refine de rfl (uCx 1 ca6 rfl rfl (zf (L:=[_,_,_,_]) uS uS uS) ?_)
 rintro _ _ ⟨y5,rfl,hy5,rfl⟩;refine gz1 ?_;refine dq (za (hs:=[_,_,_]) zah ty3 rfl rfl (by decide) (by decide) rfl) ?_;refine de rfl (uCx 0 ca6 rfl rfl (zf (L:=[_,_,_]) uS uS uS) ?_)
 rintro _ _ ⟨y8,rfl,hy8,rfl⟩;refine gz1 ?_;refine dq (za (hs:=[_,_,_,_]) zah ty3 rfl rfl (by decide) (by decide) rfl) ?_;refine de rfl (uCx 0 ca6 rfl rfl (zf (L:=[_,_,_,_]) uS uS uS) ?_)
 rintro _ _ ⟨y11,rfl,hy11,rfl⟩;refine gz1 ?_;refine dq (za (hs:=[_,_,_,_]) zah ty3 rfl rfl (by decide) (by decide) rfl) ?_;refine de rfl (uCx 0 ca6 rfl rfl (zf (L:=[_,_,_,_]) uS uS uS) ?_)
 rintro _ _ ⟨y14,rfl,hy14,rfl⟩;refine dq (zG (cs:=[_,_,_,_]) zja pl32 rfl) ?_;refine de0 (uY 1 ?_)
 refine gz2 ?_;exact ⟨_,_,zbV 2 (i:=1) rfl rfl,[_],_,⟨⟨_,_,_,_,_,rfl,zja,.inr ⟨rfl,rfl,rfl⟩⟩,trivial⟩,Weak.refl _,⟨y5,y8,y11,y14⟩,rfl,rfl⟩
theorem zbl [Tracks] {b:Nat} {l:List Int} {a:Nat} (ha:a<=700000):Con prog 90 [pAt b] [St b l a] (fun x M'=> ∃k a',x=zeE k/\GoodS4s k/\0<k.length/\a'<=a+25/\M'=[St b l a']):=by
 refine uOb func90 ntmps90 ?_;refine gz6 ?_;refine ze (zN 2) ?_;refine gz2 ?_;refine dq (za (hs:=[_,_,_,_]) zp ty9 rfl rfl (by decide) (by decide) rfl) ?_;refine gz1 ?_;refine de rfl (uCx 1 zgu rfl rfl (zP uS uS uS uS) ?_)
 rintro _ _ ⟨y8,rfl,hy8,rfl⟩;refine dq (zaQ (es:=sl4) (f:=HVal.str) (h:=y8.toNat) zp ty9 rfl rfl ⟨_,_,rfl,by omega⟩ uO (by simp [sl4];omega)) ?_;refine dq (zaD (f:=HVal.str) (l:=(sl4.take y8.toNat)) zp rfl) ?_;refine gz2 ?_;have hlen:(sl4.take y8.toNat).length=y8.toNat:=by simp [sl4];omega
 refine gz1 ?_;refine uV2 [3,1,5,1,11,12] (fun (k:Nat) (q:GL SlotS)=>[(11,.int .i64 k),(3,.raw q.u)]) (fun (k:Nat) (q:GL SlotS)=>[St b l q.a,.arr q.u 2 (q.out.map zbT)]) (fun (k:Nat) (q:GL SlotS)=>k<=(sl4.take y8.toNat).length/\(q.out.length=k/\GLok zll k (a+1+5*k) q)) (fun (k:Nat) (q:GL SlotS)=>(sl4.take y8.toNat).length-k) (0) (⟨.slice none 0 0,[],a+1⟩) ?_ ?_ ?_ ?_;exact ⟨Ad _,rfl,⟨by simp,by simp,uD⟩⟩;exact ⟨rfl,rfl,trivial⟩;exact uP
 intro k q hinv
 obtain ⟨hk,⟨hn,hq⟩⟩:=hinv;obtain ⟨u,out,a2⟩:=q;obtain ⟨g1,g2,g3⟩:=id hq;dsimp only at g1 g2 g3;dsimp only at hn;refine gz4 ?_;refine uCo (fun h1=> ?_) fun h2=> ?_
 obtain ⟨x,hx⟩: ∃x,(sl4.take y8.toNat)[k]? =some x:=⟨_,Aa (by simpa using h1)⟩
 have hdx:=zi hx;refine gz5 ?_;refine dq (zB (f:=HVal.str) (l:=(sl4.take y8.toNat)) (j:=k) (a:=x) zp ty9 rfl rfl rfl hx) ?_;refine gz7 ?_;refine de rfl (uCx 0 zwg rfl rfl (zdH uS) ?_)
 rintro _ _ ⟨t18,a18,rfl,ht18,ha18,rfl⟩;refine dq (zG (cs:=[_,_]) zdt zzA rfl) ?_;refine dq (za (hs:=[_]) zfv zdt rfl rfl (by decide) (by decide) rfl) ?_;refine de rfl (zO (i:=1) zfv zdt rfl rfl rfl rfl rfl (by simp [zaw,zb,zaH,za2]) uSo fun v21=> ?_)
 refine gz8 ?_;exact ⟨k+1,⟨v21,out++[(⟨x,t18⟩:SlotS)],a18⟩,⟨by omega,by simp;omega,hq.add (x:=(⟨x,t18⟩:SlotS)) (by show t18.length<=4;omega) (by dsimp only at ha18;omega)⟩,uD,⟨rfl,rfl,trivial⟩,uK,zn (by dsimp only;first|rfl|(rw [Ay];rfl))⟩;have hnk:(sl4.take y8.toNat).length<=k:=by simpa using h2
 obtain rfl:k=(sl4.take y8.toNat).length:=by omega
 refine gz2 ?_;refine zM ?_;refine gz7 ?_;exact zap (zaB 2 (i:=1) rfl rfl) rfl ⟨out,a2,rfl,⟨by omega,g2⟩,by omega,by omega,rfl⟩
end
section
open Go.HL
set_option linter.unusedSimpArgs false
end
end Go.Proofs.YtbmggbfabohegaaGreatDoor
namespace Go.HL
section
section
variable {P:Program} {e:Env} {dst:Option Tmp} {ty:TypeId} {pos:String} {af:Array Edge} {g:Option (Nat×Bool)} {M:List MObj} {K:HVal->List MObj->Prop}
end
end
end Go.HL
namespace Go.Proofs.YtbmggbfabohegaaGreatDoor
set_option maxRecDepth 100000
set_option linter.unusedVariables false
set_option linter.unusedSimpArgs false
section
open Go.Proofs.Tryz
open Go.HL
theorem zgt [Tracks] {l:List MoveS} {v:Value} (hl:l.length<=1000000):Con prog 43 [.raw v] [.arr v 4 (l.map zdb)] (fun x M'=> ∃u,x= .raw u/\M'=[.arr u 4 ((zak none l).map zdb)]):=by
 refine uOb func43 ntmps43 ?_;refine gz6 ?_;refine de rfl (zaR (i:=0) zcn rfl rfl ?_)
 refine gz2 ?_;refine uCo (fun h1=> ?_) fun h2=> ?_
 refine gz5 ?_
 (refine zad rfl ⟨_,rfl,?_⟩
  rw [zsB uO])
 refine gz3 ?_;refine zcT (i:=0) rfl (fun h0 he=> ?_) (fun b off cap hv hcap=> ?_)
 exfalso;have:=congrArg List.length he;simp at this;subst this;simp at h2
 rw [Ag] at hv hcap;subst hv;refine gz4 ?_;refine uT1 [2,4,10,50] (fun k=>[(3,.int .i64 (k:Int))]) (fun k=>[.arr (.slice (some ⟨b,off,none⟩) l.length cap) 4 (l.map zdb)]) (fun k=>(1<=k/\k<=l.length)/\zak none (l.take k)=l.take k) (fun k=>l.length-k) (1) ?_ ?_;exact ⟨⟨by omega,by omega⟩,zsB uSo⟩;rintro k ⟨⟨hk1,hk⟩,hu⟩;refine gz4 ?_;refine de rfl (zaR (i:=0) zcn rfl rfl ?_)
 refine gz2 ?_;refine uCo (fun h3=> ?_) fun h4=> ?_
 obtain ⟨x,hx⟩: ∃x,l[k]? =some x:=⟨_,Aa uO⟩
 obtain ⟨y,hy⟩: ∃y,l[k-1]? =some y:=⟨_,Aa uO⟩
 refine gz4 ?_;refine zbt (fun M=>M=[.arr (.slice (some ⟨b,off,none⟩) l.length cap) 4 (l.map zdb)]) [3,8] mixed ?_;refine gz2 ?_;refine uB 2 rfl (zD (j:=k) zcn zH rfl rfl rfl uO) ?_;refine uM 3 rfl rfl (uW (zab (i:=0) (j:=k) zH rfl uO rfl hx rfl rfl rfl ⟨rfl,rfl⟩)) ?_;refine gz3 ?_;refine uB 7 rfl (zD (j:=k-1) zcn zH rfl rfl uO uO) ?_;refine uM 8 rfl rfl (uW (zab (i:=0) (j:=k-1) zH rfl uO rfl hy rfl rfl rfl ⟨rfl,rfl⟩)) ?_;refine uB 9 rfl (zzD zH zAH rfl rfl ⟨rfl,⟨_,_,_,_,ty3,rfl⟩,⟨rfl,⟨_,_,_,_,ty3,rfl⟩,⟨rfl,⟨_,_,_,_,ty9,rfl⟩,⟨rfl,⟨_,_,_,_,ty9,rfl⟩,trivial⟩⟩⟩⟩) ?_;refine gz1 ?_;refine uCo (fun h5=> ?_) fun h6=> ?_
 have hxy:x=y:=(ziR _ _).1 (by simpa using h5);obtain ⟨hC0,hU0⟩:=CmpA.start hx hy uO hxy hu;refine gz3 ?_;refine dq (zeT (l:=k) (h:=l.length) zcn zH rfl ⟨_,_,rfl,rfl⟩ rfl uO uO hcap) ?_;refine gz2 ?_;rw [zsu uO];refine gz5 ?_;refine uV2 [3,1,5,1,29,25] (fun (k2:Nat) (D:List MoveS)=>[(5,.int .i64 (k2:Int)),(3,.int .i64 ((zak none (l.take (k+k2))).length:Int))]) (fun (k2:Nat) (D:List MoveS)=>[.arr (.slice (some ⟨b,off,none⟩) l.length cap) 4 (D.map zdb)]) (fun (k2:Nat) (D:List MoveS)=>(1<=k2/\k+k2<=l.length)/\CmpA l (k+k2) D) (fun (k2:Nat) (D:List MoveS)=>l.length-k2) (1) (l) ?_ ?_ ?_ ?_;exact ⟨⟨by omega,by have:=zo hx;omega⟩,hC0⟩;exact ⟨rfl,zQ (by rw [hU0]),trivial⟩;exact Ac _
 intro k2 D hinv
 obtain ⟨⟨hk2,hkk⟩,hD⟩:=hinv;have hlt0:=hD.lt;have hle0:=hD.len;refine gz4 ?_;refine dq (zfo zcn rfl) ?_;refine gz2 ?_;refine uCo (fun h7=> ?_) fun h8=> ?_
 obtain ⟨x2,hx2⟩: ∃x,l[k+k2]? =some x:=⟨_,Aa uO⟩
 obtain ⟨y2,hy2⟩: ∃y,l[k+k2-1]? =some y:=⟨_,Aa uO⟩
 have hDx:D[k+k2]? =some x2:=by rw [hD.hi _ uO,hx2]
 have hDy:D[k+k2-1]? =some y2:=by rw [hD.hi _ uO,hy2]
 refine gz4 ?_;refine zbt (fun M=>M=[.arr (.slice (some ⟨b,off,none⟩) l.length cap) 4 (D.map zdb)]) [3,8] mixed ?_;refine gz2 ?_;refine uB 2 rfl (zD (j:=k2) zcn zH rfl rfl rfl uO) ?_;refine uM 3 rfl rfl (uW (zab (i:=0) (j:=(k+k2)) zH rfl uO rfl hDx rfl rfl rfl ⟨rfl,rfl⟩)) ?_;refine gz3 ?_;refine uB 7 rfl (zD (j:=k2-1) zcn zH rfl rfl uO uO) ?_;refine uM 8 rfl rfl (uW (zab (i:=0) (j:=(k+k2-1)) zH rfl uO rfl hDy rfl rfl rfl ⟨rfl,rfl⟩)) ?_;refine uB 9 rfl (ziV zH zAH rfl rfl ⟨rfl,⟨_,_,_,_,ty3,rfl⟩,⟨rfl,⟨_,_,_,_,ty3,rfl⟩,⟨rfl,⟨_,_,_,_,ty9,rfl⟩,⟨rfl,⟨_,_,_,_,ty9,rfl⟩,trivial⟩⟩⟩⟩) ?_;refine gz1 ?_;refine uCo (fun h9=> ?_) fun h10=> ?_
 refine gz5 ?_;refine dq (zD (j:=k2) zcn zH rfl rfl rfl uO) ?_;refine de rfl (zab (i:=0) (j:=(k+k2)) zH rfl uO rfl hDx rfl rfl rfl ?_)
 refine dq (zD (j:=(zak none (l.take (k+k2))).length) zcn zH rfl rfl rfl uO) ?_;refine de0 (za0 (i:=0) (j:=(zak none (l.take (k+k2))).length) (y:=D[(zak none (l.take (k+k2))).length]'uO) (y':=x2) zH rfl rfl rfl rfl (Aa _) rfl rfl rfl ?_)
 refine zel ?_;have hxy:x2≠y2:=fun q=>by have q2:=(ziR _ _).2 q;simp_all
 obtain ⟨hC1,hU1⟩:=hD.more hx2 hy2 hxy;exact ⟨k2+1,_,⟨⟨by omega,by omega⟩,hC1⟩,uD,⟨rfl,zQ (by rw [<-A0,hU1];rfl),trivial⟩,uK,Ac _⟩;refine gz8 ?_;have hxy:x2=y2:=(ziR _ _).1 (by simpa using h10);obtain ⟨hC1,hU1⟩:=hD.same hx2 hy2 hxy;exact ⟨k2+1,D,⟨⟨by omega,by omega⟩,hC1⟩,uD,⟨rfl,zQ (by rw [<-A0,hU1]),trivial⟩,uK,Ac _⟩;have hkl:k+k2=l.length:=by omega
 refine gz2 ?_;refine zM ?_;refine gz5 ?_;refine dq (zeT (l:=(zak none (l.take (k+k2))).length) (h:=l.length) zcn zH rfl ⟨_,_,rfl,rfl⟩ rfl uO uO hcap) ?_;refine de0 (zeF (i:=0) (m:=(zak none (l.take (k+k2))).length) ((zak none (l.take (k+k2))).length) zcn zH rfl rfl rfl (zim uO hcap) rfl uO (Ae _) (by rw [Ag,hD.len];omega) ?_)
 refine gz4 ?_;refine dq (zgn (h:=(zak none (l.take (k+k2))).length) zcn zH rfl ⟨_,_,rfl,rfl⟩ uO) ?_;refine gz3 ?_
 (refine zad rfl ⟨_,rfl,?_⟩
  have hlo:=hD.lo;rw [hkl,Ak] at hlo⊢;rw [<-BC,hlo];rfl)
 refine gz8 ?_;have hxy:x≠y:=fun q=>by have q2:=(ziR _ _).2 q;simp_all
 exact ⟨k+1,⟨⟨by omega,by omega⟩,by rw [zjz hx hy uO,if_neg hxy,hu,z6 hx]⟩,uD,⟨rfl,trivial⟩,uK,Ac _⟩;have hkl:k=l.length:=by omega
 rw [hkl,Ak] at hu;refine gz2 ?_;refine zw ?_;refine gz7 ?_
 (refine zad rfl ⟨_,rfl,?_⟩
  rw [hu])
theorem zeW [Tracks] {l:List HealthS} {fid:FuncId} {caps:List HVal} {p:HealthS->Bool} (hca:Callable prog fid) (hp: ∀x,ConP prog fid ([zcp x]++caps) (.bool (p x))) (hl:l.length<=1000000):ConP prog 264 [.slice 4 (l.map zcp),.fn (.func fid) [] caps] (.int .i64 (zT p l 0)):=by
 refine uOb func264 ntmps264 ?_;refine zaz ?_;refine uT1 [4,2,8,11] (fun k=>[(8,.int .i64 k)]) (fun k=>[]) (fun k=>k<=l.length/\(zT p l 0=zT p (l.drop k) k)) (fun k=>l.length-k) (0) ?_ ?_;exact ⟨Ad _,rfl⟩;rintro k ⟨hk,hg⟩;refine gz4 ?_;refine uCo (fun h1=> ?_) fun h2=> ?_
 obtain ⟨x,hx⟩: ∃x,l[k]? =some x:=⟨_,Aa h1⟩
 have hdx:=zi hx;rw [hdx] at hg;refine zdg ?_;refine dq (zao hca rfl rfl (WeakL.refl _) (hp _)) ?_;refine gz1 ?_;refine uCo (fun h3=> ?_) fun h4=> ?_
 refine gz5 ?_;refine uRp ?_
 (rw [hg];simp_all [zT])
 refine gz7 ?_;refine ⟨k+1,?_,?_,⟨rfl,trivial⟩,uK,Ac _⟩
 refine ⟨by omega,?_⟩
 rw [hg,zT,if_neg uSa];rfl
 dsimp only;omega
 have hnk:l.length<=k:=by omega
 obtain rfl:k=l.length:=by omega
 rw [zI (Ae _)] at hg;refine gz2 ?_;refine zw ?_;refine gz6 ?_;refine uRp ?_
 (rw [hg];rfl)
end
section
open Go.Proofs.Tryz
open Go.HL
theorem zia [Tracks] {b:Nat} {l:List Int} {a:Nat} {lo hi:Int} (ha:a<=900000) (hlh:lo<=hi) (h0: -1000000000<=lo) (h1:hi<=1000000000):Con prog 102 [pAt b,.int .i64 lo,.int .i64 hi] [St b l a] (fun x M'=> ∃y:Int,x= .int .i64 y/\(-2000000000000<=y/\y<=2000000000000)/\M'=[St b l (a+2)]):=by
 refine uOb func102 ntmps102 ?_;refine gz6 ?_;refine de rfl (uCx 0 zek rfl rfl (zJ uS uS) ?_)
 rintro _ _ ⟨y8,rfl,rfl⟩;refine gz1 ?_;refine uCo (fun h1=> ?_) fun h2=> ?_
 refine gz8 ?_;refine dq (za (hs:=[_,_,_,_,_,_]) zah ty3 rfl rfl (by decide) (by decide) rfl) ?_;refine de rfl (uCx 0 ca6 rfl rfl (zf (L:=[_,_,_,_,_,_]) uS uS uS) ?_)
 rintro _ _ ⟨y17,rfl,hy17,rfl⟩;refine gz3 ?_;exact zad rfl ⟨_,rfl,by simp at hy17;rcases hy17 with rfl|rfl|rfl|rfl|rfl|rfl<;>omega,rfl⟩;refine gz6 ?_;refine de rfl (uCx 0 zgu rfl rfl (zP uS uS uS uS) ?_)
 rintro _ _ ⟨y21,rfl,hy21,rfl⟩;refine gz3 ?_;exact zad rfl ⟨_,rfl,by omega,rfl⟩
theorem zeO [Tracks] {l:List HealthS} {fid:FuncId} {caps:List HVal} {p:HealthS->Bool} {v:Value} (hca:Callable prog fid) (hp: ∀x,ConP prog fid ([zcp x]++caps) (.bool (p x))) (hl:l.length<=1000000):Con prog 192 [.raw v,.fn (.func fid) [] caps] [.arr v 4 (l.map zcp)] (fun x M'=> ∃u,x= .raw u/\M'=[.arr u 4 ((l.filter (fun x=> !p x)).map zcp)]):=by
 refine uOb func192 ntmps192 ?_;refine gz6 ?_;refine de rfl (zkz (hs':=[.slice 4 (l.map zcp),.fn (.func fid) [] caps]) zEt rfl ⟨.arr (i:=0) rfl,.weak (Weak.refl _),trivial⟩ (zeW (p:=p) hca hp hl) rfl ?_)
 refine gz7 ?_;refine uCo (fun h1=> ?_) fun h2=> ?_
 ·refine gz5 ?_
  (refine zad rfl ⟨_,rfl,?_⟩
   rw [zhq p l 0 uO h1]
   done)
 ·refine gz3 ?_;obtain ⟨i0,hi0,hil,⟨x0,hx0,hp0⟩,hb0⟩:=zgl p l 0 uO h2;rw [Int.zero_add] at hi0;obtain ⟨hD0,hn0⟩:=DelInv.start (p:=p) hil hx0 hp0 hb0;refine zcT (i:=0) rfl (fun h0 he=> ?_) (fun b off cap hv hcap=> ?_)
  ·exfalso;have:=congrArg List.length he;simp at this;subst this;simp at hil
  rw [Ag] at hv hcap;subst hv;refine gz2 ?_;refine dq (z8 (zbp rfl rfl (by rw [hi0];omega) (by rw [hi0];omega)) (congrArg _ (by rw [hi0]))) ?_;refine gz3 ?_;refine uV2 [5,3,16,20] (fun (j:Nat) (D:List HealthS)=>[(6,.int .i64 (j:Int)),(5,.int .i64 (((l.take j).filter (fun x=> !p x)).length:Int))]) (fun (j:Nat) (D:List HealthS)=>[.arr (.slice (some ⟨b,off,none⟩) l.length cap) 4 (D.map zcp)]) (fun (j:Nat) (D:List HealthS)=>DelInv p l j D) (fun (j:Nat) (D:List HealthS)=>l.length-j) (i0+1) (l) ?_ ?_ ?_ ?_
  ·exact hD0
  ·exact ⟨rfl,zQ (by rw [hn0,hi0]),trivial⟩
  ·exact Ac _
  ·intro j D hD
   have hlt0:=hD.lt;have hle0:=hD.len;refine gz4 ?_;refine de rfl (zaR (i:=0) zjb rfl rfl ?_)
   refine gz2 ?_;refine uCo (fun h3=> ?_) fun h4=> ?_
   ·obtain ⟨x,hx⟩: ∃x,l[j]? =some x:=⟨_,Aa uO⟩
    refine gz7 ?_;refine dq (zD (j:=j) zjb zcw rfl rfl rfl uO) ?_;refine de rfl (zab (i:=0) (j:=j) zcw rfl rfl rfl (hD.get hx) rfl rfl rfl ?_)
    refine de rfl (zj zcw rfl fun b7=> ?_)
    refine de0 (zl zcw rfl rfl rfl rfl rfl ?_)
    refine gz1 ?_;refine ze (zm 7 rfl) ?_;refine gz3 ?_;refine dq (zao hca rfl rfl (WeakL.refl _) (hp _)) ?_;refine gz2 ?_;refine uCo (fun h5=> ?_) fun h6=> ?_
    ·refine gz4 ?_;refine dq (zD (j:=((l.take j).filter (fun x=> !p x)).length) zjb zcw rfl rfl rfl (by have:=hD.lt;omega)) ?_;refine de0 (za0 (i:=0) (j:=((l.take j).filter (fun x=> !p x)).length) (y:=D[((l.take j).filter (fun x=> !p x)).length]'(by have:=hD.lt;have:=hD.len;omega)) (y':=x) zcw rfl rfl rfl rfl (Aa _) rfl rfl rfl ?_)
     refine gz3 ?_;refine dq (zbp rfl rfl uO (by have:=hD.lt;omega)) ?_;refine gz9 ?_;exact ⟨j+1,_,(hD.keep hx uSa).1,uD,⟨rfl,zQ (by rw [(hD.keep hx uSa).2];rfl),trivial⟩,uK,Ac _⟩
    ·refine gz8 ?_;exact ⟨j+1,_,(hD.skip hx uSa).1,uD,⟨rfl,zQ (by rw [(hD.skip hx uSa).2]),trivial⟩,uK,Ac _⟩
   ·obtain rfl:j=l.length:=by have:=hD.jle;omega
    have hend:=hD.done;refine gz2 ?_;refine zM ?_;refine gz5 ?_;refine dq (zeT (l:=((l.take l.length).filter (fun x=> !p x)).length) zjb zcw rfl ⟨_,_,rfl,rfl⟩ rfl uO uO hcap) ?_;refine de0 (zeF (i:=0) (m:=((l.take l.length).filter (fun x=> !p x)).length) (((l.take l.length).filter (fun x=> !p x)).length) zjb zcw rfl rfl rfl (zim uO hcap) rfl uO (Ae _) (by rw [Ag,hD.len];omega) ?_)
    refine gz4 ?_;refine dq (zgn (h:=((l.take l.length).filter (fun x=> !p x)).length) zjb zcw rfl ⟨_,_,rfl,rfl⟩ uO) ?_;refine gz3 ?_
    (refine zad rfl ⟨_,rfl,?_⟩
     rw [Ak,<-BC,hend];rfl)
theorem zfq [Tracks] {l:List StintS} {fid:FuncId} {caps:List HVal} {p:StintS->Bool} (hca:Callable prog fid) (hp: ∀x,ConP prog fid ([zc7 x]++caps) (.bool (p x))) (hl:l.length<=1000000):ConP prog 305 [.slice 3 (l.map zc7),.fn (.func fid) [] caps] (.int .i64 (zT p l 0)):=by
 refine uOb func305 ntmps305 ?_;refine zaz ?_;refine uT1 [4,2,8,11] (fun k=>[(8,.int .i64 k)]) (fun k=>[]) (fun k=>k<=l.length/\(zT p l 0=zT p (l.drop k) k)) (fun k=>l.length-k) (0) ?_ ?_;exact ⟨Ad _,rfl⟩;rintro k ⟨hk,hg⟩;refine gz4 ?_;refine uCo (fun h1=> ?_) fun h2=> ?_
 obtain ⟨x,hx⟩: ∃x,l[k]? =some x:=⟨_,Aa h1⟩
 have hdx:=zi hx;rw [hdx] at hg;refine zdg ?_;refine dq (zao hca rfl rfl (WeakL.refl _) (hp _)) ?_;refine gz1 ?_;refine uCo (fun h3=> ?_) fun h4=> ?_
 refine gz5 ?_;refine uRp ?_
 (rw [hg];simp_all [zT])
 refine gz7 ?_;refine ⟨k+1,?_,?_,⟨rfl,trivial⟩,uK,Ac _⟩
 refine ⟨by omega,?_⟩
 rw [hg,zT,if_neg uSa];rfl
 dsimp only;omega
 have hnk:l.length<=k:=by omega
 obtain rfl:k=l.length:=by omega
 rw [zI (Ae _)] at hg;refine gz2 ?_;refine zw ?_;refine gz6 ?_;refine uRp ?_
 (rw [hg];rfl)
theorem ze9 [Tracks] {l:List StintS} {fid:FuncId} {caps:List HVal} {p:StintS->Bool} {v:Value} (hca:Callable prog fid) (hp: ∀x,ConP prog fid ([zc7 x]++caps) (.bool (p x))) (hl:l.length<=1000000):Con prog 250 [.raw v,.fn (.func fid) [] caps] [.arr v 3 (l.map zc7)] (fun x M'=> ∃u,x= .raw u/\M'=[.arr u 3 ((l.filter (fun x=> !p x)).map zc7)]):=by
 refine uOb func250 ntmps250 ?_;refine gz6 ?_;refine de rfl (zkz (hs':=[.slice 3 (l.map zc7),.fn (.func fid) [] caps]) zEP rfl ⟨.arr (i:=0) rfl,.weak (Weak.refl _),trivial⟩ (zfq (p:=p) hca hp hl) rfl ?_)
 refine gz7 ?_;refine uCo (fun h1=> ?_) fun h2=> ?_
 ·refine gz5 ?_
  (refine zad rfl ⟨_,rfl,?_⟩
   rw [zhq p l 0 uO h1]
   done)
 ·refine gz3 ?_;obtain ⟨i0,hi0,hil,⟨x0,hx0,hp0⟩,hb0⟩:=zgl p l 0 uO h2;rw [Int.zero_add] at hi0;obtain ⟨hD0,hn0⟩:=DelInv.start (p:=p) hil hx0 hp0 hb0;refine zcT (i:=0) rfl (fun h0 he=> ?_) (fun b off cap hv hcap=> ?_)
  ·exfalso;have:=congrArg List.length he;simp at this;subst this;simp at hil
  rw [Ag] at hv hcap;subst hv;refine gz2 ?_;refine dq (z8 (zbp rfl rfl (by rw [hi0];omega) (by rw [hi0];omega)) (congrArg _ (by rw [hi0]))) ?_;refine gz3 ?_;refine uV2 [5,3,16,20] (fun (j:Nat) (D:List StintS)=>[(6,.int .i64 (j:Int)),(5,.int .i64 (((l.take j).filter (fun x=> !p x)).length:Int))]) (fun (j:Nat) (D:List StintS)=>[.arr (.slice (some ⟨b,off,none⟩) l.length cap) 3 (D.map zc7)]) (fun (j:Nat) (D:List StintS)=>DelInv p l j D) (fun (j:Nat) (D:List StintS)=>l.length-j) (i0+1) (l) ?_ ?_ ?_ ?_
  ·exact hD0
  ·exact ⟨rfl,zQ (by rw [hn0,hi0]),trivial⟩
  ·exact Ac _
  ·intro j D hD
   have hlt0:=hD.lt;have hle0:=hD.len;refine gz4 ?_;refine de rfl (zaR (i:=0) zhe rfl rfl ?_)
   refine gz2 ?_;refine uCo (fun h3=> ?_) fun h4=> ?_
   ·obtain ⟨x,hx⟩: ∃x,l[j]? =some x:=⟨_,Aa uO⟩
    refine gz7 ?_;refine dq (zD (j:=j) zhe zcH rfl rfl rfl uO) ?_;refine de rfl (zab (i:=0) (j:=j) zcH rfl rfl rfl (hD.get hx) rfl rfl rfl ?_)
    refine de rfl (zj zcH rfl fun b7=> ?_)
    refine de0 (zl zcH rfl rfl rfl rfl rfl ?_)
    refine gz1 ?_;refine ze (zm 7 rfl) ?_;refine gz3 ?_;refine dq (zao hca rfl rfl (WeakL.refl _) (hp _)) ?_;refine gz2 ?_;refine uCo (fun h5=> ?_) fun h6=> ?_
    ·refine gz4 ?_;refine dq (zD (j:=((l.take j).filter (fun x=> !p x)).length) zhe zcH rfl rfl rfl (by have:=hD.lt;omega)) ?_;refine de0 (za0 (i:=0) (j:=((l.take j).filter (fun x=> !p x)).length) (y:=D[((l.take j).filter (fun x=> !p x)).length]'(by have:=hD.lt;have:=hD.len;omega)) (y':=x) zcH rfl rfl rfl rfl (Aa _) rfl rfl rfl ?_)
     refine gz3 ?_;refine dq (zbp rfl rfl uO (by have:=hD.lt;omega)) ?_;refine gz9 ?_;exact ⟨j+1,_,(hD.keep hx uSa).1,uD,⟨rfl,zQ (by rw [(hD.keep hx uSa).2];rfl),trivial⟩,uK,Ac _⟩
    ·refine gz8 ?_;exact ⟨j+1,_,(hD.skip hx uSa).1,uD,⟨rfl,zQ (by rw [(hD.skip hx uSa).2]),trivial⟩,uK,Ac _⟩
   ·obtain rfl:j=l.length:=by have:=hD.jle;omega
    have hend:=hD.done;refine gz2 ?_;refine zM ?_;refine gz5 ?_;refine dq (zeT (l:=((l.take l.length).filter (fun x=> !p x)).length) zhe zcH rfl ⟨_,_,rfl,rfl⟩ rfl uO uO hcap) ?_;refine de0 (zeF (i:=0) (m:=((l.take l.length).filter (fun x=> !p x)).length) (((l.take l.length).filter (fun x=> !p x)).length) zhe zcH rfl rfl rfl (zim uO hcap) rfl uO (Ae _) (by rw [Ag,hD.len];omega) ?_)
    refine gz4 ?_;refine dq (zgn (h:=((l.take l.length).filter (fun x=> !p x)).length) zhe zcH rfl ⟨_,_,rfl,rfl⟩ uO) ?_;refine gz3 ?_
    (refine zad rfl ⟨_,rfl,?_⟩
     rw [Ak,<-BC,hend];rfl)
theorem zeo [Tracks] {x:HealthS}:ConP prog 104 [zcp x] (.str x.Player):=by
 refine uOb func104 ntmps104 ?_;refine zaz ?_;refine zx rfl ?_
 rfl
theorem znC [Tracks] {L:List PlayerS} {x:HealthS} (hL:L.length<=1000000):ConP prog 193 [zcp x,.vptr [zbh L] 0,.vptr [.fn (.func 104) [] []] 0] (.bool (ofB L x.Player)):=by
 refine uOb func193 ntmps193 ?_;refine gz4 ?_;refine uDr mixed ?_;refine gz3 ?_;refine uB 3 rfl (zao zz4 rfl rfl (WeakL.refl _) (zeo (x:=x))) ?_;refine uB 4 rfl (uCl zs1 rfl (zdm (l:=L) (s:=x.Player) hL)) ?_;refine gz4 ?_;refine uGy 9 rfl rfl (fun hc=>zao zz4 rfl rfl (WeakL.refl _) (zeo (x:=x))) ?_;refine gz5 ?_;refine zx rfl ?_;refine congrArg _ ?_;unfold ofB
 cases decide (zT (fun x_1:PlayerS=>x_1.Key==x.Player) L 0<0)
 rfl
 rfl
theorem zpy [Tracks] {L:List PlayerS} {l:List HealthS} {v:Value} (hL:L.length<=1000000) (hl:l.length<=1000000):Con prog 103 [zbh L,.raw v,.fn (.func 104) [] []] [.arr v 4 (l.map zcp)] (fun x M'=> ∃u,x= .raw u/\M'=[.arr u 4 ((l.filter fun x=> !(ofB L x.Player)).map zcp)]):=by
 refine uOb func103 ntmps103 ?_;refine gz8 ?_;refine de rfl (uCx 0 zDQ rfl rfl (zeO (l:=l) (p:=fun x=>ofB L x.Player) zDR (fun _=>znC hL) hl) ?_)
 rintro _ _ ⟨u9,rfl,rfl⟩;refine gz3 ?_;exact zad rfl ⟨u9,rfl,rfl⟩
theorem zep [Tracks] {x:StintS}:ConP prog 185 [zc7 x] (.str x.Player):=by
 refine uOb func185 ntmps185 ?_;refine zaz ?_;refine zx rfl ?_
 rfl
theorem zo4 [Tracks] {L:List PlayerS} {x:StintS} (hL:L.length<=1000000):ConP prog 251 [zc7 x,.vptr [zbh L] 0,.vptr [.fn (.func 185) [] []] 0] (.bool (ofB L x.Player)):=by
 refine uOb func251 ntmps251 ?_;refine gz4 ?_;refine uDr mixed ?_;refine gz3 ?_;refine uB 3 rfl (zao zAh rfl rfl (WeakL.refl _) (zep (x:=x))) ?_;refine uB 4 rfl (uCl zs1 rfl (zdm (l:=L) (s:=x.Player) hL)) ?_;refine gz4 ?_;refine uGy 9 rfl rfl (fun hc=>zao zAh rfl rfl (WeakL.refl _) (zep (x:=x))) ?_;refine gz5 ?_;refine zx rfl ?_;refine congrArg _ ?_;unfold ofB
 cases decide (zT (fun x_1:PlayerS=>x_1.Key==x.Player) L 0<0)
 rfl
 rfl
theorem zp9 [Tracks] {L:List PlayerS} {l:List StintS} {v:Value} (hL:L.length<=1000000) (hl:l.length<=1000000):Con prog 183 [zbh L,.raw v,.fn (.func 185) [] []] [.arr v 3 (l.map zc7)] (fun x M'=> ∃u,x= .raw u/\M'=[.arr u 3 ((l.filter fun x=> !(ofB L x.Player)).map zc7)]):=by
 refine uOb func183 ntmps183 ?_;refine gz8 ?_;refine de rfl (uCx 0 zEr rfl rfl (ze9 (l:=l) (p:=fun x=>ofB L x.Player) zEs (fun _=>zo4 hL) hl) ?_)
 rintro _ _ ⟨u9,rfl,rfl⟩;refine gz3 ?_;exact zad rfl ⟨u9,rfl,rfl⟩
theorem ziF [Tracks] {b:Nat} {l:List Int} {a:Nat} {L:List PlayerS} (ha:a<=700000) (hL:L.length<=1000000):Con prog 44 [pAt b,zbh L] [St b l a] (fun x M'=> ∃k a',x=zcB k/\GoodHes k/\a'<=a+150/\M'=[St b l a']):=by
 refine uOb func44 ntmps44 ?_;refine gz6 ?_;refine ze (zN 4) ?_;refine gz2 ?_;refine dq (za (hs:=[_,_,_,_,_]) zp ty9 rfl rfl (by decide) (by decide) rfl) ?_;refine dq (zaD (f:=HVal.str) (l:=nm5) zp rfl) ?_;refine gz3 ?_;refine uV2 [5,1,7,3,12,47] (fun (k:Nat) (q:GL HealthS)=>[(12,.int .i64 k),(5,.raw q.u)]) (fun (k:Nat) (q:GL HealthS)=>[St b l q.a,.arr q.u 4 (q.out.map zcp)]) (fun (k:Nat) (q:GL HealthS)=>k<=nm5.length/\(GLok ztp (2*k) (a+24*k) q)) (fun (k:Nat) (q:GL HealthS)=>nm5.length-k) (0) (⟨.slice none 0 0,[],a⟩) ?_ ?_ ?_ ?_;exact ⟨Ad _,⟨by simp,by simp,uD⟩⟩;exact ⟨rfl,rfl,trivial⟩;exact uP
 intro k q hinv
 obtain ⟨hk,hq⟩:=hinv;have hlen:nm5.length=5:=rfl;obtain ⟨u,out,a2⟩:=q;obtain ⟨g1,g2,g3⟩:=id hq;dsimp only at g1 g2 g3;refine gz4 ?_;refine uCo (fun h1=> ?_) fun h2=> ?_
 obtain ⟨x,hx⟩: ∃x,nm5[k]? =some x:=⟨_,Aa h1⟩
 have hdx:=zi hx;refine gz5 ?_;refine dq (zB (f:=HVal.str) (l:=nm5) (j:=k) (a:=x) zp ty9 rfl rfl rfl hx) ?_;refine gz5 ?_;refine de rfl (uCx 0 zgu rfl rfl (zP uS uS uS uS) ?_)
 rintro _ _ ⟨y17,rfl,hy17,rfl⟩;refine gz4 ?_;refine de rfl (uCx 0 zgu rfl rfl (zP uS uS uS uS) ?_)
 rintro _ _ ⟨y19,rfl,hy19,rfl⟩;refine gz3 ?_;refine uV3 [5,1,8,2,20,38] (fun (n:Nat) (wk:Int) (q2:GL HealthS)=>[(20,.int .i64 (n:Int)),(8,.int .i64 wk),(5,.raw q2.u)]) (fun (n:Nat) (wk:Int) (q2:GL HealthS)=>[St b l q2.a,.arr q2.u 4 (q2.out.map zcp)]) (fun (n:Nat) (wk:Int) (q2:GL HealthS)=>(n:Int)<=y19/\(1<=wk/\wk<=3+4*n)/\GLok ztp (2*k+n) (a+24*k+2+11*n) q2) (fun (n:Nat) (wk:Int) (q2:GL HealthS)=>y19.toNat-n) (0) (y17) (⟨u,out,a2+2⟩) ?_ ?_ ?_ ?_;exact ⟨by omega,by omega,⟨uD,g2,uD⟩⟩;exact ⟨rfl,rfl,rfl,trivial⟩;exact uP
 intro n wk q2 hinv
 obtain ⟨hn,hw,hq2⟩:=hinv;obtain ⟨u,out,a2⟩:=q2;obtain ⟨g1,g2,g3⟩:=id hq2;dsimp only at g1 g2 g3;refine gz4 ?_;refine uCo (fun h3=> ?_) fun h4=> ?_
 refine gz9 ?_;refine de rfl (uCx 0 zgu rfl rfl (zP uS uS uS uS) ?_)
 rintro _ _ ⟨y26,rfl,hy26,rfl⟩;refine gz2 ?_;refine dq (za (hs:=[_,_]) zah ty3 rfl rfl (by decide) (by decide) rfl) ?_;refine de rfl (uCx 0 ca6 rfl rfl (zf (L:=[_,_]) uS uS uS) ?_)
 rintro _ _ ⟨y30,rfl,hy30,rfl⟩;refine dq (zG (cs:=[_,_,_,_]) zcw zFl rfl) ?_;refine de rfl (zj zcw rfl fun b9=> ?_)
 refine de0 (uY 0 ?_)
 refine gz1 ?_;refine zbt (fun M=> ∃i:Nat,M[i]? =some (.cells b9 (zb (zcp (⟨x,wk,wk+y26,y30⟩:HealthS))))) [1] mixed ?_;refine gz1 ?_;refine uM 1 rfl ⟨0,rfl⟩ (fun M hM=>by obtain ⟨i,hi⟩:=hM;exact zas (i:=i) (h:= .int .i64 (wk+y26)) ty3 rfl hi (.inl ⟨rfl,rfl⟩) ⟨rfl,rfl⟩) ?_;refine gz1 ?_;refine uF 3 ?_;refine zv rfl (uCx 1 zgu rfl rfl (zP uS uS uS uS) ?_)
 rintro _ _ ⟨y35,rfl,hy35,rfl⟩;refine ⟨uE,?_⟩
 refine gz3 ?_;refine uVj [37,16] (fun (q4:HealthS×Nat)=>[]) (fun (q4:HealthS×Nat)=>[St b l q4.2,.arr u 4 (out.map zcp),.cells b9 (zb (zcp q4.1))]) (fun (q4:HealthS×Nat)=>ztp q4.1/\q4.2<=a2+11) ?_ ?_
 skip
 refine gz2 ?_;refine de rfl (uCx 0 zek rfl rfl (zJ uS uS) ?_)
 rintro _ _ ⟨y38,rfl,rfl⟩;refine gz1 ?_;refine uCo (fun h5=> ?_) fun h6=> ?_
 refine gz3 ?_;refine dq (za (hs:=[_,_]) zp ty9 rfl rfl (by decide) (by decide) rfl) ?_;refine de rfl (uCx 0 zci rfl rfl (zq (L:=[_,_]) uS uS uS) ?_)
 rintro _ _ ⟨y42,rfl,hy42,rfl⟩;refine gz1 ?_;refine de rfl (uCx 0 zl9 rfl rfl (zia uS uS uS uS) ?_)
 rintro _ _ ⟨y44,rfl,hy44,rfl⟩;refine gz1 ?_;refine de rfl (uCx 0 zl9 rfl rfl (zia uS uS uS uS) ?_)
 rintro _ _ ⟨y46,rfl,hy46,rfl⟩;refine gz1 ?_;refine de rfl (uCx 0 zl9 rfl rfl (zia uS uS uS uS) ?_)
 rintro _ _ ⟨y48,rfl,hy48,rfl⟩;refine gz1 ?_;refine de0 (uY 1 ?_)
 refine gz1 ?_;refine de0 (uY 1 ?_)
 refine gz1 ?_;refine de0 (uY 1 ?_)
 refine gz1 ?_;refine de0 (uY 1 ?_)
 refine gz1 ?_;exact ⟨((⟨y42,y44,y46,y48⟩:HealthS),a2+11),⟨⟨uD,uD⟩,uD⟩,trivial,uK,uP⟩;refine gz1 ?_;exact ⟨((⟨x,wk,wk+y26,y30⟩:HealthS),a2+4),⟨⟨uD,uD⟩,uD⟩,trivial,uK,uP⟩
 intro q4 hq4
 obtain ⟨x5,a5⟩:=q4;obtain ⟨hx5,ha5⟩:=hq4;dsimp only at hx5 ha5;refine ze (zbV 9 (i:=2) rfl rfl) ?_;refine gz3 ?_;refine dq (za (hs:=[_]) zjb zcw rfl rfl (by decide) (by decide) rfl) ?_;refine de rfl (zO (i:=1) zjb zcw rfl rfl rfl rfl rfl (by simp [zaw,zb,zaH,za2]) uSo fun v56=> ?_)
 refine gz8 ?_;exact ⟨n+1,wk+y26+y35,⟨v56,out++[x5],a5⟩,⟨by omega,⟨by omega,by omega⟩,hq2.add (x:=x5) hx5 uO⟩,uD,⟨rfl,rfl,rfl,trivial⟩,uK,uP⟩;refine gz2 ?_;refine zcU ?_;refine gz7 ?_;exact ⟨k+1,⟨u,out,a2⟩,⟨by omega,hq2.mono uO uO⟩,uD,⟨rfl,rfl,trivial⟩,uK,uP⟩;have hnk:nm5.length<=k:=by omega
 obtain rfl:k=nm5.length:=by omega
 refine gz2 ?_;refine zM ?_;refine gz5 ?_;refine de rfl (uCx 1 zCZ rfl rfl (zpy (L:=L) (l:=out) hL uO) ?_)
 rintro _ _ ⟨u61,rfl,rfl⟩;refine gz3 ?_;exact zap (zaB 4 (i:=0) rfl rfl) rfl ⟨_,a2,rfl,GoodHes.filter uO g2,by omega,rfl⟩
theorem zjh [Tracks] {b:Nat} {l:List Int} {a:Nat} (ha:a<=700000):Con prog 184 [pAt b] [St b l a] (fun x M'=> ∃(u:Value) (k:List StintS) (a':Nat),x= .raw u/\k.length<=10/\a'<=a+100/\M'=[.arr u 3 (k.map zc7),St b l a']):=by
 refine uOb func184 ntmps184 ?_;refine gz6 ?_;refine ze (zN 3) ?_;refine gz2 ?_;refine dq (za (hs:=[_,_,_,_,_]) zp ty9 rfl rfl (by decide) (by decide) rfl) ?_;refine dq (zaD (f:=HVal.str) (l:=nm5) zp rfl) ?_;refine gz3 ?_;refine uV2 [3,1,5,3,10,40] (fun (k:Nat) (q:GL StintS)=>[(10,.int .i64 k),(3,.raw q.u)]) (fun (k:Nat) (q:GL StintS)=>[St b l q.a,.arr q.u 3 (q.out.map zc7)]) (fun (k:Nat) (q:GL StintS)=>k<=nm5.length/\(GLok (fun _=>True) (2*k) (a+20*k) q)) (fun (k:Nat) (q:GL StintS)=>nm5.length-k) (0) (⟨.slice none 0 0,[],a⟩) ?_ ?_ ?_ ?_
 ·exact ⟨Ad _,⟨by simp,by simp,uD⟩⟩
 ·exact ⟨rfl,rfl,trivial⟩
 ·exact uP
 ·intro k q hinv
  obtain ⟨hk,hq⟩:=hinv;have hlen:nm5.length=5:=rfl;obtain ⟨u,out,a2⟩:=q;obtain ⟨g1,g2,g3⟩:=id hq;dsimp only at g1 g2 g3;refine gz4 ?_;refine uCo (fun h1=> ?_) fun h2=> ?_
  ·obtain ⟨x,hx⟩: ∃x,nm5[k]? =some x:=⟨_,Aa h1⟩
   have hdx:=zi hx;refine gz5 ?_;refine dq (zB (f:=HVal.str) (l:=nm5) (j:=k) (a:=x) zp ty9 rfl rfl rfl hx) ?_;refine gz5 ?_;refine de rfl (uCx 0 zgu rfl rfl (zP uS uS uS uS) ?_)
   rintro _ _ ⟨y15,rfl,hy15,rfl⟩;refine gz4 ?_;refine de rfl (uCx 0 zgu rfl rfl (zP uS uS uS uS) ?_)
   rintro _ _ ⟨y17,rfl,hy17,rfl⟩;refine gz3 ?_;refine uV3 [3,1,6,2,18,31] (fun (n:Nat) (wk:Int) (q2:GL StintS)=>[(18,.int .i64 (n:Int)),(6,.int .i64 wk),(3,.raw q2.u)]) (fun (n:Nat) (wk:Int) (q2:GL StintS)=>[St b l q2.a,.arr q2.u 3 (q2.out.map zc7)]) (fun (n:Nat) (wk:Int) (q2:GL StintS)=>(n:Int)<=y17/\(1<=wk/\wk<=2+3*n)/\GLok (fun _=>True) (2*k+n) (a+20*k+2+9*n) q2) (fun (n:Nat) (wk:Int) (q2:GL StintS)=>y17.toNat-n) (0) (y15) (⟨u,out,a2+2⟩) ?_ ?_ ?_ ?_
   ·exact ⟨by omega,by omega,⟨uD,g2,uD⟩⟩
   ·exact ⟨rfl,rfl,rfl,trivial⟩
   ·exact uP
   ·intro n wk q2 hinv
    obtain ⟨hn,hw,hq2⟩:=hinv;obtain ⟨u,out,a2⟩:=q2;obtain ⟨g1,g2,g3⟩:=id hq2;dsimp only at g1 g2 g3;refine gz4 ?_;refine uCo (fun h3=> ?_) fun h4=> ?_
    ·refine gz7 ?_;refine dq (za (hs:=[_,_,_,_]) zp ty9 rfl rfl (by decide) (by decide) rfl) ?_;refine de rfl (uCx 0 zci rfl rfl (zq (L:=[_,_,_,_]) uS uS uS) ?_)
     rintro _ _ ⟨y23,rfl,hy23,rfl⟩;refine gz1 ?_;refine dq (zG (cs:=[_,_,_]) zcH zFq rfl) ?_;refine de rfl (zj zcH rfl fun b7=> ?_)
     refine de0 (uY 0 ?_)
     refine gz1 ?_;refine uVj [26,14] (fun (q4:StintS×Nat)=>[]) (fun (q4:StintS×Nat)=>[St b l q4.2,.arr u 3 (out.map zc7),.cells b7 (zb (zc7 q4.1))]) (fun (q4:StintS×Nat)=>q4.2<=a2+8) ?_ ?_
     ·skip
      refine gz2 ?_;refine de rfl (uCx 1 zek rfl rfl (zJ uS uS) ?_)
      rintro _ _ ⟨y27,rfl,rfl⟩;refine gz1 ?_;refine uCo (fun h5=> ?_) fun h6=> ?_
      ·refine gz3 ?_;refine dq (za (hs:=[_,_,_]) zp ty9 rfl rfl (by decide) (by decide) rfl) ?_;refine de rfl (uCx 0 zci rfl rfl (zq (L:=[_,_,_]) uS uS uS) ?_)
       rintro _ _ ⟨y31,rfl,hy31,rfl⟩;refine gz1 ?_;refine dq (za (hs:=[_,_]) zp ty9 rfl rfl (by decide) (by decide) rfl) ?_;refine de rfl (uCx 0 zci rfl rfl (zq (L:=[_,_]) uS uS uS) ?_)
       rintro _ _ ⟨y34,rfl,hy34,rfl⟩;refine gz1 ?_;refine de rfl (uCx 0 zl9 rfl rfl (zia uS uS uS uS) ?_)
       rintro _ _ ⟨y36,rfl,hy36,rfl⟩;refine gz1 ?_;refine de0 (uY 1 ?_)
       refine gz1 ?_;refine de0 (uY 1 ?_)
       refine gz1 ?_;refine de0 (uY 1 ?_)
       refine gz1 ?_;exact ⟨((⟨y31,y34,y36⟩:StintS),a2+6),uD,trivial,uK,uP⟩
      ·refine gz1 ?_;exact ⟨((⟨x,y23,wk⟩:StintS),a2+2),uD,trivial,uK,uP⟩
     ·intro q4 ha5
      obtain ⟨x5,a5⟩:=q4;dsimp only at ha5;refine ze (zbV 7 (i:=2) rfl rfl) ?_;refine gz3 ?_;refine dq (za (hs:=[_]) zhe zcH rfl rfl (by decide) (by decide) rfl) ?_;refine de rfl (zO (i:=1) zhe zcH rfl rfl rfl rfl rfl (by simp [zaw,zb,zaH,za2]) uSo fun v43=> ?_)
      refine gz5 ?_;refine de rfl (uCx 0 zgu rfl rfl (zP uS uS uS uS) ?_)
      rintro _ _ ⟨y46,rfl,hy46,rfl⟩;refine gz9 ?_;exact ⟨n+1,wk+y46,⟨v43,out++[x5],a5+1⟩,⟨by omega,⟨by omega,by omega⟩,hq2.add (x:=x5) trivial uO⟩,uD,⟨rfl,rfl,rfl,trivial⟩,uK,uP⟩
    ·refine gz2 ?_;refine zcU ?_;refine gz7 ?_;exact ⟨k+1,⟨u,out,a2⟩,⟨by omega,hq2.mono uO uO⟩,uD,⟨rfl,rfl,trivial⟩,uK,uP⟩
  ·have hnk:nm5.length<=k:=by omega
   obtain rfl:k=nm5.length:=by omega
   refine gz2 ?_;refine zM ?_;refine gz7 ?_;exact zap (Ghost.perm (List.Perm.swap _ _ _)) rfl ⟨_,out,a2,rfl,by omega,by omega,rfl⟩
theorem ziH [Tracks] {b:Nat} {l:List Int} {a:Nat} {L:List PlayerS} (ha:a<=700000) (hL:L.length<=1000000):Con prog 94 [pAt b,zbh L] [St b l a] (fun x M'=> ∃k a',x=zfj k/\k.length<=10/\a'<=a+100/\M'=[St b l a']):=by
 refine uOb func94 ntmps94 ?_;refine gz6 ?_;refine de rfl (uCx 0 zDO rfl rfl (zjh (b:=b) (l:=l) (a:=a) ha) ?_)
 rintro _ _ ⟨u7,k7,a7,rfl,hk7,ha7,rfl⟩;refine de rfl (uCx 0 zDN rfl rfl (zp9 (L:=L) (l:=k7) hL uO) ?_)
 rintro _ _ ⟨u8,rfl,rfl⟩;refine gz3 ?_;exact zap (zaB 4 (i:=0) rfl rfl) rfl ⟨_,a7,rfl,Au (AZ _ _) hk7,by omega,rfl⟩
end
section
open Go.Proofs.Tryz
open Go.HL
theorem znv [Tracks] {n d:Int} (hn: -1000000<=n/\n<=1000000) (hd:1<=d/\d<=1000000):ConP prog 249 [.int .i64 n,.int .i64 d] (.agg [.int .i64 (n.tdiv (zhP n d)),.int .i64 (d.tdiv (zhP n d))]):=by
 have hg0:=zBz (n:=n) hd.1;refine zba func249 rfl ntmps249 rfl rfl ?_;refine gz1 ?_;refine de rfl (zj zax rfl fun b4=> ?_)
 refine gz4 ?_;refine dq (uCl zAD rfl (zh4 (n:=n) (d:=d) uO uO)) ?_;refine gz2 ?_;refine uDr mixed ?_;refine gz2 ?_;refine uB 2 rfl (zdy (n:=zhP n d) rfl rfl uO uO uO) ?_;refine gz2 ?_;refine uB 5 rfl (zdy (n:=zhP n d) rfl rfl uO uO uO) ?_;refine uB 6 rfl (zG (cs:=[_,_]) zax zle rfl) ?_;refine uF 7 ?_;refine zA (uY 0 ?_)
 refine ⟨uE,?_⟩
 refine gz2 ?_;exact ⟨_,_,zm 4 rfl,[_],_,⟨⟨_,_,_,_,_,rfl,zax,.inr ⟨rfl,rfl,rfl⟩⟩,trivial⟩,Weak.refl _,rfl,rfl⟩
theorem zjT [Tracks] {n:Int} (hn: -1000000<=n/\n<=1000000):ConP prog 181 [.int .i64 n] (.agg [.int .i64 (n.tdiv (zhP n 100)),.int .i64 ((100:Int).tdiv (zhP n 100))]):=by
 refine zba func181 rfl ntmps181 rfl rfl ?_;refine gz1 ?_;refine de rfl (zj zax rfl fun b2=> ?_)
 refine gz3 ?_;refine dq (uCl zEq rfl (znv (n:=n) (d:=100) hn uO)) ?_;refine de0 (uY 0 ?_)
 refine gz2 ?_;exact ⟨_,_,zm 2 rfl,[_],_,⟨⟨_,_,_,_,_,rfl,zax,.inr ⟨rfl,rfl,rfl⟩⟩,trivial⟩,Weak.refl _,rfl,rfl⟩
theorem zra [Tracks] {b:Nat} {l:List Int} {a:Nat} (ha:a<=700000):Con prog 90 [pAt b] [St b l a] (fun x M'=> ∃(u:Value) (k:List SlotS) (a':Nat),x= .raw u/\GoodS4s k/\0<k.length/\a'<=a+25/\M'=[.arr u 2 (k.map zbT),St b l a']):=by
 refine uOb func90 ntmps90 ?_;refine gz6 ?_;refine ze (zN 2) ?_;refine gz2 ?_;refine dq (za (hs:=[_,_,_,_]) zp ty9 rfl rfl (by decide) (by decide) rfl) ?_;refine gz1 ?_;refine de rfl (uCx 1 zgu rfl rfl (zP uS uS uS uS) ?_)
 rintro _ _ ⟨y8,rfl,hy8,rfl⟩;refine dq (zaQ (es:=sl4) (f:=HVal.str) (h:=y8.toNat) zp ty9 rfl rfl ⟨_,_,rfl,by omega⟩ uO (by simp [sl4];omega)) ?_;refine dq (zaD (f:=HVal.str) (l:=(sl4.take y8.toNat)) zp rfl) ?_;refine gz2 ?_;have hlen:(sl4.take y8.toNat).length=y8.toNat:=by simp [sl4];omega
 refine gz1 ?_;refine uV2 [3,1,5,1,11,12] (fun (k:Nat) (q:GL SlotS)=>[(11,.int .i64 k),(3,.raw q.u)]) (fun (k:Nat) (q:GL SlotS)=>[St b l q.a,.arr q.u 2 (q.out.map zbT)]) (fun (k:Nat) (q:GL SlotS)=>k<=(sl4.take y8.toNat).length/\(q.out.length=k/\GLok zll k (a+1+5*k) q)) (fun (k:Nat) (q:GL SlotS)=>(sl4.take y8.toNat).length-k) (0) (⟨.slice none 0 0,[],a+1⟩) ?_ ?_ ?_ ?_
 ·exact ⟨Ad _,rfl,⟨by simp,by simp,uD⟩⟩
 ·exact ⟨rfl,rfl,trivial⟩
 ·exact uP
 ·intro k q hinv
  obtain ⟨hk,⟨hn,hq⟩⟩:=hinv;obtain ⟨u,out,a2⟩:=q;obtain ⟨g1,g2,g3⟩:=id hq;dsimp only at g1 g2 g3;dsimp only at hn;refine gz4 ?_;refine uCo (fun h1=> ?_) fun h2=> ?_
  ·obtain ⟨x,hx⟩: ∃x,(sl4.take y8.toNat)[k]? =some x:=⟨_,Aa (by simpa using h1)⟩
   have hdx:=zi hx;refine gz5 ?_;refine dq (zB (f:=HVal.str) (l:=(sl4.take y8.toNat)) (j:=k) (a:=x) zp ty9 rfl rfl rfl hx) ?_;refine gz7 ?_;refine de rfl (uCx 0 zwg rfl rfl (zdH uS) ?_)
   rintro _ _ ⟨t18,a18,rfl,ht18,ha18,rfl⟩;refine dq (zG (cs:=[_,_]) zdt zzA rfl) ?_;refine dq (za (hs:=[_]) zfv zdt rfl rfl (by decide) (by decide) rfl) ?_;refine de rfl (zO (i:=1) zfv zdt rfl rfl rfl rfl rfl (by simp [zaw,zb,zaH,za2]) uSo fun v21=> ?_)
   refine gz8 ?_;exact ⟨k+1,⟨v21,out++[(⟨x,t18⟩:SlotS)],a18⟩,⟨by omega,by simp;omega,hq.add (x:=(⟨x,t18⟩:SlotS)) (by show t18.length<=4;omega) (by dsimp only at ha18;omega)⟩,uD,⟨rfl,rfl,trivial⟩,uK,zn (by dsimp only;first|rfl|(rw [Ay];rfl))⟩
  ·have hnk:(sl4.take y8.toNat).length<=k:=by simpa using h2
   obtain rfl:k=(sl4.take y8.toNat).length:=by omega
   refine gz2 ?_;refine zM ?_;refine gz7 ?_;exact zap (Ghost.perm (List.Perm.swap _ _ _)) rfl ⟨_,out,a2,rfl,⟨by omega,g2⟩,by omega,by omega,rfl⟩
theorem zbR [Tracks] {b:Nat} {l:List Int} {a:Nat} (ha:a<=700000):Con prog 89 [pAt b] [St b l a] (fun x M'=> ∃k a',x=zfT k/\GoodRus k/\a'<=a+40/\M'=[St b l a']):=by
 refine uOb func89 ntmps89 ?_;refine gz6 ?_;refine ze (zN 7) ?_;refine gz2 ?_;refine dq (za (hs:=[_,_,_,_,_]) zp ty9 rfl rfl (by decide) (by decide) rfl) ?_;refine dq (zaD (f:=HVal.str) (l:=ru5) zp rfl) ?_;refine gz3 ?_;refine uV2 [3,1,5,2,9,37] (fun (k:Nat) (q:GL RuleS)=>[(9,.int .i64 k),(3,.raw q.u)]) (fun (k:Nat) (q:GL RuleS)=>[St b l q.a,.arr q.u 7 (q.out.map zoI)]) (fun (k:Nat) (q:GL RuleS)=>k<=ru5.length/\(GLok zyH k (a+8*k) q)) (fun (k:Nat) (q:GL RuleS)=>ru5.length-k) (0) (⟨.slice none 0 0,[],a⟩) ?_ ?_ ?_ ?_;exact ⟨Ad _,⟨by simp,by simp,uD⟩⟩;exact ⟨rfl,rfl,trivial⟩;exact uP
 intro k q hinv
 obtain ⟨hk,hq⟩:=hinv;have hlen:ru5.length=5:=rfl;obtain ⟨u,out,a2⟩:=q;obtain ⟨g1,g2,g3⟩:=id hq;dsimp only at g1 g2 g3;refine gz4 ?_;refine uCo (fun h1=> ?_) fun h2=> ?_
 obtain ⟨x,hx⟩: ∃x,ru5[k]? =some x:=⟨_,Aa h1⟩
 have hdx:=zi hx;refine gz5 ?_;refine dq (zB (f:=HVal.str) (l:=ru5) (j:=k) (a:=x) zp ty9 rfl rfl rfl hx) ?_;refine gz6 ?_;refine de rfl (uCx 0 zek rfl rfl (zJ uS uS) ?_)
 rintro _ _ ⟨y14,rfl,rfl⟩;refine gz1 ?_;refine uCo (fun h3=> ?_) fun h4=> ?_
 refine gz8 ?_;exact ⟨k+1,⟨u,out,a2+1⟩,⟨by omega,hq.same uO⟩,uD,⟨rfl,rfl,trivial⟩,uK,uP⟩;refine gz5 ?_;refine dq (za (hs:=[_,_,_,_]) zp ty9 rfl rfl (by decide) (by decide) rfl) ?_;refine de rfl (uCx 0 zci rfl rfl (zq (L:=[_,_,_,_]) uS uS uS) ?_)
 rintro _ _ ⟨y18,rfl,hy18,rfl⟩;refine gz1 ?_;refine dq (za (hs:=[_,_,_,_]) zp ty9 rfl rfl (by decide) (by decide) rfl) ?_;refine de rfl (uCx 0 zci rfl rfl (zq (L:=[_,_,_,_]) uS uS uS) ?_)
 rintro _ _ ⟨y21,rfl,hy21,rfl⟩;refine gz1 ?_;refine de rfl (uCx 0 zgu rfl rfl (zP uS uS uS uS) ?_)
 rintro _ _ ⟨y23,rfl,hy23,rfl⟩;refine gz1 ?_;refine dq (za (hs:=[_,_,_,_,_,_]) zah ty3 rfl rfl (by decide) (by decide) rfl) ?_;refine de rfl (uCx 0 ca6 rfl rfl (zf (L:=[_,_,_,_,_,_]) uS uS uS) ?_)
 rintro _ _ ⟨y26,rfl,hy26,rfl⟩;refine dq (uCl zDM rfl (zjT (n:=y26) (by simp at hy26;omega))) ?_;refine dq (zG (cs:=[_,_,_,_,_,_,_]) zgq zFp rfl) ?_;refine de rfl (zj zgq rfl fun b6=> ?_)
 refine de0 (uY 0 ?_)
 refine gz1 ?_;have hb1:=zvl (n:=y26) (g:=zhP y26 100) (by simp at hy26;omega);have hb2:=zvl (n:=100) (g:=zhP y26 100) uO;refine uVj [29,12] (fun (q4:RuleS×Nat)=>[]) (fun (q4:RuleS×Nat)=>[St b l q4.2,.arr u 7 (out.map zoI),.cells b6 (zb (zoI q4.1))]) (fun (q4:RuleS×Nat)=>zyH q4.1/\q4.2<=a2+7) ?_ ?_
 skip
 refine gz2 ?_;refine de rfl (uZ 0 ?_)
 refine gz3 ?_;refine dgl rfl rfl (fun hc=>⟨_,OpenTo.upd (t:=33) rfl (hc) (OpenTo.refl _),zas (i:=0) ty3 rfl rfl (.inl ⟨rfl,rfl⟩) ⟨rfl,rfl⟩⟩) ?_;refine gz3 ?_;refine uCo (fun h5=> ?_) fun h6=> ?_
 refine gz2 ?_;refine dq (za (hs:=[_,_,_,_,_]) zah ty3 rfl rfl (by decide) (by decide) rfl) ?_;refine de rfl (uCx 1 ca6 rfl rfl (zf (L:=[_,_,_,_,_]) uS uS uS) ?_)
 rintro _ _ ⟨y39,rfl,hy39,rfl⟩;refine gz1 ?_;refine de0 (uY 1 ?_)
 refine gz1 ?_;exact ⟨((⟨x,y18,y21,y23,y39,y26.tdiv (zhP y26 100),(100:Int).tdiv (zhP y26 100)⟩:RuleS),a2+6),⟨⟨hb1,hb2⟩,uD⟩,trivial,uK,uP⟩;refine gz1 ?_;exact ⟨((⟨x,y18,y21,y23,0,y26.tdiv (zhP y26 100),(100:Int).tdiv (zhP y26 100)⟩:RuleS),a2+5),⟨⟨hb1,hb2⟩,uD⟩,trivial,uK,uP⟩
 intro q4 hq4
 obtain ⟨x5,a5⟩:=q4;obtain ⟨hx5,ha5⟩:=hq4;dsimp only at hx5 ha5;refine ze (zbV 6 (i:=2) rfl rfl) ?_;refine gz3 ?_;refine dq (za (hs:=[_]) zoy zgq rfl rfl (by decide) (by decide) rfl) ?_;refine de rfl (zO (i:=1) zoy zgq rfl rfl rfl rfl rfl (by simp [zaw,zb,zaH,za2]) uSo fun v44=> ?_)
 refine gz8 ?_;exact ⟨k+1,⟨v44,out++[x5],a5⟩,⟨by omega,hq.add (x:=x5) hx5 uO⟩,uD,⟨rfl,rfl,trivial⟩,uK,uP⟩;have hnk:ru5.length<=k:=by omega
 obtain rfl:k=ru5.length:=by omega
 refine gz2 ?_;refine zM ?_;refine gz7 ?_;exact zap (zaB 2 (i:=1) rfl rfl) rfl ⟨out,a2,rfl,⟨by omega,g2⟩,by omega,rfl⟩
theorem zjQ [Tracks] {b:Nat} {l:List Int} {a:Nat} (ha:a<=600000):Con prog 98 [pAt b] [St b l a] (fun x M'=> ∃k a',x=zeE k/\GoodSlos k/\a'<=a+40/\M'=[St b l a']):=by
 refine uOb func98 ntmps98 ?_;refine gz5 ?_;refine de rfl (uCx 0 zrl rfl rfl (zra uS) ?_)
 rintro _ _ ⟨u6,k6,a6,rfl,hk6,hn6,ha6,rfl⟩;refine gz2 ?_;have hl6:=hk6.len;have hg6:=hk6.all;refine ze (zbx (M':=[.arr u6 2 (k6.map zbT),St b l a6]) rfl) ?_;refine ze (Ghost.perm (List.Perm.swap _ _ _)) ?_;refine uVj [4,1,7,31] (fun (q:List SlotS×Nat)=>[]) (fun (q:List SlotS×Nat)=>[St b l q.2,.arr u6 2 (q.1.map zbT)]) (fun (q:List SlotS×Nat)=>GoodSlos q.1/\q.2<=a6+5) ?_ ?_
 ·skip
  refine gz2 ?_;refine de rfl (uCx 0 zek rfl rfl (zJ uS uS) ?_)
  rintro _ _ ⟨y8,rfl,rfl⟩;refine gz1 ?_;refine uCo (fun h1=> ?_) fun h2=> ?_
  ·refine zcT (i:=1) rfl (fun h0 he=> ?_) (fun ob off cap hv hcap=> ?_)
   ·exfalso;have:=congrArg List.length he;simp at this;subst this;simp at hn6
   subst hv;refine gz4 ?_;refine de rfl (zaR (i:=1) (es:=k6) zfv rfl rfl ?_)
   refine de rfl (uCx 0 zi3 rfl rfl (zam uS uS) ?_)
   rintro _ _ ⟨y13,rfl,hy13,rfl⟩;refine dq (zD (j:=y13) zfv zdt rfl rfl rfl uSo) ?_;refine gz2 ?_;obtain ⟨x,hx⟩: ∃x,k6[y13]? =some x:=⟨_,Aa uO⟩
   have hgx:=hg6 x (Ab hx);dsimp only [zll] at hgx;refine zbu (fun M=> ∃i:Nat,M[i]? =some (.arr (.slice (some ⟨ob,off,none⟩) (k6.map zbT).length cap) 2 (k6.map zbT))) [6,12] mixed ?_;refine gz6 ?_;refine uM 6 rfl ⟨1,rfl⟩ (fun M hM=>by obtain ⟨i,hi⟩:=hM;exact zan (i:=i) (j:=y13) 0 ty9 rfl uO hi hx rfl rfl ⟨rfl,rfl⟩) ?_;refine uB 7 rfl (za (hs:=[_,_,_]) zp ty9 rfl rfl (by decide) (by decide) rfl) ?_;refine uA 9 ?_;refine gz2 ?_;refine uM 12 rfl ⟨1,rfl⟩ (fun M hM=>by obtain ⟨i,hi⟩:=hM;exact zan (i:=i) (j:=y13) 1 zp rfl uO hi hx rfl rfl ⟨rfl,rfl⟩) ?_;refine uA 14 ?_;refine uB 15 rfl (za (hs:=[_,_,_]) zp ty9 rfl rfl (by decide) (by decide) rfl) ?_;refine uF 8 ?_;refine zv rfl (uCx 0 zci rfl rfl (zq (L:=[_,_,_]) uS uS uS) ?_)
   rintro _ _ ⟨y23,rfl,hy23,rfl⟩;refine ⟨uE,?_⟩
   refine uF 13 ?_;refine zv rfl (uCa zj0 rfl (z7 uO) fun v28=> ?_)
   refine ⟨uE,?_⟩
   refine uF 16 ?_;refine zv rfl (uCx 1 zci rfl rfl (zq (L:=[_,_,_]) uS uS uS) ?_)
   rintro _ _ ⟨y31,rfl,hy31,rfl⟩;refine ⟨uE,?_⟩
   refine uB 17 rfl (za (hs:=[_]) zp ty9 rfl rfl (by decide) (by decide) rfl) ?_;refine uF 18 ?_;refine zv rfl (zlj (N:=[St b l (a6+1+1+1+1),.arr (.slice (some ⟨ob,off,none⟩) (k6.map zbT).length cap) 2 (k6.map zbT)]) (sz:=1) (es:=(x.Positions++[y31]).map .str) 1 (zO (i:=1) zp ty9 rfl rfl rfl rfl rfl (by simp [zaw,zb]) uSo fun v=>⟨v,rfl,by simp,rfl⟩) ?_)
   refine ⟨fun _=> .inl ⟨1,rfl⟩,?_⟩
   refine gz2 ?_;refine uF 21 ?_;refine zA (zR (i:=1) (j:=y13) (f:=0) (y:=zbT x) (y':=zbT ⟨y23,x.Positions⟩) ty9 rfl uO rfl rfl (za6 hx) rfl rfl (by simp [zb]) rfl ?_)
   refine ⟨uE,?_⟩
   refine gz2 ?_;refine uF 24 ?_;refine zA (zR (i:=1) (j:=y13) (f:=1) (y:=zbT ⟨y23,x.Positions⟩) (y':=zbT ⟨y23,x.Positions++[y31]⟩) zp rfl uO rfl rfl (zaF (za6 hx)) rfl rfl (by simp [zb]) rfl ?_)
   refine ⟨uE,?_⟩
   refine gz1 ?_;exact ⟨(k6.set y13 ⟨y23,x.Positions++[y31]⟩,a6+4),⟨⟨by simp;omega,zff (P:=zoC) hk6.up.all (by dsimp only [zoC];simp;omega)⟩,uD⟩,trivial,uK,uP⟩
  ·refine gz1 ?_;exact ⟨(k6,a6+1),⟨hk6.up,uD⟩,trivial,uK,uP⟩
 ·intro q hq3
  obtain ⟨k1,a4⟩:=q;obtain ⟨q1,q3⟩:=hq3;dsimp only at q1 q3;refine gz3 ?_;refine de rfl (uCx 0 zek rfl rfl (zJ uS uS) ?_)
  rintro _ _ ⟨y39,rfl,rfl⟩;refine gz1 ?_;refine uCo (fun h3=> ?_) fun h4=> ?_
  ·refine gz4 ?_;exact ⟨_,_,(zbx (M':=[St b l (a4+1),.arr u6 2 (k1.map zbT)]) rfl).trans ((Ghost.perm (List.Perm.swap _ _ _)).trans Ghost.drop),_,.slice 2 [],rfl,zt 2,[],a4+1,rfl,⟨by simp,by simp⟩,by omega,rfl⟩
  ·refine gz7 ?_;exact zap (zaB 2 (i:=1) rfl rfl) rfl ⟨k1,a4+1,rfl,q1,by omega,rfl⟩
theorem zaI [Tracks] {b:Nat} {l:List Int} {a:Nat} (ha:a<=600000):Con prog 92 [pAt b] [St b l a] (fun x M'=> ∃k a',x=eIs k/\k.length<=6/\a'<=a+20/\M'=[St b l a']):=by
 refine uOb func92 ntmps92 ?_;refine gz6 ?_;refine ze (zN 1) ?_;refine gz3 ?_;refine de rfl (uCx 1 zAg rfl rfl (zfH (n:=5) uO uO uO) ?_)
 rintro _ _ ⟨L7,a7,rfl,hL7,ha7,rfl⟩;refine gz1 ?_;refine de rfl (uCx 0 zgu rfl rfl (zP uS uS uS uS) ?_)
 rintro _ _ ⟨y9,rfl,hy9,rfl⟩;refine dq (zaQ (es:=L7) (f:=HVal.int .i64) (h:=y9.toNat) zah ty3 rfl rfl ⟨_,_,rfl,by omega⟩ uO (by have:=hL7.1;omega)) ?_;refine dq (zaD (f:=HVal.int .i64) (l:=L7.take y9.toNat) zah rfl) ?_;refine gz2 ?_;obtain ⟨hLn,hLb⟩:=hL7;have hlen:(L7.take y9.toNat).length=y9.toNat:=by simp;omega
 refine gz1 ?_;refine uV2 [3,1,5,1,12,10] (fun (k:Nat) (q:GL Int)=>[(12,.int .i64 k),(3,.raw q.u)]) (fun (k:Nat) (q:GL Int)=>[St b l (a7+1),.arr q.u 1 (q.out.map (.int .i64))]) (fun (k:Nat) (q:GL Int)=>k<=(L7.take y9.toNat).length/\(q.out.length<=k)) (fun (k:Nat) (q:GL Int)=>(L7.take y9.toNat).length-k) (0) (⟨.slice none 0 0,[],a⟩) ?_ ?_ ?_ ?_;exact ⟨Ad _,by simp⟩;exact ⟨rfl,rfl,trivial⟩;exact uP
 intro k q hinv
 obtain ⟨hk,hq⟩:=hinv;obtain ⟨u,out,a2⟩:=q;dsimp only at hq;refine gz4 ?_;refine uCo (fun h1=> ?_) fun h2=> ?_
 obtain ⟨y,hy⟩: ∃y,(L7.take y9.toNat)[k]? =some y:=⟨_,Aa (by simpa using h1)⟩
 have hdy:=zi hy;refine gz5 ?_;refine dq (zB (f:=HVal.int .i64) (l:=L7.take y9.toNat) (j:=k) (a:=y) zah ty3 rfl rfl rfl hy) ?_;refine gz6 ?_;refine dq (zbp rfl rfl (by have:=hLb y (AL (Ab hy));omega) (by have:=hLb y (AL (Ab hy));omega)) ?_;refine dq (za (hs:=[_]) zah ty3 rfl rfl (by decide) (by decide) rfl) ?_;refine de rfl (zO (i:=1) zah ty3 rfl rfl rfl rfl rfl (by simp [zaw,zb,zaH,za2]) uSo fun v20=> ?_)
 refine gz8 ?_;exact ⟨k+1,⟨v20,out++[y+1],a⟩,⟨by omega,by simp;omega⟩,uD,⟨rfl,rfl,trivial⟩,uK,uP⟩;have hnk:(L7.take y9.toNat).length<=k:=by simpa using h2
 obtain rfl:k=(L7.take y9.toNat).length:=by omega
 refine gz2 ?_;refine zM ?_;refine gz5 ?_;refine de rfl (uCx 0 zek rfl rfl (zJ uS uS) ?_)
 rintro _ _ ⟨y23,rfl,rfl⟩;refine gz1 ?_;refine uCo (fun h3=> ?_) fun h4=> ?_
 refine gz3 ?_;refine de rfl (uCx 0 zl9 rfl rfl (zia uS uS uS uS) ?_)
 rintro _ _ ⟨y26,rfl,hy26,rfl⟩;refine dq (za (hs:=[_]) zah ty3 rfl rfl (by decide) (by decide) rfl) ?_;refine de rfl (zO (i:=1) zah ty3 rfl rfl rfl rfl rfl (by simp [zaw,zb,zaH,za2]) uSo fun v28=> ?_)
 refine gz8 ?_;exact zap (zaB 2 (i:=1) rfl rfl) rfl ⟨out++[y26],_,by simp,by simp;omega,by omega,rfl⟩;refine gz7 ?_;exact zap (zaB 2 (i:=1) rfl rfl) rfl ⟨out,_,rfl,by omega,by omega,rfl⟩
end
section
open Go.Proofs.Tryz
open Go.HL
theorem znI [Tracks] {l:List GameS} (hb: ∀x∈l,GamB x) (hl:l.length<=1000000) {v:Value}:
 Con prog 96 [.raw v,.fn (.func 97) [] []] [.arr v 8 (l.map zaa)] fun x M'=> ∃l':List GameS,x= .tup []/\l'.Perm l/\l'.Pairwise (fun a b=> ¬zgb b a<0)/\M'=[.arr v 8 (l'.map zaa)]:=by
 have h:=znR (e:=fun x:{m:GameS//GamB m}=>zaa x.1) zyI (Tryz.isAgg59) (Tryz.sizeOf59) (fun _=>rfl) (fun _=>rfl) (fun _=>rfl) (c:=fun x y=>zgb x.1 y.1) (zoV zv5) ca97 (fun x y=> @zhi zht x.1 y.1 x.2.week y.2.week) (l:=l.attachWith _ hb) (by simpa using hl) (v:=v);rw [zp2 hb zaa] at h;refine h.mono fun x M' ⟨l',e1,hp,hw,e2⟩=>⟨l'.map Subtype.val,e1,?_,?_,?_⟩
 have h9:=hp.map Subtype.val;rw [zlQ hb] at h9;exact h9;exact List.pairwise_map.2 hw;rw [e2,AY];rfl
theorem zfI [Tracks] {T:List Str} {W p n:Int} (hT:T.length<=1000000) (hW:1<=W/\W<=10) (hp:0<=p/\p<=10) (hn:2<=n/\n<=10):ConP prog 186 [.int .i64 W,.int .i64 p,.vptr [.int .i64 n] 0,.vptr [eSs T] 0] (.str (onS T W p n)):=by
 obtain ⟨o1,o2,o3⟩:=zFb (W:=W) hp hn;refine uOb func186 ntmps186 ?_;refine gz7 ?_;refine uVj [7,1,9,17] (fun (i1:Int)=>[(7,.int .i64 i1)]) (fun (i1:Int)=>[]) (fun (i1:Int)=>i1=onI W p n) ?_ ?_
 skip
 refine gz4 ?_;refine uCo (fun h1=> ?_) fun h2=> ?_
 refine zgB mixed ?_;refine gz7 ?_;refine uB 7 rfl (zcK (n:=n-1) rfl rfl uO) ?_;refine gz5 ?_;refine uB 13 rfl (zcK (n:=n-1) rfl rfl uO) ?_;refine gz3 ?_;exact ⟨1+((p-1-(W-1)).tmod (n-1)+(n-1)).tmod (n-1),by rw [onI,if_pos h1],⟨rfl,trivial⟩,uK,Ac _⟩;refine gz1 ?_;exact ⟨p,by rw [onI,if_neg uO],⟨rfl,trivial⟩,uK,Ac _⟩
 intro i1 hi1
 have hi0:0<=i1:=by rw [hi1];exact o3
 refine gz7 ?_;refine uCo (fun h3=> ?_) fun h4=> ?_
 refine gz4 ?_;refine zx rfl ?_
 show HVal.str _=_
 (rw [onS,if_pos uO])
 refine gz5 ?_;refine dq (zB (f:=HVal.str) (l:=T) (j:=i1.toNat) (a:=T.getD i1.toNat []) zp ty9 rfl rfl uO (getD_some uO)) ?_;refine gz4 ?_;refine zx rfl ?_
 show HVal.str _=_
 (rw [onS,if_neg uO,<-hi1])
theorem zkW [Tracks] {T:List Str} (hT:2<=T.length/\T.length<=4):Con prog 95 [eSs T,.int .i64 3] [] (fun x M'=> ∃k,x=zgI k/\GoodGas k/\M'=[]):=by
 obtain ⟨n1,n2,n3,n4⟩:=zCE hT;refine uOb func95 ntmps95 ?_;refine gz9 ?_;refine dq (zcK rfl rfl uO) ?_;refine dq (z8 (h':= .int .i64 (nOf T)) (zbp rfl rfl uO uO) rfl) ?_;refine de rfl (zj ty3 rfl fun b5=> ?_)
 refine de0 (uY 0 ?_)
 refine gz1 ?_;refine ze (zbV 5 (i:=0) rfl rfl) ?_;refine gz7 ?_;refine ze (zN 8) ?_;refine gz5 ?_;refine uV2 [7,5,19,56] (fun (w:Nat) (q:GL GameS)=>[(8,.int .i64 ((w:Int)+1)),(7,.raw q.u)]) (fun (w:Nat) (q:GL GameS)=>[.arr q.u 8 (q.out.map zaa)]) (fun (w:Nat) (q:GL GameS)=>w<=3/\GLok GamB (2*w) 0 q) (fun (w:Nat) (q:GL GameS)=>3-w) (0) (⟨.slice none 0 0,[],0⟩) ?_ ?_ ?_ ?_;exact ⟨by omega,⟨by simp,by simp,by simp⟩⟩;exact ⟨zQ uO,rfl,trivial⟩;exact Ac _
 intro w q hinv
 obtain ⟨hw,hq⟩:=hinv;obtain ⟨u,out,a2⟩:=q;obtain ⟨g1,g2,g3⟩:=id hq;dsimp only at g1 g2 g3;refine gz6 ?_;refine uCo (fun h1=> ?_) fun h2=> ?_
 refine gz6 ?_;refine dq (z8 (h':= .int .i64 (mOf T)) (zdy rfl rfl uO uO uO) rfl) ?_;refine gz3 ?_;refine uU2 [7,1,9,3,26,49] (fun (j:Nat) (q2:GL GameS)=>[(26,.int .i64 (j:Int)),(7,.raw q2.u)]) (fun (j:Nat) (q2:GL GameS)=>[.arr q2.u 8 (q2.out.map zaa)]) (fun (j:Nat) (q2:GL GameS)=>(j:Int)<=mOf T/\GLok GamB (2*w+j) 0 q2) (fun (j:Nat) (q2:GL GameS)=>(mOf T).toNat-j) (0) (⟨u,out,0⟩) ?_ ?_;exact ⟨by omega,⟨uD,g2,by simp⟩⟩;rintro j q2 ⟨hj,hq2⟩;obtain ⟨u,out,a2⟩:=q2;obtain ⟨g1,g2,g3⟩:=id hq2;dsimp only at g1 g2 g3;refine gz4 ?_;refine uCo (fun h3=> ?_) fun h4=> ?_
 refine gz8 ?_;refine uDr mixed ?_;refine gz4 ?_;refine uB 4 rfl (zao zAi rfl rfl (WeakL.refl _) (zfI (T:=T) (W:=((w:Int)+1)) (p:=(j:Int)) (n:=nOf T) uO uO uO uO)) ?_;refine gz3 ?_;refine uB 8 rfl (zf4 (m:=nOf T) rfl rfl uO uO) ?_;refine gz1 ?_;refine uB 10 rfl (zf4 (m:=nOf T-1) rfl rfl uO uO) ?_;refine uB 11 rfl (zao zAi rfl rfl (WeakL.refl _) (zfI (T:=T) (W:=((w:Int)+1)) (p:=(nOf T-1-j)) (n:=nOf T) uO uO uO uO)) ?_;refine uB 12 rfl (zG (cs:=[_,_,_,_,_,_,_,_]) za7 pl59 rfl) ?_;refine uF 13 ?_;refine zv rfl (zj za7 rfl fun b10=> ?_)
 refine ⟨uE,?_⟩
 refine uF 14 ?_;refine zA (uY 0 ?_)
 refine ⟨uE,?_⟩
 refine gz3 ?_;refine dq (zcK rfl rfl uO) ?_;refine gz3 ?_;refine uVj [11,1,45,10] (fun (tn:Bool)=>[(11,.bool tn)]) (fun (tn:Bool)=>[.cells b10 (zb (zaa (⟨(w:Int)+1,onS T ((w:Int)+1) j (nOf T),onS T ((w:Int)+1) (nOf T-1-j) (nOf T),false,0,0,0,0⟩:GameS))),.arr u 8 (out.map zaa)]) (fun (tn:Bool)=>True) ?_ ?_
 skip
 refine gz4 ?_;refine uCo (fun h5=> ?_) fun h6=> ?_
 refine gz4 ?_;refine dq (zf4 (m:=nOf T) rfl rfl uO uO) ?_;refine dq (zdy (n:=nOf T-1) rfl rfl uO uO uO) ?_;refine dq (zcK rfl rfl uO) ?_;refine gz1 ?_;refine dq (zzK ty4 rfl rfl) ?_;refine gz2 ?_;exact ⟨_,trivial,⟨rfl,trivial⟩,uK,zn rfl⟩;refine gz1 ?_;exact ⟨_,trivial,⟨rfl,trivial⟩,uK,zn rfl⟩
 intro tn _
 refine uVj [55,7] (fun (g5:GameS)=>[]) (fun (g5:GameS)=>[.cells b10 (zb (zaa g5)),.arr u 8 (out.map zaa)]) (fun (g5:GameS)=>GamB g5) ?_ ?_
 skip
 refine gz3 ?_;refine uCo (fun h7=> ?_) fun h8=> ?_
 refine gz2 ?_;refine de rfl (uZ 0 ?_)
 refine gz1 ?_;refine de rfl (uZ 0 ?_)
 refine gz1 ?_;refine de0 (uY 0 ?_)
 refine gz1 ?_;refine de0 (uY 0 ?_)
 refine gz1 ?_;exact ⟨(⟨(w:Int)+1,onS T ((w:Int)+1) (nOf T-1-j) (nOf T),onS T ((w:Int)+1) j (nOf T),false,0,0,0,0⟩:GameS),zvp uO,trivial,uK,zn rfl⟩;refine gz1 ?_;exact ⟨(⟨(w:Int)+1,onS T ((w:Int)+1) j (nOf T),onS T ((w:Int)+1) (nOf T-1-j) (nOf T),false,0,0,0,0⟩:GameS),zvp uO,trivial,uK,zn rfl⟩
 intro g5 hg5
 refine gz2 ?_;refine de rfl (uZ 0 ?_)
 refine gz3 ?_;refine dgl rfl rfl (fun hc=>⟨_,OpenTo.upd (t:=66) rfl (hc) (OpenTo.refl _),zas (i:=0) ty9 rfl rfl (.inl ⟨rfl,rfl⟩) ⟨rfl,rfl⟩⟩) ?_;refine gz3 ?_;refine uCo (fun h9=> ?_) fun h10=> ?_
 refine gz2 ?_;refine de rfl (ziQ (i:=0) (h:=zaa g5) za7 rfl rfl rfl rfl rfl ?_)
 refine dq (za (hs:=[_]) zcI za7 rfl rfl (by decide) (by decide) rfl) ?_;refine de rfl (zO (i:=1) zcI za7 rfl rfl rfl rfl rfl (by simp [zaw,zb,zaH,za2]) uSo fun v73=> ?_)
 refine gz4 ?_;refine ze Ghost.drop ?_;refine gz4 ?_;exact ⟨j+1,⟨v73,out++[g5],0⟩,⟨by omega,hq2.add (x:=g5) hg5 uO⟩,uD,⟨rfl,rfl,trivial⟩,uK,zn (by dsimp only;rw [Ay];rfl)⟩;refine gz3 ?_;refine ze Ghost.drop ?_;refine gz4 ?_;exact ⟨j+1,⟨u,out,0⟩,⟨by omega,hq2.same uO⟩,uD,⟨rfl,rfl,trivial⟩,uK,zn rfl⟩;refine gz2 ?_;refine zM ?_;refine gz8 ?_;exact ⟨w+1,⟨u,out,0⟩,⟨by omega,⟨uD,g2,by simp⟩⟩,uD,⟨zQ uO,rfl,trivial⟩,uK,zn rfl⟩;refine gz2 ?_;refine zM ?_;refine gz4 ?_;refine de rfl (uCx 0 ca96 rfl rfl (znI (l:=out) g2 uO) ?_)
 rintro _ _ ⟨Z,rfl,hz1,hz2,rfl⟩;have hzl:=hz1.length_eq;refine gz6 ?_;exact zap (zaB 4 (i:=0) rfl rfl) rfl ⟨Z,rfl,⟨by omega,fun x hx=>g2 x (hz1.mem_iff.1 hx)⟩,rfl⟩
end
section
open Go.Proofs.Tryz
open Go.HL
theorem zlW [Tracks] {a b:Str}:ConP prog 248 [.str a,.str b] (.int .i64 (zV a b)):=by
 refine uOb func248 ntmps248 ?_;refine gz5 ?_;refine dq (uCl zs4 rfl zd9) ?_;refine gz4 ?_;refine dq (uCl zs4 rfl zd9) ?_;refine gz6 ?_;refine zdx rfl ?_;refine gz6 ?_;refine zdx rfl ?_;refine gz8 ?_;refine uCo (fun h1=> ?_) fun h2=> ?_
 refine gz4 ?_;refine uRp ?_;rw [zgg]
 (rw [if_pos (by assumption)])
 refine gz8 ?_;refine uCo (fun h3=> ?_) fun h4=> ?_
 refine gz4 ?_;refine uRp ?_;rw [zgg]
 (rw [if_neg uSa,if_neg uSa])
 refine gz6 ?_;refine uRp ?_;rw [zgg]
 (rw [if_neg uSa];simp_all)
theorem zhE [Tracks] {l m:List Str} (hl:l.length<=1000000) (hm:m.length<=1000000):ConP prog 178 [eSs l,eSs m] (.int .i64 (zg6 l m)):=by
 refine uOb func178 ntmps178 ?_;refine zaz ?_;refine uT1 [4,5,11,20] (fun k=>[(11,.int .i64 k)]) (fun k=>[]) (fun k=>k<=l.length/\(k<=m.length/\zg6 l m=zg6 (l.drop k) (m.drop k))) (fun k=>l.length-k) (0) ?_ ?_;exact ⟨Ad _,Ad _,rfl⟩;rintro k ⟨hk,⟨hkm,hg⟩⟩;refine gz4 ?_;refine uCo (fun h1=> ?_) fun h2=> ?_
 obtain ⟨x,hx⟩: ∃x,l[k]? =some x:=⟨_,Aa h1⟩
 have hdx:=zi hx;rw [hdx] at hg;refine gz18 ?_;refine uCo (fun h3=> ?_) fun h4=> ?_
 refine gz4 ?_;refine uRp ?_
 (rw [hg,zyV (.inr (Bj uO)) (by simp)])
 refine gz5 ?_;refine dq (zB (j:=k) (a:=m.getD k []) zp ty9 rfl rfl rfl (getD_some uO)) ?_;refine gz6 ?_;refine dq (uCl zEp rfl zlW) ?_;refine gz6 ?_;refine uCo (fun h5=> ?_) fun h6=> ?_
 refine gz5 ?_;refine uRp ?_
 (rw [hg,zmg (m:=m) (k:=k) h4,zxB (by rw [Af];exact h5)])
 refine gz7 ?_;refine ⟨k+1,?_,?_,⟨rfl,trivial⟩,uK,Ac _⟩
 refine ⟨by omega,by omega,?_⟩
 rw [hg,zmg (m:=m) (k:=k) h4];exact zxA (by rw [Af];exact h6)
 dsimp only;omega
 have hnk:l.length<=k:=by omega
 obtain rfl:k=l.length:=by omega
 rw [zI (Ae _)] at hg;refine gz2 ?_;refine zw ?_;refine zaz ?_;refine uCo (fun h7=> ?_) fun h8=> ?_
 refine gz4 ?_;refine uRp ?_
 (rw [hg,ztK,if_pos uO])
 refine gz6 ?_;refine uRp ?_
 (rw [hg,ztK,if_neg uO])
theorem zlU [Tracks] {l:List FixS} {v:Value} {fid:FuncId} {caps:List HVal} {p:FixS->FixS->Bool} (hca:Callable prog fid) (hp: ∀x y,ConP prog fid ([zaY x,zaY y]++caps) (.bool (p x y))) (hl:l.length<=1000000):Con prog 179 [.raw v,.fn (.func fid) [] caps] [.arr v 4 (l.map zaY)] (fun x M'=> ∃(u:Value) (D:List FixS),x= .raw u/\(D.length<=l.length/\∀x∈D,x∈l)/\M'=[.arr u 4 (D.map zaY)]):=by
 refine uOb func179 ntmps179 ?_;refine gz6 ?_;refine de rfl (zaR (i:=0) zcX rfl rfl ?_)
 refine gz2 ?_;refine uCo (fun h1=> ?_) fun h2=> ?_
 refine gz5 ?_;exact zad rfl ⟨_,l,rfl,⟨Ae _,fun _ q=>q⟩,rfl⟩;refine gz3 ?_;refine zcT (i:=0) rfl (fun h0 he=> ?_) (fun b off cap hv hcap=> ?_)
 exfalso;have:=congrArg List.length he;simp at this;subst this;simp at h2
 rw [Ag] at hv hcap;subst hv;refine gz4 ?_;refine uT1 [4,4,12,53] (fun k=>[(5,.int .i64 (k:Int))]) (fun k=>[.arr (.slice (some ⟨b,off,none⟩) l.length cap) 4 (l.map zaY)]) (fun k=>1<=k/\k<=l.length) (fun k=>l.length-k) (1) ?_ ?_;exact ⟨by omega,by omega⟩;rintro k ⟨hk1,hk⟩;refine gz4 ?_;refine de rfl (zaR (i:=0) zcX rfl rfl ?_)
 refine gz2 ?_;refine uCo (fun h3=> ?_) fun h4=> ?_
 obtain ⟨x,hx⟩: ∃x,l[k]? =some x:=⟨_,Aa uO⟩
 obtain ⟨y,hy⟩: ∃y,l[k-1]? =some y:=⟨_,Aa uO⟩
 refine gz4 ?_;refine zbt (fun M=>M=[.arr (.slice (some ⟨b,off,none⟩) l.length cap) 4 (l.map zaY)]) [4,9] mixed ?_;refine gz3 ?_;refine uB 3 rfl (zD (j:=k) zcX zaM rfl rfl rfl uO) ?_;refine uM 4 rfl rfl (uW (zab (i:=0) (j:=k) zaM rfl uO rfl hx rfl rfl rfl ⟨rfl,rfl⟩)) ?_;refine gz3 ?_;refine uB 8 rfl (zD (j:=k-1) zcX zaM rfl rfl uO uO) ?_;refine uM 9 rfl rfl (uW (zab (i:=0) (j:=k-1) zaM rfl uO rfl hy rfl rfl rfl ⟨rfl,rfl⟩)) ?_;refine uB 10 rfl (zao hca rfl rfl (WeakL.refl _) (hp x y)) ?_;refine gz1 ?_;refine uCo (fun h5=> ?_) fun h6=> ?_
 refine gz3 ?_;refine dq (zeT (l:=k) (h:=l.length) zcX zaM rfl ⟨_,_,rfl,rfl⟩ rfl uO uO hcap) ?_;refine gz2 ?_;rw [zsu uO];refine gz5 ?_;refine uU3 [5,1,7,1,32,27] (fun (k2:Nat) (kk:Nat) (D:List FixS)=>[(7,.int .i64 (k2:Int)),(5,.int .i64 (kk:Int))]) (fun (k2:Nat) (kk:Nat) (D:List FixS)=>[.arr (.slice (some ⟨b,off,none⟩) l.length cap) 4 (D.map zaY)]) (fun (k2:Nat) (kk:Nat) (D:List FixS)=>(1<=k2/\k+k2<=l.length)/\(k<=kk/\kk+1<=k+k2)/\D.length=l.length/\∀x∈D,x∈l) (fun (k2:Nat) (kk:Nat) (D:List FixS)=>l.length-k2) (1) (k) (l) ?_ ?_;exact ⟨⟨by omega,by have:=zo hx;omega⟩,⟨by omega,by omega⟩,rfl,fun _ q=>q⟩;rintro k2 kk D ⟨⟨hk2,hkk⟩,⟨hc1,hc2⟩,hDl,hDm⟩;refine gz4 ?_;refine dq (zfo zcX rfl) ?_;refine gz2 ?_;refine uCo (fun h7=> ?_) fun h8=> ?_
 obtain ⟨x2,hDx⟩: ∃x,D[k+k2]? =some x:=⟨_,Aa uO⟩
 obtain ⟨y2,hDy⟩: ∃y,D[k+k2-1]? =some y:=⟨_,Aa uO⟩
 refine gz4 ?_;refine zbt (fun M=>M=[.arr (.slice (some ⟨b,off,none⟩) l.length cap) 4 (D.map zaY)]) [4,9] mixed ?_;refine gz3 ?_;refine uB 3 rfl (zD (j:=k2) zcX zaM rfl rfl rfl uO) ?_;refine uM 4 rfl rfl (uW (zab (i:=0) (j:=(k+k2)) zaM rfl uO rfl hDx rfl rfl rfl ⟨rfl,rfl⟩)) ?_;refine gz3 ?_;refine uB 8 rfl (zD (j:=k2-1) zcX zaM rfl rfl uO uO) ?_;refine uM 9 rfl rfl (uW (zab (i:=0) (j:=(k+k2-1)) zaM rfl uO rfl hDy rfl rfl rfl ⟨rfl,rfl⟩)) ?_;refine uB 10 rfl (zao hca rfl rfl (WeakL.refl _) (hp x2 y2)) ?_;refine gz2 ?_;refine uCo (fun h9=> ?_) fun h10=> ?_
 refine gz5 ?_;refine dq (zD (j:=k2) zcX zaM rfl rfl rfl uO) ?_;refine de rfl (zab (i:=0) (j:=(k+k2)) zaM rfl uO rfl hDx rfl rfl rfl ?_)
 refine dq (zD (j:=kk) zcX zaM rfl rfl rfl uO) ?_;refine de0 (za0 (i:=0) (j:=kk) (y:=D[kk]'uO) (y':=x2) zaM rfl rfl rfl rfl (Aa _) rfl rfl rfl ?_)
 refine zel ?_;exact ⟨k2+1,kk+1,D.set kk x2,⟨⟨by omega,by omega⟩,⟨by omega,by omega⟩,by simp;omega,fun z hz=>(Ca hz).elim (hDm z) (fun q=>by rw [q];exact hDm x2 (Ab hDx))⟩,uD,⟨rfl,zQ uO,trivial⟩,uK,Ac _⟩;refine gz8 ?_;exact ⟨k2+1,kk,D,⟨⟨by omega,by omega⟩,⟨by omega,by omega⟩,hDl,hDm⟩,uD,⟨rfl,rfl,trivial⟩,uK,Ac _⟩;refine gz2 ?_;refine zcU ?_;refine gz5 ?_;refine dq (zeT (l:=kk) (h:=l.length) zcX zaM rfl ⟨_,_,rfl,rfl⟩ rfl uO uO hcap) ?_;refine de0 (zeF (i:=0) (m:=kk) (kk) zcX zaM rfl rfl rfl (zim uO hcap) rfl uO (Ae _) (by rw [Ag,hDl];omega) ?_)
 refine gz4 ?_;refine dq (zgn (h:=kk) zcX zaM rfl ⟨_,_,rfl,rfl⟩ uO) ?_;refine gz3 ?_;exact zad rfl ⟨_,D.take kk,rfl,⟨by simp;omega,fun z hz=>hDm z (AL hz)⟩,by rw [BC];rfl⟩;refine gz8 ?_;exact ⟨k+1,⟨by omega,by omega⟩,uD,⟨rfl,trivial⟩,uK,Ac _⟩;refine gz2 ?_;refine zw ?_;refine gz7 ?_;exact zad rfl ⟨_,l,rfl,⟨Ae _,fun _ q=>q⟩,rfl⟩
theorem ziK [Tracks] {A X C:List FixS} {ia ib:Int} {n b off cap:Nat} {fid:FuncId} {caps:List HVal} {c:FixS->FixS->Int} (hca:Callable prog fid) (hp: ∀x y,ConP prog fid ([zaY x,zaY y]++caps) (.int .i64 (c x y))) (hn:A.length+X.length+C.length=n) (hia:ia=(A.length:Int)) (hib:ib=(A.length:Int)+X.length) (hl:n<=1000000):Con prog 302 [.raw (.slice (some ⟨b,off,none⟩) n cap),.int .i64 ia,.int .i64 ib,.fn (.func fid) [] caps] [.arr (.slice (some ⟨b,off,none⟩) n cap) 4 ((A++X++C).map zaY)] (fun x M'=>x= .tup []/\M'=[.arr (.slice (some ⟨b,off,none⟩) n cap) 4 ((A++zal c X++C).map zaY)]):=by
 refine uOb func302 ntmps302 ?_;refine gz6 ?_;refine uV1 [8,2,12,41] (fun (k:Nat)=>[(8,.int .i64 ((A.length+k:Nat):Int))]) (fun (k:Nat)=>[.arr (.slice (some ⟨b,off,none⟩) n cap) 4 ((A++(zal c (X.take k)++X.drop k)++C).map zaY)]) (fun (k:Nat)=>1<=k) (fun (k:Nat)=>X.length-k) (1) ?_ ?_ ?_ ?_;exact Ae _;exact ⟨zQ uO,trivial⟩;exact zn (by rw [zla])
 intro k hk
 refine gz6 ?_;refine uCo (fun h1=> ?_) fun h2=> ?_
 obtain ⟨x,hx⟩: ∃x,X[k]? =some x:=⟨_,Aa uO⟩
 refine gz9 ?_;refine uV2 [9,1,18,35] (fun (D:List FixS) (B:List FixS)=>[(9,.int .i64 ((A.length+D.length:Nat):Int))]) (fun (D:List FixS) (B:List FixS)=>[.arr (.slice (some ⟨b,off,none⟩) n cap) 4 (((A++D)++x::(B++X.drop (k+1)++C)).map zaY)]) (fun (D:List FixS) (B:List FixS)=>D.length+B.length=k/\zdo c x (zal c (X.take k))=zdo c x D++B) (fun (D:List FixS) (B:List FixS)=>D.length) (zal c (X.take k)) ([]) ?_ ?_ ?_ ?_;exact ⟨by simp [za5];omega,by simp⟩;exact ⟨zQ (by simp [za5];omega),trivial⟩;exact zn (by rw [zi hx];simp)
 intro D B hinv
 obtain ⟨hA,hB⟩:=hinv;have hlA:D.length<X.length:=by omega
 refine gz1 ?_;refine zbt (fun M=>M=[.arr (.slice (some ⟨b,off,none⟩) n cap) 4 (((A++D)++x::(B++X.drop (k+1)++C)).map zaY)]) [8,13] mixed ?_;refine gz7 ?_;refine ahg 7 rfl rfl (by kernel_rfl) (by kernel_rfl) rfl (fun hc=>by
  have hq:0<D.length:=by simp at hc;omega
  exact ⟨_,OpenTo.upd (t:=24) rfl (hc) (OpenTo.upd (t:=23) rfl (hc) (OpenTo.refl _)),zD (j:=(A++D).length) zcX zaM rfl rfl (by simp) uSo⟩) ?_
 refine zpq 8 rfl rfl (by kernel_rfl) (by kernel_rfl) (by simp) rfl rfl (fun hc=>⟨_,OpenTo.upd (t:=25) rfl (hc) (OpenTo.refl _),fun M hM=>by
  subst hM;exact zab (i:=0) (j:=(A++D).length) zaM rfl rfl rfl zgi rfl rfl rfl ⟨rfl,rfl⟩
  ⟩) ?_
 refine gz2 ?_;refine ahg 11 rfl rfl (by kernel_rfl) (by kernel_rfl) rfl (fun hc=>by
  have hq:0<D.length:=by simp at hc;omega
  exact ⟨_,OpenTo.upd (t:=28) rfl (hc) (OpenTo.refl _),zf4 rfl rfl uO uO⟩) ?_
 refine ahg 12 rfl rfl (by kernel_rfl) (by kernel_rfl) rfl (fun hc=>by
  have hq:0<D.length:=by simp at hc;omega
  exact ⟨_,OpenTo.upd (t:=29) rfl (hc) (OpenTo.upd (t:=27) rfl (hc) (OpenTo.refl _)),zD (j:=(A++D).length-1) zcX zaM rfl rfl uSo uSo⟩) ?_
 refine zpq 13 rfl rfl (by kernel_rfl) (by kernel_rfl) (by simp) rfl rfl (fun hc=>⟨_,OpenTo.upd (t:=30) rfl (hc) (OpenTo.refl _),fun M hM=>by
  have hq:0<D.length:=by simp at hc;omega
  subst hM;exact zab (i:=0) (j:=(A++D).length-1) zaM rfl rfl rfl (zhK uSo) rfl rfl rfl ⟨rfl,rfl⟩
  ⟩) ?_
 refine uGy 14 rfl rfl (fun hc=>zao hca rfl rfl (WeakL.refl _) (hp _ _)) ?_;refine gz3 ?_;refine uCo (fun h3=> ?_) fun h4=> ?_
 obtain ⟨hA0,hcx⟩:=h3;obtain ⟨D1,y,rfl⟩:=zoT (A:=D) uO;rw [zt1] at hcx;have hD1:(D1++[y]).length=D1.length+1:=by simp
 refine gz4 ?_;refine zbu (fun M=>M=[.arr (.slice (some ⟨b,off,none⟩) n cap) 4 (((A++(D1++[y]))++x::(B++X.drop (k+1)++C)).map zaY)]) [9,13] mixed ?_;refine gz8 ?_;refine uB 8 rfl (zD (j:=(A++(D1++[y])).length-1) zcX zaM rfl rfl uSo uSo) ?_;refine uM 9 rfl rfl (uW (zab (i:=0) (j:=(A++(D1++[y])).length-1) zaM rfl rfl rfl (zmr) rfl rfl rfl ⟨rfl,rfl⟩)) ?_;refine gz2 ?_;refine uB 12 rfl (zD (j:=(A++(D1++[y])).length) zcX zaM rfl rfl (by simp) uSo) ?_;refine uM 13 rfl rfl (uW (zab (i:=0) (j:=(A++(D1++[y])).length) zaM rfl rfl rfl zgi rfl rfl rfl ⟨rfl,rfl⟩)) ?_;refine uB 14 rfl (zD (j:=(A++(D1++[y])).length) zcX zaM rfl rfl (by simp) uSo) ?_;refine uF 15 ?_;refine zA (za0 (i:=0) (j:=(A++(D1++[y])).length) (y:=x) (y':=y) zaM rfl rfl rfl rfl zgi rfl rfl rfl ?_)
 refine ⟨uE,?_⟩
 refine uB 16 rfl (zD (j:=(A++(D1++[y])).length-1) zcX zaM rfl rfl uSo uSo) ?_;refine uF 17 ?_;refine zA (za0 (i:=0) (j:=(A++(D1++[y])).length-1) (y:=y) (y':=x) zaM rfl rfl rfl rfl (by rw [A6 (by simp)];exact zmr) rfl rfl rfl ?_)
 refine ⟨uE,?_⟩
 refine gz8 ?_;exact ⟨D1,y::B,⟨by simp at hA⊢;omega,zpJ hB hcx⟩,uD,⟨zQ uO,trivial⟩,uK,zn (by rw [<-AV,zpT];simp)⟩;have hins:=zpI (l:=X) (k:=k) hx hB (by intro h0;have h9:=h4 uO;rw [zog h0] at h9;omega);refine gz2 ?_;refine zM ?_;refine gz8 ?_;exact ⟨k+1,by omega,uD,⟨zQ uO,trivial⟩,uK,zn (by rw [zvv hins])⟩;have hend:zal c (X.take k)++X.drop k=zal c X:=by rw [A8 uO,zI uO];simp
 refine gz2 ?_;refine zw ?_;refine gz1 ?_;exact zad rfl ⟨rfl,by rw [hend]⟩
theorem zl8 [Tracks] {l:List FixS} {n0:Int} {n b off cap:Nat} {fid:FuncId} {caps:List HVal} {c:FixS->FixS->Int} (hca:Callable prog fid) (hp: ∀x y,ConP prog fid ([zaY x,zaY y]++caps) (.int .i64 (c x y))) (hc:Cmp c fun _=>True) (hn:l.length=n) (hn0:n0=(n:Int)) (hl:n<=20):Con prog 247 [.raw (.slice (some ⟨b,off,none⟩) n cap),.int .i64 n0,.fn (.func fid) [] caps] [.arr (.slice (some ⟨b,off,none⟩) n cap) 4 ((l).map zaY)] (fun x M'=> ∃Z:List FixS,x= .tup []/\(Z.Perm l/\Srt c Z)/\M'=[.arr (.slice (some ⟨b,off,none⟩) n cap) 4 ((Z).map zaY)]):=by
 refine uOb func247 ntmps247 ?_;refine zaz ?_;refine uV3 [7,2,11,12] (fun (a0:Nat) (k:Nat) (Z:List FixS)=>[(7,.int .i64 (a0:Int)),(8,.int .i64 ((a0+20:Nat):Int))]) (fun (a0:Nat) (k:Nat) (Z:List FixS)=>[.arr (.slice (some ⟨b,off,none⟩) n cap) 4 ((Z++l.drop a0).map zaY)]) (fun (a0:Nat) (k:Nat) (Z:List FixS)=>a0=20*k/\a0<=n/\Blk c 20 Z/\Z.length=a0/\Z.Perm (l.take a0)) (fun (a0:Nat) (k:Nat) (Z:List FixS)=>n-a0) (0) (0) ([]) ?_ ?_ ?_ ?_
 ·exact ⟨rfl,Ad _,Blk.nil,rfl,by simp⟩
 ·exact ⟨rfl,rfl,trivial⟩
 ·exact zn (by simp)
 ·intro a0 k Z hinv
  obtain ⟨ha0,ha1,hZ,hZl,hZp⟩:=hinv;refine gz6 ?_;refine uCo (fun h1=> ?_) fun h2=> ?_
  ·refine gz3 ?_;refine ze (zbx (M':=[.arr (.slice (some ⟨b,off,none⟩) n cap) 4 ((Z++(l.drop a0).take 20++l.drop (a0+20)).map zaY)]) (by rw [AV Z,<-win])) ?_;refine gz5 ?_;refine de rfl (uCx 0 zwm rfl rfl (ziK (A:=Z) (X:=((l.drop a0).take 20)) (C:=(l.drop (a0+20))) (n:=n) hca hp (by first|omega|(simp;omega)) uO (by first|omega|(simp;omega)) uO) ?_)
   rintro _ _ ⟨rfl,rfl⟩;refine zdf ?_;exact ⟨a0+20,k+1,Z++zal c ((l.drop a0).take 20),⟨by omega,by omega,hZ.add (k:=k) uO (zkC hc _) (by rw [za5,Ax];omega),by rw [Aw,za5,Ax,Bf];omega,by rw [zsz];exact hZp.append (zbq c _)⟩,uD,⟨zQ uO,zQ uO,trivial⟩,uK,Ac _⟩
  ·refine gz2 ?_;refine zcU ?_;refine gz2 ?_;refine ze (zbx (M':=[.arr (.slice (some ⟨b,off,none⟩) n cap) 4 ((Z++l.drop a0++[]).map zaY)]) (by simp)) ?_;refine gz5 ?_;refine de rfl (uCx 0 zwm rfl rfl (ziK (A:=Z) (X:=(l.drop a0)) (C:=[]) (n:=n) hca hp (by first|omega|(simp;omega)) uO (by first|omega|(simp;omega)) uO) ?_)
   rintro _ _ ⟨rfl,rfl⟩;refine gz2 ?_;refine uV2 [6,4,28,35] (fun (bs:Nat) (D:List FixS)=>[(6,.int .i64 (bs:Int))]) (fun (bs:Nat) (D:List FixS)=>[.arr (.slice (some ⟨b,off,none⟩) n cap) 4 ((D).map zaY)]) (fun (bs:Nat) (D:List FixS)=>20<=bs/\bs<=2*n+20/\Blk c bs D/\D.Perm l) (fun (bs:Nat) (D:List FixS)=>n-bs) (20) (Z++zal c (l.drop a0)) ?_ ?_ ?_ ?_
   ·refine ⟨Ae _,by omega,hZ.add (k:=k) uO (zkC hc _) (by rw [za5,Bf];omega),?_⟩
    have:=hZp.append (zbq c (l.drop a0))
    rwa [A2] at this
   ·exact ⟨rfl,trivial⟩
   ·exact zn (by simp)
   ·intro bs D hinv
    obtain ⟨hb1,hb2,hD,hDp⟩:=hinv;have hDl:D.length=n:=by rw [hDp.length_eq];exact hn
    refine gz6 ?_;refine zW rfl (fun h3=> ?_) (fun h3=> ?_)
    ·exfalso
     try simp at h3
     all_goals omega
    ·try simp at h3
     refine gz2 ?_;refine zM ?_;refine gz1 ?_;have hDs:=hD.all uO;exact zad rfl ⟨D,rfl,⟨hDp,hDs⟩,rfl⟩
theorem zny [Tracks] {v:Value} {fid:FuncId} {caps:List HVal}:Con prog 302 [.raw v,.int .i64 0,.int .i64 0,.fn (.func fid) [] caps] [.arr v 4 []] (fun x M'=>x= .tup []/\M'=[.arr v 4 []]):=by
 refine uOb func302 ntmps302 ?_;refine gz6 ?_;refine uU1 [8,2,12,41] (fun (u:Unit)=>[(8,.int .i64 1)]) (fun (u:Unit)=>[.arr v 4 []]) (fun (u:Unit)=>True) (fun (u:Unit)=>0) (()) ?_ ?_
 ·trivial
 ·intro u hu
  refine gz6 ?_;refine zW rfl (fun h1=> ?_) (fun h1=> ?_)
  ·exfalso
   try simp at h1
   all_goals omega
  ·try simp at h1
   refine gz2 ?_;refine zw ?_;refine gz1 ?_;exact zad rfl ⟨rfl,rfl⟩
theorem zlt [Tracks] {v:Value} {fid:FuncId} {caps:List HVal}:Con prog 247 [.raw v,.int .i64 0,.fn (.func fid) [] caps] [.arr v 4 []] (fun x M'=>x= .tup []/\M'=[.arr v 4 []]):=by
 refine uOb func247 ntmps247 ?_;refine zaz ?_;refine uU1 [7,2,11,12] (fun (u:Unit)=>[(7,.int .i64 0),(8,.int .i64 20)]) (fun (u:Unit)=>[.arr v 4 []]) (fun (u:Unit)=>True) (fun (u:Unit)=>0) (()) ?_ ?_
 ·trivial
 ·intro u hu
  refine gz6 ?_;refine zW rfl (fun h1=> ?_) (fun h1=> ?_)
  ·exfalso
   try simp at h1
   all_goals omega
  ·try simp at h1
   refine gz2 ?_;refine zw ?_;refine gz7 ?_;refine de rfl (uCx 0 zwm rfl rfl zny ?_)
   rintro _ _ ⟨rfl,rfl⟩;refine gz2 ?_;refine uU1 [6,4,28,35] (fun (u:Unit)=>[(6,.int .i64 20)]) (fun (u:Unit)=>[.arr v 4 []]) (fun (u:Unit)=>True) (fun (u:Unit)=>0) (()) ?_ ?_
   ·trivial
   ·intro u hu
    refine gz6 ?_;refine zW rfl (fun h2=> ?_) (fun h2=> ?_)
    ·exfalso
     try simp at h2
     all_goals omega
    ·try simp at h2
     refine gz2 ?_;refine zw ?_;refine gz1 ?_;exact zad rfl ⟨rfl,rfl⟩
theorem zk1 [Tracks] {fid:FuncId} {caps:List HVal}:Con prog 175 [.raw (.slice none 0 0),.fn (.func fid) [] caps] [.arr (.slice none 0 0) 4 []] (fun x M'=>x= .tup []/\M'=[.arr (.slice none 0 0) 4 []]):=by
 refine uOb func175 ntmps175 ?_;refine gz3 ?_;refine dq (zfo zcX rfl) ?_;refine gz1 ?_;refine de rfl (uCx 0 zAA rfl rfl zlt ?_)
 rintro _ _ ⟨rfl,rfl⟩;refine gz1 ?_;exact zad rfl ⟨rfl,rfl⟩
theorem zk2 [Tracks] {l:List FixS} {n b off cap:Nat} {fid:FuncId} {caps:List HVal} {c:FixS->FixS->Int} (hca:Callable prog fid) (hp: ∀x y,ConP prog fid ([zaY x,zaY y]++caps) (.int .i64 (c x y))) (hc:Cmp c fun _=>True) (hn:l.length=n) (hl:n<=20):Con prog 175 [.raw (.slice (some ⟨b,off,none⟩) n cap),.fn (.func fid) [] caps] [.arr (.slice (some ⟨b,off,none⟩) n cap) 4 ((l).map zaY)] (fun x M'=> ∃Z:List FixS,x= .tup []/\(Z.Perm l/\Srt c Z)/\M'=[.arr (.slice (some ⟨b,off,none⟩) n cap) 4 ((Z).map zaY)]):=by
 refine uOb func175 ntmps175 ?_;refine gz3 ?_;refine dq (zfo zcX rfl) ?_;refine gz1 ?_;refine de rfl (uCx 0 zAA rfl rfl (zl8 hca hp hc hn rfl hl) ?_)
 rintro _ _ ⟨Z,rfl,hz,rfl⟩;refine gz1 ?_;exact zad rfl ⟨Z,rfl,hz,rfl⟩
theorem zls [Tracks] {l:List FixS} {v:Value} {fid:FuncId} {caps:List HVal} {c:FixS->FixS->Int} (hca:Callable prog fid) (hp: ∀x y,ConP prog fid ([zaY x,zaY y]++caps) (.int .i64 (c x y))) (hc:Cmp c fun _=>True) (hl:l.length<=20):Con prog 175 [.raw v,.fn (.func fid) [] caps] [.arr v 4 (l.map zaY)] fun x M'=> ∃Z:List FixS,x= .tup []/\(Z.Perm l/\Srt c Z)/\M'=[.arr v 4 (Z.map zaY)]:=
 ztN (fun h1 h2=>by
  have h3:l=[]:=by first|exact List.map_eq_nil_iff.1 h2|simpa using h2
  subst h1 h3;exact zk1.mono fun x M' ⟨e1,e2⟩=>⟨[],e1,⟨Ac _,Srt.nil⟩,e2⟩)
  fun b off cap h1=>by
   rw [Ag] at h1;subst h1;exact zk2 hca hp hc rfl hl
theorem zh0 [Tracks] {x y:FixS}:ConP prog 176 [zaY x,zaY y] (.int .i64 (zps x y)):=by
 refine uOb func176 ntmps176 ?_;refine zcj ?_;refine dq (za (hs:=[_,_]) zah ty3 rfl rfl (by decide) (by decide) rfl) ?_;refine gz4 ?_;refine dq (za (hs:=[_,_]) zah ty3 rfl rfl (by decide) (by decide) rfl) ?_;refine dq (uCl zAf rfl (zfK (a:=[x.Week,x.At]) (b:=[y.Week,y.At]) (by simp) (by simp))) ?_;refine gz6 ?_;refine uCo (fun h1=> ?_) fun h2=> ?_
 refine gz5 ?_;refine uRp ?_
 (rw [zps,if_pos (by assumption)])
 refine gz5 ?_;refine dq (za (hs:=[_]) zp ty9 rfl rfl (by decide) (by decide) rfl) ?_;refine gz2 ?_;refine dq (za (hs:=[_]) zp ty9 rfl rfl (by decide) (by decide) rfl) ?_;refine dq (uCl zDJ rfl (zhE (l:=[x.Home]) (m:=[y.Home]) (by simp) (by simp))) ?_;refine gz3 ?_;refine uRp ?_
 (rw [zps,if_neg uO])
theorem zh1 [Tracks] {x y:FixS}:ConP prog 180 [zaY x,zaY y] (.bool (bif (bif x.Week==y.Week then x.At==y.At else false) then x.Home==y.Home else false)):=by
 refine uOb func180 ntmps180 ?_;refine gz28 ?_;refine zx rfl ?_
 rfl
theorem zc6 [Tracks] {b:Nat} {l:List Int} {a:Nat} (ha:a<=700000):Con prog 88 [pAt b] [St b l a] (fun x M'=> ∃k a',x=zmh k/\k.length<=12/\a'<=a+150/\M'=[St b l a']):=by
 refine uOb func88 ntmps88 ?_;refine gz6 ?_;refine ze (zN 4) ?_;refine gz5 ?_;refine uV2 [3,58] (fun (w:Nat) (q:GL FixS)=>[(4,.int .i64 ((w:Int)+1)),(3,.raw q.u)]) (fun (w:Nat) (q:GL FixS)=>[St b l q.a,.arr q.u 4 (q.out.map zaY)]) (fun (w:Nat) (q:GL FixS)=>w<=4/\GLok (fun _=>True) (3*w) (a+32*w) q) (fun (w:Nat) (q:GL FixS)=>4-w) (0) (⟨.slice none 0 0,[],a⟩) ?_ ?_ ?_ ?_;exact ⟨by omega,⟨by simp,by simp,uD⟩⟩;exact ⟨zQ uO,rfl,trivial⟩;exact uP
 intro w q hinv
 obtain ⟨hw,hq⟩:=hinv;obtain ⟨u,out,a2⟩:=q;obtain ⟨g1,g2,g3⟩:=id hq;dsimp only at g1 g2 g3;refine gz5 ?_;refine uCo (fun h1=> ?_) fun h2=> ?_
 refine gz6 ?_;refine dq (zcs rfl rfl uO uO) ?_;refine gz4 ?_;refine de rfl (uCx 0 zgu rfl rfl (zP uS uS uS uS) ?_)
 rintro _ _ ⟨y14,rfl,hy14,rfl⟩;refine gz3 ?_;refine uV3 [3,1,5,2,15,46] (fun (n:Nat) (at1:Int) (q2:GL FixS)=>[(15,.int .i64 (n:Int)),(5,.int .i64 at1),(3,.raw q2.u)]) (fun (n:Nat) (at1:Int) (q2:GL FixS)=>[St b l q2.a,.arr q2.u 4 (q2.out.map zaY)]) (fun (n:Nat) (at1:Int) (q2:GL FixS)=>(n:Int)<=y14/\(0<=at1/\at1<=1000+20*n)/\GLok (fun _=>True) (3*w+n) (a+32*w+1+10*n) q2) (fun (n:Nat) (at1:Int) (q2:GL FixS)=>y14.toNat-n) (0) (100*((w:Int)+1)) (⟨u,out,a2+1⟩) ?_ ?_ ?_ ?_;exact ⟨by omega,by omega,⟨uD,g2,uD⟩⟩;exact ⟨rfl,rfl,rfl,trivial⟩;exact uP
 intro n at1 q2 hinv
 obtain ⟨hn,hat,hq2⟩:=hinv;obtain ⟨u,out,a2⟩:=q2;obtain ⟨g1,g2,g3⟩:=id hq2;dsimp only at g1 g2 g3;refine gz4 ?_;refine uCo (fun h3=> ?_) fun h4=> ?_
 refine gz7 ?_;refine dq (za (hs:=[_,_,_]) zah ty3 rfl rfl (by decide) (by decide) rfl) ?_;refine de rfl (uCx 0 ca6 rfl rfl (zf (L:=[_,_,_]) uS uS uS) ?_)
 rintro _ _ ⟨y20,rfl,hy20,rfl⟩;refine dq (zbp rfl rfl (by simp at hy20;omega) (by simp at hy20;omega)) ?_;refine gz6 ?_;refine dq (za (hs:=[_,_,_]) zp ty9 rfl rfl (by decide) (by decide) rfl) ?_;refine de rfl (uCx 0 zci rfl rfl (zq (L:=[_,_,_]) uS uS uS) ?_)
 rintro _ _ ⟨y26,rfl,hy26,rfl⟩;refine gz1 ?_;refine dq (za (hs:=[_,_,_]) zp ty9 rfl rfl (by decide) (by decide) rfl) ?_;refine de rfl (uCx 0 zci rfl rfl (zq (L:=[_,_,_]) uS uS uS) ?_)
 rintro _ _ ⟨y29,rfl,hy29,rfl⟩;refine dq (zG (cs:=[_,_,_,_]) zaM zFo rfl) ?_;refine de rfl (zj zaM rfl fun b6=> ?_)
 refine de0 (uY 0 ?_)
 refine gz1 ?_;refine uVj [31,11] (fun (q3:FixS×Nat)=>[]) (fun (q3:FixS×Nat)=>[St b l q3.2,.arr u 4 (out.map zaY),.cells b6 (zb (zaY q3.1))]) (fun (q3:FixS×Nat)=>q3.2<=a2+4) ?_ ?_
 skip
 refine ze (Ghost.perm (M':=[St b l (a2+3),.cells b6 (zb (zaY (⟨(w:Int)+1,at1+y20,y26,y29⟩:FixS))),.arr u 4 (out.map zaY)]) uP) ?_;refine gz2 ?_;refine de rfl (uZ 1 ?_)
 refine gz1 ?_;refine de rfl (uZ 1 ?_)
 refine gz3 ?_;refine dgx (fun xq M'=> ∃(y:Bool) (a4:Nat),xq= .bool y/\a4<=a2+4/\M'=[St b l a4,.cells b6 (zb (zaY (⟨(w:Int)+1,at1+y20,y26,y29⟩:FixS))),.arr u 4 (out.map zaY)]) rfl rfl (fun hc=>⟨_,false,a2+3,rfl,by omega,rfl⟩) (fun hc=>⟨_,OpenTo.upd (t:=37) rfl (hc) (OpenTo.refl _),uCx 0 zek rfl rfl (zJ (a:=a2+3) uO uO) (fun h M' hh=>by
  obtain ⟨y,h1,h2⟩:=hh;exact ⟨y,a2+4,h1,by omega,by rw [h2];rfl⟩)⟩) ?_
 rintro _ _ ⟨y38,a4,rfl,ha4,rfl⟩;refine gz3 ?_;refine uCo (fun h5=> ?_) fun h6=> ?_
 refine gz2 ?_;refine de0 (uY 1 ?_)
 refine gz1 ?_;exact ⟨((⟨(w:Int)+1,at1+y20,y26,[112,105,110,107]⟩:FixS),a4),ha4,trivial,uK,uP⟩;refine gz1 ?_;exact ⟨((⟨(w:Int)+1,at1+y20,y26,y29⟩:FixS),a4),ha4,trivial,uK,uP⟩
 intro q3 ha4
 obtain ⟨x4,a4⟩:=q3;dsimp only at ha4;refine uVj [42,14] (fun (q4:FixS×Nat)=>[]) (fun (q4:FixS×Nat)=>[St b l q4.2,.arr u 4 (out.map zaY),.cells b6 (zb (zaY q4.1))]) (fun (q4:FixS×Nat)=>q4.2<=a2+10) ?_ ?_
 skip
 refine gz2 ?_;refine de rfl (uCx 0 zek rfl rfl (zJ uS uS) ?_)
 rintro _ _ ⟨y43,rfl,rfl⟩;refine gz1 ?_;refine uCo (fun h7=> ?_) fun h8=> ?_
 refine zbu (fun M=> ∃i:Nat,M[i]? =some (.cells b6 (zb (zaY x4)))) [6] mixed ?_;refine gz1 ?_;refine gx2 [2,4] ?_;refine gz1 ?_;refine uM 6 rfl (⟨2,rfl⟩) (fun M hM=>by obtain ⟨i,hi⟩:=hM;exact zas (i:=i) ty9 rfl hi (.inl ⟨rfl,rfl⟩) ⟨rfl,rfl⟩) ?_;refine uB 7 rfl (za (hs:=[_,_]) zp ty9 rfl rfl (by decide) (by decide) rfl) ?_;refine uF 1 ?_;refine zv rfl (uCx 0 zl9 rfl rfl (zia uS uS uS uS) ?_)
 rintro _ _ ⟨y45,rfl,hy45,rfl⟩;refine ⟨uE,?_⟩
 refine uA 9 ?_;refine uF 3 ?_;refine zv rfl (uCx 0 zl9 rfl rfl (zia uS uS uS uS) ?_)
 rintro _ _ ⟨y47,rfl,hy47,rfl⟩;refine ⟨uE,?_⟩
 refine uF 8 ?_;refine zv rfl (uCx 0 zci rfl rfl (zq (L:=[_,_]) uS uS uS) ?_)
 rintro _ _ ⟨y52,rfl,hy52,rfl⟩;refine ⟨uE,?_⟩
 refine uF 10 ?_;refine zA (uY 2 ?_)
 refine ⟨uE,?_⟩
 refine gz1 ?_;refine uF 12 ?_;refine zA (uY 2 ?_)
 refine ⟨uE,?_⟩
 refine gz1 ?_;refine uF 14 ?_;refine zA (uY 2 ?_)
 refine ⟨uE,?_⟩
 refine gz1 ?_;exact ⟨((⟨y45,y47,y52,x4.Away⟩:FixS),a4+6),uD,trivial,uK,uP⟩;refine gz1 ?_;exact ⟨(x4,a4+1),uD,trivial,uK,uP⟩
 intro q4 ha5
 obtain ⟨x5,a5⟩:=q4;dsimp only at ha5;refine ze (zbV 6 (i:=2) rfl rfl) ?_;refine gz3 ?_;refine dq (za (hs:=[_]) zcX zaM rfl rfl (by decide) (by decide) rfl) ?_;refine de rfl (zO (i:=1) zcX zaM rfl rfl rfl rfl rfl (by simp [zaw,zb,zaH,za2]) uSo fun v59=> ?_)
 refine gz8 ?_;exact ⟨n+1,at1+y20,⟨v59,out++[x5],a5⟩,⟨by omega,by simp at hy20;omega,hq2.add (x:=x5) trivial uO⟩,uD,⟨rfl,rfl,rfl,trivial⟩,uK,uP⟩;refine gz2 ?_;refine zcU ?_;refine gz8 ?_;exact ⟨w+1,⟨u,out,a2⟩,⟨by omega,hq2.mono uO uO⟩,uD,⟨zQ uO,rfl,trivial⟩,uK,uP⟩;refine gz2 ?_;refine zM ?_;refine gz4 ?_;refine de rfl (uCx 1 zDH rfl rfl (zls (l:=out) (c:=zps) zDI (fun _ _=>zh0) zyM uO) ?_)
 rintro _ _ ⟨Z,rfl,⟨hz1,hz2⟩,rfl⟩;have hzl:=hz1.length_eq;refine gz3 ?_;refine de rfl (uCx 0 zDK rfl rfl (zlU (l:=Z) zDL (fun _ _=>zh1) uO) ?_)
 rintro _ _ ⟨u64,D64,rfl,⟨hD1,hD2⟩,rfl⟩;refine gz3 ?_;exact zap (zaB 2 (i:=0) rfl rfl) rfl ⟨D64,a2,rfl,by omega,by omega,rfl⟩
end
end Go.Proofs.YtbmggbfabohegaaGreatDoor
namespace Go.HL
section
open Go
theorem zck {e:Env} {places:List (Nat×Nat)} {cs cs' out:List HVal} {i off sz:Nat} {x:Operand} {h:HVal} {r:List (Nat×Operand)} (h1:places[i]? =some (off,sz)) (h2:zh e x=some h) (h3:zdP sz h=true)
 (h4:Nat.ble (off+sz) cs.length=true) (h5:zaG cs off (zb h)=cs') (k:zgQ e places cs' r=some out):zgQ e places cs ((i,x)::r)=some out:=by
 rw [zgQ,h1,h2];simp only [h3,h4];rw [h5];exact k
theorem zqr {e:Env} {places:List (Nat×Nat)} {cs:List HVal}:zgQ e places cs []=some cs:=rfl
theorem zqN [Tracks] {P:Program} {e:Env} {dst:Option Tmp} {ty:TypeId} {pos:String} {af:Array Edge} {g:Option (Nat×Bool)} {t:TypeId} {fs:List (Nat×Nat)} {size bytes:Nat} {zs:Array Value} {parts:Array (Nat×Operand)} {ps:List (Nat×Operand)} {places:List (Nat×Nat)} {cs zc:List HVal}
 (hf:Fits P t (.struct fs) size bytes (.agg zs)) (hp:Places P fs places) (hz:zs.toList.map za2=zc) (hps:parts.toList=ps)
 (hr:zgQ e places zc ps=some cs):POp P e ⟨dst,.build t parts,ty,pos,af,g⟩ (.agg cs):=
 zG hf hp (by rw [hz,hps];exact hr)
theorem ziz [Tracks] {P:Program} {e:Env} {dst:Option Tmp} {ty:TypeId} {pos:String} {af:Array Edge} {g:Option (Nat×Bool)} {t:TypeId} {fs:List (Nat×Nat)} {size bytes:Nat} {zs:Array Value} {parts:Array (Nat×Operand)} {ps:List (Nat×Operand)} {places:List (Nat×Nat)} {cs zc:List HVal}
 (hf:Fits P t (.struct fs) size bytes (.agg zs)) (hp:Places P fs places) (hz:zs.toList.map za2=zc:=by exact (show _=[_,_,_,_,_,_,_,_,_,_,_,_,_,_] from rfl)) (hps:parts.toList=ps:=by exact (show _=[_,_,_,_,_,_,_,_,_] from rfl))
 (hr:zgQ e places zc ps=some cs:=by exact zck (cs':=[_,_,_,_,_,_,_,_,_,_,_,_,_,_]) rfl rfl rfl rfl rfl (zck (cs':=[_,_,_,_,_,_,_,_,_,_,_,_,_,_]) rfl rfl rfl rfl rfl (zck (cs':=[_,_,_,_,_,_,_,_,_,_,_,_,_,_]) rfl rfl rfl rfl rfl (zck (cs':=[_,_,_,_,_,_,_,_,_,_,_,_,_,_]) rfl rfl rfl rfl rfl (zck (cs':=[_,_,_,_,_,_,_,_,_,_,_,_,_,_]) rfl rfl rfl rfl rfl (zck (cs':=[_,_,_,_,_,_,_,_,_,_,_,_,_,_]) rfl rfl rfl rfl rfl (zck (cs':=[_,_,_,_,_,_,_,_,_,_,_,_,_,_]) rfl rfl rfl rfl rfl (zck (cs':=[_,_,_,_,_,_,_,_,_,_,_,_,_,_]) rfl rfl rfl rfl rfl (zck (cs':=[_,_,_,_,_,_,_,_,_,_,_,_,_,_]) rfl rfl rfl rfl rfl (zqr)))))))))):POp P e ⟨dst,.build t parts,ty,pos,af,g⟩ (.agg cs):=zqN hf hp hz hps hr
theorem zFw [Tracks] {P:Program} {e:Env} {dst:Option Tmp} {ty:TypeId} {pos:String} {af:Array Edge} {g:Option (Nat×Bool)} {t:TypeId} {fs:List (Nat×Nat)} {size bytes:Nat} {zs:Array Value} {parts:Array (Nat×Operand)} {ps:List (Nat×Operand)} {places:List (Nat×Nat)} {cs zc:List HVal}
 (hf:Fits P t (.struct fs) size bytes (.agg zs)) (hp:Places P fs places) (hz:zs.toList.map za2=zc:=by exact (show _=[_,_,_,_,_,_,_,_,_,_,_,_,_,_,_,_,_,_,_] from rfl)) (hps:parts.toList=ps:=by exact (show _=[_,_,_] from rfl))
 (hr:zgQ e places zc ps=some cs:=by exact zck (cs':=[_,_,_,_,_,_,_,_,_,_,_,_,_,_,_,_,_,_,_]) rfl rfl rfl rfl rfl (zck (cs':=[_,_,_,_,_,_,_,_,_,_,_,_,_,_,_,_,_,_,_]) rfl rfl rfl rfl rfl (zck (cs':=[_,_,_,_,_,_,_,_,_,_,_,_,_,_,_,_,_,_,_]) rfl rfl rfl rfl rfl (zqr)))):POp P e ⟨dst,.build t parts,ty,pos,af,g⟩ (.agg cs):=zqN hf hp hz hps hr
end
section
open Op
abbrev zuJ:List HVal:=[.raw (.slice none 0 0),.raw (.slice none 0 0),.raw (.slice none 0 0),.raw (.slice none 0 0),.raw (.slice none 0 0),.int .i64 0,.int .i64 0,.int .i64 0,.int .i64 0,.raw (.slice none 0 0),.raw (.slice none 0 0),.raw (.slice none 0 0),.raw (.slice none 0 0),.int .i64 0]
abbrev zjc:List HVal:=[.raw (.slice none 0 0),.raw (.slice none 0 0),.raw (.slice none 0 0),.raw (.slice none 0 0),.raw (.slice none 0 0),.int .i64 0,.int .i64 0,.int .i64 0,.int .i64 0,.raw (.slice none 0 0),.raw (.slice none 0 0),.raw (.slice none 0 0),.raw (.slice none 0 0),.int .i64 0,.raw (.slice none 0 0),.raw (.slice none 0 0),.raw (.slice none 0 0),.raw (.slice none 0 0),.raw (.slice none 0 0)]
abbrev lgC (p:List PlayerS) (st:HVal) (f:List FixS) (r:List RuleS) (s:List SlotS) (b:BoundS) (t:List Str) (ga:HVal) (br:List Int) (tr:List Str) (w:Int):List HVal:=[zbh p,st,zmh f,zfT r,zeE s,.int .i64 b.Most,.int .i64 b.Hurt,.int .i64 b.Adds,.int .i64 b.Hold,eSs t,ga,eIs br,eSs tr,.int .i64 w]
abbrev bkC (g:LeagueS) (mv pl me he ch:HVal):List HVal:=[zbh g.Players,zfj g.Stints,zmh g.Fixtures,zfT g.Rules,zeE g.Slots,.int .i64 g.Bounds.Most,.int .i64 g.Bounds.Hurt,.int .i64 g.Bounds.Adds,.int .i64 g.Bounds.Hold,eSs g.Teams,zgI g.Games,eIs g.Breaks,eSs g.Trust,.int .i64 g.Start,mv,pl,me,he,ch]
end
end Go.HL
namespace Go.Proofs.YtbmggbfabohegaaGreatDoor
set_option maxRecDepth 100000
set_option linter.unusedVariables false
set_option linter.unusedSimpArgs false
section
open Go.Proofs.Tryz
open Go.HL
theorem ziG [Tracks] {b:Nat} {l:List Int} {a:Nat} (ha:a<=500000):Con prog 38 [pAt b] [St b l a] (fun x M'=> ∃g a',x=zfi g/\LeaC g/\a'<=a+500/\M'=[St b l a']):=by
 refine zba func38 rfl ntmps38 rfl rfl ?_;refine gz1 ?_;refine de rfl (zj zaN rfl fun b2=> ?_)
 refine gz1 ?_;refine uVj [3,1,6,23] (fun (q:Nat×LeagueS×Nat)=>[(3,pAt q.1)]) (fun (q:Nat×LeagueS×Nat)=>[.cells q.1 (lgC q.2.1.Players (.raw (.slice none 0 0)) q.2.1.Fixtures q.2.1.Rules q.2.1.Slots q.2.1.Bounds q.2.1.Teams (.raw (.slice none 0 0)) q.2.1.Breaks q.2.1.Trust q.2.1.Start),.cells b2 zuJ,St b l q.2.2]) (fun (q:Nat×LeagueS×Nat)=>LeaD q.2.1/\q.2.2<=a+300) ?_ ?_
 ·skip
  refine zgB mixed ?_;refine gz1 ?_;refine gx4 [2,4,6,8] ?_;refine uB 10 rfl (za (hs:=[_,_,_,_]) zp ty9 rfl rfl (by decide) (by decide) rfl) ?_;refine gz1 ?_;refine uB 12 rfl (za (hs:=[_,_,_]) zah ty3 rfl rfl (by decide) (by decide) rfl) ?_;refine gx3 [15,17,19] ?_;refine uB 20 rfl (za (hs:=[_,_,_]) zah ty3 rfl rfl (by decide) (by decide) rfl) ?_;refine zh8 1 23 rfl rfl (by kernel_rfl) ?_ ?_
  ·skip
   refine zv rfl (uCx 1 ca87 rfl rfl (zdV uS) ?_)
   rintro _ _ ⟨k7,a7,rfl,hk7,ha7,rfl⟩;refine ⟨uE,?_⟩
   refine zh8 3 23 rfl rfl (by kernel_rfl) ?_ ?_
   ·skip
    refine zv rfl (uCx 0 zyS rfl rfl (zc6 uS) ?_)
    rintro _ _ ⟨k9,a9,rfl,hk9,ha9,rfl⟩;refine ⟨uE,?_⟩
    refine zh8 5 23 rfl rfl (by kernel_rfl) ?_ ?_
    ·skip
     refine zv rfl (uCx 0 zwp rfl rfl (zbR uS) ?_)
     rintro _ _ ⟨k11,a11,rfl,hk11,ha11,rfl⟩;refine ⟨uE,?_⟩
     refine zh8 7 23 rfl rfl (by kernel_rfl) ?_ ?_
     ·skip
      refine zv rfl (uCx 0 zrl rfl rfl (zbl uS) ?_)
      rintro _ _ ⟨k13,a13,rfl,hk13,hn13,ha13,rfl⟩;refine ⟨uE,?_⟩
      refine zh8 9 23 rfl rfl (by kernel_rfl) ?_ ?_
      ·skip
       refine zv rfl (uCx 0 zrm rfl rfl (zaO uS) ?_)
       rintro _ _ ⟨y15,rfl,rfl⟩;refine ⟨uE,?_⟩
       refine zh8 13 23 rfl rfl (by kernel_rfl) ?_ ?_
       ·skip
        refine zv rfl (uCx 0 ca6 rfl rfl (zf (L:=[_,_,_]) uS uS uS) ?_)
        rintro _ _ ⟨y19,rfl,hy19,rfl⟩;refine ⟨uE,?_⟩
        refine uB 14 rfl (zaQ (es:=tm4) (f:=HVal.str) (h:=y19.toNat) zp ty9 rfl rfl ⟨_,_,rfl,by simp at hy19;omega⟩ uO (by simp [tm4];simp at hy19;omega)) ?_;refine zh8 16 23 rfl rfl (by kernel_rfl) ?_ ?_
        ·skip
         refine zv rfl (uCx 0 znM rfl rfl (zaI uS) ?_)
         rintro _ _ ⟨k22,a22,rfl,hk22,ha22,rfl⟩;refine ⟨uE,?_⟩
         refine zh8 18 23 rfl rfl (by kernel_rfl) ?_ ?_
         ·skip
          refine zv rfl (uCx 0 zmc rfl rfl (zay uS) ?_)
          rintro _ _ ⟨t24,a24,rfl,ht24,ha24,rfl⟩;refine ⟨uE,?_⟩
          refine zh8 21 23 rfl rfl (by kernel_rfl) ?_ ?_
          ·skip
           refine zv rfl (uCx 0 ca6 rfl rfl (zf (L:=[_,_,_]) uS uS uS) ?_)
           rintro _ _ ⟨y27,rfl,hy27,rfl⟩;refine ⟨uE,?_⟩
           refine uB 22 rfl (ziz zaN zkb) ?_;refine uF 23 ?_;refine zv rfl (zj zaN rfl fun b3=> ?_)
           refine ⟨uE,?_⟩
           refine uF 24 ?_;refine zA (uY 0 ?_)
           refine ⟨uE,?_⟩
           refine uAz ?_;refine ⟨(b3,⟨k7,[],k9,k11,k13,y15,(tm4.take y19.toNat),[],k22,t24,y27⟩,a24+1),?_,⟨rfl,trivial⟩,uK,?_⟩
           ·exact ⟨⟨hk7,hk9,hk11,hk13,⟨by dsimp only;simp [tm4];simp at hy19;omega,by dsimp only;simp [tm4];simp at hy19;omega⟩,hk22,ht24,by simp at hy27;dsimp only;omega,zfe (by simp at hy19;omega)⟩,uD⟩
           ·exact uP
          ·skip
           refine zv rfl (zj zaN rfl fun b3=> ?_)
           refine ⟨uE,?_⟩
           refine uF 21 ?_;refine zv rfl (uCx 1 ca6 rfl rfl (zf (L:=[_,_,_]) uS uS uS) ?_)
           rintro _ _ ⟨y27,rfl,hy27,rfl⟩;refine ⟨uE,?_⟩
           refine uB 22 rfl (ziz zaN zkb) ?_;refine uF 24 ?_;refine zA (uY 1 ?_)
           refine ⟨uE,?_⟩
           refine uAz ?_;refine ⟨(b3,⟨k7,[],k9,k11,k13,y15,(tm4.take y19.toNat),[],k22,t24,y27⟩,a24+1),?_,⟨rfl,trivial⟩,uK,?_⟩
           ·exact ⟨⟨hk7,hk9,hk11,hk13,⟨by dsimp only;simp [tm4];simp at hy19;omega,by dsimp only;simp [tm4];simp at hy19;omega⟩,hk22,ht24,by simp at hy27;dsimp only;omega,zfe (by simp at hy19;omega)⟩,uD⟩
           ·exact uP
         ·skip
          refine zv rfl (zj zaN rfl fun b3=> ?_)
          refine ⟨uE,?_⟩
          refine uF 18 ?_;refine zv rfl (uCx 1 zmc rfl rfl (zay uS) ?_)
          rintro _ _ ⟨t24,a24,rfl,ht24,ha24,rfl⟩;refine ⟨uE,?_⟩
          refine uF 21 ?_;refine zv rfl (uCx 0 ca6 rfl rfl (zf (L:=[_,_,_]) uS uS uS) ?_)
          rintro _ _ ⟨y27,rfl,hy27,rfl⟩;refine ⟨uE,?_⟩
          refine uB 22 rfl (ziz zaN zkb) ?_;refine uF 24 ?_;refine zA (uY 1 ?_)
          refine ⟨uE,?_⟩
          refine uAz ?_;refine ⟨(b3,⟨k7,[],k9,k11,k13,y15,(tm4.take y19.toNat),[],k22,t24,y27⟩,a24+1),?_,⟨rfl,trivial⟩,uK,?_⟩
          ·exact ⟨⟨hk7,hk9,hk11,hk13,⟨by dsimp only;simp [tm4];simp at hy19;omega,by dsimp only;simp [tm4];simp at hy19;omega⟩,hk22,ht24,by simp at hy27;dsimp only;omega,zfe (by simp at hy19;omega)⟩,uD⟩
          ·exact uP
        ·skip
         refine zv rfl (zj zaN rfl fun b3=> ?_)
         refine ⟨uE,?_⟩
         refine uF 16 ?_;refine zv rfl (uCx 1 znM rfl rfl (zaI uS) ?_)
         rintro _ _ ⟨k22,a22,rfl,hk22,ha22,rfl⟩;refine ⟨uE,?_⟩
         refine uF 18 ?_;refine zv rfl (uCx 0 zmc rfl rfl (zay uS) ?_)
         rintro _ _ ⟨t24,a24,rfl,ht24,ha24,rfl⟩;refine ⟨uE,?_⟩
         refine uF 21 ?_;refine zv rfl (uCx 0 ca6 rfl rfl (zf (L:=[_,_,_]) uS uS uS) ?_)
         rintro _ _ ⟨y27,rfl,hy27,rfl⟩;refine ⟨uE,?_⟩
         refine uB 22 rfl (ziz zaN zkb) ?_;refine uF 24 ?_;refine zA (uY 1 ?_)
         refine ⟨uE,?_⟩
         refine uAz ?_;refine ⟨(b3,⟨k7,[],k9,k11,k13,y15,(tm4.take y19.toNat),[],k22,t24,y27⟩,a24+1),?_,⟨rfl,trivial⟩,uK,?_⟩
         ·exact ⟨⟨hk7,hk9,hk11,hk13,⟨by dsimp only;simp [tm4];simp at hy19;omega,by dsimp only;simp [tm4];simp at hy19;omega⟩,hk22,ht24,by simp at hy27;dsimp only;omega,zfe (by simp at hy19;omega)⟩,uD⟩
         ·exact uP
       ·skip
        refine zv rfl (zj zaN rfl fun b3=> ?_)
        refine ⟨uE,?_⟩
        refine uF 13 ?_;refine zv rfl (uCx 1 ca6 rfl rfl (zf (L:=[_,_,_]) uS uS uS) ?_)
        rintro _ _ ⟨y19,rfl,hy19,rfl⟩;refine ⟨uE,?_⟩
        refine uB 14 rfl (zaQ (es:=tm4) (f:=HVal.str) (h:=y19.toNat) zp ty9 rfl rfl ⟨_,_,rfl,by simp at hy19;omega⟩ uO (by simp [tm4];simp at hy19;omega)) ?_;refine uF 16 ?_;refine zv rfl (uCx 0 znM rfl rfl (zaI uS) ?_)
        rintro _ _ ⟨k22,a22,rfl,hk22,ha22,rfl⟩;refine ⟨uE,?_⟩
        refine uF 18 ?_;refine zv rfl (uCx 0 zmc rfl rfl (zay uS) ?_)
        rintro _ _ ⟨t24,a24,rfl,ht24,ha24,rfl⟩;refine ⟨uE,?_⟩
        refine uF 21 ?_;refine zv rfl (uCx 0 ca6 rfl rfl (zf (L:=[_,_,_]) uS uS uS) ?_)
        rintro _ _ ⟨y27,rfl,hy27,rfl⟩;refine ⟨uE,?_⟩
        refine uB 22 rfl (ziz zaN zkb) ?_;refine uF 24 ?_;refine zA (uY 1 ?_)
        refine ⟨uE,?_⟩
        refine uAz ?_;refine ⟨(b3,⟨k7,[],k9,k11,k13,y15,(tm4.take y19.toNat),[],k22,t24,y27⟩,a24+1),?_,⟨rfl,trivial⟩,uK,?_⟩
        ·exact ⟨⟨hk7,hk9,hk11,hk13,⟨by dsimp only;simp [tm4];simp at hy19;omega,by dsimp only;simp [tm4];simp at hy19;omega⟩,hk22,ht24,by simp at hy27;dsimp only;omega,zfe (by simp at hy19;omega)⟩,uD⟩
        ·exact uP
      ·skip
       refine zv rfl (zj zaN rfl fun b3=> ?_)
       refine ⟨uE,?_⟩
       refine uF 9 ?_;refine zv rfl (uCx 1 zrm rfl rfl (zaO uS) ?_)
       rintro _ _ ⟨y15,rfl,rfl⟩;refine ⟨uE,?_⟩
       refine uF 13 ?_;refine zv rfl (uCx 0 ca6 rfl rfl (zf (L:=[_,_,_]) uS uS uS) ?_)
       rintro _ _ ⟨y19,rfl,hy19,rfl⟩;refine ⟨uE,?_⟩
       refine uB 14 rfl (zaQ (es:=tm4) (f:=HVal.str) (h:=y19.toNat) zp ty9 rfl rfl ⟨_,_,rfl,by simp at hy19;omega⟩ uO (by simp [tm4];simp at hy19;omega)) ?_;refine uF 16 ?_;refine zv rfl (uCx 0 znM rfl rfl (zaI uS) ?_)
       rintro _ _ ⟨k22,a22,rfl,hk22,ha22,rfl⟩;refine ⟨uE,?_⟩
       refine uF 18 ?_;refine zv rfl (uCx 0 zmc rfl rfl (zay uS) ?_)
       rintro _ _ ⟨t24,a24,rfl,ht24,ha24,rfl⟩;refine ⟨uE,?_⟩
       refine uF 21 ?_;refine zv rfl (uCx 0 ca6 rfl rfl (zf (L:=[_,_,_]) uS uS uS) ?_)
       rintro _ _ ⟨y27,rfl,hy27,rfl⟩;refine ⟨uE,?_⟩
       refine uB 22 rfl (ziz zaN zkb) ?_;refine uF 24 ?_;refine zA (uY 1 ?_)
       refine ⟨uE,?_⟩
       refine uAz ?_;refine ⟨(b3,⟨k7,[],k9,k11,k13,y15,(tm4.take y19.toNat),[],k22,t24,y27⟩,a24+1),?_,⟨rfl,trivial⟩,uK,?_⟩
       ·exact ⟨⟨hk7,hk9,hk11,hk13,⟨by dsimp only;simp [tm4];simp at hy19;omega,by dsimp only;simp [tm4];simp at hy19;omega⟩,hk22,ht24,by simp at hy27;dsimp only;omega,zfe (by simp at hy19;omega)⟩,uD⟩
       ·exact uP
     ·skip
      refine zv rfl (zj zaN rfl fun b3=> ?_)
      refine ⟨uE,?_⟩
      refine uF 7 ?_;refine zv rfl (uCx 1 zrl rfl rfl (zbl uS) ?_)
      rintro _ _ ⟨k13,a13,rfl,hk13,hn13,ha13,rfl⟩;refine ⟨uE,?_⟩
      refine uF 9 ?_;refine zv rfl (uCx 0 zrm rfl rfl (zaO uS) ?_)
      rintro _ _ ⟨y15,rfl,rfl⟩;refine ⟨uE,?_⟩
      refine uF 13 ?_;refine zv rfl (uCx 0 ca6 rfl rfl (zf (L:=[_,_,_]) uS uS uS) ?_)
      rintro _ _ ⟨y19,rfl,hy19,rfl⟩;refine ⟨uE,?_⟩
      refine uB 14 rfl (zaQ (es:=tm4) (f:=HVal.str) (h:=y19.toNat) zp ty9 rfl rfl ⟨_,_,rfl,by simp at hy19;omega⟩ uO (by simp [tm4];simp at hy19;omega)) ?_;refine uF 16 ?_;refine zv rfl (uCx 0 znM rfl rfl (zaI uS) ?_)
      rintro _ _ ⟨k22,a22,rfl,hk22,ha22,rfl⟩;refine ⟨uE,?_⟩
      refine uF 18 ?_;refine zv rfl (uCx 0 zmc rfl rfl (zay uS) ?_)
      rintro _ _ ⟨t24,a24,rfl,ht24,ha24,rfl⟩;refine ⟨uE,?_⟩
      refine uF 21 ?_;refine zv rfl (uCx 0 ca6 rfl rfl (zf (L:=[_,_,_]) uS uS uS) ?_)
      rintro _ _ ⟨y27,rfl,hy27,rfl⟩;refine ⟨uE,?_⟩
      refine uB 22 rfl (ziz zaN zkb) ?_;refine uF 24 ?_;refine zA (uY 1 ?_)
      refine ⟨uE,?_⟩
      refine uAz ?_;refine ⟨(b3,⟨k7,[],k9,k11,k13,y15,(tm4.take y19.toNat),[],k22,t24,y27⟩,a24+1),?_,⟨rfl,trivial⟩,uK,?_⟩
      ·exact ⟨⟨hk7,hk9,hk11,hk13,⟨by dsimp only;simp [tm4];simp at hy19;omega,by dsimp only;simp [tm4];simp at hy19;omega⟩,hk22,ht24,by simp at hy27;dsimp only;omega,zfe (by simp at hy19;omega)⟩,uD⟩
      ·exact uP
    ·skip
     refine zv rfl (zj zaN rfl fun b3=> ?_)
     refine ⟨uE,?_⟩
     refine uF 5 ?_;refine zv rfl (uCx 1 zwp rfl rfl (zbR uS) ?_)
     rintro _ _ ⟨k11,a11,rfl,hk11,ha11,rfl⟩;refine ⟨uE,?_⟩
     refine uF 7 ?_;refine zv rfl (uCx 0 zrl rfl rfl (zbl uS) ?_)
     rintro _ _ ⟨k13,a13,rfl,hk13,hn13,ha13,rfl⟩;refine ⟨uE,?_⟩
     refine uF 9 ?_;refine zv rfl (uCx 0 zrm rfl rfl (zaO uS) ?_)
     rintro _ _ ⟨y15,rfl,rfl⟩;refine ⟨uE,?_⟩
     refine uF 13 ?_;refine zv rfl (uCx 0 ca6 rfl rfl (zf (L:=[_,_,_]) uS uS uS) ?_)
     rintro _ _ ⟨y19,rfl,hy19,rfl⟩;refine ⟨uE,?_⟩
     refine uB 14 rfl (zaQ (es:=tm4) (f:=HVal.str) (h:=y19.toNat) zp ty9 rfl rfl ⟨_,_,rfl,by simp at hy19;omega⟩ uO (by simp [tm4];simp at hy19;omega)) ?_;refine uF 16 ?_;refine zv rfl (uCx 0 znM rfl rfl (zaI uS) ?_)
     rintro _ _ ⟨k22,a22,rfl,hk22,ha22,rfl⟩;refine ⟨uE,?_⟩
     refine uF 18 ?_;refine zv rfl (uCx 0 zmc rfl rfl (zay uS) ?_)
     rintro _ _ ⟨t24,a24,rfl,ht24,ha24,rfl⟩;refine ⟨uE,?_⟩
     refine uF 21 ?_;refine zv rfl (uCx 0 ca6 rfl rfl (zf (L:=[_,_,_]) uS uS uS) ?_)
     rintro _ _ ⟨y27,rfl,hy27,rfl⟩;refine ⟨uE,?_⟩
     refine uB 22 rfl (ziz zaN zkb) ?_;refine uF 24 ?_;refine zA (uY 1 ?_)
     refine ⟨uE,?_⟩
     refine uAz ?_;refine ⟨(b3,⟨k7,[],k9,k11,k13,y15,(tm4.take y19.toNat),[],k22,t24,y27⟩,a24+1),?_,⟨rfl,trivial⟩,uK,?_⟩
     ·exact ⟨⟨hk7,hk9,hk11,hk13,⟨by dsimp only;simp [tm4];simp at hy19;omega,by dsimp only;simp [tm4];simp at hy19;omega⟩,hk22,ht24,by simp at hy27;dsimp only;omega,zfe (by simp at hy19;omega)⟩,uD⟩
     ·exact uP
   ·skip
    refine zv rfl (zj zaN rfl fun b3=> ?_)
    refine ⟨uE,?_⟩
    refine uF 3 ?_;refine zv rfl (uCx 1 zyS rfl rfl (zc6 uS) ?_)
    rintro _ _ ⟨k9,a9,rfl,hk9,ha9,rfl⟩;refine ⟨uE,?_⟩
    refine uF 5 ?_;refine zv rfl (uCx 0 zwp rfl rfl (zbR uS) ?_)
    rintro _ _ ⟨k11,a11,rfl,hk11,ha11,rfl⟩;refine ⟨uE,?_⟩
    refine uF 7 ?_;refine zv rfl (uCx 0 zrl rfl rfl (zbl uS) ?_)
    rintro _ _ ⟨k13,a13,rfl,hk13,hn13,ha13,rfl⟩;refine ⟨uE,?_⟩
    refine uF 9 ?_;refine zv rfl (uCx 0 zrm rfl rfl (zaO uS) ?_)
    rintro _ _ ⟨y15,rfl,rfl⟩;refine ⟨uE,?_⟩
    refine uF 13 ?_;refine zv rfl (uCx 0 ca6 rfl rfl (zf (L:=[_,_,_]) uS uS uS) ?_)
    rintro _ _ ⟨y19,rfl,hy19,rfl⟩;refine ⟨uE,?_⟩
    refine uB 14 rfl (zaQ (es:=tm4) (f:=HVal.str) (h:=y19.toNat) zp ty9 rfl rfl ⟨_,_,rfl,by simp at hy19;omega⟩ uO (by simp [tm4];simp at hy19;omega)) ?_;refine uF 16 ?_;refine zv rfl (uCx 0 znM rfl rfl (zaI uS) ?_)
    rintro _ _ ⟨k22,a22,rfl,hk22,ha22,rfl⟩;refine ⟨uE,?_⟩
    refine uF 18 ?_;refine zv rfl (uCx 0 zmc rfl rfl (zay uS) ?_)
    rintro _ _ ⟨t24,a24,rfl,ht24,ha24,rfl⟩;refine ⟨uE,?_⟩
    refine uF 21 ?_;refine zv rfl (uCx 0 ca6 rfl rfl (zf (L:=[_,_,_]) uS uS uS) ?_)
    rintro _ _ ⟨y27,rfl,hy27,rfl⟩;refine ⟨uE,?_⟩
    refine uB 22 rfl (ziz zaN zkb) ?_;refine uF 24 ?_;refine zA (uY 1 ?_)
    refine ⟨uE,?_⟩
    refine uAz ?_;refine ⟨(b3,⟨k7,[],k9,k11,k13,y15,(tm4.take y19.toNat),[],k22,t24,y27⟩,a24+1),?_,⟨rfl,trivial⟩,uK,?_⟩
    ·exact ⟨⟨hk7,hk9,hk11,hk13,⟨by dsimp only;simp [tm4];simp at hy19;omega,by dsimp only;simp [tm4];simp at hy19;omega⟩,hk22,ht24,by simp at hy27;dsimp only;omega,zfe (by simp at hy19;omega)⟩,uD⟩
    ·exact uP
  ·skip
   refine zv rfl (zj zaN rfl fun b3=> ?_)
   refine ⟨uE,?_⟩
   refine uF 1 ?_;refine zv rfl (uCx 2 ca87 rfl rfl (zdV uS) ?_)
   rintro _ _ ⟨k7,a7,rfl,hk7,ha7,rfl⟩;refine ⟨uE,?_⟩
   refine uF 3 ?_;refine zv rfl (uCx 0 zyS rfl rfl (zc6 uS) ?_)
   rintro _ _ ⟨k9,a9,rfl,hk9,ha9,rfl⟩;refine ⟨uE,?_⟩
   refine uF 5 ?_;refine zv rfl (uCx 0 zwp rfl rfl (zbR uS) ?_)
   rintro _ _ ⟨k11,a11,rfl,hk11,ha11,rfl⟩;refine ⟨uE,?_⟩
   refine uF 7 ?_;refine zv rfl (uCx 0 zrl rfl rfl (zbl uS) ?_)
   rintro _ _ ⟨k13,a13,rfl,hk13,hn13,ha13,rfl⟩;refine ⟨uE,?_⟩
   refine uF 9 ?_;refine zv rfl (uCx 0 zrm rfl rfl (zaO uS) ?_)
   rintro _ _ ⟨y15,rfl,rfl⟩;refine ⟨uE,?_⟩
   refine uF 13 ?_;refine zv rfl (uCx 0 ca6 rfl rfl (zf (L:=[_,_,_]) uS uS uS) ?_)
   rintro _ _ ⟨y19,rfl,hy19,rfl⟩;refine ⟨uE,?_⟩
   refine uB 14 rfl (zaQ (es:=tm4) (f:=HVal.str) (h:=y19.toNat) zp ty9 rfl rfl ⟨_,_,rfl,by simp at hy19;omega⟩ uO (by simp [tm4];simp at hy19;omega)) ?_;refine uF 16 ?_;refine zv rfl (uCx 0 znM rfl rfl (zaI uS) ?_)
   rintro _ _ ⟨k22,a22,rfl,hk22,ha22,rfl⟩;refine ⟨uE,?_⟩
   refine uF 18 ?_;refine zv rfl (uCx 0 zmc rfl rfl (zay uS) ?_)
   rintro _ _ ⟨t24,a24,rfl,ht24,ha24,rfl⟩;refine ⟨uE,?_⟩
   refine uF 21 ?_;refine zv rfl (uCx 0 ca6 rfl rfl (zf (L:=[_,_,_]) uS uS uS) ?_)
   rintro _ _ ⟨y27,rfl,hy27,rfl⟩;refine ⟨uE,?_⟩
   refine uB 22 rfl (ziz zaN zkb) ?_;refine uF 24 ?_;refine zA (uY 1 ?_)
   refine ⟨uE,?_⟩
   refine uAz ?_;refine ⟨(b3,⟨k7,[],k9,k11,k13,y15,(tm4.take y19.toNat),[],k22,t24,y27⟩,a24+1),?_,⟨rfl,trivial⟩,uK,?_⟩
   ·exact ⟨⟨hk7,hk9,hk11,hk13,⟨by dsimp only;simp [tm4];simp at hy19;omega,by dsimp only;simp [tm4];simp at hy19;omega⟩,hk22,ht24,by simp at hy27;dsimp only;omega,zfe (by simp at hy19;omega)⟩,uD⟩
   ·exact uP
 ·intro q hq0
  obtain ⟨b3,⟨k7,kst,k9,k11,k13,y15,T,kga,k22,t24,y27⟩,a27⟩:=q;obtain ⟨⟨hk7,hk9,hk11,hk13,htl,hk22,ht24,hst,htt⟩,ha27⟩:=hq0;dsimp only at hk7 hk9 hk11 hk13 htl hk22 ht24 hst htt ha27⊢;have hp5:=hk7.len;have htr:t24.length<=100/\∀s∈t24,Sh s:=⟨by have:=ht24.len;omega,ht24.all⟩
  refine gz3 ?_;refine de rfl (uZ 0 ?_)
  refine de rfl (uCx 2 ca94 rfl rfl (ziH (a:=a27) (L:=k7) uO uO) ?_)
  rintro _ _ ⟨k32,a32,rfl,hk32,ha32,rfl⟩;refine gz1 ?_;refine de0 (uY 1 ?_)
  refine gz4 ?_;refine de rfl (uZ 1 ?_)
  refine de rfl (za4 (M1:=[]) (R:=[_,_,_]) ca95 rfl (WeakL.refl _) (Ac _) (zkW (T:=T) htl) ?_)
  rintro _ _ ⟨k36,rfl,hk36,rfl⟩;refine gz3 ?_;have hl36:=hk36.len;have hg36:=hk36.all;refine ze (zN 8) ?_;refine gz1 ?_;refine uV2 [5,1,38,14] (fun (k:Nat) (q:GL GameS)=>[(38,.int .i64 k)]) (fun (k:Nat) (q:GL GameS)=>[St b l q.a,.cells b2 zuJ,.cells b3 (lgC k7 (zfj k32) k9 k11 k13 y15 T (.raw q.u) k22 t24 y27),.arr q.u 8 (q.out.map zaa)]) (fun (k:Nat) (q:GL GameS)=>k<=k36.length/\(GLok GamB k (a32+k) q)) (fun (k:Nat) (q:GL GameS)=>k36.length-k) (0) (⟨.slice none 0 0,[],a32⟩) ?_ ?_ ?_ ?_
  ·exact ⟨Ad _,⟨by simp,by simp,uD⟩⟩
  ·exact ⟨rfl,trivial⟩
  ·exact uP
  ·intro k q hinv
   obtain ⟨hk,hq⟩:=hinv;obtain ⟨u,out,a2⟩:=q;obtain ⟨g1,g2,g3⟩:=id hq;dsimp only at g1 g2 g3;refine gz4 ?_;refine uCo (fun h1=> ?_) fun h2=> ?_
   ·obtain ⟨x,hx⟩: ∃x,k36[k]? =some x:=⟨_,Aa h1⟩
    have hdx:=zi hx;refine gz7 ?_;refine de rfl (zj za7 rfl fun b5=> ?_)
    refine de0 (uY 0 ?_)
    refine gz3 ?_;refine de rfl (uCx 1 zek rfl rfl (zJ uS uS) ?_)
    rintro _ _ ⟨y43,rfl,rfl⟩;refine gz2 ?_;refine uCo (fun h3=> ?_) fun h4=> ?_
    ·refine gz2 ?_;refine de rfl (uZ 3 ?_)
     refine de rfl (ziQ (i:=1) (h:=zaa x) za7 rfl rfl rfl rfl rfl ?_)
     refine dq (za (hs:=[_]) zcI za7 rfl rfl (by decide) (by decide) rfl) ?_;refine de rfl (zO (i:=4) zcI za7 rfl rfl rfl rfl rfl (by simp [zaw,zb,zaH,za2]) uSo fun v49=> ?_)
     refine gz1 ?_;refine de0 (uY 3 ?_)
     refine gz3 ?_;refine ze (zbV 5 (i:=1) rfl rfl) ?_;refine gz4 ?_;exact ⟨k+1,⟨v49,out++[x],a2+1⟩,⟨by omega,hq.add (x:=x) (hg36 x (Ab hx)) uO⟩,uD,⟨rfl,trivial⟩,uK,zn (by dsimp only;rw [Ay];rfl)⟩
    ·refine gz3 ?_;refine ze (zbV 5 (i:=1) rfl rfl) ?_;refine gz4 ?_;exact ⟨k+1,⟨u,out,a2+1⟩,⟨by omega,hq.same uO⟩,uD,⟨rfl,trivial⟩,uK,zn rfl⟩
   ·have hnk:k36.length<=k:=by omega
    obtain rfl:k=k36.length:=by omega
    refine gz2 ?_;refine zM ?_;refine gz4 ?_;refine de rfl (uZ 2 ?_)
    refine de rfl (uCx 3 ca96 rfl rfl (znI (l:=out) g2 uO) ?_)
    rintro _ _ ⟨Z,rfl,hz1,hz2,rfl⟩;have hzl:=hz1.length_eq;refine gz1 ?_;have hgz:Z.length<=6/\∀x∈Z,GamB x:=⟨by omega,fun x hx=>g2 x (hz1.mem_iff.1 hx)⟩
    refine uVj [55,44] (fun (q5:LeagueS×Nat)=>[]) (fun (q5:LeagueS×Nat)=>[St b l q5.2,.cells b2 zuJ,.cells b3 (lgC q5.1.Players (zfj q5.1.Stints) q5.1.Fixtures q5.1.Rules q5.1.Slots q5.1.Bounds q5.1.Teams (.raw u) q5.1.Breaks q5.1.Trust q5.1.Start),.arr u 8 (q5.1.Games.map zaa)]) (fun (q5:LeagueS×Nat)=>LeaC q5.1/\q5.2<=a+500) ?_ ?_
    ·skip
     refine gz2 ?_;refine de rfl (uCx 1 zek rfl rfl (zJ uS uS) ?_)
     rintro _ _ ⟨y56,rfl,rfl⟩;refine gz1 ?_;refine uCo (fun h5=> ?_) fun h6=> ?_
     ·refine gz2 ?_;refine de rfl (uCx 0 zi3 rfl rfl (zam uS uS) ?_)
      rintro _ _ ⟨y58,rfl,hy58,rfl⟩;refine gz6 ?_;refine uCo (fun h7=> ?_) fun h8=> ?_
      ·refine gz2 ?_;refine dq (za (hs:=[_,_,_]) zah ty3 rfl rfl (by decide) (by decide) rfl) ?_;refine de rfl (uCx 0 ca6 rfl rfl (zf (L:=[_,_,_]) uS uS uS) ?_)
       rintro _ _ ⟨y81,rfl,hy81,rfl⟩;refine gz1 ?_;refine de0 (uY 3 ?_)
       refine gz2 ?_;exact ⟨((⟨k7,k32,k9,k11,k13,y15,T,Z,k22,t24,y81⟩:LeagueS),a2+3),⟨zjF (h1:=hk7) (h2:=by dsimp only;omega) (h3:=by dsimp only;omega) (h4:=hk11) (h5:=hk13.up) (h6:=by dsimp only;omega) (h7:=hgz) (h8:=by dsimp only;omega) (h9:=htr) (h10:=by simp at hy81;dsimp only;omega) (h11:=htt),uD⟩,trivial,uK,uP⟩
      ·refine gz4 ?_;refine uCo (fun h9=> ?_) fun h10=> ?_
       ·refine gz2 ?_;refine de rfl (uZ 3 ?_)
        refine de rfl (uCa zj0 rfl (z7 uO) fun v87=> ?_)
        refine gz1 ?_;refine dq (za (hs:=[_,_]) zp ty9 rfl rfl (by decide) (by decide) rfl) ?_;refine de rfl (uCx 1 zci rfl rfl (zq (L:=[_,_]) uS uS uS) ?_)
        rintro _ _ ⟨y90,rfl,hy90,rfl⟩;refine dq (za (hs:=[_]) zp ty9 rfl rfl (by decide) (by decide) rfl) ?_;refine de rfl (zlj (N:=[St b l (a2+3),.arr u 8 (Z.map zaa),.cells b2 zuJ,.cells b3 (lgC k7 (zfj k32) k9 k11 k13 y15 T (.raw u) k22 t24 y27)]) (sz:=1) (es:=(T++[y90]).map .str) 1 (zO (i:=1) zp ty9 rfl rfl rfl rfl rfl (by simp [zaw,zb]) uSo fun v=>⟨v,rfl,by simp,rfl⟩) ?_)
        refine gz1 ?_;refine de0 (uY 3 ?_)
        refine gz2 ?_;exact ⟨((⟨k7,k32,k9,k11,k13,y15,T++[y90],Z,k22,t24,y27⟩:LeagueS),a2+3),⟨zjF (h1:=hk7) (h2:=by dsimp only;omega) (h3:=by dsimp only;omega) (h4:=hk11) (h5:=hk13.up) (h6:=by dsimp only;rw [Aw];simp only [Ai,AD];omega) (h7:=hgz) (h8:=by dsimp only;omega) (h9:=htr) (h10:=hst) (h11:=htt.app _),uD⟩,trivial,uK,uP⟩
       ·refine gz4 ?_;refine uCo (fun h11=> ?_) fun h12=> ?_
        ·refine gz2 ?_;refine de rfl (uCx 0 ca98 rfl rfl (zjQ uS) ?_)
         rintro _ _ ⟨k97,a97,rfl,hk97,ha97,rfl⟩;refine gz1 ?_;refine de0 (uY 3 ?_)
         refine gz2 ?_;exact ⟨((⟨k7,k32,k9,k11,k97,y15,T,Z,k22,t24,y27⟩:LeagueS),a97),⟨zjF (h1:=hk7) (h2:=by dsimp only;omega) (h3:=by dsimp only;omega) (h4:=hk11) (h5:=hk97) (h6:=by dsimp only;omega) (h7:=hgz) (h8:=by dsimp only;omega) (h9:=htr) (h10:=hst) (h11:=htt),by dsimp only at ha97⊢;omega⟩,trivial,uK,uP⟩
        ·refine gz2 ?_;refine de rfl (uZ 3 ?_)
         refine de rfl (zaR (i:=1) zcI rfl rfl ?_)
         refine gz2 ?_;refine uCo (fun h13=> ?_) fun h14=> ?_
         ·have hz0:0<Z.length:=by first|assumption|omega|simp_all
          obtain ⟨x0,hx0⟩: ∃x,Z[0]? =some x:=⟨_,Aa hz0⟩
          refine zcT (i:=1) rfl (fun h0 he=> ?_) (fun ob off cap hv hcap=> ?_)
          ·exfalso;have:=congrArg List.length he;simp at this;subst this;simp at hz0
          subst hv;refine zbu (fun M=> ∃i:Nat,M[i]? =some (.cells b3 (lgC k7 (zfj k32) k9 k11 k13 y15 T (.raw (.slice (some ⟨ob,off,none⟩) (Z.map zaa).length cap)) k22 t24 y27))) [1,3,5] mixed ?_;refine gz1 ?_;refine uM 1 rfl (⟨3,rfl⟩) (fun M hM=>by obtain ⟨i,hi⟩:=hM;exact zas (i:=i) zcI rfl hi (.inl ⟨rfl,rfl⟩) ⟨rfl,rfl⟩) ?_;refine gz1 ?_;refine uM 3 rfl (⟨3,rfl⟩) (fun M hM=>by obtain ⟨i,hi⟩:=hM;exact zas (i:=i) zcI rfl hi (.inl ⟨rfl,rfl⟩) ⟨rfl,rfl⟩) ?_;refine gz1 ?_;refine uM 5 rfl (⟨3,rfl⟩) (fun M hM=>by obtain ⟨i,hi⟩:=hM;exact zas (i:=i) zcI rfl hi (.inl ⟨rfl,rfl⟩) ⟨rfl,rfl⟩) ?_;refine uB 6 rfl (zG (cs:=[_,_]) zax zle rfl) ?_;refine uB 7 rfl (zG (cs:=[_,_]) zax zle rfl) ?_;refine uB 8 rfl (zD (j:=0) zcI za7 rfl rfl rfl uSo) ?_;refine gz1 ?_;refine uF 10 ?_;refine zA (zR (i:=1) (j:=0) (f:=3) (y:=zaa x0) (y':=zaa (⟨x0.Week,x0.Home,x0.Away,true,x0.FNum,x0.FDen,x0.ONum,x0.ODen⟩:GameS)) ty4 rfl uO rfl rfl (za6 hx0) rfl rfl (by simp [zb]) rfl ?_)
          refine ⟨fun _=> .inl ⟨3,rfl⟩,?_⟩
          refine uB 11 rfl (zD (j:=0) zcI za7 rfl rfl rfl uSo) ?_;refine gz1 ?_;refine uF 13 ?_;refine zA (zR (i:=1) (j:=0) (f:=4) (y:=zaa (⟨x0.Week,x0.Home,x0.Away,true,x0.FNum,x0.FDen,x0.ONum,x0.ODen⟩:GameS)) (y':=zaa (⟨x0.Week,x0.Home,x0.Away,true,1,1,x0.ONum,x0.ODen⟩:GameS)) zax rfl uO rfl rfl (zaF (za6 hx0)) rfl rfl (by simp [zb]) rfl ?_)
          refine ⟨fun _=> .inl ⟨3,rfl⟩,?_⟩
          refine uB 14 rfl (zD (j:=0) zcI za7 rfl rfl rfl uSo) ?_;refine gz1 ?_;refine uF 16 ?_;refine zA (zR (i:=1) (j:=0) (f:=6) (y:=zaa (⟨x0.Week,x0.Home,x0.Away,true,1,1,x0.ONum,x0.ODen⟩:GameS)) (y':=zaa (⟨x0.Week,x0.Home,x0.Away,true,1,1,1,1⟩:GameS)) zax rfl uO rfl rfl (zaF (zaF (za6 hx0))) rfl rfl (by simp [zb]) rfl ?_)
          refine ⟨fun _=> .inl ⟨3,rfl⟩,?_⟩
          refine gz2 ?_;exact ⟨((⟨k7,k32,k9,k11,k13,y15,T,Z.set 0 (⟨x0.Week,x0.Home,x0.Away,true,1,1,1,1⟩:GameS),k22,t24,y27⟩:LeagueS),a2+2),⟨zjF (h1:=hk7) (h2:=by dsimp only;omega) (h3:=by dsimp only;omega) (h4:=hk11) (h5:=hk13.up) (h6:=by dsimp only;omega) (h7:=⟨by dsimp only;rw [List.length_set];omega,zff (P:=GamB) hgz.2 ⟨(hgz.2 x0 (Ab hx0)).week,uD,uD⟩⟩) (h8:=by dsimp only;omega) (h9:=htr) (h10:=hst) (h11:=htt),uD⟩,trivial,uK,uP⟩
         ·refine gz2 ?_;exact ⟨((⟨k7,k32,k9,k11,k13,y15,T,Z,k22,t24,y27⟩:LeagueS),a2+2),⟨zjF (h1:=hk7) (h2:=by dsimp only;omega) (h3:=by dsimp only;omega) (h4:=hk11) (h5:=hk13.up) (h6:=by dsimp only;omega) (h7:=hgz) (h8:=by dsimp only;omega) (h9:=htr) (h10:=hst) (h11:=htt),uD⟩,trivial,uK,uP⟩
     ·refine gz1 ?_;exact ⟨((⟨k7,k32,k9,k11,k13,y15,T,Z,k22,t24,y27⟩:LeagueS),a2+1),⟨zjF (h1:=hk7) (h2:=by dsimp only;omega) (h3:=by dsimp only;omega) (h4:=hk11) (h5:=hk13.up) (h6:=by dsimp only;omega) (h7:=hgz) (h8:=by dsimp only;omega) (h9:=htr) (h10:=hst) (h11:=htt),uD⟩,trivial,uK,uP⟩
    ·intro q5 hq5
     obtain ⟨g5,a5⟩:=q5;obtain ⟨hg5,ha5⟩:=hq5;dsimp only at hg5 ha5;refine ze (zir (i:=3) (k:=2) (j:=10) rfl rfl rfl) ?_;refine ze (Ghost.perm (M':=[.cells b2 zuJ,St b l a5,.cells b3 (zb (zfi g5))]) uP) ?_;refine gz1 ?_;refine de rfl (ziQ (i:=2) (h:=zfi g5) zaN rfl rfl rfl rfl rfl ?_)
     refine de0 (zl (h:=zfi g5) zaN rfl rfl rfl rfl rfl ?_)
     refine gz2 ?_;exact ⟨_,_,(zm 2 rfl).trans ((Ghost.perm (List.Perm.swap _ _ _)).trans Ghost.drop),[_],_,⟨⟨_,_,_,_,_,rfl,zaN,.inr ⟨rfl,rfl,rfl⟩⟩,trivial⟩,Weak.refl _,g5,a5,rfl,hg5,ha5,rfl⟩
end
section
open Go.HL
set_option linter.unusedSimpArgs false
end
section
open Go.Proofs.Tryz
open Go.HL
theorem zkw [Tracks] {A X C:List MvS} {ia ib:Int} {n b off cap:Nat} {fid:FuncId} {caps:List HVal} {c:MvS->MvS->Int} (hca:Callable prog fid) (hp: ∀x y,ConP prog fid ([zde x,zde y]++caps) (.int .i64 (c x y))) (hn:A.length+X.length+C.length=n) (hia:ia=(A.length:Int)) (hib:ib=(A.length:Int)+X.length) (hl:n<=1000000):Con prog 189 [.raw (.slice (some ⟨b,off,none⟩) n cap),.int .i64 ia,.int .i64 ib,.fn (.func fid) [] caps] [.arr (.slice (some ⟨b,off,none⟩) n cap) 4 ((A++X++C).map zde)] (fun x M'=>x= .tup []/\M'=[.arr (.slice (some ⟨b,off,none⟩) n cap) 4 ((A++zal c X++C).map zde)]):=by
 refine uOb func189 ntmps189 ?_;refine gz6 ?_;refine uV1 [8,2,12,41] (fun (k:Nat)=>[(8,.int .i64 ((A.length+k:Nat):Int))]) (fun (k:Nat)=>[.arr (.slice (some ⟨b,off,none⟩) n cap) 4 ((A++(zal c (X.take k)++X.drop k)++C).map zde)]) (fun (k:Nat)=>1<=k) (fun (k:Nat)=>X.length-k) (1) ?_ ?_ ?_ ?_;exact Ae _;exact ⟨zQ uO,trivial⟩;exact zn (by rw [zla])
 intro k hk
 refine gz6 ?_;refine uCo (fun h1=> ?_) fun h2=> ?_
 obtain ⟨x,hx⟩: ∃x,X[k]? =some x:=⟨_,Aa uO⟩
 refine gz9 ?_;refine uV2 [9,1,18,35] (fun (D:List MvS) (B:List MvS)=>[(9,.int .i64 ((A.length+D.length:Nat):Int))]) (fun (D:List MvS) (B:List MvS)=>[.arr (.slice (some ⟨b,off,none⟩) n cap) 4 (((A++D)++x::(B++X.drop (k+1)++C)).map zde)]) (fun (D:List MvS) (B:List MvS)=>D.length+B.length=k/\zdo c x (zal c (X.take k))=zdo c x D++B) (fun (D:List MvS) (B:List MvS)=>D.length) (zal c (X.take k)) ([]) ?_ ?_ ?_ ?_;exact ⟨by simp [za5];omega,by simp⟩;exact ⟨zQ (by simp [za5];omega),trivial⟩;exact zn (by rw [zi hx];simp)
 intro D B hinv
 obtain ⟨hA,hB⟩:=hinv;have hlA:D.length<X.length:=by omega
 refine gz1 ?_;refine zbt (fun M=>M=[.arr (.slice (some ⟨b,off,none⟩) n cap) 4 (((A++D)++x::(B++X.drop (k+1)++C)).map zde)]) [8,13] mixed ?_;refine gz7 ?_;refine ahg 7 rfl rfl (by kernel_rfl) (by kernel_rfl) rfl (fun hc=>by
  have hq:0<D.length:=by simp at hc;omega
  exact ⟨_,OpenTo.upd (t:=24) rfl (hc) (OpenTo.upd (t:=23) rfl (hc) (OpenTo.refl _)),zD (j:=(A++D).length) zcn zH rfl rfl (by simp) uSo⟩) ?_
 refine zpq 8 rfl rfl (by kernel_rfl) (by kernel_rfl) (by simp) rfl rfl (fun hc=>⟨_,OpenTo.upd (t:=25) rfl (hc) (OpenTo.refl _),fun M hM=>by
  subst hM;exact zab (i:=0) (j:=(A++D).length) zH rfl rfl rfl zgi rfl rfl rfl ⟨rfl,rfl⟩
  ⟩) ?_
 refine gz2 ?_;refine ahg 11 rfl rfl (by kernel_rfl) (by kernel_rfl) rfl (fun hc=>by
  have hq:0<D.length:=by simp at hc;omega
  exact ⟨_,OpenTo.upd (t:=28) rfl (hc) (OpenTo.refl _),zf4 rfl rfl uO uO⟩) ?_
 refine ahg 12 rfl rfl (by kernel_rfl) (by kernel_rfl) rfl (fun hc=>by
  have hq:0<D.length:=by simp at hc;omega
  exact ⟨_,OpenTo.upd (t:=29) rfl (hc) (OpenTo.upd (t:=27) rfl (hc) (OpenTo.refl _)),zD (j:=(A++D).length-1) zcn zH rfl rfl uSo uSo⟩) ?_
 refine zpq 13 rfl rfl (by kernel_rfl) (by kernel_rfl) (by simp) rfl rfl (fun hc=>⟨_,OpenTo.upd (t:=30) rfl (hc) (OpenTo.refl _),fun M hM=>by
  have hq:0<D.length:=by simp at hc;omega
  subst hM;exact zab (i:=0) (j:=(A++D).length-1) zH rfl rfl rfl (zhK uSo) rfl rfl rfl ⟨rfl,rfl⟩
  ⟩) ?_
 refine uGy 14 rfl rfl (fun hc=>zao hca rfl rfl (WeakL.refl _) (hp _ _)) ?_;refine gz3 ?_;refine uCo (fun h3=> ?_) fun h4=> ?_
 obtain ⟨hA0,hcx⟩:=h3;obtain ⟨D1,y,rfl⟩:=zoT (A:=D) uO;rw [zt1] at hcx;have hD1:(D1++[y]).length=D1.length+1:=by simp
 refine gz4 ?_;refine zbu (fun M=>M=[.arr (.slice (some ⟨b,off,none⟩) n cap) 4 (((A++(D1++[y]))++x::(B++X.drop (k+1)++C)).map zde)]) [9,13] mixed ?_;refine gz8 ?_;refine uB 8 rfl (zD (j:=(A++(D1++[y])).length-1) zcn zH rfl rfl uSo uSo) ?_;refine uM 9 rfl rfl (uW (zab (i:=0) (j:=(A++(D1++[y])).length-1) zH rfl rfl rfl (zmr) rfl rfl rfl ⟨rfl,rfl⟩)) ?_;refine gz2 ?_;refine uB 12 rfl (zD (j:=(A++(D1++[y])).length) zcn zH rfl rfl (by simp) uSo) ?_;refine uM 13 rfl rfl (uW (zab (i:=0) (j:=(A++(D1++[y])).length) zH rfl rfl rfl zgi rfl rfl rfl ⟨rfl,rfl⟩)) ?_;refine uB 14 rfl (zD (j:=(A++(D1++[y])).length) zcn zH rfl rfl (by simp) uSo) ?_;refine uF 15 ?_;refine zA (za0 (i:=0) (j:=(A++(D1++[y])).length) (y:=x) (y':=y) zH rfl rfl rfl rfl zgi rfl rfl rfl ?_)
 refine ⟨uE,?_⟩
 refine uB 16 rfl (zD (j:=(A++(D1++[y])).length-1) zcn zH rfl rfl uSo uSo) ?_;refine uF 17 ?_;refine zA (za0 (i:=0) (j:=(A++(D1++[y])).length-1) (y:=y) (y':=x) zH rfl rfl rfl rfl (by rw [A6 (by simp)];exact zmr) rfl rfl rfl ?_)
 refine ⟨uE,?_⟩
 refine gz8 ?_;exact ⟨D1,y::B,⟨by simp at hA⊢;omega,zpJ hB hcx⟩,uD,⟨zQ uO,trivial⟩,uK,zn (by rw [<-AV,zpT];simp)⟩;have hins:=zpI (l:=X) (k:=k) hx hB (by intro h0;have h9:=h4 uO;rw [zog h0] at h9;omega);refine gz2 ?_;refine zM ?_;refine gz8 ?_;exact ⟨k+1,by omega,uD,⟨zQ uO,trivial⟩,uK,zn (by rw [zvv hins])⟩;have hend:zal c (X.take k)++X.drop k=zal c X:=by rw [A8 uO,zI uO];simp
 refine gz2 ?_;refine zw ?_;refine gz1 ?_;exact zad rfl ⟨rfl,by rw [hend]⟩
theorem zpb [Tracks] {l:List MvS} {n0:Int} {n b off cap:Nat} {fid:FuncId} {caps:List HVal} {c:MvS->MvS->Int} (hca:Callable prog fid) (hp: ∀x y,ConP prog fid ([zde x,zde y]++caps) (.int .i64 (c x y))) (hc:Cmp c fun _=>True) (hn:l.length=n) (hn0:n0=(n:Int)) (hl:n<=20):Con prog 99 [.raw (.slice (some ⟨b,off,none⟩) n cap),.int .i64 n0,.fn (.func fid) [] caps] [.arr (.slice (some ⟨b,off,none⟩) n cap) 4 ((l).map zde)] (fun x M'=> ∃Z:List MvS,x= .tup []/\(Z.Perm l/\Srt c Z)/\M'=[.arr (.slice (some ⟨b,off,none⟩) n cap) 4 ((Z).map zde)]):=by
 refine uOb func99 ntmps99 ?_;refine zaz ?_;refine uV3 [7,2,11,12] (fun (a0:Nat) (k:Nat) (Z:List MvS)=>[(7,.int .i64 (a0:Int)),(8,.int .i64 ((a0+20:Nat):Int))]) (fun (a0:Nat) (k:Nat) (Z:List MvS)=>[.arr (.slice (some ⟨b,off,none⟩) n cap) 4 ((Z++l.drop a0).map zde)]) (fun (a0:Nat) (k:Nat) (Z:List MvS)=>a0=20*k/\a0<=n/\Blk c 20 Z/\Z.length=a0/\Z.Perm (l.take a0)) (fun (a0:Nat) (k:Nat) (Z:List MvS)=>n-a0) (0) (0) ([]) ?_ ?_ ?_ ?_
 ·exact ⟨rfl,Ad _,Blk.nil,rfl,by simp⟩
 ·exact ⟨rfl,rfl,trivial⟩
 ·exact zn (by simp)
 ·intro a0 k Z hinv
  obtain ⟨ha0,ha1,hZ,hZl,hZp⟩:=hinv;refine gz6 ?_;refine uCo (fun h1=> ?_) fun h2=> ?_
  ·refine gz3 ?_;refine ze (zbx (M':=[.arr (.slice (some ⟨b,off,none⟩) n cap) 4 ((Z++(l.drop a0).take 20++l.drop (a0+20)).map zde)]) (by rw [AV Z,<-win])) ?_;refine gz5 ?_;refine de rfl (uCx 0 zwh rfl rfl (zkw (A:=Z) (X:=((l.drop a0).take 20)) (C:=(l.drop (a0+20))) (n:=n) hca hp (by first|omega|(simp;omega)) uO (by first|omega|(simp;omega)) uO) ?_)
   rintro _ _ ⟨rfl,rfl⟩;refine zdf ?_;exact ⟨a0+20,k+1,Z++zal c ((l.drop a0).take 20),⟨by omega,by omega,hZ.add (k:=k) uO (zkC hc _) (by rw [za5,Ax];omega),by rw [Aw,za5,Ax,Bf];omega,by rw [zsz];exact hZp.append (zbq c _)⟩,uD,⟨zQ uO,zQ uO,trivial⟩,uK,Ac _⟩
  ·refine gz2 ?_;refine zcU ?_;refine gz2 ?_;refine ze (zbx (M':=[.arr (.slice (some ⟨b,off,none⟩) n cap) 4 ((Z++l.drop a0++[]).map zde)]) (by simp)) ?_;refine gz5 ?_;refine de rfl (uCx 0 zwh rfl rfl (zkw (A:=Z) (X:=(l.drop a0)) (C:=[]) (n:=n) hca hp (by first|omega|(simp;omega)) uO (by first|omega|(simp;omega)) uO) ?_)
   rintro _ _ ⟨rfl,rfl⟩;refine gz2 ?_;refine uV2 [6,4,28,35] (fun (bs:Nat) (D:List MvS)=>[(6,.int .i64 (bs:Int))]) (fun (bs:Nat) (D:List MvS)=>[.arr (.slice (some ⟨b,off,none⟩) n cap) 4 ((D).map zde)]) (fun (bs:Nat) (D:List MvS)=>20<=bs/\bs<=2*n+20/\Blk c bs D/\D.Perm l) (fun (bs:Nat) (D:List MvS)=>n-bs) (20) (Z++zal c (l.drop a0)) ?_ ?_ ?_ ?_
   ·refine ⟨Ae _,by omega,hZ.add (k:=k) uO (zkC hc _) (by rw [za5,Bf];omega),?_⟩
    have:=hZp.append (zbq c (l.drop a0))
    rwa [A2] at this
   ·exact ⟨rfl,trivial⟩
   ·exact zn (by simp)
   ·intro bs D hinv
    obtain ⟨hb1,hb2,hD,hDp⟩:=hinv;have hDl:D.length=n:=by rw [hDp.length_eq];exact hn
    refine gz6 ?_;refine zW rfl (fun h3=> ?_) (fun h3=> ?_)
    ·exfalso
     try simp at h3
     all_goals omega
    ·try simp at h3
     refine gz2 ?_;refine zM ?_;refine gz1 ?_;have hDs:=hD.all uO;exact zad rfl ⟨D,rfl,⟨hDp,hDs⟩,rfl⟩
theorem zp7 [Tracks] {v:Value} {fid:FuncId} {caps:List HVal}:Con prog 189 [.raw v,.int .i64 0,.int .i64 0,.fn (.func fid) [] caps] [.arr v 4 []] (fun x M'=>x= .tup []/\M'=[.arr v 4 []]):=by
 refine uOb func189 ntmps189 ?_;refine gz6 ?_;refine uU1 [8,2,12,41] (fun (u:Unit)=>[(8,.int .i64 1)]) (fun (u:Unit)=>[.arr v 4 []]) (fun (u:Unit)=>True) (fun (u:Unit)=>0) (()) ?_ ?_
 ·trivial
 ·intro u hu
  refine gz6 ?_;refine zW rfl (fun h1=> ?_) (fun h1=> ?_)
  ·exfalso
   try simp at h1
   all_goals omega
  ·try simp at h1
   refine gz2 ?_;refine zw ?_;refine gz1 ?_;exact zad rfl ⟨rfl,rfl⟩
theorem znK [Tracks] {v:Value} {fid:FuncId} {caps:List HVal}:Con prog 99 [.raw v,.int .i64 0,.fn (.func fid) [] caps] [.arr v 4 []] (fun x M'=>x= .tup []/\M'=[.arr v 4 []]):=by
 refine uOb func99 ntmps99 ?_;refine zaz ?_;refine uU1 [7,2,11,12] (fun (u:Unit)=>[(7,.int .i64 0),(8,.int .i64 20)]) (fun (u:Unit)=>[.arr v 4 []]) (fun (u:Unit)=>True) (fun (u:Unit)=>0) (()) ?_ ?_
 ·trivial
 ·intro u hu
  refine gz6 ?_;refine zW rfl (fun h1=> ?_) (fun h1=> ?_)
  ·exfalso
   try simp at h1
   all_goals omega
  ·try simp at h1
   refine gz2 ?_;refine zw ?_;refine gz7 ?_;refine de rfl (uCx 0 zwh rfl rfl zp7 ?_)
   rintro _ _ ⟨rfl,rfl⟩;refine gz2 ?_;refine uU1 [6,4,28,35] (fun (u:Unit)=>[(6,.int .i64 20)]) (fun (u:Unit)=>[.arr v 4 []]) (fun (u:Unit)=>True) (fun (u:Unit)=>0) (()) ?_ ?_
   ·trivial
   ·intro u hu
    refine gz6 ?_;refine zW rfl (fun h2=> ?_) (fun h2=> ?_)
    ·exfalso
     try simp at h2
     all_goals omega
    ·try simp at h2
     refine gz2 ?_;refine zw ?_;refine gz1 ?_;exact zad rfl ⟨rfl,rfl⟩
theorem zm3 [Tracks] {fid:FuncId} {caps:List HVal}:Con prog 41 [.raw (.slice none 0 0),.fn (.func fid) [] caps] [.arr (.slice none 0 0) 4 []] (fun x M'=>x= .tup []/\M'=[.arr (.slice none 0 0) 4 []]):=by
 refine uOb func41 ntmps41 ?_;refine gz3 ?_;refine dq (zfo zcn rfl) ?_;refine gz1 ?_;refine de rfl (uCx 0 ca99 rfl rfl znK ?_)
 rintro _ _ ⟨rfl,rfl⟩;refine gz1 ?_;exact zad rfl ⟨rfl,rfl⟩
theorem zm4 [Tracks] {l:List MvS} {n b off cap:Nat} {fid:FuncId} {caps:List HVal} {c:MvS->MvS->Int} (hca:Callable prog fid) (hp: ∀x y,ConP prog fid ([zde x,zde y]++caps) (.int .i64 (c x y))) (hc:Cmp c fun _=>True) (hn:l.length=n) (hl:n<=20):Con prog 41 [.raw (.slice (some ⟨b,off,none⟩) n cap),.fn (.func fid) [] caps] [.arr (.slice (some ⟨b,off,none⟩) n cap) 4 ((l).map zde)] (fun x M'=> ∃Z:List MvS,x= .tup []/\(Z.Perm l/\Srt c Z)/\M'=[.arr (.slice (some ⟨b,off,none⟩) n cap) 4 ((Z).map zde)]):=by
 refine uOb func41 ntmps41 ?_;refine gz3 ?_;refine dq (zfo zcn rfl) ?_;refine gz1 ?_;refine de rfl (uCx 0 ca99 rfl rfl (zpb hca hp hc hn rfl hl) ?_)
 rintro _ _ ⟨Z,rfl,hz,rfl⟩;refine gz1 ?_;exact zad rfl ⟨Z,rfl,hz,rfl⟩
theorem znJ [Tracks] {l:List MvS} {v:Value} {fid:FuncId} {caps:List HVal} {c:MvS->MvS->Int} (hca:Callable prog fid) (hp: ∀x y,ConP prog fid ([zde x,zde y]++caps) (.int .i64 (c x y))) (hc:Cmp c fun _=>True) (hl:l.length<=20):Con prog 41 [.raw v,.fn (.func fid) [] caps] [.arr v 4 (l.map zde)] fun x M'=> ∃Z:List MvS,x= .tup []/\(Z.Perm l/\Srt c Z)/\M'=[.arr v 4 (Z.map zde)]:=
 ztN (fun h1 h2=>by
  have h3:l=[]:=by first|exact List.map_eq_nil_iff.1 h2|simpa using h2
  subst h1 h3;exact zm3.mono fun x M' ⟨e1,e2⟩=>⟨[],e1,⟨Ac _,Srt.nil⟩,e2⟩)
  fun b off cap h1=>by
   rw [Ag] at h1;subst h1;exact zm4 hca hp hc rfl hl
theorem zqf [Tracks] {l:List MoveS} (hb: ∀x∈l,MovB x) (hl:l.length<=20) {v:Value}:
 Con prog 41 [.raw v,.fn (.func 42) [] []] [.arr v 4 (l.map zdb)] fun x M'=> ∃l':List MoveS,x= .tup []/\l'.Perm l/\M'=[.arr v 4 (l'.map zdb)]:=by
 have h:=znJ (l:=l.attachWith _ hb) (v:=v) (c:=zz3) (caps:=[]) ca42 (fun x y=>zhk (a:=x.1) (b:=y.1) x.2 y.2) zxx (by simpa using hl);rw [show ((l.attachWith _ hb).map zde)=l.map zdb from zp2 hb zdb] at h;refine h.mono fun x M' ⟨l',e1,⟨hp,hw⟩,e2⟩=>⟨l'.map Subtype.val,e1,?_,?_⟩
 have h9:=hp.map Subtype.val;rw [zlQ hb] at h9;exact h9;rw [e2,AY];rfl
end
section
open Go.Proofs.Tryz
open Go.HL
theorem zjP [Tracks] {b:Nat} {l:List Int} {a:Nat} (ha:a<=700000):Con prog 40 [pAt b] [St b l a] (fun x M'=> ∃k a',x=zcq k/\GoodMds k/\a'<=a+100/\M'=[St b l a']):=by
 refine uOb func40 ntmps40 ?_;refine gz6 ?_;refine ze (zN 7) ?_;refine gz2 ?_;refine dq (za (hs:=[_,_,_]) zp ty9 rfl rfl (by decide) (by decide) rfl) ?_;refine dq (zaD (f:=HVal.str) (l:=mp3) zp rfl) ?_;refine gz3 ?_;refine uV2 [3,1,5,2,8,2,13,36] (fun (k:Nat) (q:GL MendS)=>[(13,.int .i64 k),(3,.raw q.u)]) (fun (k:Nat) (q:GL MendS)=>[St b l q.a,.arr q.u 7 (q.out.map zbS)]) (fun (k:Nat) (q:GL MendS)=>k<=mp3.length/\(GLok zhu (8*k) (a+24*k) q)) (fun (k:Nat) (q:GL MendS)=>mp3.length-k) (0) (⟨.slice none 0 0,[],a⟩) ?_ ?_ ?_ ?_;exact ⟨by decide,⟨by simp,by simp,uD⟩⟩;exact ⟨rfl,rfl,trivial⟩;exact uP
 intro k q hinv
 obtain ⟨hk,hq⟩:=hinv;have hk3:mp3.length=3:=rfl;obtain ⟨u,out,a2⟩:=q;obtain ⟨g1,g2,g3⟩:=id hq;dsimp only at g1 g2 g3;refine gz4 ?_;refine uCo (fun h1=> ?_) fun h2=> ?_
 obtain ⟨x,hx⟩: ∃x,mp3[k]? =some x:=⟨_,Aa h1⟩
 have hdx:=zi hx;refine gz5 ?_;refine dq (zB (f:=HVal.str) (l:=mp3) (j:=k) (a:=x) zp ty9 rfl rfl rfl hx) ?_;refine gz7 ?_;refine uV2 [3,1,6,1,8,2,17,31] (fun (w:Nat) (q2:GL MendS)=>[(6,.int .i64 ((w:Int)+1)),(3,.raw q2.u)]) (fun (w:Nat) (q2:GL MendS)=>[St b l q2.a,.arr q2.u 7 (q2.out.map zbS)]) (fun (w:Nat) (q2:GL MendS)=>w<=2/\GLok zhu (8*k+4*w) (a+24*k+12*w) q2) (fun (w:Nat) (q2:GL MendS)=>2-w) (0) (⟨u,out,a2⟩) ?_ ?_ ?_ ?_;exact ⟨by omega,hq.mono uO uO⟩;exact ⟨zQ uO,rfl,trivial⟩;exact uP
 intro w q2 hinv
 obtain ⟨hw,hq2⟩:=hinv;obtain ⟨u,out,a2⟩:=q2;obtain ⟨g1,g2,g3⟩:=id hq2;dsimp only at g1 g2 g3;refine gz5 ?_;refine uCo (fun h3=> ?_) fun h4=> ?_
 refine gz5 ?_;refine dq (za (hs:=[_,_]) zp ty9 rfl rfl (by decide) (by decide) rfl) ?_;refine dq (zaD (f:=HVal.str) (l:=ms2) zp rfl) ?_;refine gz3 ?_;refine uV2 [3,1,8,2,23,25] (fun (j:Nat) (q3:GL MendS)=>[(23,.int .i64 j),(3,.raw q3.u)]) (fun (j:Nat) (q3:GL MendS)=>[St b l q3.a,.arr q3.u 7 (q3.out.map zbS)]) (fun (j:Nat) (q3:GL MendS)=>j<=ms2.length/\(GLok zhu (8*k+4*w+2*j) (a+24*k+12*w+6*j) q3)) (fun (j:Nat) (q3:GL MendS)=>ms2.length-j) (0) (⟨u,out,a2⟩) ?_ ?_ ?_ ?_;exact ⟨by decide,hq2.mono uO uO⟩;exact ⟨rfl,rfl,trivial⟩;exact uP
 intro j q3 hinv
 obtain ⟨hj,hq3⟩:=hinv;have hj2:ms2.length=2:=rfl;obtain ⟨u,out,a2⟩:=q3;obtain ⟨g1,g2,g3⟩:=id hq3;dsimp only at g1 g2 g3;refine gz4 ?_;refine uCo (fun h5=> ?_) fun h6=> ?_
 obtain ⟨z,hz⟩: ∃z,ms2[j]? =some z:=⟨_,Aa h5⟩
 have hdz:=zi hz;refine gz5 ?_;refine dq (zB (f:=HVal.str) (l:=ms2) (j:=j) (a:=z) zp ty9 rfl rfl rfl hz) ?_;refine gz7 ?_;refine uV2 [3,1,9,1,27,20] (fun (v:Nat) (q4:GL MendS)=>[(9,.int .i64 ((v:Int)+1)),(3,.raw q4.u)]) (fun (v:Nat) (q4:GL MendS)=>[St b l q4.a,.arr q4.u 7 (q4.out.map zbS)]) (fun (v:Nat) (q4:GL MendS)=>v<=2/\GLok zhu (8*k+4*w+2*j+v) (a+24*k+12*w+6*j+3*v) q4) (fun (v:Nat) (q4:GL MendS)=>2-v) (0) (⟨u,out,a2⟩) ?_ ?_ ?_ ?_;exact ⟨by omega,hq3.mono uO uO⟩;exact ⟨zQ uO,rfl,trivial⟩;exact uP
 intro v q4 hinv
 obtain ⟨hv,hq4⟩:=hinv;obtain ⟨u,out,a2⟩:=q4;obtain ⟨g1,g2,g3⟩:=id hq4;dsimp only at g1 g2 g3;refine gz5 ?_;refine uCo (fun h7=> ?_) fun h8=> ?_
 refine gz6 ?_;refine de rfl (uCx 0 zek rfl rfl (zJ uS uS) ?_)
 rintro _ _ ⟨y32,rfl,rfl⟩;refine gz1 ?_;refine uCo (fun h9=> ?_) fun h10=> ?_
 refine gz6 ?_;refine dq (za (hs:=[_,_,_]) zah ty3 rfl rfl (by decide) (by decide) rfl) ?_;refine de rfl (uCx 0 ca6 rfl rfl (zf (L:=[_,_,_]) uS uS uS) ?_)
 rintro _ _ ⟨y39,rfl,hy39,rfl⟩;refine gz1 ?_;refine dq (za (hs:=[_,_,_]) zah ty3 rfl rfl (by decide) (by decide) rfl) ?_;refine de rfl (uCx 0 ca6 rfl rfl (zf (L:=[_,_,_]) uS uS uS) ?_)
 rintro _ _ ⟨y42,rfl,hy42,rfl⟩;refine gz1 ?_;refine dq (zG (cs:=[_,_,_,_,_,_,_]) zbr zFk rfl) ?_;refine dq (za (hs:=[_]) zgz zbr rfl rfl (by decide) (by decide) rfl) ?_;refine de rfl (zO (i:=1) zgz zbr rfl rfl rfl rfl rfl (by simp [zaw,zb,zaH,za2]) uSo fun v46=> ?_)
 refine gz9 ?_;exact ⟨v+1,⟨v46,out++[(⟨x,(w:Int)+1,z,y39,y42,(v:Int)+1,[98,111,115,115]⟩:MendS)],a2+1+1+1⟩,⟨by omega,hq4.add (x:=(⟨x,(w:Int)+1,z,y39,y42,(v:Int)+1,[98,111,115,115]⟩:MendS)) ⟨zCC x (Ab hx),zCD z (Ab hz),by unfold Sh;simp⟩ uO⟩,uD,⟨zQ uO,rfl,trivial⟩,uK,zn (by dsimp only;rw [Ay];rfl)⟩;refine gz8 ?_;exact ⟨v+1,⟨u,out,a2+1⟩,⟨by omega,hq4.same uO⟩,uD,⟨zQ uO,rfl,trivial⟩,uK,uP⟩;refine gz2 ?_;refine zM ?_;refine gz7 ?_;exact ⟨j+1,⟨u,out,a2⟩,⟨by omega,hq4.mono uO uO⟩,uD,⟨rfl,rfl,trivial⟩,uK,uP⟩;have hnj:ms2.length<=j:=by omega
 obtain rfl:j=ms2.length:=by omega
 refine gz2 ?_;refine zM ?_;refine gz8 ?_;exact ⟨w+1,⟨u,out,a2⟩,⟨by omega,hq3.mono uO uO⟩,uD,⟨zQ uO,rfl,trivial⟩,uK,uP⟩;refine gz2 ?_;refine zM ?_;refine gz7 ?_;exact ⟨k+1,⟨u,out,a2⟩,⟨by omega,hq2.mono uO uO⟩,uD,⟨rfl,rfl,trivial⟩,uK,uP⟩;have hnk:mp3.length<=k:=by omega
 obtain rfl:k=mp3.length:=by omega
 refine gz2 ?_;refine zM ?_;refine gz2 ?_;refine uVj [10,1,49,59] (fun (q5:List MendS×Nat)=>[]) (fun (q5:List MendS×Nat)=>[St b l q5.2,.arr u 7 (q5.1.map zbS)]) (fun (q5:List MendS×Nat)=>q5.1.length<=24/\(∀x∈q5.1,zhu x)/\q5.2<=a+100) ?_ ?_
 skip
 refine gz2 ?_;refine de rfl (zaR (i:=1) zgz rfl rfl ?_)
 refine gz3 ?_;refine dgx (fun x M'=> ∃(y:Bool) (a3:Nat),x= .bool y/\a3<=a2+1/\M'=[St b l a3,.arr u 7 (out.map zbS)]) rfl rfl (fun hc=>⟨_,false,a2,rfl,by omega,rfl⟩) (fun hc=>⟨_,OpenTo.upd (t:=53) rfl (hc) (OpenTo.refl _),uCx 0 zek rfl rfl (zJ (a:=a2) uO uO) (fun h M' hh=>by
  obtain ⟨y,h1,h2⟩:=hh;exact ⟨y,a2+1,h1,by omega,by rw [h2];rfl⟩)⟩) ?_
 rintro _ _ ⟨y,a3,rfl,ha3,rfl⟩;refine gz2 ?_;refine uCo (fun h11=> ?_) fun h12=> ?_
 have ho0:0<out.length:=by simp_all
 refine zcT (i:=1) rfl (fun h0 he=> ?_) (fun ob off cap hv hcap=> ?_)
 exfalso;have:=congrArg List.length he;simp at this;subst this;simp at ho0
 subst hv;refine gz4 ?_;refine de rfl (zaR (i:=1) zgz rfl rfl ?_)
 refine de rfl (uCx 0 zi3 rfl rfl (zam uS uS) ?_)
 rintro _ _ ⟨y60,rfl,hy60,rfl⟩;refine dq (zD (j:=y60) zgz zbr rfl rfl rfl uSo) ?_;refine gz2 ?_;obtain ⟨x,hx⟩: ∃x,out[y60]? =some x:=⟨_,Aa uO⟩
 refine zbu (fun M=> ∃i:Nat,M[i]? =some (.arr (.slice (some ⟨ob,off,none⟩) (out.map zbS).length cap) 7 (out.map zbS))) [9,16,23,30] mixed ?_;refine gz9 ?_;refine uM 9 rfl ⟨1,rfl⟩ (fun M hM=>by obtain ⟨i,hi⟩:=hM;exact zan (i:=i) (j:=y60) 0 ty9 rfl uO hi hx rfl rfl ⟨rfl,rfl⟩) ?_;refine uB 10 rfl (za (hs:=[_,_,_]) zp ty9 rfl rfl (by decide) (by decide) rfl) ?_;refine uA 12 ?_;refine gz3 ?_;refine uM 16 rfl ⟨1,rfl⟩ (fun M hM=>by obtain ⟨i,hi⟩:=hM;exact zan (i:=i) (j:=y60) 1 ty3 rfl uO hi hx rfl rfl ⟨rfl,rfl⟩) ?_;refine uB 17 rfl (za (hs:=[_,_]) zah ty3 rfl rfl (by decide) (by decide) rfl) ?_;refine uA 19 ?_;refine gz3 ?_;refine uM 23 rfl ⟨1,rfl⟩ (fun M hM=>by obtain ⟨i,hi⟩:=hM;exact zan (i:=i) (j:=y60) 3 ty3 rfl uO hi hx rfl rfl ⟨rfl,rfl⟩) ?_;refine uB 24 rfl (za (hs:=[_,_]) zah ty3 rfl rfl (by decide) (by decide) rfl) ?_;refine uA 26 ?_;refine gz3 ?_;refine uM 30 rfl ⟨1,rfl⟩ (fun M hM=>by obtain ⟨i,hi⟩:=hM;exact zan (i:=i) (j:=y60) 5 ty3 rfl uO hi hx rfl rfl ⟨rfl,rfl⟩) ?_;refine uB 31 rfl (za (hs:=[_,_,_]) zah ty3 rfl rfl (by decide) (by decide) rfl) ?_;refine uA 33 ?_;refine uB 34 rfl (za (hs:=[_,_]) zp ty9 rfl rfl (by decide) (by decide) rfl) ?_;refine uF 11 ?_;refine zv rfl (uCx 0 zci rfl rfl (zq (L:=[_,_,_]) uS uS uS) ?_)
 rintro _ _ ⟨y73,rfl,hy73,rfl⟩;refine ⟨uE,?_⟩
 refine uF 18 ?_;refine zv rfl (uCx 0 ca6 rfl rfl (zf (L:=[_,_]) uS uS uS) ?_)
 rintro _ _ ⟨y80,rfl,hy80,rfl⟩;refine ⟨uE,?_⟩
 refine uF 25 ?_;refine zv rfl (uCx 0 ca6 rfl rfl (zf (L:=[_,_]) uS uS uS) ?_)
 rintro _ _ ⟨y87,rfl,hy87,rfl⟩;refine ⟨uE,?_⟩
 refine uF 32 ?_;refine zv rfl (uCx 0 ca6 rfl rfl (zf (L:=[_,_,_]) uS uS uS) ?_)
 rintro _ _ ⟨y94,rfl,hy94,rfl⟩;refine ⟨uE,?_⟩
 refine uF 35 ?_;refine zv rfl (uCx 0 zci rfl rfl (zq (L:=[_,_]) uS uS uS) ?_)
 rintro _ _ ⟨y97,rfl,hy97,rfl⟩;refine ⟨uE,?_⟩
 refine gz2 ?_;refine uF 38 ?_;refine zA (zR (i:=1) (j:=y60) (f:=0) (y:=zbS x) (y':=zbS ⟨y73,x.Week,x.Stat,x.Count,x.At,x.Version,x.By⟩) ty9 rfl uO rfl rfl (za6 hx) rfl rfl (by simp [zb]) rfl ?_)
 refine ⟨uE,?_⟩
 refine gz2 ?_;refine uF 41 ?_;refine zA (zR (i:=1) (j:=y60) (f:=1) (y:=zbS ⟨y73,x.Week,x.Stat,x.Count,x.At,x.Version,x.By⟩) (y':=zbS ⟨y73,y80,x.Stat,x.Count,x.At,x.Version,x.By⟩) ty3 rfl uO rfl rfl (zaF (za6 hx)) rfl rfl (by simp [zb]) rfl ?_)
 refine ⟨uE,?_⟩
 refine gz2 ?_;refine uF 44 ?_;refine zA (zR (i:=1) (j:=y60) (f:=3) (y:=zbS ⟨y73,y80,x.Stat,x.Count,x.At,x.Version,x.By⟩) (y':=zbS ⟨y73,y80,x.Stat,y87,x.At,x.Version,x.By⟩) ty3 rfl uO rfl rfl (zaF (zaF (za6 hx))) rfl rfl (by simp [zb]) rfl ?_)
 refine ⟨uE,?_⟩
 refine gz2 ?_;refine uF 47 ?_;refine zA (zR (i:=1) (j:=y60) (f:=5) (y:=zbS ⟨y73,y80,x.Stat,y87,x.At,x.Version,x.By⟩) (y':=zbS ⟨y73,y80,x.Stat,y87,x.At,y94,x.By⟩) ty3 rfl uO rfl rfl (zaF (zaF (zaF (za6 hx)))) rfl rfl (by simp [zb]) rfl ?_)
 refine ⟨uE,?_⟩
 refine gz2 ?_;refine uF 50 ?_;refine zA (zR (i:=1) (j:=y60) (f:=6) (y:=zbS ⟨y73,y80,x.Stat,y87,x.At,y94,x.By⟩) (y':=zbS ⟨y73,y80,x.Stat,y87,x.At,y94,y97⟩) ty9 rfl uO rfl rfl (zaF (zaF (zaF (zaF (za6 hx))))) rfl rfl (by simp [zb]) rfl ?_)
 refine ⟨uE,?_⟩
 refine gz1 ?_;exact ⟨(out.set y60 ⟨y73,y80,x.Stat,y87,x.At,y94,y97⟩,a3+1+1+1+1+1+1),⟨by simp;omega,zff (P:=zhu) g2 (by
  have hgx:=g2 x (Ab hx);exact ⟨by simp at hy73;rcases hy73 with rfl|rfl|rfl;exact hgx.1;exact zqJ;(unfold Sh;simp),hgx.2.1,by simp at hy97;rcases hy97 with rfl|rfl<;>(unfold Sh;simp)⟩),uD⟩,trivial,uK,uP⟩
 refine gz1 ?_;exact ⟨(out,a3),⟨uD,g2,uD⟩,trivial,uK,uP⟩
 intro q5 hq5
 obtain ⟨k1,a4⟩:=q5;dsimp only at hq5;obtain ⟨q1,q2,q3⟩:=hq5;refine gz5 ?_;exact zap (zaB 2 (i:=1) rfl rfl) rfl ⟨k1,a4,rfl,⟨by omega,q2⟩,by omega,rfl⟩
end
section
open Go.Proofs.Tryz
open Go.HL
theorem zh2 [Tracks] {b:Nat} {l:List Int} {a:Nat} (ha:a<=500000):Con prog 20 [pAt b] [St b l a] (fun x M'=> ∃k a',x=zbk k/\BookG k/\a'<=a+2000/\M'=[St b l a']):=by
 refine zba func20 rfl ntmps20 rfl rfl ?_;refine gz1 ?_;refine de rfl (zj zbj rfl fun b2=> ?_)
 refine gz3 ?_;refine de rfl (uCx 1 ca38 rfl rfl (ziG uS) ?_)
 rintro _ _ ⟨g13,a13,rfl,hg13,ha13,rfl⟩;refine gz1 ?_;refine de rfl (uCx 0 ca39 rfl rfl (zkg uS) ?_)
 rintro _ _ ⟨p15,a15,rfl,hp15,ha15,rfl⟩;refine gz1 ?_;refine de rfl (uCx 0 ca40 rfl rfl (zjP uS) ?_)
 rintro _ _ ⟨m17,a17,rfl,hm17,ha17,rfl⟩;refine dq (zFw zbj pl43) ?_;refine de rfl (zj zbj rfl fun b3=> ?_)
 refine de0 (uY 0 ?_)
 refine zaz ?_;refine de rfl (uCx 1 zgu rfl rfl (zP uS uS uS uS) ?_)
 rintro _ _ ⟨y20,rfl,hy20,rfl⟩;refine gz2 ?_;refine ze (zN 4) ?_;refine gz1 ?_;refine uV3 [5,1,21,24] (fun (n:Nat) (at1:Int) (q:GL MoveS)=>[(21,.int .i64 (n:Int)),(5,.int .i64 at1)]) (fun (n:Nat) (at1:Int) (q:GL MoveS)=>[St b l q.a,.cells b2 zjc,.cells b3 (bkC g13 (.raw q.u) (zbY p15) (zcq m17) (.raw (.slice none 0 0)) (.raw (.slice none 0 0))),.arr q.u 4 (q.out.map zdb)]) (fun (n:Nat) (at1:Int) (q:GL MoveS)=>(n:Int)<=y20/\(0<=at1/\at1<=20*n)/\GLok MovB n (a17+1+4*n) q) (fun (n:Nat) (at1:Int) (q:GL MoveS)=>y20.toNat-n) (0) (0) (⟨.slice none 0 0,[],a17+1⟩) ?_ ?_ ?_ ?_
 ·exact ⟨by omega,by omega,⟨by simp,by simp,uD⟩⟩
 ·exact ⟨rfl,rfl,trivial⟩
 ·exact by repeat (first|exact List.Perm.nil|refine zaC 0 rfl ?_|refine zaC 1 rfl ?_|refine zaC 2 rfl ?_|refine zaC 3 rfl ?_|refine zaC 4 rfl ?_|refine zaC 5 rfl ?_|(refine zat 0 rfl ?hq ?_;(case hq=>simp [zaG,zb];done))|(refine zat 1 rfl ?hq ?_;(case hq=>simp [zaG,zb];done))|(refine zat 2 rfl ?hq ?_;(case hq=>simp [zaG,zb];done))|(refine zat 3 rfl ?hq ?_;(case hq=>simp [zaG,zb];done))|(refine zat 4 rfl ?hq ?_;(case hq=>simp [zaG,zb];done))|(refine zat 5 rfl ?hq ?_;(case hq=>simp [zaG,zb];done))|fail)
 ·intro n at1 q hinv
  obtain ⟨hn,hat,hq⟩:=hinv;obtain ⟨u,out,a1⟩:=q;obtain ⟨g1,g2,g3⟩:=id hq;dsimp only at g1 g2 g3;refine gz4 ?_;refine uCo (fun h1=> ?_) fun h2=> ?_
  ·refine gz7 ?_;refine dq (za (hs:=[_,_,_,_]) zah ty3 rfl rfl (by decide) (by decide) rfl) ?_;refine de rfl (uCx 0 ca6 rfl rfl (zf (L:=[_,_,_,_]) uS uS uS) ?_)
   rintro _ _ ⟨y26,rfl,hy26,rfl⟩;refine dq (zbp rfl rfl (by simp at hy26;omega) (by simp at hy26;omega)) ?_;refine gz2 ?_;refine zbu (fun M=> ∃i:Nat,M[i]? =some (.cells b3 (bkC g13 (.raw u) (zbY p15) (zcq m17) (.raw (.slice none 0 0)) (.raw (.slice none 0 0))))) [1] mixed ?_;refine gz1 ?_;refine uM 1 rfl ⟨2,rfl⟩ (fun M hM=>by obtain ⟨i,hi⟩:=hM;exact zas (i:=i) (h:= .raw u) zcn rfl hi (.inl ⟨rfl,rfl⟩) ⟨rfl,rfl⟩) ?_;refine gz2 ?_;refine uB 4 rfl (za (hs:=[_,_,_,_,_,_]) zah ty3 rfl rfl (by decide) (by decide) rfl) ?_;refine uA 6 ?_;refine uB 7 rfl (za (hs:=[_,_]) zp ty9 rfl rfl (by decide) (by decide) rfl) ?_;refine uA 9 ?_;refine uB 10 rfl (za (hs:=[_,_,_,_,_]) zp ty9 rfl rfl (by decide) (by decide) rfl) ?_;refine uF 5 ?_;refine zv rfl (uCx 0 ca6 rfl rfl (zf (L:=[_,_,_,_,_,_]) uS uS uS) ?_)
   rintro _ _ ⟨y33,rfl,hy33,rfl⟩;refine ⟨uE,?_⟩
   refine uF 8 ?_;refine zv rfl (uCx 0 zci rfl rfl (zq (L:=[_,_]) uS uS uS) ?_)
   rintro _ _ ⟨y36,rfl,hy36,rfl⟩;refine ⟨uE,?_⟩
   refine uF 11 ?_;refine zv rfl (uCx 0 zci rfl rfl (zq (L:=[_,_,_,_,_]) uS uS uS) ?_)
   rintro _ _ ⟨y39,rfl,hy39,rfl⟩;refine ⟨uE,?_⟩
   refine uB 12 rfl (zG (cs:=[_,_,_,_]) zH zFf rfl) ?_;refine uB 13 rfl (za (hs:=[_]) zcn zH rfl rfl (by decide) (by decide) rfl) ?_;refine uF 14 ?_;refine zv rfl (zO (i:=3) zcn zH rfl rfl rfl rfl rfl (by simp [zaw,zb]) (by first|omega|(simp;omega)) fun v42=> ?_)
   refine ⟨uE,?_⟩
   refine gz1 ?_;refine uF 16 ?_;refine zA (uY 2 ?_)
   refine ⟨uE,?_⟩
   refine gz7 ?_;exact ⟨n+1,at1+y26,⟨v42,out++[(⟨at1+y26,y33,y36,y39⟩:MoveS)],a1+1+1+1+1⟩,⟨by omega,by simp at hy26;omega,hq.add (x:=(⟨at1+y26,y33,y36,y39⟩:MoveS)) ⟨by simp at hy26;dsimp only;omega,by simp at hy33;dsimp only;omega⟩ uO⟩,uD,⟨rfl,rfl,trivial⟩,uK,uQ⟩
  ·refine gz2 ?_;refine zcU ?_;refine gz4 ?_;refine de rfl (uZ 2 ?_)
   refine de rfl (uCx 3 ca41 rfl rfl (zqf (l:=out) g2 uO) ?_)
   rintro _ _ ⟨Z,rfl,hzp,rfl⟩;have hzl:=hzp.length_eq;refine gz3 ?_;refine de rfl (uZ 3 ?_)
   refine de rfl (uCx 0 ca43 rfl rfl (zgt (l:=Z) uO) ?_)
   rintro _ _ ⟨u50,rfl,rfl⟩;refine gz1 ?_;refine de0 (uY 3 ?_)
   refine gz1 ?_;have hul:=zsA Z none;have hub: ∀x∈zak none Z,MovB x:=fun x hx=>g2 x (hzp.mem_iff.1 (zoh Z none x hx))
   refine ze (Ghost.perm (M':=[St b l a1,.cells b2 zjc,.cells b3 (bkC g13 (.raw u50) (zbY p15) (zcq m17) (.raw (.slice none 0 0)) (.raw (.slice none 0 0))),.arr u50 4 ((zak none Z).map zdb)]) uQ) ?_;refine ze (zir (i:=3) (k:=2) (j:=14) rfl rfl rfl) ?_;refine gz4 ?_;refine de rfl (uZ 2 ?_)
   refine de rfl (uCx 0 ca44 rfl rfl (ziF (a:=a1) (L:=g13.Players) uO (by have:=hg13.pl;omega)) ?_)
   rintro _ _ ⟨k56,a56,rfl,hk56,ha56,rfl⟩;refine gz1 ?_;refine de0 (uY 2 ?_)
   refine gz5 ?_;refine de rfl (uZ 2 ?_)
   refine dq (zaD (f:=HVal.str) (l:=g13.Teams) zp rfl) ?_;refine gz2 ?_;refine ze (zN 5) ?_;refine gz1 ?_;refine uV2 [7,4,62,54] (fun (k:Nat) (q:GL ChoiceS)=>[(62,.int .i64 k)]) (fun (k:Nat) (q:GL ChoiceS)=>[St b l q.a,.cells b2 zjc,.cells b3 (bkC g13 (zcC (zak none Z)) (zbY p15) (zcq m17) (zcB k56) (.raw q.u)),.arr q.u 5 (q.out.map zar)]) (fun (k:Nat) (q:GL ChoiceS)=>k<=g13.Teams.length/\(GLok GoodC4 (4*k) (a56+28*k) q)) (fun (k:Nat) (q:GL ChoiceS)=>g13.Teams.length-k) (0) (⟨.slice none 0 0,[],a56⟩) ?_ ?_ ?_ ?_
   ·exact ⟨Ad _,⟨by simp,by simp,uD⟩⟩
   ·exact ⟨rfl,trivial⟩
   ·exact by repeat (first|exact List.Perm.nil|refine zaC 0 rfl ?_|refine zaC 1 rfl ?_|refine zaC 2 rfl ?_|refine zaC 3 rfl ?_|refine zaC 4 rfl ?_|refine zaC 5 rfl ?_|(refine zat 0 rfl ?hq ?_;(case hq=>simp [zaG,zb];done))|(refine zat 1 rfl ?hq ?_;(case hq=>simp [zaG,zb];done))|(refine zat 2 rfl ?hq ?_;(case hq=>simp [zaG,zb];done))|(refine zat 3 rfl ?hq ?_;(case hq=>simp [zaG,zb];done))|(refine zat 4 rfl ?hq ?_;(case hq=>simp [zaG,zb];done))|(refine zat 5 rfl ?hq ?_;(case hq=>simp [zaG,zb];done))|fail)
   ·intro k q hinv
    obtain ⟨hk,hq⟩:=hinv;obtain ⟨u,out,a2⟩:=q;obtain ⟨g1,g2,g3⟩:=id hq;dsimp only at g1 g2 g3;have htm:=hg13.tm;refine gz4 ?_;refine uCo (fun h3=> ?_) fun h4=> ?_
    ·obtain ⟨x,hx⟩: ∃x,g13.Teams[k]? =some x:=⟨_,Aa h3⟩
     have hdx:=zi hx;refine gz5 ?_;refine dq (zB (f:=HVal.str) (l:=g13.Teams) (j:=k) (a:=x) zp ty9 rfl rfl rfl hx) ?_;refine gz7 ?_;refine uV2 [8,3,66,49] (fun (w:Nat) (q2:GL ChoiceS)=>[(8,.int .i64 ((w:Int)+1))]) (fun (w:Nat) (q2:GL ChoiceS)=>[St b l q2.a,.cells b2 zjc,.cells b3 (bkC g13 (zcC (zak none Z)) (zbY p15) (zcq m17) (zcB k56) (.raw q2.u)),.arr q2.u 5 (q2.out.map zar)]) (fun (w:Nat) (q2:GL ChoiceS)=>w<=2/\GLok GoodC4 (4*k+2*w) (a56+28*k+14*w) q2) (fun (w:Nat) (q2:GL ChoiceS)=>2-w) (0) (⟨u,out,a2⟩) ?_ ?_ ?_ ?_
     ·exact ⟨by omega,hq.mono uO uO⟩
     ·exact ⟨zQ uO,trivial⟩
     ·exact by repeat (first|exact List.Perm.nil|refine zaC 0 rfl ?_|refine zaC 1 rfl ?_|refine zaC 2 rfl ?_|refine zaC 3 rfl ?_|refine zaC 4 rfl ?_|refine zaC 5 rfl ?_|(refine zat 0 rfl ?hq ?_;(case hq=>simp [zaG,zb];done))|(refine zat 1 rfl ?hq ?_;(case hq=>simp [zaG,zb];done))|(refine zat 2 rfl ?hq ?_;(case hq=>simp [zaG,zb];done))|(refine zat 3 rfl ?hq ?_;(case hq=>simp [zaG,zb];done))|(refine zat 4 rfl ?hq ?_;(case hq=>simp [zaG,zb];done))|(refine zat 5 rfl ?hq ?_;(case hq=>simp [zaG,zb];done))|fail)
     ·intro w q2 hinv
      obtain ⟨hw,hq2⟩:=hinv;obtain ⟨u,out,a2⟩:=q2;obtain ⟨g1,g2,g3⟩:=id hq2;dsimp only at g1 g2 g3;refine gz5 ?_;refine uCo (fun h5=> ?_) fun h6=> ?_
      ·refine gz8 ?_;refine dq (za (hs:=[_,_,_]) zah ty3 rfl rfl (by decide) (by decide) rfl) ?_;refine de rfl (uCx 0 ca6 rfl rfl (zf (L:=[_,_,_]) uS uS uS) ?_)
       rintro _ _ ⟨y74,rfl,hy74,rfl⟩;refine gz2 ?_;have hb74:0<=y74/\y74<=604799999:=by simp at hy74;omega
       refine gz2 ?_;refine dq (za (hs:=[_,_,_,_]) zah ty3 rfl rfl (by decide) (by decide) rfl) ?_;refine de rfl (uCx 0 ca6 rfl rfl (zf (L:=[_,_,_,_]) uS uS uS) ?_)
       rintro _ _ ⟨y77,rfl,hy77,rfl⟩;refine gz2 ?_;have hb77:0<=y77/\y77<=2:=by simp at hy77;omega
       refine gz1 ?_;refine uV3 [9,2,78,37] (fun (n:Nat) (at2:Int) (q3:GL ChoiceS)=>[(78,.int .i64 (n:Int)),(9,.int .i64 at2)]) (fun (n:Nat) (at2:Int) (q3:GL ChoiceS)=>[St b l q3.a,.cells b2 zjc,.cells b3 (bkC g13 (zcC (zak none Z)) (zbY p15) (zcq m17) (zcB k56) (.raw q3.u)),.arr q3.u 5 (q3.out.map zar)]) (fun (n:Nat) (at2:Int) (q3:GL ChoiceS)=>(n:Int)<=y77/\(0<=at2/\at2<=604800000*((n:Int)+1))/\GLok GoodC4 (4*k+2*w+n) (a56+28*k+14*w+2+6*n) q3) (fun (n:Nat) (at2:Int) (q3:GL ChoiceS)=>y77.toNat-n) (0) (y74) (⟨u,out,a2+1+1⟩) ?_ ?_ ?_ ?_
       ·exact ⟨by omega,by omega,⟨uD,g2,uD⟩⟩
       ·exact ⟨rfl,rfl,trivial⟩
       ·exact by repeat (first|exact List.Perm.nil|refine zaC 0 rfl ?_|refine zaC 1 rfl ?_|refine zaC 2 rfl ?_|refine zaC 3 rfl ?_|refine zaC 4 rfl ?_|refine zaC 5 rfl ?_|(refine zat 0 rfl ?hq ?_;(case hq=>simp [zaG,zb];done))|(refine zat 1 rfl ?hq ?_;(case hq=>simp [zaG,zb];done))|(refine zat 2 rfl ?hq ?_;(case hq=>simp [zaG,zb];done))|(refine zat 3 rfl ?hq ?_;(case hq=>simp [zaG,zb];done))|(refine zat 4 rfl ?hq ?_;(case hq=>simp [zaG,zb];done))|(refine zat 5 rfl ?hq ?_;(case hq=>simp [zaG,zb];done))|fail)
       ·intro n at2 q3 hinv
        obtain ⟨hn,hat2,hq3⟩:=hinv;obtain ⟨u,out,a2⟩:=q3;obtain ⟨g1,g2,g3⟩:=id hq3;dsimp only at g1 g2 g3;refine gz4 ?_;refine uCo (fun h7=> ?_) fun h8=> ?_
        ·refine gz9 ?_;refine dq (za (hs:=[_,_,_,_]) zp ty9 rfl rfl (by decide) (by decide) rfl) ?_;refine de rfl (uCx 0 zci rfl rfl (zq (L:=[_,_,_,_]) uS uS uS) ?_)
         rintro _ _ ⟨y85,rfl,hy85,rfl⟩;refine dq (zG (cs:=[_,_,_,_,_]) zeg zFg rfl) ?_;refine de rfl (zj zeg rfl fun b10=> ?_)
         refine de0 (uY 0 ?_)
         refine gz5 ?_;refine de rfl (uZ 3 ?_)
         refine dq (zaD (f:=zbT) (l:=g13.Slots) zfv rfl) ?_;refine gz2 ?_;refine ze (zN 1) ?_;refine gz1 ?_;refine uV2 [91,11] (fun (j:Nat) (p:GL Str)=>[(91,.int .i64 j)]) (fun (j:Nat) (p:GL Str)=>[St b l p.a,.cells b10 [.str x,.int .i64 ((w:Int)+1),.int .i64 at2,.raw p.u,.str y85],.arr p.u 1 (p.out.map .str),.cells b2 zjc,.cells b3 (bkC g13 (zcC (zak none Z)) (zbY p15) (zcq m17) (zcB k56) (.raw u)),.arr u 5 (out.map zar)]) (fun (j:Nat) (p:GL Str)=>j<=g13.Slots.length/\(p.out.length=j/\(∀s∈p.out,Sh s)/\p.a=a2+1+j)) (fun (j:Nat) (p:GL Str)=>g13.Slots.length-j) (0) (⟨.slice none 0 0,[],a2+1⟩) ?_ ?_ ?_ ?_
         ·exact ⟨Ad _,rfl,by simp,rfl⟩
         ·exact ⟨rfl,trivial⟩
         ·exact by repeat (first|exact List.Perm.nil|refine zaC 0 rfl ?_|refine zaC 1 rfl ?_|refine zaC 2 rfl ?_|refine zaC 3 rfl ?_|refine zaC 4 rfl ?_|refine zaC 5 rfl ?_|(refine zat 0 rfl ?hq ?_;(case hq=>simp [zaG,zb];done))|(refine zat 1 rfl ?hq ?_;(case hq=>simp [zaG,zb];done))|(refine zat 2 rfl ?hq ?_;(case hq=>simp [zaG,zb];done))|(refine zat 3 rfl ?hq ?_;(case hq=>simp [zaG,zb];done))|(refine zat 4 rfl ?hq ?_;(case hq=>simp [zaG,zb];done))|(refine zat 5 rfl ?hq ?_;(case hq=>simp [zaG,zb];done))|fail)
         ·intro j p hinv
          obtain ⟨hj,hp⟩:=hinv;obtain ⟨v,ps,a5⟩:=p;dsimp only at hp;obtain ⟨hp1,hp2,hp3⟩:=hp;have hsl:=hg13.sl;refine gz4 ?_;refine uCo (fun h9=> ?_) fun h10=> ?_
          ·obtain ⟨z,hz⟩: ∃z,g13.Slots[j]? =some z:=⟨_,Aa h9⟩
           have hdz:=zi hz;refine gz4 ?_;refine zbu (fun M=> ∃i:Nat,M[i]? =some (.cells b10 [.str x,.int .i64 ((w:Int)+1),.int .i64 at2,.raw v,.str y85])) [1] mixed ?_;refine gz1 ?_;refine uM 1 rfl ⟨1,rfl⟩ (fun M hM=>by obtain ⟨i,hi⟩:=hM;exact zas (i:=i) (h:= .raw v) zp rfl hi (.inl ⟨rfl,rfl⟩) ⟨rfl,rfl⟩) ?_;refine gz1 ?_;refine uB 3 rfl (za (hs:=[_,_,_,_,_,_,_,_]) zp ty9 rfl rfl (by decide) (by decide) rfl) ?_;refine uF 4 ?_;refine zv rfl (uCx 0 zci rfl rfl (zq (L:=[_,_,_,_,_,_,_,_]) uS uS uS) ?_)
           rintro _ _ ⟨y97,rfl,hy97,rfl⟩;refine ⟨uE,?_⟩
           refine uB 5 rfl (za (hs:=[_]) zp ty9 rfl rfl (by decide) (by decide) rfl) ?_;refine uF 6 ?_;refine zv rfl (zO (i:=2) zp ty9 rfl rfl rfl rfl rfl (by simp [zaw,zb]) (by first|omega|(simp;omega)) fun v99=> ?_)
           refine ⟨uE,?_⟩
           refine gz1 ?_;refine uF 8 ?_;refine zA (uY 1 ?_)
           refine ⟨uE,?_⟩
           refine gz7 ?_;exact ⟨j+1,⟨v99,ps++[y97],a5+1⟩,⟨by omega,by simp;omega,fun s hs=>by
            rcases List.mem_append.1 hs with hs|hs
            ·exact hp2 s hs
            ·rw [List.mem_singleton.1 hs];simp at hy97;rcases hy97 with rfl|rfl|rfl|rfl|rfl|rfl|rfl|rfl<;>(unfold Sh;simp),uD⟩,uD,⟨rfl,trivial⟩,uK,uQ⟩
          ·have hnj:g13.Slots.length<=j:=by omega
           obtain rfl:j=g13.Slots.length:=by omega
           refine gz2 ?_;refine zM ?_;refine gz2 ?_;refine ze (zir (i:=2) (k:=1) (j:=3) rfl rfl rfl) ?_;refine ze (zbx (M':=[St b l a5,.cells b10 (zb (zar (⟨x,(w:Int)+1,at2,ps,y85⟩:ChoiceS))),.cells b2 zjc,.cells b3 (bkC g13 (zcC (zak none Z)) (zbY p15) (zcq m17) (zcB k56) (.raw u)),.arr u 5 (out.map zar)]) rfl) ?_;refine ze (zbV 10 (i:=1) rfl rfl) ?_;refine gz2 ?_;refine de rfl (uZ 2 ?_)
           refine gz1 ?_;refine dq (za (hs:=[_]) zf7 zeg rfl rfl (by decide) (by decide) rfl) ?_;refine de rfl (zO (i:=3) zf7 zeg rfl rfl rfl rfl rfl (by simp [zaw,zb,zaH,za2]) uSo fun v106=> ?_)
           refine gz1 ?_;refine de0 (uY 2 ?_)
           refine gz5 ?_;refine dq (za (hs:=[_,_,_]) zah ty3 rfl rfl (by decide) (by decide) rfl) ?_;refine de rfl (uCx 0 ca6 rfl rfl (zf (L:=[_,_,_]) uS uS uS) ?_)
           rintro _ _ ⟨y112,rfl,hy112,rfl⟩;refine dq (zbp rfl rfl (by simp at hy112;omega) (by simp at hy112;omega)) ?_;refine gz8 ?_;exact ⟨n+1,at2+y112,⟨v106,out++[(⟨x,(w:Int)+1,at2,ps,y85⟩:ChoiceS)],a5+1⟩,⟨by omega,by simp at hy112;omega,hq3.add (x:=(⟨x,(w:Int)+1,at2,ps,y85⟩:ChoiceS)) ⟨hp2,by simp at hy85;rcases hy85 with rfl|rfl|rfl|rfl<;>(unfold Sh;simp),by have:=hg13.sl;dsimp only;omega⟩ (by have:=hg13.sl;omega)⟩,uD,⟨rfl,rfl,trivial⟩,uK,uQ⟩
        ·refine gz2 ?_;refine zcU ?_;refine gz8 ?_;exact ⟨w+1,⟨u,out,a2⟩,⟨by omega,hq3.mono uO uO⟩,uD,⟨zQ uO,trivial⟩,uK,uQ⟩
      ·refine gz2 ?_;refine zM ?_;refine gz7 ?_;exact ⟨k+1,⟨u,out,a2⟩,⟨by omega,hq2.mono uO uO⟩,uD,⟨rfl,trivial⟩,uK,uQ⟩
    ·have hnk:g13.Teams.length<=k:=by omega
     obtain rfl:k=g13.Teams.length:=by omega
     refine gz2 ?_;refine zM ?_;refine gz2 ?_;refine uVj [11,1,116,52] (fun (q5:List ChoiceS×Nat)=>[]) (fun (q5:List ChoiceS×Nat)=>[St b l q5.2,.cells b2 zjc,.cells b3 (bkC g13 (zcC (zak none Z)) (zbY p15) (zcq m17) (zcB k56) (.raw u)),.arr u 5 (q5.1.map zar)]) (fun (q5:List ChoiceS×Nat)=>GoodChs q5.1/\q5.2<=a2+10) ?_ ?_
     ·skip
      refine gz2 ?_;refine de rfl (uZ 2 ?_)
      refine de rfl (zaR (i:=3) (es:=out) zf7 rfl rfl ?_)
      refine gz3 ?_;refine dgx (fun x M'=> ∃(y:Bool) (a3:Nat),x= .bool y/\a3<=a2+1/\M'=[St b l a3,.cells b2 zjc,.cells b3 (bkC g13 (zcC (zak none Z)) (zbY p15) (zcq m17) (zcB k56) (.raw u)),.arr u 5 (out.map zar)]) rfl rfl (fun hc=>⟨_,false,a2,rfl,by omega,rfl⟩) (fun hc=>⟨_,OpenTo.upd (t:=121) rfl (hc) (OpenTo.refl _),uCx 0 zek rfl rfl (zJ (a:=a2) uO uO) (fun h M' hh=>by
       obtain ⟨y,h1,h2⟩:=hh;exact ⟨y,a2+1,h1,by omega,by rw [h2];rfl⟩)⟩) ?_
      rintro _ _ ⟨y,a3,rfl,ha3,rfl⟩;refine gz2 ?_;refine uCo (fun h11=> ?_) fun h12=> ?_
      ·have ho0:0<out.length:=by simp_all
       refine zcT (i:=3) rfl (fun h0 he=> ?_) (fun ob off cap hv hcap=> ?_)
       ·exfalso;have:=congrArg List.length he;simp at this;subst this;simp at ho0
       subst hv;refine zbt (fun M=> ∃i:Nat,M[i]? =some (.cells b3 (bkC g13 (zcC (zak none Z)) (zbY p15) (zcq m17) (zcB k56) (.raw (.slice (some ⟨ob,off,none⟩) (out.map zar).length cap))))) [1,4] mixed ?_;refine gz1 ?_;refine uM 1 rfl ⟨2,rfl⟩ (fun M hM=>by obtain ⟨i,hi⟩:=hM;exact zas (i:=i) (h:= .raw (.slice (some ⟨ob,off,none⟩) (out.map zar).length cap)) zf7 rfl hi (.inl ⟨rfl,rfl⟩) ⟨rfl,rfl⟩) ?_;refine gz2 ?_;refine uM 4 rfl ⟨2,rfl⟩ (fun M hM=>by obtain ⟨i,hi⟩:=hM;exact zas (i:=i) (h:= .raw (.slice (some ⟨ob,off,none⟩) (out.map zar).length cap)) zf7 rfl hi (.inl ⟨rfl,rfl⟩) ⟨rfl,rfl⟩) ?_;refine uF 5 ?_;refine zv rfl (zaR (i:=3) (es:=out) zf7 rfl rfl ?_)
       refine ⟨fun _=> .inl ⟨2,rfl⟩,?_⟩
       refine uF 6 ?_;refine zv rfl (uCx 0 zi3 rfl rfl (zam uS uS) ?_)
       rintro _ _ ⟨y130,rfl,hy130,rfl⟩;refine ⟨uE,?_⟩
       refine uB 7 rfl (zD (j:=y130) zf7 zeg rfl rfl rfl uSo) ?_;refine gz2 ?_;refine ze (Ghost.perm (M':=[St b l (a3+1),.arr (.slice (some ⟨ob,off,none⟩) (out.map zar).length cap) 5 (out.map zar),.cells b2 zjc,.cells b3 (bkC g13 (zcC (zak none Z)) (zbY p15) (zcq m17) (zcB k56) (.raw (.slice (some ⟨ob,off,none⟩) (out.map zar).length cap)))]) uQ) ?_;obtain ⟨x,hx⟩: ∃x,out[y130]? =some x:=⟨_,Aa uO⟩
       have hgx:=g2 x (Ab hx);dsimp only [GoodC4] at hgx;refine zbu (fun M=> ∃i:Nat,M[i]? =some (.arr (.slice (some ⟨ob,off,none⟩) (out.map zar).length cap) 5 (out.map zar))) [8,15,24] mixed ?_;refine gz8 ?_;refine uM 8 rfl ⟨1,rfl⟩ (fun M hM=>by obtain ⟨i,hi⟩:=hM;exact zan (i:=i) (j:=y130) 0 ty9 rfl uO hi hx rfl rfl ⟨rfl,rfl⟩) ?_;refine uB 9 rfl (za (hs:=[_,_]) zp ty9 rfl rfl (by decide) (by decide) rfl) ?_;refine uA 11 ?_;refine gz3 ?_;refine uM 15 rfl ⟨1,rfl⟩ (fun M hM=>by obtain ⟨i,hi⟩:=hM;exact zan (i:=i) (j:=y130) 1 ty3 rfl uO hi hx rfl rfl ⟨rfl,rfl⟩) ?_;refine uB 16 rfl (za (hs:=[_,_]) zah ty3 rfl rfl (by decide) (by decide) rfl) ?_;refine uA 18 ?_;refine uB 19 rfl (za (hs:=[_,_]) zp ty9 rfl rfl (by decide) (by decide) rfl) ?_;refine uA 21 ?_;refine gz2 ?_;refine uM 24 rfl ⟨1,rfl⟩ (fun M hM=>by obtain ⟨i,hi⟩:=hM;exact zan (i:=i) (j:=y130) 3 zp rfl uO hi hx rfl rfl ⟨rfl,rfl⟩) ?_;refine uB 26 rfl (za (hs:=[_]) zp ty9 rfl rfl (by decide) (by decide) rfl) ?_;refine uF 10 ?_;refine zv rfl (uCx 0 zci rfl rfl (zq (L:=[_,_]) uS uS uS) ?_)
       rintro _ _ ⟨y142,rfl,hy142,rfl⟩;refine ⟨uE,?_⟩
       refine uF 17 ?_;refine zv rfl (uCx 0 ca6 rfl rfl (zf (L:=[_,_]) uS uS uS) ?_)
       rintro _ _ ⟨y149,rfl,hy149,rfl⟩;refine ⟨uE,?_⟩
       refine uF 20 ?_;refine zv rfl (uCx 0 zci rfl rfl (zq (L:=[_,_]) uS uS uS) ?_)
       rintro _ _ ⟨y152,rfl,hy152,rfl⟩;refine ⟨uE,?_⟩
       refine uF 25 ?_;refine zv rfl (uCa zj0 rfl (z7 uO) fun v157=> ?_)
       refine ⟨uE,?_⟩
       refine uF 27 ?_;refine zv rfl (zlj (N:=[St b l (a3+1+1+1+1),.arr (.slice (some ⟨ob,off,none⟩) (out.map zar).length cap) 5 (out.map zar),.cells b2 zjc,.cells b3 (bkC g13 (zcC (zak none Z)) (zbY p15) (zcq m17) (zcB k56) (.raw (.slice (some ⟨ob,off,none⟩) (out.map zar).length cap)))]) (sz:=1) (es:=(x.Players++[[97,110,110]]).map .str) 0 (zO (i:=0) zp ty9 rfl rfl rfl rfl rfl (by simp [zaw,zb,zaH,za2]) uSo fun v=>⟨v,rfl,by simp [zaH,za2],rfl⟩) ?_)
       refine ⟨fun _=> .inl ⟨1,rfl⟩,?_⟩
       refine gz2 ?_;refine uF 30 ?_;refine zA (zR (i:=1) (j:=y130) (f:=0) (y:=zar x) (y':=zar ⟨y142,x.Week,x.At,x.Players,x.Captain⟩) ty9 rfl uO rfl rfl (za6 hx) rfl rfl (by simp [zb]) rfl ?_)
       refine ⟨uE,?_⟩
       refine gz2 ?_;refine uF 33 ?_;refine zA (zR (i:=1) (j:=y130) (f:=1) (y:=zar ⟨y142,x.Week,x.At,x.Players,x.Captain⟩) (y':=zar ⟨y142,y149,x.At,x.Players,x.Captain⟩) ty3 rfl uO rfl rfl (zaF (za6 hx)) rfl rfl (by simp [zb]) rfl ?_)
       refine ⟨uE,?_⟩
       refine gz2 ?_;refine uF 36 ?_;refine zA (zR (i:=1) (j:=y130) (f:=4) (y:=zar ⟨y142,y149,x.At,x.Players,x.Captain⟩) (y':=zar ⟨y142,y149,x.At,x.Players,y152⟩) ty9 rfl uO rfl rfl (zaF (zaF (za6 hx))) rfl rfl (by simp [zb]) rfl ?_)
       refine ⟨uE,?_⟩
       refine gz2 ?_;refine uF 39 ?_;refine zA (zR (i:=1) (j:=y130) (f:=3) (y:=zar ⟨y142,y149,x.At,x.Players,y152⟩) (y':=zar ⟨y142,y149,x.At,x.Players++[[97,110,110]],y152⟩) zp rfl uO rfl rfl (zaF (zaF (zaF (za6 hx)))) rfl rfl (by simp [zb]) rfl ?_)
       refine ⟨uE,?_⟩
       refine gz1 ?_;exact ⟨(out.set y130 (⟨y142,y149,x.At,x.Players++[[97,110,110]],y152⟩:ChoiceS),a3+1+1+1+1),⟨⟨by simp;omega,zff (P:=zto) (fun x hx=>(g2 x hx).up) ⟨fun s hs=>by
        rcases List.mem_append.1 hs with hs|hs
        ·exact hgx.1 s hs
        ·rw [List.mem_singleton.1 hs];unfold Sh;simp,by simp at hy152;rcases hy152 with rfl|rfl<;>(unfold Sh;simp),by simp;omega⟩⟩,uD⟩,trivial,uK,uQ⟩
      ·refine gz1 ?_;exact ⟨(out,a3),⟨⟨uD,fun x hx=>(g2 x hx).up⟩,uD⟩,trivial,uK,uQ⟩
     ·intro q5 hq5
      obtain ⟨k1,a6⟩:=q5;obtain ⟨hk1,ha6⟩:=hq5;dsimp only at hk1 ha6;refine ze (zir (i:=3) (k:=2) (j:=18) rfl rfl rfl) ?_;refine ze (Ghost.perm (M':=[.cells b2 zjc,St b l a6,.cells b3 (zb (zbk (⟨g13,(zak none Z),p15,m17,k56,k1⟩:BookS)))]) uQ) ?_;refine gz1 ?_;refine de rfl (ziQ (i:=2) (h:=zbk (⟨g13,(zak none Z),p15,m17,k56,k1⟩:BookS)) zbj rfl rfl rfl rfl rfl ?_)
      refine de0 (zl (h:=zbk (⟨g13,(zak none Z),p15,m17,k56,k1⟩:BookS)) zbj rfl rfl rfl rfl rfl ?_)
      refine gz2 ?_;exact ⟨_,_,(zm 2 rfl).trans ((Ghost.perm (List.Perm.swap _ _ _)).trans Ghost.drop),[_],_,⟨⟨_,_,_,_,_,rfl,zbj,.inr ⟨rfl,rfl,rfl⟩⟩,trivial⟩,Weak.refl _,(⟨g13,(zak none Z),p15,m17,k56,k1⟩:BookS),a6,rfl,⟨hg13,uD,hub,hp15,hm17,hk56,hk1⟩,by omega,rfl⟩
end
section
open Go.Proofs.Tryz
open Go.HL
theorem zuH [Tracks]:Weak (.agg [.raw (.slice none 0 0),.raw (.slice none 0 0),.raw (.slice none 0 0),.raw (.slice none 0 0),.slice 2 [.agg [.str [115,97],.slice 1 [.str [103,107]]]],.int .i64 3,.int .i64 0,.int .i64 5,.int .i64 0,.slice 1 [.str [116,97],.str [116,98]],.raw (.slice none 0 0),.raw (.slice none 0 0),.raw (.slice none 0 0),.int .i64 0,.raw (.slice none 0 0),.raw (.slice none 0 0),.raw (.slice none 0 0),.raw (.slice none 0 0),.raw (.slice none 0 0)]) (zbk g0B):=by
 refine zz0 rfl fun j h h' h1 h2=> ?_
 match j,h1,h2 with
 |0,h1,h2|1,h1,h2|2,h1,h2|3,h1,h2|10,h1,h2|11,h1,h2|12,h1,h2|14,h1,h2|15,h1,h2|16,h1,h2|17,h1,h2|18,h1,h2=>cases h1;cases h2;exact zt _
 |4,h1,h2|5,h1,h2|6,h1,h2|7,h1,h2|8,h1,h2|9,h1,h2|13,h1,h2=>cases h1;cases h2;exact Weak.refl _
 |n+19,h1,h2=>cases h1
theorem zgs [Tracks] {b:Nat} {l:List Int} {a:Nat} (hT:Tracks.on=false) (ha:a<=100000):Con prog 5 [pAt b] [St b l a] (fun x M'=> ∃k a',x=zbk k/\zdl k=0/\BookC k/\a'<=a+24000/\M'=[St b l a']):=by
 refine zba func5 rfl ntmps5 rfl rfl ?_;refine gz1 ?_;refine de rfl (zj zbj rfl fun b2=> ?_)
 refine gz6 ?_;refine uT2 [3,10] (fun i a1=>[(4,.int .i64 (i:Int))]) (fun i a1=>[.cells b2 [.raw (.slice none 0 0),.raw (.slice none 0 0),.raw (.slice none 0 0),.raw (.slice none 0 0),.raw (.slice none 0 0),.int .i64 0,.int .i64 0,.int .i64 0,.int .i64 0,.raw (.slice none 0 0),.raw (.slice none 0 0),.raw (.slice none 0 0),.raw (.slice none 0 0),.int .i64 0,.raw (.slice none 0 0),.raw (.slice none 0 0),.raw (.slice none 0 0),.raw (.slice none 0 0),.raw (.slice none 0 0)],St b l a1]) (fun i a1=>i<=12/\a1<=a+2000*i) (fun i a1=>12-i) (0) (a) ?_ ?_
 ·exact ⟨by omega,by omega⟩
 ·rintro i a1 ⟨hi,ha1⟩;refine gz4 ?_;refine uCo (fun h1=> ?_) fun h2=> ?_
  ·refine gz6 ?_;refine de rfl (uCx 1 ca20 rfl rfl (zh2 (a:=a1) uO) ?_)
   rintro _ _ ⟨k7,a7,rfl,hk7,ha7,rfl⟩;refine de rfl (zj zbj rfl fun b3=> ?_)
   refine de0 (zl zbj rfl rfl rfl rfl rfl ?_)
   refine gz1 ?_;refine ze (zm 3 rfl) ?_;refine gz1 ?_;refine dq (zai (h:=zbk k7) zbj rfl rfl rfl rfl) ?_;refine dq (uCl ca21 rfl (zln (b:=k7) hT hk7.c)) ?_;refine gz2 ?_;refine uCo (fun h3=> ?_) fun h4=> ?_
   ·refine gz1 ?_;refine dq (zai (h:=zbk k7) zbj rfl rfl rfl rfl) ?_;refine de0 (uY 1 ?_)
    refine gz2 ?_
    first
    |exact ⟨_,_,(Ghost.perm (List.Perm.swap _ _ _)).trans ((zm 2 rfl)),[_],_,⟨⟨_,_,_,_,_,rfl,zbj,.inr ⟨rfl,rfl,rfl⟩⟩,trivial⟩,Weak.refl _,k7,a7,rfl,by assumption,hk7.c,by omega,rfl⟩
    |exact ⟨_,_,zm 2 rfl,[_],_,⟨⟨_,_,_,_,_,rfl,zbj,.inr ⟨rfl,rfl,rfl⟩⟩,trivial⟩,zuH,g0B,a1,rfl,zAJ,zAK,by omega,rfl⟩
   ·refine gz7 ?_;exact ⟨i+1,a7,⟨by omega,by omega⟩,uD,⟨rfl,trivial⟩,uK,uP⟩
  ·obtain rfl:i=12:=by omega
   refine gz2 ?_;refine zM ?_;refine gz3 ?_;refine dq (za (hs:=[_]) zp ty9 rfl rfl (by decide) (by decide) rfl) ?_;refine dq (zG (cs:=[_,_]) zdt zzA rfl) ?_;refine dq (za (hs:=[_]) zfv zdt rfl rfl (by decide) (by decide) rfl) ?_;refine dq (zG (cs:=[_,_,_,_]) zja pl32 rfl) ?_;refine dq (za (hs:=[_,_]) zp ty9 rfl rfl (by decide) (by decide) rfl) ?_;refine dq (zG (cs:=[_,_,_,_,_,_,_,_,_,_,_,_,_,_]) zaN zkb rfl) ?_;refine dq (zG (cs:=[_,_,_,_,_,_,_,_,_,_,_,_,_,_,_,_,_,_,_]) zbj pl43 rfl) ?_;refine de0 (uY 0 ?_)
   refine gz2 ?_
   first
   |exact ⟨_,_,(Ghost.perm (List.Perm.swap _ _ _)).trans ((zm 2 rfl)),[_],_,⟨⟨_,_,_,_,_,rfl,zbj,.inr ⟨rfl,rfl,rfl⟩⟩,trivial⟩,Weak.refl _,k7,a7,rfl,by assumption,hk7.c,by omega,rfl⟩
   |exact ⟨_,_,zm 2 rfl,[_],_,⟨⟨_,_,_,_,_,rfl,zbj,.inr ⟨rfl,rfl,rfl⟩⟩,trivial⟩,zuH,g0B,a1,rfl,zAJ,zAK,by omega,rfl⟩
end
section
open Go.Proofs.Tryz
open Go.HL
theorem ziE [Tracks] (hT:Tracks.on=false):ConP prog 8 [] (.bool true):=by
 refine uOb func8 ntmps8 ?_;refine gz4 ?_;refine dq (zG (cs:=[_,_,_,_,_,_,_,_,_]) zbZ zui rfl) ?_;refine dq (za (hs:=[_]) zhf zbZ rfl rfl (by decide) (by decide) rfl) ?_;refine dq (za (hs:=[_]) zp ty9 rfl rfl (by decide) (by decide) rfl) ?_;refine dq (zmx (hs':=[zbY [zoN],eSs [[115]],.int .i64 1,.int .i64 5]) ca27 rfl (WeakL.refl _) (znD hT (by decide) (by decide))) ?_;refine gz6 ?_;simp only [zBX,zBY];refine gz1 ?_;refine dq (za (hs:=[_,_]) zp ty9 rfl rfl (by decide) (by decide) rfl) ?_;refine dq (za (hs:=[_,_,_,_]) zp ty9 rfl rfl (by decide) (by decide) rfl) ?_;refine dq (zG (cs:=[_,_,_,_,_,_]) zxk pl96 rfl) ?_;refine de rfl (zj zxk rfl fun b3=> ?_)
 refine de0 (zl zxk rfl rfl rfl rfl rfl ?_)
 refine gz1 ?_;refine ze (zm 3 rfl) ?_;refine gz2 ?_;refine dq (zmx (hs':=[zql zti,znS []]) ca28 rfl ⟨Weak.refl _,zt 3,trivial⟩ (zsF (r:=zti) (s:=[]) (by decide) (by decide) (by decide))) ?_;refine gz6 ?_;simp only [zu7,zzR];refine gz1 ?_;refine dq (zG (cs:=[_,_,_]) zcm zFd rfl) ?_;refine dq (za (hs:=[_]) zgp zcm rfl rfl (by decide) (by decide) rfl) ?_;refine dq (zG (cs:=[_,_]) zkK zFe rfl) ?_;refine dq (za (hs:=[_]) zxf zkK rfl rfl (by decide) (by decide) rfl) ?_;refine dq (zmx (hs':=[zjC [ziC],zoH [zlB]]) ca29 rfl (WeakL.refl _) (zqh (l:=[ziC]) (p:=[zlB]) (by decide) (by decide))) ?_;refine gz8 ?_;simp only [zCG,zBI,zyg];refine zaz ?_;refine uGr rfl (fun hc=>zB (j:=0) (a:=zwK) zmJ zbU rfl rfl rfl rfl) ?_;refine zcj ?_;refine uGr rfl (fun hc=>za (hs:=[_,_,_,_]) zp ty9 rfl rfl (by decide) (by decide) rfl) ?_;refine uGr rfl (fun hc=>uCl ca30 rfl (zib (l:=[[97],[98],[98],[97]]) (m:=[[97],[98],[98],[97]]) (by decide))) ?_;refine zdf ?_;refine zx rfl ?_
 rfl
theorem zhy [Tracks] {z:GameS} {y:SwungS}:ConP prog 11 [zaa z,.vptr (zb (zj4 y)) 0] (.bool ((fun z=>z.Played&&(z.Week==y.Week&&(z.Home==y.Home&&z.Away==y.Away))) z)):=by
 refine uOb func11 ntmps11 ?_;refine gz31 ?_;refine zx rfl ?_
 show HVal.bool _=HVal.bool _
 dsimp only
 cases z.Played<;>simp [Bool.and_assoc]
theorem zey [Tracks] {l:List Int} (hT:Tracks.on=false):ConP prog 3 [.slice 1 (l.map (.int .i64))] (.bool true):=by
 refine uOb func3 ntmps3 ?_;refine gz5 ?_;refine dq (zG (cs:=[_,_]) ty25 pl25 rfl) ?_;refine de rfl (zvj rfl rfl fun b=> ?_)
 refine zCg (M':=[St b l 0]) rfl ?_;refine gz4 ?_;refine de rfl (uCx 0 ca5 rfl rfl (zgs (a:=0) hT uO) ?_)
 rintro _ _ ⟨k18,a18,rfl,hz18,hc18,ha18,rfl⟩;refine gz1 ?_;refine dq (za (hs:=[_,_,_]) zah ty3 rfl rfl (by decide) (by decide) rfl) ?_
 first
 |refine de rfl (uCx 0 ca6 rfl rfl (zf (L:=[_,_,_]) uS uS uS) ?_)
 |refine de rfl (uCx 1 ca6 rfl rfl (zf (L:=[_,_,_]) uS uS uS) ?_)
 |refine de rfl (uCx 2 ca6 rfl rfl (zf (L:=[_,_,_]) uS uS uS) ?_)
 |refine de rfl (uCx 3 ca6 rfl rfl (zf (L:=[_,_,_]) uS uS uS) ?_)
 rintro _ _ ⟨y21,rfl,hy21,rfl⟩;refine de rfl (zj zbj rfl fun b4=> ?_)
 refine de0 (zl zbj rfl rfl rfl rfl rfl ?_)
 refine gz2 ?_;refine ze (zm 4 rfl) ?_;have hyf:604800000<=y21/\y21<=1814400000:=by simp at hy21;omega
 refine gz3 ?_;refine dq (za (hs:=[_,_,_]) zah ty3 rfl rfl (by decide) (by decide) rfl) ?_
 first
 |refine de rfl (uCx 0 ca6 rfl rfl (zf (L:=[_,_,_]) uS uS uS) ?_)
 |refine de rfl (uCx 1 ca6 rfl rfl (zf (L:=[_,_,_]) uS uS uS) ?_)
 |refine de rfl (uCx 2 ca6 rfl rfl (zf (L:=[_,_,_]) uS uS uS) ?_)
 |refine de rfl (uCx 3 ca6 rfl rfl (zf (L:=[_,_,_]) uS uS uS) ?_)
 rintro _ _ ⟨y25,rfl,hy25,rfl⟩;have hyd:0<=y25/\y25<=604800000:=by simp at hy25;omega
 refine gz4 ?_;refine dq (zai (h:=zbk k18) zbj rfl rfl rfl rfl) ?_;refine gz2 ?_;refine dq (uCl ca7 rfl (zkx (b:=k18) (f:=y21) (t:=(y21+y25)) hT hc18)) ?_;refine gz7 ?_;refine dq (zai (h:=zbk k18) zbj rfl rfl rfl rfl) ?_;refine gz2 ?_;refine dq (uCl ca7 rfl (zkx (b:=k18) (f:=(y21+y25)) (t:=(y21+y25)) hT hc18)) ?_;refine zhL ?_;refine uCo (fun h1=> ?_) fun h2=> ?_
 ·refine gz8 ?_;refine uGr rfl (fun hc=>uCl ca8 rfl (ziE hT)) ?_;refine gz4 ?_;refine zap Ghost.clear rfl ⟨?_,rfl⟩
  show HVal.bool _=_
  first|rfl|(simp_all;done)
 ·refine gz2 ?_;obtain ⟨hE1,hE2⟩:zac k18 y21 (y21+y25)=0/\zac k18 (y21+y25) (y21+y25)=0:=by simp_all
  obtain ⟨_,_,hft,hr1,hr2,hL⟩:=zyD hE1;obtain ⟨⟨hbz,hnm⟩,_,_,_,hrz,hL2⟩:=zyD hE2;rw [hE1,hE2,hL,hL2,zB7];have hX:=ztC hbz;have hmz:mfE k18 (y21+y25)=0:=by unfold mfE;rw [if_neg (fun q=>q hbz),if_neg (by rw [hnm];simp)]
  have hR0:zi0 k18 (y21+y25)=0:=by unfold zi0;rw [if_neg (fun q=>q hmz)];exact hrz
  have hga:=hc18.bb.lea.ga;have hswl:=zyB k18 y21 (y21+y25) k18.League.Games;refine gz1 ?_;refine dq (zai (h:=zbk k18) zbj rfl rfl rfl rfl) ?_;refine gz1 ?_;refine dq (z8 (h':= .tup [zgI (zf5 k18 (y21+y25)),.int .i64 0]) (uCl ca9 rfl (zpw (b:=k18) (n:=(y21+y25)) hT hc18)) (by rw [zq6,if_neg (fun q=>q hR0),hR0])) ?_;refine zdf ?_;refine uGr rfl (fun hc=>zaD (f:=zj4) (l:=([]:List SwungS)) zuE rfl) ?_;refine gz3 ?_;refine zW rfl (fun h3=> ?_) (fun h3=> ?_)
  ·exfalso
   try simp at h3
   done
  ·try simp at h3
   refine gz5 ?_;refine dq (zaD (f:=zj4) (l:=(swL k18 y21 (y21+y25) k18.League.Games)) zuE rfl) ?_;refine gz3 ?_;refine uT1 [2,1,13,1,71,16] (fun k=>[(71,.int .i64 k)]) (fun k=>[St b l (a18+1+1)]) (fun k=>k<=(swL k18 y21 (y21+y25) k18.League.Games).length/\(True)) (fun k=>(swL k18 y21 (y21+y25) k18.League.Games).length-k) (0) ?_ ?_
   ·exact ⟨Ad _,trivial⟩
   ·rintro k ⟨hk,-⟩;refine gz4 ?_;refine uCo (fun h4=> ?_) fun h5=> ?_
    ·obtain ⟨y,hy⟩: ∃y,(swL k18 y21 (y21+y25) k18.League.Games)[k]? =some y:=⟨_,Aa h4⟩
     have hdy:=zi hy;refine gz5 ?_;refine dq (zB (f:=zj4) (l:=(swL k18 y21 (y21+y25) k18.League.Games)) (j:=k) (a:=y) zuE zoz rfl rfl rfl hy) ?_;refine dq (zai (h:=zj4 y) zoz rfl rfl rfl rfl) ?_;refine de rfl (zj zoz rfl fun b13=> ?_)
     refine de0 (zl zoz rfl rfl rfl rfl rfl ?_)
     refine gz1 ?_;refine ze (zm 13 rfl) ?_;refine gz9 ?_;refine uGr rfl (fun hc=>uCl zwb rfl (zaZ (l:=zf5 k18 (y21+y25)) (p:=fun z=>z.Played&&(z.Week==y.Week&&(z.Home==y.Home&&z.Away==y.Away))) ca11 (fun _=>zhy) (by rw [Ag];exact hc18.bb.lea.ga))) ?_;refine gz3 ?_;refine zW rfl (fun h6=> ?_) (fun h6=> ?_)
     ·exfalso
      try simp at h6
      obtain ⟨q1,q2⟩:=zCT hX hft (Ab hy)
      rcases h6 with q|q
      ·exact q1 q
      ·obtain ⟨z,hz1,hz2⟩:=List.any_eq_true.1 q2;obtain ⟨g0,hg0,rfl⟩:=List.mem_map.1 hz1
       simp at hz2
       exact q g0 hg0 hz2.1 hz2.2.1 hz2.2.2.1 hz2.2.2.2
     ·try simp at h6
      refine gz7 ?_;exact ⟨k+1,⟨by omega,trivial⟩,uD,⟨rfl,trivial⟩,uK,Ac _⟩
    ·have hnk:(swL k18 y21 (y21+y25) k18.League.Games).length<=k:=by omega
     obtain rfl:k=(swL k18 y21 (y21+y25) k18.League.Games).length:=by omega
     refine gz2 ?_;refine zw ?_;refine gz3 ?_;refine dq (uCl ca8 rfl (ziE hT)) ?_;refine gz3 ?_;refine zap Ghost.clear rfl ⟨?_,rfl⟩
     show HVal.bool _=_
     first|rfl|(simp_all;done)
end
end Go.Proofs.YtbmggbfabohegaaGreatDoor
namespace Go.HL
section
open Go
theorem zxR {P:Program} (h:P.funcs.toList.any Func.goes=false) (f:FuncId):P.goes f=false:=by
 have hf: ∀g:Nat,(P.funcs[g]?).any Func.goes=false:=fun g=>by
  cases hg:P.funcs[g]? with
  |none=>rfl
  |some fn=>
    have:fn∈P.funcs.toList:=by
     obtain ⟨hlt,rfl⟩:=Array.getElem?_eq_some_iff.1 hg
     simp
    have:=List.any_eq_false.1 h fn this
    simpa using this
 have ha:P.funcs.any Func.goes=false:=by rw [<-Array.any_toList];exact h
 unfold Program.goes;rw [ha,Bool.and_false,Bl];rw [BS]
 intro g _
 rw [hf g];simp
theorem goesBy_none {P:Program} {c:OpenClaim} (h:P.funcs.toList.any Func.goes=false):false=c.goesBy P:=by
 have hg:=zxR h;unfold OpenClaim.goesBy Program.goesAt Program.goesFrom;have h1:(P.funcNamed c.func).any P.goes=false:=by
  cases P.funcNamed c.func with
  |none=>rfl
  |some f=>exact hg f
 have h2:P.inits.toList.any P.goes=false:=List.any_eq_false.2 fun x _=>by rw [hg x];simp
 rw [h1]
 cases c.start<;>simp [h2,hg]
end
section
open Go
theorem zsU {H:Type} {enc:TypeId×Value->H} {a:Assume} {C:Checked} {os:Os} {f:FuncId} {fn:Func} {s:ChangeSpec} {conds:List PathCond} {apart fresh handsOn again:Bool} {X:World->Array Value->Prop}
 (hX: ∀(w w':World) (args:Array Value),w.heap=w'.heap->X w args->X w' args)
 (own:ownKnob C.prog.godebug=none) (started:os.Started) (noInit:C.prog.inits.idxOf? f=none) (hfn:C.prog.funcs[f]? =some fn)
 (witness: ∃(w:World) (tape:Tape) (i:Input),w.os=os/\(w.forCall tape i).Shaped C.prog/\i.vars=[]/\Input.okWide C.prog (w.forCall tape i) .any w.heap.size f i/\
   ((s.pre enc C.prog fn conds apart (w.forCall tape i).memory i.args/\X (w.forCall tape i).memory i.args)/\sizedMet enc C.prog fn (OpenSpec.ofChange s) apart (w.forCall tape i).memory i.args)/\a.holds C.prog (lone (Frame.enter C.prog f i.args .normal) [] (w.forCall tape i)))
 (contract: ∀(W:World) (base:Nat) (args:Array Value) (ds gs:List (DataW H)) (before:List MemPlace),
   (∀(j:Nat) t v,fn.params[j]? =some t->args[j]? =some v->Value.okWide C.prog W .any base t v)->DataW.Whole enc C.prog fn.params.toList s.vars apart W args.toList ds gs before->
   X W args->W.ShapedOpen C.prog->Calls C.prog f args W fun e W'=> ∃v,e= .returned v/\s.post enc C.prog fn apart fresh handsOn again W args v W'):
 ReturnsInHanded a C os f .any (fun w args=>(s.pre enc C.prog fn conds apart w args/\X w args)/\sizedMet enc C.prog fn (OpenSpec.ofChange s) apart w args) (s.post enc C.prog fn apart fresh handsOn again):=by
 refine returnsInHanded_of_calls own started noInit witness fun w tape i _ hsh _ hok hpre _=> ?_
 obtain ⟨_,_,_,fn',hfn',_,_,_,_,hval⟩:=hok;obtain rfl:fn'=fn:=Av (hfn'.symm.trans hfn);obtain ⟨⟨⟨ds,gs,before,hw,_⟩,hx⟩,_⟩:=hpre;refine (contract (w.forCall tape i) w.heap.size i.args ds gs before hval (DataW.Whole.of_heap (w':=w.forCall tape i) (by rfl) hw) (hX _ _ _ (by rfl) hx) hsh).mono fun e W' ⟨v,he,hp⟩=> ?_
 subst he;exact ChangeSpec.post_blind hp
end
section
open Go.Sort Go.Proofs Go.RowKit Go.Lib
variable {P:Program}
theorem zuG {W:World} {laid:List (String×DataW Unit)} {i3 i4 g3 g4 t5 t119 t138 t139:Nat} {fs:Array Field} (h:laidMet P laid W)
 (e3:laid[i3]? =some ("unicode/utf8.first",firstData)) (e4:laid[i4]? =some ("unicode/utf8.acceptRanges",acceptData))
 (n3:P.globalNamed "unicode/utf8.first" =some g3) (n4:P.globalNamed "unicode/utf8.acceptRanges" =some g4) (y3:(P.globals[g3]?).map (·.type)=some t119) (y4:(P.globals[g4]?).map (·.type)=some t139)
 (u5:P.underlying t5=some (.int .u8)) (u119:P.underlying t119=some (.array 256 t5)) (u138:P.underlying t138=some (.struct fs)) (u139:P.underlying t139=some (.array 16 t138))
 (c5:P.cellsOf t5=1) (c119:P.cellsOf t119=256) (c138:P.cellsOf t138=2) (hs:fs.size=2) (hf:(fs.toList.map fun f=>(f.type,f.offset))=[(t5,0),(t5,1)]):
 (∀c,c<256->W.cell? ⟨g3,c,none⟩=some (.int .u8 (Lib.firstT c)))/\(∀i,i<16->W.cell? ⟨g4,2*i,none⟩=some (.int .u8 (Lib.accLo i))/\W.cell? ⟨g4,2*i+1,none⟩=some (.int .u8 (Lib.accHi i))):=by
 obtain ⟨ps,h1,_⟩:=h;have h3:VarReads P W "unicode/utf8.first" firstData:=zrx h1 i3 e3;have h4:VarReads P W "unicode/utf8.acceptRanges" acceptData:=zrx h1 i4 e4;refine ⟨fun c hc=> ?_,fun i hi=> ?_⟩
 obtain ⟨g,t,cs,fuel,p,hg,hty,hvar,hd⟩:=h3;obtain rfl:=Av (n3.symm.trans hg);obtain rfl:=Av (y3.symm.trans hty);have hcs:=cells_of_tab u119 u5 c5 c119 hd;have:=World.var?_cell hg hvar c;rw [this,<-AT,hcs]
 simp [firstTab,hc]
 obtain ⟨g,t,cs,fuel,p,hg,hty,hvar,hd⟩:=h4;obtain rfl:=Av (n4.symm.trans hg);obtain rfl:=Av (y4.symm.trans hty);obtain ⟨fuel',d,q,hdi,he⟩:=array_elem u139 hd i hi;simp only [Ah,BL hi,AJ,Az] at hdi;subst hdi;rw [c138] at he;have hcs:=ints_of_struct u138 (fun j f hj=>by
  have hq:(fs.toList.map fun f=>(f.type,f.offset))[j]? =some (f.type,f.offset):=by rw [Ah,AT,hj];rfl
  rw [hf] at hq
  match j,hq with
  |0,hq=>simp at hq;exact ⟨by rw [<-hq.1];exact u5,hq.2.symm,by rw [<-hq.1];exact c5⟩
  |1,hq=>simp at hq;exact ⟨by rw [<-hq.1];exact u5,hq.2.symm,by rw [<-hq.1];exact c5⟩
  |j+2,hq=>simp at hq) (by rw [c138,hs]) he
 have a0:=congrArg (·[0]?) hcs;have a1:=congrArg (·[1]?) hcs;simp only [Be,AI] at a0 a1
 constructor
 rw [World.var?_cell hg hvar (2*i),<-AT]
 simpa [BK] using a0
 rw [World.var?_cell hg hvar (2*i+1),<-AT]
 simpa [BK] using a1
theorem zuC [Tracks] {W:World} (hp:P.globalNamed "internal/strconv.uint64pow10" =none)
 (hl: ∀g,P.globalNamed "internal/bytealg.MaxLen" =some g->∃m,W.cell? ⟨g,0,none⟩=some (.int .i64 m))
 (hu: ∀g3 g4,P.globalNamed "unicode/utf8.first" =some g3->P.globalNamed "unicode/utf8.acceptRanges" =some g4->(∀c,c<256->W.cell? ⟨g3,c,none⟩=some (.int .u8 (Lib.firstT c)))/\(∀i,i<16->W.cell? ⟨g4,2*i,none⟩=some (.int .u8 (Lib.accLo i))/\W.cell? ⟨g4,2*i+1,none⟩=some (.int .u8 (Lib.accHi i)))):TabI P (zcx W):=by
 refine ⟨fun g hg=>(by rw [hp] at hg;cases hg),fun g hg=> ?_,fun g3 g4 h3 h4=> ?_⟩
 obtain ⟨m,hm⟩:=hl g hg;unfold World.cell? at hm
 cases hh:W.heap[g]? with
 |none=>rw [hh] at hm;cases hm
 |some o=>
   rw [hh] at hm
   cases o with
   |cells c t fr=>exact ⟨c,t,fr,m,hh,by simpa using hm⟩
   |_=>cases hm
 obtain ⟨u1,u2⟩:=hu g3 g4 h3 h4;have key: ∀(g:Nat) (v:Value),W.cell? ⟨g,0,none⟩=some v->∃c t fr,W.heap[g]? =some (.cells c t fr):=fun g v hv=>by
  unfold World.cell? at hv
  cases hh:W.heap[g]? with
  |none=>rw [hh] at hv;cases hv
  |some o=>
    rw [hh] at hv
    cases o with
    |cells c t fr=>exact ⟨c,t,fr,rfl⟩
    |_=>cases hv
 obtain ⟨c3,t3,f3,x3⟩:=key g3 _ (u1 0 (by omega));obtain ⟨c4,t4,f4,x4⟩:=key g4 _ (u2 0 (by omega)).1;refine ⟨c3,t3,f3,c4,t4,f4,x3,x4,fun k hk=> ?_,fun i hi=> ?_⟩
 rw [<-zcg x3];exact u1 k hk;exact ⟨by rw [<-zcg x4];exact (u2 i hi).1,by rw [<-zcg x4];exact (u2 i hi).2⟩
end
end Go.HL
