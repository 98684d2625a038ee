/- Part 5 of the proof: a program logic, contracts of functions and plain facts; no conditions. -/
import Derived.Test.YtpgopgjleokciaaGreatDoorQTopPointsAndMissed4
set_option linter.unusedVariables false
set_option linter.unusedSimpArgs false
set_option maxHeartbeats 16000000
namespace Go.Proofs.YtpgopgjleokciaaGreatDoor
set_option maxRecDepth 100000
set_option linter.unusedVariables false
set_option linter.unusedSimpArgs false
section
open Go.Proofs.Tryz
open Go.HL
theorem zkc [Tracks] {b:BookS} {w:Int} (hs: -1000000000000000<=b.League.Start/\b.League.Start<=1000000000000000) (hw: -1000<=w/\w<=1000):ConP prog 56 [.vptr (zwS b) 0,.int .i64 w] (.int .i64 (zbr b.League w)):=by
 refine uOb func56 ntmps56 ?_;refine zaw ?_;refine dq (zby rfl rfl uO uO) ?_;refine gz4 ?_;refine zw rfl ?_
 rfl
theorem zi2 [Tracks] {S:List SlotS} {l:List ScorerS} {f:List FillS} (hz:zdn S=0) (hS0:S.length<=1000000) (hsp: ∀x∈S,x.Positions.length<=1000000) (hsc:zhq l=0) (hl:l.length<=1000000) (hb:(∀x∈l,(-1000000000000000<=x.Num/\x.Num<=1000000000000000)/\ -1000000000<=x.Den/\x.Den<=1000000000)) (hf:FillOk l S S.length f):ConP prog 66 [zbt S,zaS l,zgV f] (.int .i64 0):=by
 have hS:=zoO hsc;have hfl:=hf.len;have hlp: ∀x∈l,x.Positions.length<=1000000:=fun x hx=>Aq (hS.po x hx) (by decide)
 refine uOb func66 ntmps66 ?_;refine gz6 ?_;refine dq (uCl zzB rfl (zf2 (l:=S) hS0 hsp)) ?_;refine gz1 ?_;refine dq (uCl zzC rfl (zfc (l:=l) hl hlp hb)) ?_;refine dq (za (hs:=[_,_]) zd9 zgp rfl rfl (by decide) (by decide) rfl) ?_;refine dq (uCl zkf rfl (zb0 (l:=[_,_]) (by simp))) ?_;refine gz6 ?_;refine zZ rfl (fun h1=> ?_) (fun h1=> ?_)
 exfalso
 try simp at h1
 simp [orI,hz,hsc] at h1
 try simp at h1
 refine zaw ?_;refine zZ rfl (fun h2=> ?_) (fun h2=> ?_)
 exfalso
 try simp at h2
 omega
 try simp at h2
 refine gz9 ?_;refine uT1 [6,1,8,3,27,44] (fun k=>[(27,.int .i64 k)]) (fun k=>[]) (fun k=>k<=f.length/\(True)) (fun k=>f.length-k) (0) ?_ ?_;exact ⟨Ad _,trivial⟩;rintro k ⟨hk,-⟩;refine gz4 ?_;refine uCo (fun h3=> ?_) fun h4=> ?_
 obtain ⟨x,hx⟩: ∃x,f[k]? =some x:=⟨_,Aa h3⟩
 have hdx:=zk hx;have hx0:=hx;have hxl:=zp hx;refine gz8 ?_;refine de rfl (zj zc1 rfl fun b9=> ?_)
 refine gz1 ?_;refine de0 (zn zc1 rfl rfl rfl rfl rfl ?_)
 refine gz1 ?_;refine ze (zm 9 rfl) ?_;refine gz1 ?_;refine uDr mixed ?_;refine gz4 ?_;refine uB 4 rfl (zA (f:=zbA) (l:=S) (j:=k) (a:=S.getD k zbZ) zcl zcF rfl rfl rfl (getD_some uO)) ?_;refine gz4 ?_;refine zZ rfl (fun h5=> ?_) (fun h5=> ?_)
 exfalso
 try simp at h5
 have q:=hf.key k x hx0;simp_all
 try simp at h5
 refine gz8 ?_;refine uCo (fun h6=> ?_) fun h7=> ?_
 refine gz8 ?_;refine ⟨k+1,?_,?_,⟨rfl,trivial⟩,uK,Ac _⟩
 exact ⟨by omega,trivial⟩
 dsimp only;omega
 refine gz2 ?_;obtain ⟨hno,y,hy,hcm⟩:=hf.who k x hx0 (by assumption);obtain ⟨hc1,hc2⟩:=zrh hS.so hy;have hfn:zfP (l.map (·.Player)) x.Player=((zbU (l.map (·.Player)) x.Player:Nat):Int):=by unfold zfP;rw [if_pos hc1]
 refine gz4 ?_;refine dq (zS (h':= .int .i64 ((zbU (l.map (·.Player)) x.Player:Nat):Int)) (uCl ca85 rfl (zn2 (l:=l) (s:=x.Player) hl hS.so)) (by rw [hfn])) ?_;refine gz8 ?_;refine zZ rfl (fun h8=> ?_) (fun h8=> ?_)
 exfalso
 try simp at h8
 omega
 try simp at h8
 refine uDr mixed ?_;refine gz2 ?_;refine uB 2 rfl (zaP zij zc1 rfl rfl ⟨_,_,rfl,rfl⟩ uO uO) ?_;refine gz2 ?_;refine uB 5 rfl (uCl zBk rfl (zn3 (f:=f.take k) (s:=x.Player) (by rw [Az];omega))) ?_;refine gz2 ?_;refine zZ rfl (fun h9=> ?_) (fun h9=> ?_)
 exfalso
 try simp at h9
 obtain ⟨z,hz1,hz2⟩:=h9;have q:=List.any_eq_false.1 hno z hz1
 simp [hz2] at q
 try simp at h9
 refine uDr mixed ?_;refine gz2 ?_;refine uB 2 rfl (zA (f:=zbs) (l:=l) (j:=zbU (l.map (·.Player)) x.Player) (a:=y) zcn zch rfl rfl rfl hc2) ?_;refine gz1 ?_;refine uB 4 rfl (zO (h:=eSs y.Positions) zq rfl rfl rfl) ?_;refine gz2 ?_;refine uB 7 rfl (zA (f:=zbA) (l:=S) (j:=k) (a:=S.getD k zbZ) zcl zcF rfl rfl rfl (getD_some uO)) ?_;refine gz1 ?_;refine uB 9 rfl (zO (h:=eSs (S.getD k zbZ).Positions) zq rfl rfl rfl) ?_;refine uB 10 rfl (uCl ztz rfl (zg0 (a:=y.Positions) (b:=(S.getD k zbZ).Positions) (hlp y (zmb hy).1) (hsp _ (Ab (getD_some (d:=zbZ) uO))))) ?_;refine gz3 ?_;refine zZ rfl (fun h10=> ?_) (fun h10=> ?_)
 exfalso
 try simp at h10
 simp_all
 try simp at h10
 refine gz8 ?_;refine ⟨k+1,?_,?_,⟨rfl,trivial⟩,uK,Ac _⟩
 exact ⟨by omega,trivial⟩
 dsimp only;omega
 have hnk:f.length<=k:=by omega
 obtain rfl:k=f.length:=by omega
 refine gz2 ?_;refine zv ?_;refine gz6 ?_;refine zw rfl ?_
 rfl
theorem ziL [Tracks] {S:List SlotS} {l:List ScorerS} {f:List FillS} {c:Str} (hS:ScoOk l) (hf:FillOk l S S.length f) (hS12:S.length<=12) (hl:l.length<=1000000):ConP prog 31 [zaS l,zgV f,.str c] (.int .i64 (sfL l f c)):=by
 have hfl:=hf.len;refine uOb func31 ntmps31 ?_;refine zee ?_;refine uT1 [7,1,9,2,13,26] (fun k=>[(13,.int .i64 k),(7,.int .i64 (sfL l (f.take k) c))]) (fun k=>[]) (fun k=>k<=f.length/\(True)) (fun k=>f.length-k) (0) ?_ ?_;exact ⟨Ad _,trivial⟩;rintro k ⟨hk,-⟩;refine gz4 ?_;refine uCo (fun h1=> ?_) fun h2=> ?_
 obtain ⟨x,hx⟩: ∃x,f[k]? =some x:=⟨_,Aa h1⟩
 have hdx:=zk hx;have hx0:=hx;refine gz7 ?_;refine de rfl (zj zc1 rfl fun b9=> ?_)
 refine de0 (zn zc1 rfl rfl rfl rfl rfl ?_)
 refine gz1 ?_;refine ze (zm 9 rfl) ?_;refine gz6 ?_;refine uCo (fun h3=> ?_) fun h4=> ?_
 refine gz8 ?_;exact ⟨k+1,⟨by omega,trivial⟩,uD,⟨rfl,by rw [zsa hx0,zlJ,if_pos (by assumption),Int.add_zero];rfl,trivial⟩,uK,Ac _⟩;refine gz2 ?_;obtain ⟨hno,y,hy,hcm⟩:=hf.who k x hx0 (by assumption);obtain ⟨hc1,hc2⟩:=zrh hS.so hy;have hfn:zfP (l.map (·.Player)) x.Player=((zbU (l.map (·.Player)) x.Player:Nat):Int):=by unfold zfP;rw [if_pos hc1]
 have hb2:=hS.w y (zmb hy).1;have hb1:=zk1 hS (f:=f) uO c k;have hho:zmS l x.Player=zeC y.Num y.Den:=by unfold zmS;rw [hy];rfl
 refine gz5 ?_;refine dq (zS (h':= .int .i64 ((zbU (l.map (·.Player)) x.Player:Nat):Int)) (uCl ca85 rfl (zn2 (l:=l) (s:=x.Player) hl hS.so)) (by rw [hfn])) ?_;refine dq (zA (f:=zbs) (l:=l) (j:=zbU (l.map (·.Player)) x.Player) (a:=y) zcn zch rfl rfl rfl hc2) ?_;refine gz1 ?_;refine dq (zS (h':= .agg [.int .i64 y.Num,.int .i64 y.Den]) (za0 zU rfl rfl (Ap rfl)) rfl) ?_;refine dq (uCl zzH rfl (zgH (n:=y.Num) (d:=y.Den) (hS.dn y (zmb hy).1) uO)) ?_;refine gz9 ?_;refine uCo (fun h5=> ?_) fun h6=> ?_
 refine gz2 ?_;refine dq (zby rfl rfl uO uO) ?_;refine zh1 ?_;exact ⟨k+1,⟨by omega,trivial⟩,uD,⟨rfl,by rw [zsa hx0,zlJ,if_neg (by assumption),if_pos (by assumption),hho];rfl,trivial⟩,uK,Ac _⟩;refine zdu ?_;exact ⟨k+1,⟨by omega,trivial⟩,uD,⟨rfl,by rw [zsa hx0,zlJ,if_neg (by assumption),if_neg (by assumption),hho];rfl,trivial⟩,uK,Ac _⟩;have hnk:f.length<=k:=by omega
 obtain rfl:k=f.length:=by omega
 rw [Ak];refine gz2 ?_;refine zv ?_;refine gz7 ?_;refine zw rfl ?_
 rfl
theorem zvD [Tracks] {S:List SlotS} {l:List ScorerS} {f:List FillS} {c:Str} (hz:zdn S=0) (hS0:S.length<=1000000) (hsp: ∀x∈S,x.Positions.length<=1000000) (hsc:zhq l=0) (hl:l.length<=1000000) (hb:(∀x∈l,(-1000000000000000<=x.Num/\x.Num<=1000000000000000)/\ -1000000000<=x.Den/\x.Den<=1000000000)) (hf:FillOk l S S.length f) (hS12:S.length<=12) (hc:c≠[]->f.any (fun x=>x.Player==c)=true):ConP prog 61 [zbt S,zaS l,zgV f,.str c] (.tup [zdB (ofH (sfL l f c)),.int .i64 0]):=by
 have hS:=zoO hsc;have hfl:=hf.len;have hbd:=zk1 hS (f:=f) uO c f.length;rw [Ak] at hbd;refine zaC func61 rfl ntmps61 rfl rfl ?_;refine gz1 ?_;refine de rfl (zj zU rfl fun b8=> ?_)
 refine gz7 ?_;refine dq (uCl ca66 rfl (zi2 (S:=S) (l:=l) (f:=f) hz hS0 hsp hsc hl hb hf)) ?_;refine gz6 ?_;refine zZ rfl (fun h1=> ?_) (fun h1=> ?_)
 ·exfalso
  try simp at h1
  done
 ·try simp at h1
  refine gz9 ?_;refine uGr rfl (fun hc=>by have hq:=hc;(try simp at hq);exact uCl zBk rfl (zn3 (f:=f) (s:=c) uO)) ?_;refine gz3 ?_;refine zZ rfl (fun h2=> ?_) (fun h2=> ?_)
  ·exfalso
   try simp at h2
   obtain ⟨q1,q2⟩:=h2;obtain ⟨z,hz1,hz2⟩:=List.any_eq_true.1 (hc q1);exact q2 z hz1 (by simpa using hz2)
  ·try simp at h2
   refine gz6 ?_;refine dq (uCl zw5 rfl (ziL (S:=S) (l:=l) (f:=f) (c:=c) hS hf hS12 hl)) ?_;refine dq (uCl zw4 rfl (zd5 (n:=sfL l f c) uO)) ?_;refine de0 (zn (h:=zdB (ofH (sfL l f c))) zU rfl rfl rfl rfl rfl ?_)
   refine gz3 ?_;exact ⟨_,_,zm 8 rfl,[_,_],_,⟨⟨_,_,_,_,_,rfl,zU,.inr ⟨rfl,rfl,rfl⟩⟩,⟨rfl,trivial⟩⟩,Weak.refl _,rfl,rfl⟩
theorem znu [Tracks] {b:BookS} {n w:Int} (hT:Tracks.on=false) (hb:BookC b) (hX:BookX b) (hwk:zaQ w=true) (hnm:zaa n=true):ConP prog 54 [zhW b n,.int .i64 w] (.tup [zfs (wlL b w n),.int .i64 (wlE b w n)]):=by
 have hla:=hb.bb.lea;have hok:=ziO hX.pl;have hpl:=hb.l2;have hmd:=hb.l3;have hom:=zoE (week:=w) hX.me;have hol:=zkr b.Mends w;have h40:=zp1 (l:=b.Plays) (t:=b.League.Trust) (m:=zgm b.Mends w) (week:=w) (n:=n) hok hpl uO;obtain ⟨hsl,hsn⟩:=zkp (t:=b.League.Trust) (week:=w) (n:=n) hok hpl;obtain ⟨hk1,hk2,hk3⟩:=zp0 (t:=b.League.Trust) (m:=zgm b.Mends w) (week:=w) (n:=n) hok hpl uO hwk hom;have hwl:(wlL b w n).length<=40:=hk2;refine uOb func54 ntmps54 ?_;refine gz5 ?_;refine uDr mixed ?_;refine uB 0 rfl ((by first|exact zi zc8 rfl zcQ (by decide) rfl|exact zf zc8 rfl zcQ (by decide) rfl)) ?_;refine uB 1 rfl (zO (h:= .vptr (zd (zcg b)) 0) zcQ rfl rfl rfl) ?_;refine uB 2 rfl ((by first|exact zu rfl|exact zl rfl)) ?_;refine uB 3 rfl ((by first|exact zi zbM rfl zht (by decide) rfl|exact zf zbM rfl zht (by decide) rfl)) ?_;refine uB 4 rfl (zO (h:=zbE b.Plays) zht rfl rfl rfl) ?_;refine uB 5 rfl ((by first|exact zi zc8 rfl zcQ (by decide) rfl|exact zf zc8 rfl zcQ (by decide) rfl)) ?_;refine uB 6 rfl (zO (h:= .vptr (zd (zcg b)) 0) zcQ rfl rfl rfl) ?_;refine uB 7 rfl ((by first|exact zu rfl|exact zl rfl)) ?_;refine uB 8 rfl ((by first|exact zi zbM rfl zbi (by decide) rfl|exact zf zbM rfl zbi (by decide) rfl)) ?_;refine uB 9 rfl ((by first|exact zi zbi rfl zq (by decide) rfl|exact zf zbi rfl zq (by decide) rfl)) ?_;refine uB 10 rfl (zO (h:=eSs b.League.Trust) zq rfl rfl rfl) ?_;refine gz1 ?_;refine uB 12 rfl ((by first|exact zi zc8 rfl ty3 (by decide) rfl|exact zf zc8 rfl ty3 (by decide) rfl)) ?_;refine gz1 ?_;refine uB 14 rfl (zS (h':= .tup [zfs (zd1 b.Plays b.League.Trust w n),.int .i64 (wlE b w n)]) (uCl ca22 rfl (zn0 (l:=b.Plays) (trust:=b.League.Trust) (week:=w) (n:=n) hT uO hla.tr)) (by rw [(zuO hX.pl hX.tr hwk hnm).1,(zuO hX.pl hX.tr hwk hnm).2])) ?_;refine zct ?_;refine uCo (fun h1=> ?_) fun h2=> ?_
 refine gz6 ?_
 focus first
 |exact zcA rfl (zai (by rw [wlL,knL,if_pos (by simpa using h1)];exact z7 3) (Weak.refl _))
 |exact zw rfl rfl
 refine gz5 ?_;refine ze (zL 7) ?_;refine gz2 ?_;refine dq ((by first|exact zi zc8 rfl zcQ (by decide) rfl|exact zf zc8 rfl zcQ (by decide) rfl)) ?_;refine dq (zO (h:= .vptr (zd (zcg b)) 0) zcQ rfl rfl rfl) ?_;refine dq ((by first|exact zu rfl|exact zl rfl)) ?_;refine dq ((by first|exact zi zbM rfl zgO (by decide) rfl|exact zf zbM rfl zgO (by decide) rfl)) ?_;refine dq (zO (h:=zca b.Mends) zgO rfl rfl rfl) ?_;refine dq (zax (f:=zbY) (l:=b.Mends) zgO rfl) ?_;refine gz3 ?_;refine uV2 [8,1,10,1,38,13] (fun (k:Nat) (u:Value)=>[(38,.int .i64 k),(8,.raw u)]) (fun (k:Nat) (u:Value)=>[.arr u 7 ((zgm (b.Mends.take k) w).map zbY)]) (fun (k:Nat) (u:Value)=>k<=b.Mends.length/\(True)) (fun (k:Nat) (u:Value)=>b.Mends.length-k) (0) (.slice none 0 0) ?_ ?_ ?_ ?_;exact ⟨Ad _,trivial⟩;exact ⟨rfl,rfl,trivial⟩;exact zo rfl
 intro k u hinv
 obtain ⟨hk,-⟩:=hinv;refine gz4 ?_;refine uCo (fun h3=> ?_) fun h4=> ?_
 obtain ⟨x,hx⟩: ∃x,b.Mends[k]? =some x:=⟨_,Aa h3⟩
 have hdx:=zk hx;refine gz5 ?_;refine dq (zA (f:=zbY) (l:=b.Mends) (j:=k) (a:=x) zgO zbq rfl rfl rfl hx) ?_;refine gz1 ?_;refine de rfl (zj zbq rfl fun b10=> ?_)
 refine de0 (zn zbq rfl rfl rfl rfl rfl ?_)
 refine gz1 ?_;refine ze (zm 10 rfl) ?_;refine gz1 ?_;refine dq ((by first|exact zi zbq rfl ty3 (by decide) rfl|exact zf zbq rfl ty3 (by decide) rfl)) ?_;refine gz4 ?_;refine uCo (fun h5=> ?_) fun h6=> ?_
 refine gz2 ?_;refine dq (zaL (h:=zbY x) zbq rfl rfl rfl rfl) ?_;refine dq (za (hs:=[_]) zgO zbq rfl rfl (by decide) (by decide) rfl) ?_;refine de rfl (zI (i:=0) zgO zbq rfl rfl rfl rfl rfl (by simp [zaq,zd]) (by have:=ztr b.Mends w k;simp only [Ah,Ai,AC];omega) fun v49=> ?_)
 refine gz8 ?_;exact ⟨k+1,v49,⟨by omega,trivial⟩,uD,⟨rfl,rfl,trivial⟩,uK,zo (by dsimp only;rw [zAv hx (by assumption),Ay];rfl)⟩;refine gz7 ?_;exact ⟨k+1,u,⟨by omega,trivial⟩,uD,⟨rfl,rfl,trivial⟩,uK,zo (by dsimp only;rw [zCV hx (by assumption)])⟩;have hnk:b.Mends.length<=k:=by omega
 obtain rfl:k=b.Mends.length:=by omega
 rw [Ak];refine gz2 ?_;refine zN ?_;refine gz2 ?_;refine ze (zaR 8 (i:=0) rfl rfl) ?_;have hz:wlE b w n=0:=by simpa using h2
 refine gz3 ?_;refine dq ((by first|exact zi zc8 rfl ty3 (by decide) rfl|exact zf zc8 rfl ty3 (by decide) rfl)) ?_;refine gz1 ?_;refine dq (zS (h':= .tup [zfs (wlL b w n),.int .i64 (wlE b w n)]) (uCl zEB rfl (zte (l:=(zd1 b.Plays b.League.Trust w n)) (m:=zgm b.Mends w) (n:=n) uO uO (fun x hx=>Aq (hsn x hx).1 (by decide)) (fun _=>h40))) (by rw [hz,(zsK (zlA hok hpl hwk hz) hom hnm).1,(zsK (zlA hok hpl hwk hz) hom hnm).2,wlL,knL,if_neg (fun q=>q hz)])) ?_;refine gz6 ?_
 focus first
 |exact zcA rfl (zai (by rw [wlL,knL,if_pos (by simpa using h1)];exact z7 3) (Weak.refl _))
 |exact zw rfl rfl
theorem zkE [Tracks] {x:LineS} {s:Str}:ConP prog 59 [zbQ x,.vptr [.str s] 0] (.bool (x.Player==s)):=by
 refine uOb func59 ntmps59 ?_;refine zdl ?_;refine zw rfl ?_
 rfl
theorem zhB [Tracks] {b:BookS} {n w:Int} {t:Str} (hT:Tracks.on=false) (hb:BookC b) (hX:BookX b) (hwk:zaQ w=true) (hnm:zaa n=true) (htm:b.League.Teams.contains t=true):ConP prog 18 [zhW b n,.str t,.int .i64 w] (.tup [zaS (znF b t w n),.int .i64 (wlE b w n)]):=by
 have hla:=hb.bb.lea;have hok:=ziO hX.pl;have hpl:=hb.l2;have hmd:=hb.l3;have hom:=zoE (week:=w) hX.me;have hol:=zkr b.Mends w;have h40:=zp1 (l:=b.Plays) (t:=b.League.Trust) (m:=zgm b.Mends w) (week:=w) (n:=n) hok hpl uO;obtain ⟨hsl,hsn⟩:=zkp (t:=b.League.Trust) (week:=w) (n:=n) hok hpl;obtain ⟨hk1,hk2,hk3⟩:=zp0 (t:=b.League.Trust) (m:=zgm b.Mends w) (week:=w) (n:=n) hok hpl uO hwk hom;have hwl:(wlL b w n).length<=40:=hk2;obtain ⟨hbm,hb0,hb1,hb2,hb3⟩:=zyc hX hwk;have hW:=hX.w;have hwr:1<=w/\w<=60:=by unfold zaQ out at hwk;simp at hwk;omega
 have hok2:=zjT (b:=b.League.Bounds) (n:=zbr b.League w) hW.f.mo;have hown:(zeg b t w).length<=1000000:=by
  have q:=(hok2.p t).2
  show (rPl (zfU b.League.Bounds b.Moves (zbr b.League w)) t).length<=1000000
  omega
 have hask:zk9 b.League.Bounds b.Moves t (zbr b.League w)=0:=by
  unfold zk9;rw [if_neg (by simp [orI,hW.f.bo,hW.f.mo]),if_neg (by rw [hW.tm t htm];simp),if_neg (by rw [hbm];simp)]
 refine uOb func18 ntmps18 ?_;refine gz6 ?_;refine dq (zaL (h:=zhW b n) zc8 rfl rfl rfl rfl) ?_;refine gz1 ?_;refine dq (uCl ca54 rfl (znu (b:=b) (n:=n) (w:=w) hT hb hX hwk hnm)) ?_;refine zct ?_;refine uCo (fun h1=> ?_) fun h2=> ?_
 ·refine gz6 ?_
  first
  |exact zcA rfl (zai (by rw [znF,if_pos (by simpa using h1)];exact z7 5) (Weak.refl _))
  | (refine zav (zaR 6 (i:=0) rfl rfl) rfl ⟨?_,rfl⟩
     rw [znF,if_neg (fun q=>q hz),hz]
     rfl)
 ·refine gz2 ?_;refine uDr mixed ?_;refine uB 0 rfl ((by first|exact zi zc8 rfl zcQ (by decide) rfl|exact zf zc8 rfl zcQ (by decide) rfl)) ?_;refine uB 1 rfl (zO (h:= .vptr (zd (zcg b)) 0) zcQ rfl rfl rfl) ?_;refine uB 2 rfl ((by first|exact zu rfl|exact zl rfl)) ?_;refine uB 3 rfl ((by first|exact zi zbM rfl zbi (by decide) rfl|exact zf zbM rfl zbi (by decide) rfl)) ?_;refine uB 4 rfl ((by first|exact zi zbi rfl zjn (by decide) rfl|exact zf zbi rfl zjn (by decide) rfl)) ?_;refine uB 5 rfl (zS (h':=zgc b.League.Bounds) (za0 zjn rfl rfl (Ap rfl)) rfl) ?_;refine uB 6 rfl ((by first|exact zi zc8 rfl zcQ (by decide) rfl|exact zf zc8 rfl zcQ (by decide) rfl)) ?_;refine uB 7 rfl (zO (h:= .vptr (zd (zcg b)) 0) zcQ rfl rfl rfl) ?_;refine uB 8 rfl ((by first|exact zu rfl|exact zl rfl)) ?_;refine uB 9 rfl ((by first|exact zi zbM rfl zb9 (by decide) rfl|exact zf zbM rfl zb9 (by decide) rfl)) ?_;refine uB 10 rfl (zO (h:=zck b.Moves) zb9 rfl rfl rfl) ?_;refine gz1 ?_;refine uB 12 rfl ((by first|exact zi zc8 rfl zcQ (by decide) rfl|exact zf zc8 rfl zcQ (by decide) rfl)) ?_;refine uB 13 rfl (zO (h:= .vptr (zd (zcg b)) 0) zcQ rfl rfl rfl) ?_;refine uB 14 rfl ((by first|exact zu rfl|exact zl rfl)) ?_;refine uB 15 rfl ((by first|exact zi zbM rfl zbi (by decide) rfl|exact zf zbM rfl zbi (by decide) rfl)) ?_;refine gz1 ?_;refine uB 17 rfl (uCl ca56 rfl (zkc (b:=b) hla.sta uO)) ?_;refine uB 18 rfl (uCl ca55 rfl (zvB (b:=b.League.Bounds) (l:=b.Moves) (t:=t) (n:=zbr b.League w) hb.bb.mv hask)) ?_;refine gz3 ?_;refine uF 22 ?_;refine zt rfl (zj zii rfl fun b10=> ?_)
  refine ⟨uE,?_⟩
  refine uF 23 ?_;refine zz (zn zii rfl rfl rfl rfl rfl ?_)
  refine ⟨uE,?_⟩
  refine gz2 ?_;refine ze (zm 10 rfl) ?_;have hz:wlE b w n=0:=by simpa using h2
  refine gz3 ?_;refine ze (zL 5) ?_;refine gz2 ?_;refine dq ((by first|exact zi zii rfl zq (by decide) rfl|exact zf zii rfl zq (by decide) rfl)) ?_;refine dq (zO (h:=eSs (zeg b t w)) zq rfl rfl rfl) ?_;refine dq (zax (f:=HVal.str) (l:=(zeg b t w)) zq rfl) ?_;refine gz3 ?_;refine uV2 [6,2,9,1,12,1,14,4,52,50] (fun (k:Nat) (u:Value)=>[(52,.int .i64 k),(12,.raw u)]) (fun (k:Nat) (u:Value)=>[.arr u 5 ((zkv b.League (wlL b w n) ((zeg b t w).take k)).map zbs)]) (fun (k:Nat) (u:Value)=>k<=(zeg b t w).length/\(True)) (fun (k:Nat) (u:Value)=>(zeg b t w).length-k) (0) (.slice none 0 0) ?_ ?_ ?_ ?_
  ·exact ⟨Ad _,trivial⟩
  ·exact ⟨rfl,rfl,trivial⟩
  ·exact zo rfl
  ·intro k u hinv
   obtain ⟨hk,-⟩:=hinv;refine gz4 ?_;refine uCo (fun h3=> ?_) fun h4=> ?_
   ·obtain ⟨s,hs⟩: ∃s,(zeg b t w)[k]? =some s:=⟨_,Aa h3⟩
    have hds:=zk hs;refine gz5 ?_;refine dq (zA (f:=HVal.str) (l:=(zeg b t w)) (j:=k) (a:=s) zq ty9 rfl rfl rfl hs) ?_;refine gz1 ?_;refine de rfl (zj ty9 rfl fun b14=> ?_)
    refine de0 (zn ty9 rfl rfl rfl rfl rfl ?_)
    refine gz1 ?_;refine ze (zm 14 rfl) ?_;refine gz1 ?_;refine dq (zaL (h:=zhW b n) zc8 rfl rfl rfl rfl) ?_;refine gz1 ?_;refine dq (uCl ca57 rfl (znW (b:=b) (n:=n) (s:=s) hla.pl hW.so)) ?_;refine gz5 ?_;refine dq (zxL (o:=(plO b.League.Players s).map fun p=>zd (zeT p)) zGM rfl rfl) ?_;refine gz1 ?_;refine uCo (fun h5=> ?_) fun h6=> ?_
    ·refine gz8 ?_;exact ⟨k+1,u,⟨by omega,trivial⟩,uD,⟨rfl,rfl,trivial⟩,uK,zo (by dsimp only;rw [zp6 hs,zvi uSa];simp)⟩
    ·refine gz2 ?_;obtain ⟨p,hp⟩:=zD3 (L:=b.League.Players) (s:=s) (by assumption);have hpm:=Bg hp;rw [hp];refine uVj [16,1,61,8] (fun (b16:Nat)=>[(16,pAt b16)]) (fun (b16:Nat)=>[.cells b16 [.str s,eSs p.Positions,.int .i64 0,.int .i64 1,.bool false],.arr u 5 ((zkv b.League (wlL b w n) ((zeg b t w).take k)).map zbs)]) (fun (b16:Nat)=>True) ?_ ?_
     ·skip
      refine zhu mixed ?_;refine gz2 ?_;refine uB 2 rfl ((by first|exact zu rfl|exact zl rfl)) ?_;refine uB 3 rfl ((by first|exact zi zeO rfl zq (by decide) rfl|exact zf zeO rfl zq (by decide) rfl)) ?_;refine uB 4 rfl (zO (h:=eSs p.Positions) zq rfl rfl rfl) ?_;refine uB 6 rfl (zB (cs:=[_,_]) zU zid rfl) ?_;refine zis 5 8 rfl rfl (by kernel_rfl) ?_ ?_
      ·skip
       refine zt rfl (zqc (uCa zkg rfl (zab (l:=p.Positions) (hla.po p hpm)) fun v=>⟨v,rfl,rfl⟩) ?_)
       refine ⟨uE,?_⟩
       refine uB 7 rfl (zB (cs:=[_,_,_,_,_]) zch zBV rfl) ?_;refine uF 8 ?_;refine zt rfl (zj zch rfl fun b16=> ?_)
       refine ⟨uE,?_⟩
       refine uF 9 ?_
       first
       |refine zz (uY 0 ?_)
       |refine zz (uY 1 ?_)
       |refine zz (uY 2 ?_)
       |refine zz (uY 3 ?_)
       refine ⟨uE,?_⟩
       refine uAz ?_;refine ⟨b16,?_,⟨rfl,trivial⟩,uK,zo rfl⟩
       ·trivial
      ·skip
       refine zt rfl (zj zch rfl fun b16=> ?_)
       refine ⟨uE,?_⟩
       refine uF 5 ?_;refine zt rfl (zqc (uCa zkg rfl (zab (l:=p.Positions) (hla.po p hpm)) fun v=>⟨v,rfl,rfl⟩) ?_)
       refine ⟨uE,?_⟩
       refine uB 7 rfl (zB (cs:=[_,_,_,_,_]) zch zBV rfl) ?_;refine uF 9 ?_
       first
       |refine zz (uY 0 ?_)
       |refine zz (uY 1 ?_)
       |refine zz (uY 2 ?_)
       |refine zz (uY 3 ?_)
       refine ⟨uE,?_⟩
       refine uAz ?_;refine ⟨b16,?_,⟨rfl,trivial⟩,uK,zo rfl⟩
       ·trivial
     ·intro b16 _
      refine gz1 ?_;obtain ⟨sc,hsc⟩:=zD7 (L:=wlL b w n) hp;refine gz3 ?_;refine dq (uCl ca58 rfl (zf7 (l:=wlL b w n) (p:=fun x=>x.Player==s) ca59 (fun _=>zkE) uO)) ?_;refine gz6 ?_;refine uCo (fun h7=> ?_) fun h8=> ?_
      ·obtain ⟨i0,x0,e1,e2,e3⟩:=zsy (p:=fun x:LineS=>x.Player==s) (l:=wlL b w n) (by assumption);rw [e1];refine gz2 ?_
       first
       |refine de0 (uY 0 ?_)
       |refine de0 (uY 1 ?_)
       |refine de0 (uY 2 ?_)
       |refine de0 (uY 3 ?_)
       refine gz1 ?_;refine uDr mixed ?_;refine uB 0 rfl ((by first|exact zi zc8 rfl zcQ (by decide) rfl|exact zf zc8 rfl zcQ (by decide) rfl)) ?_;refine uB 1 rfl (zO (h:= .vptr (zd (zcg b)) 0) zcQ rfl rfl rfl) ?_;refine uB 2 rfl ((by first|exact zu rfl|exact zl rfl)) ?_;refine uB 3 rfl ((by first|exact zi zbM rfl zbi (by decide) rfl|exact zf zbM rfl zbi (by decide) rfl)) ?_;refine uB 4 rfl ((by first|exact zi zbi rfl zoR (by decide) rfl|exact zf zbi rfl zoR (by decide) rfl)) ?_;refine uB 5 rfl (zO (h:=zgd b.League.Rules) zoR rfl rfl rfl) ?_;refine gz1 ?_;refine uB 7 rfl ((by first|exact zu rfl|exact zl rfl)) ?_;refine uB 8 rfl ((by first|exact zi zeO rfl zq (by decide) rfl|exact zf zeO rfl zq (by decide) rfl)) ?_;refine uB 9 rfl (zO (h:=eSs p.Positions) zq rfl rfl rfl) ?_;refine gz2 ?_;refine uB 12 rfl (zA (f:=zbQ) (l:=wlL b w n) (j:=i0) (a:=x0) znc zcY rfl rfl rfl e2) ?_;refine uB 13 rfl (zaL (h:=zbQ x0) zcY rfl rfl rfl rfl) ?_;refine uB 14 rfl (uCl ca60 rfl (zrB (R:=b.League.Rules) (pos:=p.Positions) (x:=x0) hla.ru hla.rw' hX.ru (hX.po p hpm) (zwi hk1 (Ab e2)))) ?_;refine gz4 ?_;refine uF 19 ?_
       first
       |refine zz (uY 0 ?_)
       |refine zz (uY 1 ?_)
       |refine zz (uY 2 ?_)
       |refine zz (uY 3 ?_)
       refine ⟨uE,?_⟩
       refine gz6 ?_;refine zZ rfl (fun h9=> ?_) (fun h9=> ?_)
       ·exfalso
        try simp at h9
        done
       ·try simp at h9
        refine gz2 ?_;refine ze (Ghost.perm (M':=[.cells b16 (zd (zbs sc)),.arr u 5 ((zkv b.League (wlL b w n) ((zeg b t w).take k)).map zbs)]) (zo (by first|(rw [zmd hp e3] at hsc;cases hsc;rfl)|(rw [zmc hp (zot uO)] at hsc;cases hsc;rfl)))) ?_;refine ze (zbb 16 (i:=0) rfl rfl) ?_;refine gz2 ?_;refine dq (zaL (h:=zbs sc) zch rfl rfl rfl rfl) ?_;refine dq (za (hs:=[_]) zcn zch rfl rfl (by decide) (by decide) rfl) ?_;refine de rfl (zI (i:=0) zcn zch rfl rfl rfl rfl rfl (by simp [zaq,zd]) (by have:=zjU b.League (wlL b w n) ((zeg b t w).take k);simp only [Ah,Ai,AC,Az] at*;omega) fun v100=> ?_)
        refine gz8 ?_;exact ⟨k+1,v100,⟨by omega,trivial⟩,uD,⟨rfl,rfl,trivial⟩,uK,zo (by dsimp only;rw [zp6 hs,hsc];simp)⟩
      ·refine gz2 ?_;refine ze (Ghost.perm (M':=[.cells b16 (zd (zbs sc)),.arr u 5 ((zkv b.League (wlL b w n) ((zeg b t w).take k)).map zbs)]) (zo (by first|(rw [zmd hp e3] at hsc;cases hsc;rfl)|(rw [zmc hp (zot uO)] at hsc;cases hsc;rfl)))) ?_;refine ze (zbb 16 (i:=0) rfl rfl) ?_;refine gz2 ?_;refine dq (zaL (h:=zbs sc) zch rfl rfl rfl rfl) ?_;refine dq (za (hs:=[_]) zcn zch rfl rfl (by decide) (by decide) rfl) ?_;refine de rfl (zI (i:=0) zcn zch rfl rfl rfl rfl rfl (by simp [zaq,zd]) (by have:=zjU b.League (wlL b w n) ((zeg b t w).take k);simp only [Ah,Ai,AC,Az] at*;omega) fun v100=> ?_)
       refine gz8 ?_;exact ⟨k+1,v100,⟨by omega,trivial⟩,uD,⟨rfl,rfl,trivial⟩,uK,zo (by dsimp only;rw [zp6 hs,hsc];simp)⟩
   ·have hnk:(zeg b t w).length<=k:=by omega
    obtain rfl:k=(zeg b t w).length:=by omega
    rw [Ak];refine gz2 ?_;refine zN ?_;refine gz8 ?_
    first
    |exact zcA rfl (zai (by rw [znF,if_pos (by simpa using h1)];exact z7 5) (Weak.refl _))
    | (refine zav (zaR 6 (i:=0) rfl rfl) rfl ⟨?_,rfl⟩
       rw [znF,if_neg (fun q=>q hz),hz]
       rfl)
end
end Go.Proofs.YtpgopgjleokciaaGreatDoor
namespace Go.HL
section
abbrev zcI (s i:Nat):Nat:=s^^^2^i
theorem zrL {s i j:Nat} (h:j≠i):(zcI s i).testBit j=s.testBit j:=by
 unfold zcI;rw [Nat.testBit_xor,Nat.testBit_two_pow,decide_eq_false (fun q=>h q.symm),Bool.xor_false]
theorem zrM {s i:Nat} (h:s.testBit i=true):(zcI s i).testBit i=false:=by
 unfold zcI;rw [Nat.testBit_xor,Nat.testBit_two_pow,h,decide_eq_true rfl];rfl
def zeE (D:Nat->Int) (x:Int) (ok:Nat->Bool) (s:Nat):Nat->Int
 |0=>D s
 |i+1=>if s.testBit i=true/\ok i=true then max (zeE D x ok s i) (D (zcI s i)+x) else zeE D x ok s i
def dpG (fit:Nat->Nat->Bool) (w:Nat->Int) (T:Nat->Bool) (fr m:Nat):Nat->Nat->Int
 |0,_=>0
 |k+1,s=>if T k=true then dpG fit w T fr m k s else zeE (dpG fit w T fr m k) (w k) (fun i=>fit k (fr+i)) s m
theorem zvb (D:Nat->Int) (x:Int) (ok:Nat->Bool) (s:Nat): ∀m,D s<=zeE D x ok s m
 |0=>Int.le_refl _
 |m+1=>by
   have ih:=zvb D x ok s m;rw [zeE]
   split
   omega
   exact ih
theorem zy4 {D:Nat->Int} {x:Int} {ok:Nat->Bool} {s i:Nat} (hb:s.testBit i=true) (ho:ok i=true): ∀m,i<m->D (zcI s i)+x<=zeE D x ok s m
 |0,h=>by omega
 |m+1,h=>by
   rw [zeE]
   by_cases e:i=m
   subst e;rw [if_pos ⟨hb,ho⟩];omega;have ih:=zy4 (D:=D) (x:=x) hb ho m (by omega)
   split
   omega
   exact ih
theorem zy3 (D:Nat->Int) (x:Int) (ok:Nat->Bool) (s:Nat): ∀m,zeE D x ok s m=D s\/∃i,i<m/\s.testBit i=true/\ok i=true/\zeE D x ok s m=D (zcI s i)+x
 |0=> .inl rfl
 |m+1=>by
   have ih:=zy3 D x ok s m;rw [zeE]
   split
   rename_i h
   by_cases e:zeE D x ok s m<=D (zcI s m)+x
   exact .inr ⟨m,by omega,h.1,h.2,by omega⟩;have e2:max (zeE D x ok s m) (D (zcI s m)+x)=zeE D x ok s m:=by omega
   rw [e2]
   rcases ih with q|⟨i,h1,h2,h3,h4⟩
   exact .inl q;exact .inr ⟨i,by omega,h2,h3,h4⟩
   rcases ih with q|⟨i,h1,h2,h3,h4⟩
   exact .inl q;exact .inr ⟨i,by omega,h2,h3,h4⟩
structure MOk (fit:Nat->Nat->Bool) (T:Nat->Bool) (fr m k s:Nat) (μ:Nat->Option Nat):Prop where
 at': ∀i q,μ i=some q->(i<m/\s.testBit i=true)/\q<k/\T q=false/\fit q (fr+i)=true
 inj: ∀i j q,μ i=some q->μ j=some q->i=j
def vlO (w:Nat->Int) (o:Option Nat):Int:=match o with|none=>0|some q=>w q
def vlG (w:Nat->Int) (μ:Nat->Option Nat):Nat->Int
 |0=>0
 |i+1=>vlG w μ i+vlO w (μ i)
def zjp (μ:Nat->Option Nat) (i:Nat) (o:Option Nat):Nat->Option Nat:=fun j=>if j=i then o else μ j
theorem zsd {w:Nat->Int} {μ ν:Nat->Option Nat}: ∀m,(∀i,i<m->μ i=ν i)->vlG w μ m=vlG w ν m
 |0,_=>rfl
 |m+1,h=>by rw [vlG,vlG,zsd m (fun i hi=>h i (by omega)),h m (by omega)]
theorem zsc {w:Nat->Int} {μ:Nat->Option Nat}: ∀m,(∀i,i<m->μ i=none)->vlG w μ m=0
 |0,_=>rfl
 |m+1,h=>by rw [vlG,zsc m (fun i hi=>h i (by omega)),h m (by omega)];rfl
theorem zvu {w:Nat->Int} {μ:Nat->Option Nat} {i:Nat} {o:Option Nat}: ∀m,i<m->vlG w (zjp μ i o) m=vlG w μ m-vlO w (μ i)+vlO w o
 |0,h=>by omega
 |m+1,h=>by
   rw [vlG,vlG]
   by_cases e:i=m
   subst e;have e0:vlG w (zjp μ i o) i=vlG w μ i:=zsd i fun j hj=>by unfold zjp;rw [if_neg (by omega)]
   have e1:zjp μ i o i=o:=if_pos rfl;rw [e0,e1];omega;rw [zvu m (by omega)];have:zjp μ i o m=μ m:=by unfold zjp;rw [if_neg (by omega)]
   rw [this];omega
section
variable {fit:Nat->Nat->Bool} {w:Nat->Int} {T:Nat->Bool} {fr m:Nat}
theorem MOk.up {k s:Nat} {μ:Nat->Option Nat} (h:MOk fit T fr m k s μ):MOk fit T fr m (k+1) s μ:=
 ⟨fun i q e=>by obtain ⟨a,b,c,d⟩:=h.at' i q e;exact ⟨a,by omega,c,d⟩,h.inj⟩
theorem ztG: ∀(k s:Nat) (μ:Nat->Option Nat),MOk fit T fr m k s μ->vlG w μ m<=dpG fit w T fr m k s
 |0,s,μ,h=>by
   rw [zsc m fun i _=>by
    cases e:μ i with
    |none=>rfl
    |some q=>have:=(h.at' i q e).2.1;omega]
   exact Int.le_refl _
 |k+1,s,μ,h=>by
   rw [dpG]
   by_cases ht:T k=true
   rw [if_pos ht];refine ztG k s μ ⟨fun i q e=> ?_,h.inj⟩
   obtain ⟨a,b,c,d⟩:=h.at' i q e;refine ⟨a,?_,c,d⟩
   have:q≠k:=fun e2=>by rw [e2,ht] at c;cases c
   omega
   rw [if_neg ht]
   by_cases hx: ∃i,μ i=some k
   obtain ⟨i,hi⟩:=hx;obtain ⟨⟨a1,a2⟩,_,_,a3⟩:=h.at' i k hi;have h1:MOk fit T fr m k (zcI s i) (zjp μ i none):=by
    refine ⟨fun j q e=> ?_,fun j j' q e e'=> ?_⟩
    unfold zjp at e
    by_cases ej:j=i
    rw [if_pos ej] at e;cases e;rw [if_neg ej] at e;obtain ⟨⟨b1,b2⟩,b3,b4,b5⟩:=h.at' j q e;refine ⟨⟨b1,by rw [zrL ej];exact b2⟩,?_,b4,b5⟩
    have:q≠k:=fun e2=>ej (h.inj j i k (e2▸e) hi)
    omega
    unfold zjp at e e'
    by_cases ej:j=i
    rw [if_pos ej] at e;cases e
    by_cases ej':j'=i
    rw [if_pos ej'] at e';cases e';rw [if_neg ej] at e;rw [if_neg ej'] at e';exact h.inj j j' q e e'
   have h2:=ztG k (zcI s i) _ h1;rw [zvu m a1,hi] at h2;have h3:=zy4 (D:=dpG fit w T fr m k) (x:=w k) (ok:=fun i=>fit k (fr+i)) a2 a3 m a1;have e1:vlO w (some k)=w k:=rfl;have e2:vlO w none=0:=rfl;rw [e1,e2] at h2
   omega
   refine Int.le_trans (ztG k s μ ⟨fun i q e=> ?_,h.inj⟩) (zvb _ _ _ _ m)
   obtain ⟨a,b,c,d⟩:=h.at' i q e;refine ⟨a,?_,c,d⟩
   have:q≠k:=fun e2=>hx ⟨i,e2▸e⟩
   omega
theorem ztF: ∀(k s:Nat),∃μ,MOk fit T fr m k s μ/\vlG w μ m=dpG fit w T fr m k s
 |0,s=>⟨fun _=>none,⟨fun _ _ e=>(by cases e),fun _ _ _ e=>(by cases e)⟩,zsc m fun _ _=>rfl⟩
 |k+1,s=>by
   rw [dpG]
   by_cases ht:T k=true
   rw [if_pos ht];obtain ⟨μ,h1,h2⟩:=ztF k s;exact ⟨μ,h1.up,h2⟩;rw [if_neg ht]
   rcases zy3 (dpG fit w T fr m k) (w k) (fun i=>fit k (fr+i)) s m with q|⟨i,a1,a2,a3,a4⟩
   rw [q];obtain ⟨μ,h1,h2⟩:=ztF k s;exact ⟨μ,h1.up,h2⟩;rw [a4];obtain ⟨μ,h1,h2⟩:=ztF k (zcI s i);have hn:μ i=none:=by
    cases e:μ i with
    |none=>rfl
    |some q=>have:=(h1.at' i q e).1.2;rw [zrM a2] at this;cases this
   refine ⟨zjp μ i (some k),⟨fun j q e=> ?_,fun j j' q e e'=> ?_⟩,?_⟩
   unfold zjp at e
   by_cases ej:j=i
   rw [if_pos ej] at e
   cases e
   subst ej;exact ⟨⟨a1,a2⟩,by omega,by simpa using ht,a3⟩;rw [if_neg ej] at e;obtain ⟨⟨b1,b2⟩,b3,b4,b5⟩:=h1.at' j q e;exact ⟨⟨b1,by rw [zrL ej] at b2;exact b2⟩,by omega,b4,b5⟩;unfold zjp at e e'
   by_cases ej:j=i<;>by_cases ej':j'=i
   omega
   rw [if_pos ej] at e;rw [if_neg ej'] at e'
   cases e
   have:=(h1.at' j' _ e').2.1;omega;rw [if_neg ej] at e;rw [if_pos ej'] at e'
   cases e'
   have:=(h1.at' j _ e).2.1;omega;rw [if_neg ej] at e;rw [if_neg ej'] at e';exact h1.inj j j' q e e';rw [zvu m a1,hn,h2]
   show _-0+w k=_
   omega
end
def ziC (fit:Nat->Nat->Bool) (w:Nat->Int) (n N:Nat) (T:Nat->Bool) (fr:Nat):Int:=dpG fit w T fr (N-fr) n (2^(N-fr)-1)
def znG (T:Nat->Bool) (q:Nat):Nat->Bool:=fun k=>if k=q then true else T k
def shM (o:Option Nat) (μ:Nat->Option Nat):Nat->Option Nat:=fun i=>match i with|0=>o|j+1=>μ j
theorem ztW {w:Nat->Int} {o:Option Nat} {μ:Nat->Option Nat}: ∀m,vlG w (shM o μ) (m+1)=vlO w o+vlG w μ m
 |0=>by show 0+vlO w o=_;rw [vlG];omega
 |m+1=>by
   rw [vlG,ztW m,vlG]
   show _+vlO w (μ m)=_
   omega
section
variable {fit:Nat->Nat->Bool} {w:Nat->Int} {n N:Nat} {T:Nat->Bool} {fr:Nat}
theorem zzV {m i:Nat}:(2^m-1).testBit i=decide (i<m):=Nat.testBit_two_pow_sub_one m i
theorem zqY {μ:Nat->Option Nat} (h: ∀i q,μ i=some q->i<N-fr/\q<n/\T q=false/\fit q (fr+i)=true) (hi: ∀i j q,μ i=some q->μ j=some q->i=j):vlG w μ (N-fr)<=ziC fit w n N T fr:=
 ztG n _ μ ⟨fun i q e=>by obtain ⟨a,b,c,d⟩:=h i q e;exact ⟨⟨a,by rw [zzV];simpa using a⟩,b,c,d⟩,hi⟩
theorem zuY (fit:Nat->Nat->Bool) (w:Nat->Int) (n N:Nat) (T:Nat->Bool) (fr:Nat): ∃μ:Nat->Option Nat,(∀i q,μ i=some q->i<N-fr/\q<n/\T q=false/\fit q (fr+i)=true)/\(∀i j q,μ i=some q->μ j=some q->i=j)/\vlG w μ (N-fr)=ziC fit w n N T fr:=by
 obtain ⟨μ,h1,h2⟩:=ztF (fit:=fit) (w:=w) (T:=T) (fr:=fr) (m:=N-fr) n (2^(N-fr)-1);exact ⟨μ,fun i q e=>by obtain ⟨⟨a,_⟩,b,c,d⟩:=h1.at' i q e;exact ⟨a,b,c,d⟩,h1.inj,h2⟩
theorem zAn (h:fr<N):ziC fit w n N T (fr+1)<=ziC fit w n N T fr:=by
 obtain ⟨μ,h1,h2,h3⟩:=zuY fit w n N T (fr+1);have e:N-fr=N-(fr+1)+1:=by omega
 have h4:=zqY (fit:=fit) (w:=w) (n:=n) (N:=N) (T:=T) (fr:=fr) (μ:=shM none μ) (fun i q hq=>by
  cases i with
  |zero=>cases hq
  |succ j=>
    obtain ⟨a,b,c,d⟩:=h1 j q hq;exact ⟨by omega,b,c,by rw [show fr+(j+1)=fr+1+j by omega];exact d⟩) (fun i j q hq hq'=>by
  cases i with
  |zero=>cases hq
  |succ i=>
    cases j with
    |zero=>cases hq'
    |succ j=>rw [h2 i j q hq hq'])
 rw [e,ztW,h3] at h4;have e2:vlO w none=0:=rfl
 omega
theorem zAp (h:fr<N) {q:Nat} (hq:q<n) (ht:T q=false) (hf:fit q fr=true):w q+ziC fit w n N (znG T q) (fr+1)<=ziC fit w n N T fr:=by
 obtain ⟨μ,h1,h2,h3⟩:=zuY fit w n N (znG T q) (fr+1);have e:N-fr=N-(fr+1)+1:=by omega
 have hne: ∀i p,μ i=some p->p≠q/\T p=false:=fun i p hp=>by
  have h4:=(h1 i p hp).2.2.1;unfold znG at h4
  by_cases c:p=q
  rw [if_pos c] at h4;cases h4;rw [if_neg c] at h4;exact ⟨c,h4⟩
 have h4:=zqY (fit:=fit) (w:=w) (n:=n) (N:=N) (T:=T) (fr:=fr) (μ:=shM (some q) μ) (fun i p hp=>by
  cases i with
  |zero=>cases hp;exact ⟨by omega,hq,ht,hf⟩
  |succ j=>
    obtain ⟨a,b,c,d⟩:=h1 j p hp;exact ⟨by omega,b,(hne j p hp).2,by rw [show fr+(j+1)=fr+1+j by omega];exact d⟩) (fun i j p hp hp'=>by
  cases i with
  |zero=>
    cases j with
    |zero=>rfl
    |succ j=>cases hp;exact absurd rfl (hne j _ hp').1
  |succ i=>
    cases j with
    |zero=>cases hp';exact absurd rfl (hne i _ hp).1
    |succ j=>rw [h2 i j p hp hp'])
 rw [e,ztW,h3] at h4;have e2:vlO w (some q)=w q:=rfl
 omega
theorem zAo (h:fr<N):ziC fit w n N T (fr+1)=ziC fit w n N T fr\/∃q,q<n/\T q=false/\fit q fr=true/\ziC fit w n N (znG T q) (fr+1)=ziC fit w n N T fr-w q:=by
 obtain ⟨μ,h1,h2,h3⟩:=zuY fit w n N T fr;have e:N-fr=N-(fr+1)+1:=by omega
 have hsh:vlG w μ (N-fr)=vlO w (μ 0)+vlG w (fun i=>μ (i+1)) (N-(fr+1)):=by
  rw [e,<-ztW];refine zsd _ fun i _=> ?_
  cases i<;>rfl
 cases h0:μ 0 with
 |none=>
   left
   have h4:=zqY (fit:=fit) (w:=w) (n:=n) (N:=N) (T:=T) (fr:=fr+1) (μ:=fun i=>μ (i+1)) (fun i q hq=>by
    obtain ⟨a,b,c,d⟩:=h1 (i+1) q hq;exact ⟨by omega,b,c,by rw [show fr+1+i=fr+(i+1) by omega];exact d⟩) (fun i j q hq hq'=>by have:=h2 _ _ q hq hq';omega)
   rw [h0] at hsh;have e2:vlO w none=0:=rfl;have h5:=zAn (fit:=fit) (w:=w) (n:=n) (T:=T) h
   omega
 |some q=>
   right
   obtain ⟨_,b,c,d⟩:=h1 0 q h0;refine ⟨q,b,c,d,?_⟩
   have h4:=zqY (fit:=fit) (w:=w) (n:=n) (N:=N) (T:=znG T q) (fr:=fr+1) (μ:=fun i=>μ (i+1)) (fun i p hp=>by
    obtain ⟨a,b,c,d⟩:=h1 (i+1) p hp;refine ⟨by omega,b,?_,by rw [show fr+1+i=fr+(i+1) by omega];exact d⟩
    unfold znG;rw [if_neg (fun e3=>by have:=h2 (i+1) 0 q (e3▸hp) h0;omega)];exact c) (fun i j p hp hp'=>by have:=h2 _ _ p hp hp';omega)
   rw [h0] at hsh;have e2:vlO w (some q)=w q:=rfl;have h5:=zAp (fit:=fit) (w:=w) h b c d
   omega
end
end
section
open Go Op
abbrev zhY (l:List ScorerS) (S:List SlotS) (q i:Nat):Bool:=zi8 (l.getD q zT).Positions (S.getD i zbZ).Positions
abbrev wrL (l:List ScorerS) (q:Nat):Int:=64*zeC (l.getD q zT).Num (l.getD q zT).Den-1
abbrev tkF (T:List Bool) (q:Nat):Bool:=T.getD q false
abbrev zia (l:List ScorerS) (S:List SlotS) (T:List Bool) (i:Nat):Int:=ziC (zhY l S) (wrL l) l.length S.length (tkF T) i
theorem zzm {T:List Bool} {q:Nat} (h:q<T.length):tkF (T.set q true)=znG (tkF T) q:=by
 funext k
 show (T.set q true).getD k false=if k=q then true else T.getD k false
 rw [Ae,Ae,Bz]
 by_cases e:q=k
 subst e;rw [if_pos rfl,if_pos h,if_pos rfl];rfl;rw [if_neg e,if_neg (fun c=>e c.symm)]
theorem zAX {T:List Bool} {q:Nat} (h:T.getD q false=false):(T.set q true).set q false=T:=by
 rw [List.set_set]
 by_cases hl:q<T.length
 refine Bo fun k=> ?_
 rw [Bz]
 split
 rename_i e;subst e;rw [getD_some (d:=false) hl,h]
 rfl
 rw [List.set_eq_of_length_le (by omega)]
def zhV (l:List ScorerS) (S:List SlotS) (T:List Bool) (left:Int) (i q:Nat):Bool:=
 !(tkF T q)&&zhY l S q i&&decide (zia l S (T.set q true) (i+1)=left-wrL l q)
def chF (l:List ScorerS) (S:List SlotS) (T:List Bool) (left:Int) (i:Nat):Option Nat:=(List.range l.length).find? (zhV l S T left i)
structure BstS where
 T:List Bool
 left:Int
 out:List FillS
def zlS (l:List ScorerS) (S:List SlotS) (i:Nat) (q:BstS):BstS:=
 if zia l S q.T (i+1)=q.left then ⟨q.T,q.left,q.out++[⟨(S.getD i zbZ).Key,[]⟩]⟩
 else match chF l S q.T q.left i with
  |none=>⟨q.T,q.left,q.out++[⟨(S.getD i zbZ).Key,[]⟩]⟩
  |some k=>⟨q.T.set k true,q.left-wrL l k,q.out++[⟨(S.getD i zbZ).Key,(l.getD k zT).Player⟩]⟩
def zha (l:List ScorerS) (S:List SlotS):Nat->BstS
 |0=>⟨List.replicate l.length false,zia l S (List.replicate l.length false) 0,[]⟩
 |i+1=>zlS l S i (zha l S i)
abbrev zeb (l:List ScorerS) (S:List SlotS):List FillS:=(zha l S S.length).out
def wtG (l:List ScorerS) (x:FillS):Int:=if x.Player=[] then 0 else 64*zmS l x.Player-1
def wtL (l:List ScorerS) (f:List FillS):Int:=(f.map (wtG l)).sum
theorem zwG (l:List ScorerS) (f:List FillS) (x:FillS):wtL l (f++[x])=wtL l f+wtG l x:=by unfold wtL;simp
theorem zB1 {l:List ScorerS} (h:ScoOk l) {q:Nat} (hq:q<l.length):scO l (l.getD q zT).Player=some (l.getD q zT):=by
 have e:l[q]? =some (l.getD q zT):=getD_some hq;have hm:=Ab e
 cases hs:scO l (l.getD q zT).Player with
 |none=>
   have:=List.find?_eq_none.1 hs _ hm
   simp at this
 |some y=>
   obtain ⟨h1,h2⟩:=zrh h.so hs;obtain ⟨h3,h4⟩:=zr1 h.so h1;have h5:(l.map (·.Player))[q]? =some (l.getD q zT).Player:=by rw [Ag,e];rfl
   have hp:zbU (l.map (·.Player)) (l.getD q zT).Player=q:=by
    by_cases c:zbU (l.map (·.Player)) (l.getD q zT).Player<q
    have:=h.so.get c h3 h5;rw [zag] at this;cases this
    by_cases d:q<zbU (l.map (·.Player)) (l.getD q zT).Player
    exact absurd rfl (h4 q _ d h5)
    omega
   rw [hp,e] at h2;exact h2.symm▸rfl
structure BstOk (l:List ScorerS) (S:List SlotS) (i:Nat) (q:BstS):Prop where
 tl:q.T.length=l.length
 left:q.left=zia l S q.T i
 fo:FillOk l S i q.out
 no: ∀k,k<l.length->tkF q.T k=false->∀x∈q.out,x.Player≠(l.getD k zT).Player
 sum:wtL l q.out+q.left=zia l S (List.replicate l.length false) 0
theorem zwC {l:List ScorerS} {S:List SlotS} {i:Nat} {f:List FillS} (h:FillOk l S i f) {x:FillS} (hk:x.Slot=(S.getD i zbZ).Key)
 (hw:x.Player≠[]->f.any (fun y=>y.Player==x.Player)=false/\∃y,scO l x.Player=some y/\zi8 y.Positions (S.getD i zbZ).Positions=true):FillOk l S (i+1) (f++[x]):=by
 have hlen:=h.len;have last: ∀(k:Nat) (y:FillS),(f++[x])[k]? =some y->(k<i/\f[k]? =some y)\/(k=i/\y=x):=fun k y hy=>by
  by_cases hk:k<i
  rw [Ao (by omega)] at hy;exact .inl ⟨hk,hy⟩;have:k=i:=by have:=zp hy;rw [Av,hlen] at this;simp at this;omega
  subst this;rw [Al (by omega),hlen,BS] at hy
  cases hy;exact .inr ⟨rfl,rfl⟩
 refine ⟨by rw [Av,hlen];rfl,fun k y hy=> ?_,fun k y hy hp=> ?_⟩
 rcases last k y hy with ⟨_,q⟩|⟨rfl,rfl⟩
 exact h.key k y q;exact hk
 rcases last k y hy with ⟨c,q⟩|⟨rfl,rfl⟩
 rw [A5 (by omega)];exact h.who k y q hp;rw [A5 (by omega),A3 (by omega)];exact hw hp
theorem zj2 {l:List ScorerS} (h:ScoOk l) (S:List SlotS): ∀i,i<=S.length->BstOk l S i (zha l S i)
 |0,_=>⟨by rw [zha];simp,rfl,⟨rfl,fun k x e=>(by cases e),fun k x e=>(by cases e)⟩,fun _ _ _ x hx=>(by cases hx),by rw [zha];exact Cz _⟩
 |i+1,hi=>by
   have ih:=zj2 h S i (by omega);rw [zha]
   generalize zha l S i=q at ih
   have htl:=ih.tl;have hleft:=ih.left;have hsum:=ih.sum;unfold zlS
   by_cases h1:zia l S q.T (i+1)=q.left
   rw [if_pos h1];refine ⟨htl,h1.symm,zwC ih.fo rfl (fun c=>absurd rfl c),fun k hk ht x hx=> ?_,?_⟩
   rcases List.mem_append.1 hx with hx|hx
   exact ih.no k hk ht x hx;rw [List.mem_singleton.1 hx];exact fun e=>zuK (h.ky _ (Ab (getD_some (d:=zT) hk))) e.symm
   show wtL l (q.out++[_])+q.left=_
   rw [zwG];have:wtG l ⟨(S.getD i zbZ).Key,[]⟩=0:=if_pos rfl;rw [this];omega;rw [if_neg h1];have hstep:=zAo (fit:=zhY l S) (w:=wrL l) (n:=l.length) (N:=S.length) (T:=tkF q.T) (fr:=i) (by omega)
   rcases hstep with e|⟨k0,k1,k2,k3,k4⟩
   exact absurd (e.trans hleft.symm) h1;have hex:zhV l S q.T q.left i k0=true:=by
    unfold zhV;rw [k2,k3];simp only [Cn,Bool.and_self,Bool.true_and,decide_eq_true_eq];unfold zia;rw [zzm (by omega),k4,hleft]
   cases hc:chF l S q.T q.left i with
   |none=>
     have:=List.find?_eq_none.1 hc k0 (List.mem_range.2 k1);exact absurd hex this
   |some k=>
     have hkm:k<l.length:=List.mem_range.1 (Bg hc);have hkq:=List.find?_some hc;unfold zhV at hkq;simp only [A2,BY,decide_eq_true_eq] at hkq;obtain ⟨⟨c1,c2⟩,c3⟩:=hkq;have hky:(l.getD k zT).Player≠[]:=zuK (h.ky _ (Ab (getD_some (d:=zT) hkm)));have hsc:=zB1 h hkm;refine ⟨by rw [CA];exact htl,c3.symm,zwC ih.fo rfl (fun _=>⟨?_,_,hsc,c2⟩),fun k' hk' ht x hx=> ?_,?_⟩
     rw [BJ]
     intro x hx e
     exact ih.no k hkm c1 x hx (by simpa using e);rw [zzm (by omega)] at ht;unfold znG at ht
     by_cases e:k'=k
     rw [if_pos e] at ht;cases ht;rw [if_neg e] at ht
     rcases List.mem_append.1 hx with hx|hx
     exact ih.no k' hk' ht x hx;rw [List.mem_singleton.1 hx]
     intro e2
     have a1:=zrh h.so hsc;have a2:=zrh h.so (zB1 h hk');dsimp only at e2;rw [e2] at a1;have a3:l[k']? =some (l.getD k' zT):=getD_some hk';have a4:l[k]? =some (l.getD k zT):=getD_some hkm;have hnd:=ztv h.so;have a5:(l.map (·.Player))[k']? =some (l.getD k' zT).Player:=by rw [Ag,a3];rfl
     have a6:(l.map (·.Player))[k]? =some (l.getD k zT).Player:=by rw [Ag,a4];rfl
     rw [e2] at a6
     rcases Nat.lt_or_gt_of_ne e with o|o
     have:=h.so.get o a5 a6;rw [zag] at this;cases this;have:=h.so.get o a6 a5;rw [zag] at this;cases this
     show wtL l (q.out++[_])+(q.left-wrL l k)=_
     rw [zwG];have e1:wtG l ⟨(S.getD i zbZ).Key,(l.getD k zT).Player⟩=wrL l k:=by
      unfold wtG;rw [if_neg hky];unfold zmS;rw [hsc];rfl
     rw [e1];omega
end
end Go.HL
namespace Go.Proofs.YtpgopgjleokciaaGreatDoor
set_option maxRecDepth 100000
set_option linter.unusedVariables false
set_option linter.unusedSimpArgs false
section
open Go.Proofs.Tryz
open Go.HL
theorem zpP [Tracks] {x:ScorerS} {s:Str}:ConP prog 147 [zbs x,.vptr [.str s] 0] (.bool (x.Player==s)):=by
 refine uOb func147 ntmps147 ?_;refine zdl ?_;refine zw rfl ?_
 rfl
theorem zry [Tracks] {S:List SlotS} {l:List ScorerS} {c:Option ChoiceS} (hS:S.length<=1000000) (hsp: ∀x∈S,x.Positions.length<=1000000) (hl:l.length<=1000000) (hlp: ∀x∈l,x.Positions.length<=1000000) (hcl: ∀c0,c=some c0->c0.Players.length=S.length):ConP prog 63 [zbt S,zaS l,pCh c] (zgV (zc4 l c S S.length)):=by
 refine uOb func63 ntmps63 ?_;refine gz6 ?_;refine ze (zL 2) ?_;refine gz1 ?_;refine de rfl (zaI fun m14=> ?_)
 refine gz9 ?_;refine uV2 [7,1,9,5,17,47] (fun (k:Nat) (u:Value)=>[(17,.int .i64 k),(7,.raw u)]) (fun (k:Nat) (u:Value)=>[.arr u 2 ((zc4 l c S k).map za4),.map m14 (sk (zaY (zb4 l c S k).2))]) (fun (k:Nat) (u:Value)=>k<=S.length/\(True)) (fun (k:Nat) (u:Value)=>S.length-k) (0) (.slice none 0 0) ?_ ?_ ?_ ?_;exact ⟨Ad _,trivial⟩;exact ⟨rfl,rfl,trivial⟩;exact uP
 intro k u hinv
 obtain ⟨hk,-⟩:=hinv;refine gz4 ?_;refine uCo (fun h1=> ?_) fun h2=> ?_
 obtain ⟨x,hx⟩: ∃x,S[k]? =some x:=⟨_,Aa h1⟩
 have hdx:=zk hx;have hx0:=hx;have hxl:=zp hx;have hsk:S.getD k zbZ=x:=by rw [Ae,hx];rfl
 refine gz8 ?_;refine de rfl (zj zcF rfl fun b10=> ?_)
 refine gz1 ?_;refine de0 (zn zcF rfl rfl rfl rfl rfl ?_)
 refine gz1 ?_;refine ze (zm 10 rfl) ?_;refine gz1 ?_;refine dq ((by first|exact zi zcF rfl ty9 (by decide) rfl|exact zf zcF rfl ty9 (by decide) rfl)) ?_;refine gz1 ?_;refine dq (zB (cs:=[_,_]) zc1 zBW rfl) ?_;refine de rfl (zj zc1 rfl fun b11=> ?_)
 focus first
 |refine de0 (uY 0 ?_)
 |refine de0 (uY 1 ?_)
 |refine de0 (uY 2 ?_)
 |refine de0 (uY 3 ?_)
 refine gz4 ?_;refine dq (zws (o:=c.map fun c=>zd (zR c)) zjK rfl rfl) ?_;refine gz1 ?_;refine uCo (fun h3=> ?_) fun h4=> ?_
 obtain ⟨c0,hc0⟩: ∃c0,c=some c0:=by
  cases c with
  |none=>simp_all
  |some c0=>exact ⟨c0,rfl⟩
 subst hc0;have hcn:=hcl c0 rfl;refine gz2 ?_;refine dq ((by first|exact zu rfl|exact zl rfl)) ?_;refine dq ((by first|exact zi zcm rfl zq (by decide) rfl|exact zf zcm rfl zq (by decide) rfl)) ?_;refine dq (zO (h:=eSs c0.Players) zq rfl rfl rfl) ?_;refine gz1 ?_;refine dq (zA (f:=HVal.str) (l:=c0.Players) (j:=k) (a:=zgP c0 k) zq ty9 rfl rfl rfl (getD_some uO)) ?_;refine gz1 ?_;refine de rfl (zj ty9 rfl fun b12=> ?_)
 refine de0 (zn ty9 rfl rfl rfl rfl rfl ?_)
 refine gz1 ?_;refine ze (zm 12 rfl) ?_;refine gz3 ?_;refine dq (uCl zEI rfl (zff (l:=l) (p:=fun x=>x.Player==zgP c0 k) zEJ (fun _=>zpP) hl)) ?_;refine gz2 ?_;obtain ⟨z,i0,hz1,hz2,hz3⟩:=zz5 l (zgP c0 k);rw [hz1];refine zbW (fun M=>M=[.cells b11 [.str x.Key,.str []],.arr u 2 ((zc4 l (some c0) S k).map za4),.map m14 (sk (zaY (zb4 l (some c0) S k).2))]) [5] mixed ?_;refine gz5 ?_;refine zpI 5 rfl rfl (by kernel_rfl) (by kernel_rfl) (by simp) rfl rfl (fun hc=>⟨_,OpenTo.upd (t:=41) rfl uC (OpenTo.upd (t:=40) rfl uC (OpenTo.refl _)),fun M hM=>by
  subst hM;exact zrO (i:=2) ziQ ty9 ty4 rfl rfl rfl ⟨rfl,rfl⟩
  ⟩) ?_
 refine gz5 ?_;refine ahg 11 rfl rfl (by kernel_rfl) (by kernel_rfl) rfl (fun hc=>by
  have hq:0<=z:=by (have q:=hc;simp at q;omega)
  exact ⟨_,OpenTo.upd (t:=47) rfl uC (OpenTo.upd (t:=46) rfl uC (OpenTo.refl _)),zA (f:=zbs) (l:=l) (j:=i0) (a:=l.getD i0 zT) zcn zch rfl (by rw [<-(hz2 hq).1];rfl) rfl (hz2 hq).2.1⟩) ?_
 refine uGy 12 rfl rfl (fun hc=>(by first|exact zi zch rfl zq (by decide) rfl|exact zf zch rfl zq (by decide) rfl)) ?_;refine uGy 13 rfl rfl (fun hc=>zO (h:=eSs (l.getD i0 zT).Positions) zq rfl rfl rfl) ?_;refine uGy 14 rfl rfl (fun hc=>(by first|exact zi zcF rfl zq (by decide) rfl|exact zf zcF rfl zq (by decide) rfl)) ?_;refine uGy 15 rfl rfl (fun hc=>zO (h:=eSs x.Positions) zq rfl rfl rfl) ?_;refine ahg 16 rfl rfl (by kernel_rfl) (by kernel_rfl) rfl (fun hc=>by
  have hq:0<=z:=by (have q:=hc;simp at q;omega)
  exact ⟨_,OpenTo.upd (t:=52) rfl uC (OpenTo.upd (t:=50) rfl uC (OpenTo.refl _)),uCl ztz rfl (zg0 (a:=(l.getD i0 zT).Positions) (b:=x.Positions) (hlp _ (Ab (hz2 hq).2.1)) (hsp x (Ab hx0)))⟩) ?_
 refine gz2 ?_;refine uCo (fun h5=> ?_) fun h6=> ?_
 refine zhu mixed ?_;refine gz4 ?_;refine uF 4 ?_
 focus first
 |refine zz (uY 0 ?_)
 |refine zz (uY 1 ?_)
 |refine zz (uY 2 ?_)
 |refine zz (uY 3 ?_)
 refine ⟨uE,?_⟩
 refine uF 5 ?_
 focus first
 |refine zz (zc3 (i:=0) ziQ ty9 rfl rfl rfl rfl ?_)
 |refine zz (zc3 (i:=1) ziQ ty9 rfl rfl rfl rfl ?_)
 |refine zz (zc3 (i:=2) ziQ ty9 rfl rfl rfl rfl ?_)
 |refine zz (zc3 (i:=3) ziQ ty9 rfl rfl rfl rfl ?_)
 refine ⟨uE,?_⟩
 refine gz2 ?_
 focus first
 |refine ze (Ghost.perm (M':=[.cells b11 (zd (za4 ⟨x.Key,zgP c0 k⟩)),.arr u 2 ((zc4 l (some c0) S k).map za4),.map m14 (sk (zaY (zb8 (zgP c0 k) (zb4 l (some c0) S k).2)))]) (zo rfl)) ?_
 |refine ze (Ghost.perm (M':=[.cells b11 (zd (za4 ⟨x.Key,[]⟩)),.arr u 2 ((zc4 l (some c0) S k).map za4),.map m14 (sk (zaY (zb4 l (some c0) S k).2))]) (zo rfl)) ?_
 |refine ze (Ghost.perm (M':=[.cells b11 (zd (za4 ⟨x.Key,[]⟩)),.arr u 2 ((zc4 l c S k).map za4),.map m14 (sk (zaY (zb4 l c S k).2))]) (zo rfl)) ?_
 refine ze (zbb 11 (i:=0) rfl rfl) ?_
 first|have hfn:=zfh l (some c0) S k|have hfn:=zfh l c S k
 refine gz3 ?_;refine dq (za (hs:=[_]) zij zc1 rfl rfl (by decide) (by decide) rfl) ?_;refine de rfl (zI (i:=0) zij zc1 rfl rfl rfl rfl rfl (by simp [zaq,zd]) (by simp only [Ah,Ai,AC];omega) fun v62=> ?_)
 refine gz8 ?_;have hyes:=zrP (l:=l) (c:=some c0) (S:=S) (n:=k) (by rw [zwo hz2 hz3,hsk];clear hz2 hz3 hz1 hsp hlp hcl;simp_all);exact ⟨k+1,v62,⟨by omega,trivial⟩,uD,⟨rfl,rfl,trivial⟩,uK,zo (by dsimp only;unfold zc4;rw [hyes,hsk];simp only [Ay];try rfl)⟩;refine gz2 ?_
 focus first
 |refine ze (Ghost.perm (M':=[.cells b11 (zd (za4 ⟨x.Key,zgP c0 k⟩)),.arr u 2 ((zc4 l (some c0) S k).map za4),.map m14 (sk (zaY (zb8 (zgP c0 k) (zb4 l (some c0) S k).2)))]) (zo rfl)) ?_
 |refine ze (Ghost.perm (M':=[.cells b11 (zd (za4 ⟨x.Key,[]⟩)),.arr u 2 ((zc4 l (some c0) S k).map za4),.map m14 (sk (zaY (zb4 l (some c0) S k).2))]) (zo rfl)) ?_
 |refine ze (Ghost.perm (M':=[.cells b11 (zd (za4 ⟨x.Key,[]⟩)),.arr u 2 ((zc4 l c S k).map za4),.map m14 (sk (zaY (zb4 l c S k).2))]) (zo rfl)) ?_
 refine ze (zbb 11 (i:=0) rfl rfl) ?_
 first|have hfn:=zfh l (some c0) S k|have hfn:=zfh l c S k
 refine gz3 ?_;refine dq (za (hs:=[_]) zij zc1 rfl rfl (by decide) (by decide) rfl) ?_;refine de rfl (zI (i:=0) zij zc1 rfl rfl rfl rfl rfl (by simp [zaq,zd]) (by simp only [Ah,Ai,AC];omega) fun v62=> ?_)
 refine gz8 ?_;have hno:=zqJ (l:=l) (c:=some c0) (S:=S) (n:=k) (by rw [zwo hz2 hz3,hsk];clear hz2 hz3 hz1 hsp hlp hcl;simp_all);exact ⟨k+1,v62,⟨by omega,trivial⟩,uD,⟨rfl,rfl,trivial⟩,uK,zo (by dsimp only;unfold zc4;rw [hno,hsk];simp only [Ay];try rfl)⟩;refine gz2 ?_
 focus first
 |refine ze (Ghost.perm (M':=[.cells b11 (zd (za4 ⟨x.Key,zgP c0 k⟩)),.arr u 2 ((zc4 l (some c0) S k).map za4),.map m14 (sk (zaY (zb8 (zgP c0 k) (zb4 l (some c0) S k).2)))]) (zo rfl)) ?_
 |refine ze (Ghost.perm (M':=[.cells b11 (zd (za4 ⟨x.Key,[]⟩)),.arr u 2 ((zc4 l (some c0) S k).map za4),.map m14 (sk (zaY (zb4 l (some c0) S k).2))]) (zo rfl)) ?_
 |refine ze (Ghost.perm (M':=[.cells b11 (zd (za4 ⟨x.Key,[]⟩)),.arr u 2 ((zc4 l c S k).map za4),.map m14 (sk (zaY (zb4 l c S k).2))]) (zo rfl)) ?_
 refine ze (zbb 11 (i:=0) rfl rfl) ?_
 first|have hfn:=zfh l (some c0) S k|have hfn:=zfh l c S k
 refine gz3 ?_;refine dq (za (hs:=[_]) zij zc1 rfl rfl (by decide) (by decide) rfl) ?_;refine de rfl (zI (i:=0) zij zc1 rfl rfl rfl rfl rfl (by simp [zaq,zd]) (by simp only [Ah,Ai,AC];omega) fun v62=> ?_)
 refine gz8 ?_;have hcn:c=none:=by cases c with|none=>rfl|some c0=>simp_all
 subst hcn;have hno:=zqJ (l:=l) (c:=none) (S:=S) (n:=k) rfl;exact ⟨k+1,v62,⟨by omega,trivial⟩,uD,⟨rfl,rfl,trivial⟩,uK,zo (by dsimp only;unfold zc4;rw [hno,hsk];simp only [Ay];try rfl)⟩;have hnk:S.length<=k:=by omega
 obtain rfl:k=S.length:=by omega
 refine gz2 ?_;refine zN ?_;refine gz7 ?_;exact zav ((zaR 6 (i:=0) rfl rfl).trans Ghost.clear) rfl ⟨rfl,rfl⟩
theorem zkD [Tracks] {x:FillS} {o:Option ChoiceS} (hq:o.isSome=true):ConP prog 65 [za4 x,.vptr [pCh o] 0] (.bool (x.Player==(zeS o).Captain)):=by
 refine uOb func65 ntmps65 ?_;refine gz4 ?_;refine uDr mixed ?_;refine gz2 ?_;refine uB 2 rfl (zS (h':= .vptr (zd (zR (zeS o))) 0) (zO (h:=pCh o) zjK rfl rfl rfl) (zp4 hq)) ?_;refine uB 3 rfl ((by first|exact zu rfl|exact zl rfl)) ?_;refine gz6 ?_;refine zw rfl ?_
 rfl
theorem zhA [Tracks] {b:BookS} {n w:Int} {t:Str} (hT:Tracks.on=false) (hb:BookC b) (hX:BookX b) (hwk:zaQ w=true) (hnm:zaa n=true) (htm:b.League.Teams.contains t=true):ConP prog 20 [zhW b n,.str t,.int .i64 w] (.tup [zaS (FdL b t w n),zgV (FdF b t w n),.str (FdP b t w n),.int .i64 (fdE b t w n)]):=by
 have hW:=hX.w;have hla:=hb.bb.lea;have hdn: ∀y∈dsL b t w n,(-1000000000000000<=y.Num/\y.Num<=1000000000000000)/\ -1000000000<=y.Den/\y.Den<=1000000000:=zri hX.ru (ztJ hX hb hwk n)
 have hdp: ∀y∈dsL b t w n,y.Positions.length<=1000000:=zo8 hla.po
 have hdl:(dsL b t w n).length<=1000000:=Aq (zjU b.League (wlL b w n) (zeg b t w)) (by
  have q2:=((zjT (b:=b.League.Bounds) (n:=zbr b.League w) hW.f.mo).p t).2
  show (rPl (zfU b.League.Bounds b.Moves (zbr b.League w)) t).length<=1000000
  omega)
 have hsl:=hW.sl;have hwr:1<=w/\w<=60:=by unfold zaQ out at hwk;simp at hwk;omega
 refine uOb func20 ntmps20 ?_;refine gz8 ?_;refine dq (zaL (h:=zhW b n) zc8 rfl rfl rfl rfl) ?_;refine gz2 ?_;refine dq (uCl ca18 rfl (zhB (b:=b) (n:=n) (w:=w) (t:=t) hT hb hX hwk hnm htm)) ?_;refine zct ?_;refine uCo (fun h1=> ?_) fun h2=> ?_
 refine gz8 ?_
 focus first
 | (have q1:fdE b t w n=wlE b w n:=zqI (by simpa using h1)
    have q2:fdE b t w n≠0:=by rw [q1];simpa using h1
    refine zcA rfl (zfa (by rw [FdL,if_pos q2];exact z7 5) (by rw [FdF,if_pos q2];exact z7 2) (by rw [FdP,if_pos q2];exact Weak.refl _) (by rw [q1];exact Weak.refl _)))
 | (have q1:fdE b t w n=zhq (dsL b t w n):=zoj hz
    have q2:fdE b t w n≠0:=by rw [q1];simpa using h3
    refine zcA rfl (zfa (by rw [FdL,if_pos q2];exact z7 5) (by rw [FdF,if_pos q2];exact z7 2) (by rw [FdP,if_pos q2];exact Weak.refl _) (by rw [q1];exact Weak.refl _)))
 | (refine zw rfl ?_
    rw [FdL,FdF,FdP,if_neg (fun q=>q hfz),if_neg (fun q=>q hfz),if_neg (fun q=>q hfz),hfz]
    focus first
    |(rw [show fdP b t w n=(zeS (fdC b t w n)).Captain from zmJ h5];focus first|done|rfl)
    | (rw [show fdP b t w n=[] from zoX h6];focus first|done|rfl))
 refine gz3 ?_;have hz:wlE b w n=0:=by simpa using h2
 rw [znF,if_neg (fun q=>q hz)];refine gz2 ?_;refine dq (uCl zzC rfl (zfc (l:=dsL b t w n) hdl hdp hdn)) ?_;refine gz6 ?_;refine uCo (fun h3=> ?_) fun h4=> ?_
 refine gz8 ?_
 focus first
 | (have q1:fdE b t w n=wlE b w n:=zqI (by simpa using h1)
    have q2:fdE b t w n≠0:=by rw [q1];simpa using h1
    refine zcA rfl (zfa (by rw [FdL,if_pos q2];exact z7 5) (by rw [FdF,if_pos q2];exact z7 2) (by rw [FdP,if_pos q2];exact Weak.refl _) (by rw [q1];exact Weak.refl _)))
 | (have q1:fdE b t w n=zhq (dsL b t w n):=zoj hz
    have q2:fdE b t w n≠0:=by rw [q1];simpa using h3
    refine zcA rfl (zfa (by rw [FdL,if_pos q2];exact z7 5) (by rw [FdF,if_pos q2];exact z7 2) (by rw [FdP,if_pos q2];exact Weak.refl _) (by rw [q1];exact Weak.refl _)))
 | (refine zw rfl ?_
    rw [FdL,FdF,FdP,if_neg (fun q=>q hfz),if_neg (fun q=>q hfz),if_neg (fun q=>q hfz),hfz]
    focus first
    |(rw [show fdP b t w n=(zeS (fdC b t w n)).Captain from zmJ h5];focus first|done|rfl)
    | (rw [show fdP b t w n=[] from zoX h6];focus first|done|rfl))
 refine gz2 ?_;have hs0:zhq (dsL b t w n)=0:=by simp_all
 have hfz:fdE b t w n=0:=(zoj hz).trans hs0;have hfl:(fdF b t w n).length=b.League.Slots.length:=zfh (dsL b t w n) (fdC b t w n) b.League.Slots b.League.Slots.length;refine uDr mixed ?_;refine uB 0 rfl (zaL (h:=zhW b n) zc8 rfl rfl rfl rfl) ?_;refine gz3 ?_;refine uB 4 rfl (zO (h:= .vptr (zd (zcg b)) 0) zcQ rfl rfl rfl) ?_;refine uB 5 rfl ((by first|exact zu rfl|exact zl rfl)) ?_;refine gz2 ?_;refine uB 8 rfl (uCl ca56 rfl (zkc (b:=b) hla.sta uO)) ?_;refine uB 9 rfl (uCl ca62 rfl (zmv (b:=b) (n:=n) (w:=w) (t:=t) (f:=zbr b.League w) hb.bb.ch)) ?_;refine uF 10 ?_;refine zt rfl (zj zjK rfl fun b10=> ?_)
 refine ⟨uE,?_⟩
 refine uF 11 ?_;refine zz (zn (h:=pCh (fdC b t w n)) zjK rfl rfl (zCS _) (zyz _) rfl ?_)
 refine ⟨uE,?_⟩
 refine gz1 ?_;refine ze (zm 10 rfl) ?_;rw [show zd (pCh (fdC b t w n))=[pCh (fdC b t w n)] from zxc _];refine uDr mixed ?_;refine gz1 ?_;refine uB 1 rfl (zO (h:= .vptr (zd (zcg b)) 0) zcQ rfl rfl rfl) ?_;refine uB 2 rfl ((by first|exact zu rfl|exact zl rfl)) ?_;refine gz2 ?_;refine uB 5 rfl (zO (h:=zbt b.League.Slots) zcl rfl rfl rfl) ?_;refine gz2 ?_;refine uB 8 rfl (uCl ca63 rfl (zry (S:=b.League.Slots) (l:=dsL b t w n) (c:=(fdC b t w n)) hla.sl hla.sp hdl hdp (fun c0 e=>zCm hW e))) ?_;refine gz4 ?_;refine dq (zO (h:=pCh (fdC b t w n)) zjK rfl rfl rfl) ?_;refine dq (zws (o:=(fdC b t w n).map fun c=>zd (zR c)) zjK rfl rfl) ?_;refine gz1 ?_;refine dg rfl rfl (fun hc=>by
  have hq:(fdC b t w n).isSome=true:=by (have q:=hc;cases hv:(fdC b t w n)<;>simp_all)
  exact ⟨_,OpenTo.refl _,zS (h':= .vptr (zd (zR (zeS (fdC b t w n)))) 0) (zO (h:=pCh (fdC b t w n)) zjK rfl rfl rfl) (zp4 hq)⟩) ?_
 refine uGr rfl (fun hc=>(by first|exact zu rfl|exact zl rfl)) ?_;refine gz7 ?_;refine dg rfl rfl (fun hc=>by
  have hq:(fdC b t w n).isSome=true:=by (have q:=hc;cases hv:(fdC b t w n)<;>simp_all)
  exact ⟨_,OpenTo.upd (t:=56) rfl uC (OpenTo.upd (t:=55) rfl uC (OpenTo.refl _)),uCl ca64 rfl (zcT (l:=fdF b t w n) (p:=fun x=>x.Player==(zeS (fdC b t w n)).Captain) ca65 (fun _=>zkD hq) uO)⟩) ?_
 refine gz2 ?_;refine uCo (fun h5=> ?_) fun h6=> ?_
 have hq:(fdC b t w n).isSome=true:=by cases hv:(fdC b t w n)<;>simp_all
 refine gz1 ?_;refine dq (zS (h':= .vptr (zd (zR (zeS (fdC b t w n)))) 0) (zO (h:=pCh (fdC b t w n)) zjK rfl rfl rfl) (zp4 hq)) ?_;refine dq ((by first|exact zu rfl|exact zl rfl)) ?_;refine zh1 ?_
 focus first
 | (have q1:fdE b t w n=wlE b w n:=zqI (by simpa using h1)
    have q2:fdE b t w n≠0:=by rw [q1];simpa using h1
    refine zcA rfl (zfa (by rw [FdL,if_pos q2];exact z7 5) (by rw [FdF,if_pos q2];exact z7 2) (by rw [FdP,if_pos q2];exact Weak.refl _) (by rw [q1];exact Weak.refl _)))
 | (have q1:fdE b t w n=zhq (dsL b t w n):=zoj hz
    have q2:fdE b t w n≠0:=by rw [q1];simpa using h3
    refine zcA rfl (zfa (by rw [FdL,if_pos q2];exact z7 5) (by rw [FdF,if_pos q2];exact z7 2) (by rw [FdP,if_pos q2];exact Weak.refl _) (by rw [q1];exact Weak.refl _)))
 | (refine zw rfl ?_
    rw [FdL,FdF,FdP,if_neg (fun q=>q hfz),if_neg (fun q=>q hfz),if_neg (fun q=>q hfz),hfz]
    focus first
    |(rw [show fdP b t w n=(zeS (fdC b t w n)).Captain from zmJ h5];focus first|done|rfl)
    | (rw [show fdP b t w n=[] from zoX h6];focus first|done|rfl))
 refine zdl ?_
 focus first
 | (have q1:fdE b t w n=wlE b w n:=zqI (by simpa using h1)
    have q2:fdE b t w n≠0:=by rw [q1];simpa using h1
    refine zcA rfl (zfa (by rw [FdL,if_pos q2];exact z7 5) (by rw [FdF,if_pos q2];exact z7 2) (by rw [FdP,if_pos q2];exact Weak.refl _) (by rw [q1];exact Weak.refl _)))
 | (have q1:fdE b t w n=zhq (dsL b t w n):=zoj hz
    have q2:fdE b t w n≠0:=by rw [q1];simpa using h3
    refine zcA rfl (zfa (by rw [FdL,if_pos q2];exact z7 5) (by rw [FdF,if_pos q2];exact z7 2) (by rw [FdP,if_pos q2];exact Weak.refl _) (by rw [q1];exact Weak.refl _)))
 | (refine zw rfl ?_
    rw [FdL,FdF,FdP,if_neg (fun q=>q hfz),if_neg (fun q=>q hfz),if_neg (fun q=>q hfz),hfz]
    focus first
    |(rw [show fdP b t w n=(zeS (fdC b t w n)).Captain from zmJ h5];focus first|done|rfl)
    | (rw [show fdP b t w n=[] from zoX h6];focus first|done|rfl))
theorem zmx [Tracks] {b:BookS} {n w:Int} {t:Str} (hT:Tracks.on=false) (hb:BookC b) (hX:BookX b) (hwk:zaQ w=true) (hnm:zaa n=true) (htm:b.League.Teams.contains t=true):ConP prog 19 [zhW b n,.str t,.int .i64 w] (.tup [zdB (PtF b t w n),.int .i64 (fdE b t w n)]):=by
 have hW:=hX.w;have hla:=hb.bb.lea;have hdn: ∀y∈dsL b t w n,(-1000000000000000<=y.Num/\y.Num<=1000000000000000)/\ -1000000000<=y.Den/\y.Den<=1000000000:=zri hX.ru (ztJ hX hb hwk n)
 have hdp: ∀y∈dsL b t w n,y.Positions.length<=1000000:=zo8 hla.po
 have hdl:(dsL b t w n).length<=1000000:=Aq (zjU b.League (wlL b w n) (zeg b t w)) (by
  have q2:=((zjT (b:=b.League.Bounds) (n:=zbr b.League w) hW.f.mo).p t).2
  show (rPl (zfU b.League.Bounds b.Moves (zbr b.League w)) t).length<=1000000
  omega)
 have hsl:=hW.sl;refine zaC func19 rfl ntmps19 rfl rfl ?_;refine gz2 ?_;refine de rfl (zj zU rfl fun b6=> ?_)
 refine gz3 ?_;refine dq (zaL (h:=zhW b n) zc8 rfl rfl rfl rfl) ?_;refine gz2 ?_;refine dq (uCl ca20 rfl (zhA (b:=b) (n:=n) (w:=w) (t:=t) hT hb hX hwk hnm htm)) ?_;refine zh1 ?_;refine uCo (fun h1=> ?_) fun h2=> ?_
 refine gz1 ?_;refine dq (zB (cs:=[_,_]) zU zid rfl) ?_;refine gz1 ?_
 focus first
 |refine de0 (uY 0 ?_)
 |refine de0 (uY 1 ?_)
 |refine de0 (uY 2 ?_)
 |refine de0 (uY 3 ?_)
 refine gz3 ?_
 focus first
 |exact ⟨_,_,zm 6 rfl,[_,_],_,⟨⟨_,_,_,_,_,rfl,zU,.inr ⟨rfl,rfl,rfl⟩⟩,⟨rfl,trivial⟩⟩,zai (by rw [PtF,if_pos (by simpa using h1)];exact Weak.refl _) (Weak.refl _),rfl,rfl⟩
 |exact ⟨_,_,zm 6 rfl,[_,_],_,⟨⟨_,_,_,_,_,rfl,zU,.inr ⟨rfl,rfl,rfl⟩⟩,⟨rfl,trivial⟩⟩,zai (by rw [PtF,if_neg (fun q=>q hfz)];exact Weak.refl _) (by rw [hfz];exact Weak.refl _),rfl,rfl⟩
 refine gz2 ?_;have hfz:fdE b t w n=0:=by simpa using h2
 obtain ⟨hz,hs0,hsk⟩:=zo0 hfz;rw [FdL,FdF,FdP,if_neg (fun q=>q hfz),if_neg (fun q=>q hfz),if_neg (fun q=>q hfz)];refine gz2 ?_;refine dq (zO (h:= .vptr (zd (zcg b)) 0) zcQ rfl rfl rfl) ?_;refine dq ((by first|exact zu rfl|exact zl rfl)) ?_;refine gz2 ?_;refine dq (zO (h:=zbt b.League.Slots) zcl rfl rfl rfl) ?_;refine gz3 ?_;refine dq (uCl ca61 rfl (zvD (S:=b.League.Slots) (l:=dsL b t w n) (f:=fdF b t w n) (c:=fdP b t w n) hX.sl hla.sl hla.sp hs0 hdl hdn (zuB hsk (fdC b t w n) b.League.Slots b.League.Slots.length) hsl (fun q=>zDr q))) ?_;refine gz2 ?_;refine de0 (zn (h:=zdB (ofH (ptV b t w n))) zU rfl rfl rfl rfl rfl ?_)
 refine gz3 ?_
 focus first
 |exact ⟨_,_,zm 6 rfl,[_,_],_,⟨⟨_,_,_,_,_,rfl,zU,.inr ⟨rfl,rfl,rfl⟩⟩,⟨rfl,trivial⟩⟩,zai (by rw [PtF,if_pos (by simpa using h1)];exact Weak.refl _) (Weak.refl _),rfl,rfl⟩
 |exact ⟨_,_,zm 6 rfl,[_,_],_,⟨⟨_,_,_,_,_,rfl,zU,.inr ⟨rfl,rfl,rfl⟩⟩,⟨rfl,trivial⟩⟩,zai (by rw [PtF,if_neg (fun q=>q hfz)];exact Weak.refl _) (by rw [hfz];exact Weak.refl _),rfl,rfl⟩
end
end Go.Proofs.YtpgopgjleokciaaGreatDoor
namespace Go.HL
section
open Go
section
variable {P:Program} {e:Env} {dst:Option Tmp} {ty:TypeId} {pos:String} {af:Array Edge} {g:Option (Nat×Bool)} {M:List MObj} {K:HVal->List MObj->Prop}
theorem zum: ∀{k s:Nat},s.testBit k=true->zcI s k<s
 |0,s,h=>by
   rw [Nat.testBit_zero] at h;have h0:s%2=1:=by simpa using h
   have h1:(s^^^2^0)/2=s/2:=by rw [Nat.xor_div_two];simp
   have h2: ¬(s^^^2^0)%2=1:=by
    have q:=zrM (s:=s) (i:=0) (by rw [Nat.testBit_zero];exact h);rw [Nat.testBit_zero] at q
    simpa using q
   unfold zcI;have e:(2:Nat)^0=1:=rfl;rw [e] at h1 h2⊢
   omega
 |k+1,s,h=>by
   rw [Nat.testBit_succ] at h;have ih:=zum h;have e:(2:Nat)^(k+1)=2*2^k:=by rw [Nat.pow_succ,BE]
   have h1:(s^^^2^(k+1))/2=zcI (s/2) k:=by
    rw [Nat.xor_div_two,e,Nat.mul_div_cancel_left _ (by decide)]
   have h2:(s^^^2^(k+1))%2=1↔s%2=1:=by simp
   rw [e] at h1 h2
   show s^^^2^(k+1)<s
   rw [e]
   omega
theorem zCP {s k:Nat} (hs:s<2^62) (hk:k<=61) (h:s.testBit k=true):s&&&(2^64-1-2^k)=zcI s k:=by
 have hp:2^k<=2^61:=BM (by omega) hk;refine Nat.eq_of_testBit_eq fun j=> ?_
 rw [Nat.testBit_and,show 2^64-1-2^k=2^64-(2^k+1) by omega,Nat.testBit_two_pow_sub_succ (by omega),Nat.testBit_two_pow]
 by_cases hj:j=k
 subst hj;rw [zrM h,decide_eq_true (rfl:j=j)];simp;rw [zrL hj,decide_eq_false (p:=k=j) (fun q=>hj q.symm)]
 by_cases h64:j<64
 rw [decide_eq_true h64];simp;have:s.testBit j=false:=Nat.testBit_lt_two_pow (Nat.lt_of_lt_of_le hs (BM (by omega) (by omega)));rw [this];rfl
theorem zAA [Tracks] {x y:Operand} {t t':TypeId} {s k:Nat} (hx:zh e x=some (.int .i64 (s:Int))) (hy:zh e y=some (.int .i64 ((2^k:Nat):Int))) (hs:s<2^62) (hk:k<=61) (h:s.testBit k=true):
 POp P e ⟨dst,.binOp .andNot t x y t',ty,pos,af,g⟩ (.int .i64 ((zcI s k:Nat):Int)):=
 zF fun I a w ho=>⟨.int .i64 ((zcI s k:Nat):Int),by
  have g1:=(ho.one (x:=x) (by simp [Op.operands]) hx).int_inv;have g2:=(ho.one (x:=y) (by simp [Op.operands]) hy).int_inv;have hp:2^k<2^62:=Nat.lt_of_le_of_lt (BM (by omega) hk) (by decide);have g3:(BitVec.ofInt IntKind.i64.bits (s:Int)&&& ~~~(BitVec.ofInt IntKind.i64.bits ((2^k:Nat):Int))).toNat=zcI s k:=by
   show (BitVec.ofInt 64 (s:Int)&&& ~~~(BitVec.ofInt 64 ((2^k:Nat):Int))).toNat=zcI s k
   rw [BitVec.toNat_and,BitVec.toNat_not];have h2: ∀z:Nat,z<2^62->(BitVec.ofInt 64 (z:Int)).toNat=z:=fun z hz=>by
    rw [BitVec.toNat_ofInt];have:((z:Int)%((2^64:Nat):Int))=(z:Int):=Int.emod_eq_of_lt (by omega) (by omega);rw [this];rfl
   rw [h2 s hs,h2 _ hp];exact zCP hs hk h
  have hc:=zum h;have g4:=zqb (n:=zcI s k) (by omega);simp only [execOp,g1,g2,eqGuard,binOp,Op.intBits,g3,g4]
  rfl,.int _ _⟩
theorem zCa {s k:Nat}:decide (((s/2^k%2:Nat):Int)=1)=s.testBit k:=by
 rw [Nat.testBit_eq_decide_div_mod_eq];have:s/2^k%2=0\/s/2^k%2=1:=by omega
 rcases this with h|h<;>simp [h]
/-! lists of the values of a function-/
def zcE (n:Nat) (f:Nat->Int):List Int:=(List.range n).map f
theorem zr7 (n:Nat) (f:Nat->Int):(zcE n f).length=n:=by unfold zcE;simp
theorem zl9 {n:Nat} {f:Nat->Int} {k:Nat} (h:k<n):(zcE n f)[k]? =some (f k):=by
 unfold zcE;rw [Ag,Bp h];rfl
theorem zjS {n:Nat} {f h:Nat->Int} (e: ∀k,k<n->f k=h k):zcE n f=zcE n h:=by
 unfold zcE;exact Cc fun k hk=>e k (List.mem_range.1 hk)
theorem zDb {n:Nat} {f:Nat->Int} {k:Nat} {v:Int}:(zcE n f).set k v=zcE n (fun s=>if s=k then v else f s):=by
 refine Bo fun j=> ?_
 rw [Bz,zr7]
 by_cases hj:j<n
 rw [zl9 hj,zl9 hj]
 by_cases e:k=j
 rw [if_pos e,if_pos (by omega),if_pos e.symm];rw [if_neg e,if_neg (fun q=>e q.symm)];rw [Ax (by rw [zr7];omega),Ax (by rw [zr7];omega)]
 split
 rw [if_neg (by omega)]
 rfl
end
end
section
open Go Op
theorem zAl {n m:Int}:(if m>n then m else n)=max n m:=by split<;>omega
theorem zvc {D:Nat->Int} {x B C:Int} {ok:Nat->Bool} {s:Nat} (hx:x<=B) (hB:0<=B) (hD: ∀s,0<=D s/\D s<=C): ∀m,0<=zeE D x ok s m/\zeE D x ok s m<=C+B
 |0=>by have:=hD s;rw [zeE];omega
 |m+1=>by
   have ih:=zvc (ok:=ok) (s:=s) hx hB hD m;have:=hD (zcI s m);rw [zeE]
   split<;>omega
theorem zBM {fit:Nat->Nat->Bool} {w:Nat->Int} {T:Nat->Bool} {fr m:Nat} {B:Int} (hw: ∀q,w q<=B) (hB:0<=B): ∀k s,0<=dpG fit w T fr m k s/\dpG fit w T fr m k s<=B*k
 |0,s=>by rw [dpG];simp
 |k+1,s=>by
   have ih:=zBM (fit:=fit) (T:=T) (fr:=fr) (m:=m) hw hB k;have e:B*((k+1:Nat):Int)=B*k+B:=by rw [Int.natCast_add,Int.mul_add];simp
   rw [dpG,e]
   split
   have:=ih s;omega;exact zvc (hw k) hB ih m
theorem ztX {l:List ScorerS} (h:ScoOk l) (q:Nat): -64000001<=wrL l q/\wrL l q<=64000000:=by
 unfold wrL
 by_cases hq:q<l.length
 have:=h.w _ (Ab (getD_some (d:=zT) hq));omega;rw [Ae,Ax (by omega)]
 decide
abbrev dpS (l:List ScorerS) (S:List SlotS) (T:List Bool) (fr m k:Nat):Nat->Int:=dpG (zhY l S) (wrL l) (tkF T) fr m k
abbrev prS (l:List ScorerS) (S:List SlotS) (T:List Bool) (fr m k c i:Nat):Int:=zeE (dpS l S T fr m k) (wrL l k) (fun i=>zhY l S k (fr+i)) c i
theorem zuv {l:List ScorerS} (h:ScoOk l) {S:List SlotS} {T:List Bool} {fr m k:Nat} (hk:k<=20) (s:Nat):0<=dpS l S T fr m k s/\dpS l S T fr m k s<=1280000000:=by
 have:=zBM (fit:=zhY l S) (T:=tkF T) (fr:=fr) (m:=m) (B:=64000000) (fun q=>(ztX h q).2) (by decide) k s;unfold dpS;omega
theorem zD5 {l:List ScorerS} (h:ScoOk l) {S:List SlotS} {T:List Bool} {fr m k:Nat} (hk:k<=20) (c i:Nat):0<=prS l S T fr m k c i/\prS l S T fr m k c i<=1344000000:=by
 have:=zvc (x:=wrL l k) (ok:=fun i=>zhY l S k (fr+i)) (s:=c) (ztX h k).2 (by decide) (fun s=>zuv (S:=S) (T:=T) (fr:=fr) (m:=m) h hk s) i;unfold prS;omega
theorem zyr {l:List ScorerS} {S:List SlotS} {T:List Bool} {fr m k:Nat} (h:T.getD k false=true):dpS l S T fr m (k+1)=dpS l S T fr m k:=by
 funext s
 unfold dpS;rw [dpG,if_pos h]
theorem zuw {l:List ScorerS} {S:List SlotS} {T:List Bool} {fr m k:Nat} (h:T.getD k false=false) (s:Nat):dpS l S T fr m (k+1) s=prS l S T fr m k s m:=by
 unfold dpS;rw [dpG,if_neg (by unfold tkF;rw [h];simp)]
theorem zCk (l:List ScorerS) (S:List SlotS) (T:List Bool) (fr m n:Nat):List.replicate n (HVal.int .i64 0)=(zcE n (dpS l S T fr m 0)).map (HVal.int .i64):=by
 unfold zcE;rw [AX];refine Bo fun j=> ?_
 by_cases h:j<n
 rw [List.getElem?_replicate,if_pos h,Ag,Bp h];rfl;rw [List.getElem?_replicate,if_neg h,Ax (by simpa using h)]
def zm3 (l:List ScorerS) (S:List SlotS) (T:List Bool) (fr m k c:Nat):Nat->Int:=fun s=>if c<s then dpS l S T fr m (k+1) s else dpS l S T fr m k s
def zfK (l:List ScorerS) (S:List SlotS) (T:List Bool) (fr m k c i:Nat):Nat->Int:=fun s=>if c<s then dpS l S T fr m (k+1) s else if s=c then prS l S T fr m k c i else dpS l S T fr m k s
theorem zAS (l:List ScorerS) (S:List SlotS) (T:List Bool) (fr m k n:Nat):zcE n (zm3 l S T fr m k (n-1))=zcE n (dpS l S T fr m k):=
 zjS fun s hs=>by unfold zm3;rw [if_neg (by omega)]
theorem zAR (l:List ScorerS) (S:List SlotS) (T:List Bool) (fr m k n:Nat) (h:T.getD k false=false):zcE n (zm3 l S T fr m k 0)=zcE n (dpS l S T fr m (k+1)):=
 zjS fun s _=>by
  unfold zm3
  by_cases hs:0<s
  rw [if_pos hs];rw [if_neg hs];have:s=0:=by omega
  subst this;rw [zuw h];have key: ∀i,prS l S T fr m k 0 i=dpS l S T fr m k 0:=fun i=>by
   induction i with
   |zero=>rfl
   |succ i ih=>
     unfold prS at ih⊢;rw [zeE,if_neg (by simp),ih]
  exact (key m).symm
theorem zzd (l:List ScorerS) (S:List SlotS) (T:List Bool) (fr m k c n:Nat):zcE n (zfK l S T fr m k c 0)=zcE n (zm3 l S T fr m k c):=
 zjS fun s _=>by
  unfold zfK zm3
  split
  rfl
  split
  rename_i e;subst e;rfl
  rfl
theorem zAT {l:List ScorerS} {S:List SlotS} {T:List Bool} {fr m k c n:Nat} (h:T.getD k false=false) (hc:0<c):zcE n (zfK l S T fr m k c m)=zcE n (zm3 l S T fr m k (c-1)):=
 zjS fun s _=>by
  unfold zfK zm3
  by_cases h1:c<s
  rw [if_pos h1,if_pos (by omega)];rw [if_neg h1]
  by_cases h2:s=c
  subst h2;rw [if_pos rfl,if_pos (by omega),zuw h];rw [if_neg h2,if_neg (by omega)]
theorem zwx {l:List ScorerS} {S:List SlotS} {T:List Bool} {fr m k c i:Nat}:zfK l S T fr m k c i c=prS l S T fr m k c i:=by
 unfold zfK;rw [if_neg (by omega),if_pos rfl]
theorem zAU {l:List ScorerS} {S:List SlotS} {T:List Bool} {fr m k c i s:Nat} (h:s<c):zfK l S T fr m k c i s=dpS l S T fr m k s:=by
 unfold zfK;rw [if_neg (by omega),if_neg (by omega)]
theorem zAV {l:List ScorerS} {S:List SlotS} {T:List Bool} {fr m k c i n:Nat} (hb:c.testBit i=true) (hf:zhY l S k (fr+i)=true):
 (zcE n (zfK l S T fr m k c i)).set c (max (prS l S T fr m k c i) (dpS l S T fr m k (zcI c i)+wrL l k))=zcE n (zfK l S T fr m k c (i+1)):=by
 rw [zDb];refine zjS fun s _=> ?_
 by_cases h:s=c
 subst h;rw [if_pos rfl,zwx];unfold prS;rw [zeE,if_pos ⟨hb,hf⟩];rw [if_neg h];unfold zfK;rw [if_neg h,if_neg h]
theorem zDd {l:List ScorerS} {S:List SlotS} {T:List Bool} {fr m k c i n:Nat} (h: ¬(c.testBit i=true/\zhY l S k (fr+i)=true)):zcE n (zfK l S T fr m k c i)=zcE n (zfK l S T fr m k c (i+1)):=by
 refine zjS fun s _=> ?_
 unfold zfK prS;rw [zeE,if_neg h]
theorem zGJ {m:Nat} (h:m<=12):1<=2^m/\2^m<=4096:=⟨Nat.one_le_two_pow,BM (by omega) h⟩
/-! the search-/
theorem zzL {l:List ScorerS} {S:List SlotS} {T:List Bool} {left:Int} {i j:Nat} (hj:j<l.length) (h1: ∀r,r<j->zhV l S T left i r=false) (h2:zhV l S T left i j=true):chF l S T left i=some j:=by
 unfold chF;rw [BV];refine ⟨h2,j,by simpa using hj,by simp,fun r hr=> ?_⟩
 have:=h1 r hr
 simpa using this
theorem zzK {l:List ScorerS} {S:List SlotS} {T:List Bool} {left:Int} {i:Nat} (h1: ∀r,r<l.length->zhV l S T left i r=false):chF l S T left i=none:=by
 unfold chF;rw [Ck]
 intro r hr
 have:=h1 r (List.mem_range.1 hr)
 simp [this]
theorem zwn {p:Nat->Bool} {j:Nat} (h: ∀r,r<j->p r=false) (h2:p j=false): ∀r,r<j+1->p r=false:=fun r hr=>by
 by_cases e:r=j
 rw [e];exact h2;exact h r (by omega)
theorem zDu {l:List ScorerS} {S:List SlotS} {T:List Bool} {left:Int} {i j:Nat} (h:T[j]?.getD false=true\/zhY l S j i=false):zhV l S T left i j=false:=by
 unfold zhV tkF;rw [Ae]
 rcases h with h|h
 rw [h];rfl;rw [h];simp
theorem zDt {l:List ScorerS} {S:List SlotS} {T:List Bool} {left:Int} {i j:Nat} (h: ¬zia l S (T.set j true) (i+1)=left-wrL l j):zhV l S T left i j=false:=by
 unfold zhV;rw [decide_eq_false h,Bool.and_false]
theorem zCe {l:List ScorerS} {S:List SlotS} {T:List Bool} {left:Int} {i j:Nat} (h1:T.getD j false=false) (h2:zhY l S j i=true) (h:zia l S (T.set j true) (i+1)=left-wrL l j):zhV l S T left i j=true:=by
 unfold zhV tkF;rw [h1,h2,decide_eq_true h];rfl
theorem zsW {A B:MObj} {v:Value} {T:List Bool} {j:Nat} (h:T.getD j false=false):[A,B,.arr v 1 (((T.set j true).map HVal.bool).set j (.bool false))]=[A,B,.arr v 1 (T.map HVal.bool)]:=by
 rw [<-B3,zAX h]
theorem zDS {l:List ScorerS} (h:ScoOk l) (S:List SlotS) (T:List Bool) (i:Nat):0<=zia l S T i/\zia l S T i<=1280000000:=by
 unfold zia ziC;exact zuv (S:=S) (T:=T) (fr:=i) (m:=S.length-i) h h.len _
theorem zzx {l:List ScorerS} (h:ScoOk l) (S:List SlotS) (i:Nat) (hi:i<=S.length):0<=(zha l S i).left/\(zha l S i).left<=1280000000:=by
 rw [(zj2 h S i hi).left];exact zDS h S _ _
/-! what a team missed-/
def TfE (b:BookS) (t:Str) (w n:Int):Int:=if zcr b t w n≠0 then zcr b t w n else fdE b t w n
def TfF (b:BookS) (t:Str) (w n:Int):List FillS:=if zcr b t w n≠0 then [] else FdF b t w n
def TfP (b:BookS) (t:Str) (w n:Int):Str:=if zcr b t w n≠0 then [] else FdP b t w n
def TsE (b:BookS) (t:Str) (w n:Int):Int:=if zcr b t w n≠0 then zcr b t w n else wlE b w n
def TsL (b:BookS) (t:Str) (w n:Int):List ScorerS:=if zcr b t w n≠0 then [] else znF b t w n
def msV (b:BookS) (t:Str) (w n:Int):Int:=sfL (dsL b t w n) (zeb (dsL b t w n) b.League.Slots) []-sfL (dsL b t w n) (fdF b t w n) []
def TmF (b:BookS) (t:Str) (w n:Int):FracS:=if TfE b t w n≠0 then ⟨0,0⟩ else ofH (msV b t w n)
theorem zxY {b:BookS} {t:Str} {w n:Int} (h:TfE b t w n=0):zcr b t w n=0/\fdE b t w n=0:=by
 unfold TfE at h
 split at h
 rename_i q;exact absurd h q
 rename_i q;exact ⟨Decidable.not_not.1 q,h⟩
theorem zEd {b:BookS} {t:Str} {w n:Int} (h:TfE b t w n=0):TfF b t w n=fdF b t w n/\TfP b t w n=fdP b t w n/\TsL b t w n=dsL b t w n/\TmF b t w n=ofH (msV b t w n):=by
 obtain ⟨h1,h2⟩:=zxY h;have h3:=(zo0 h2).1;refine ⟨?_,?_,?_,?_⟩
 rw [TfF,if_neg (fun q=>q h1),FdF,if_neg (fun q=>q h2)];rw [TfP,if_neg (fun q=>q h1),FdP,if_neg (fun q=>q h2)];rw [TsL,if_neg (fun q=>q h1),znF,if_neg (fun q=>q h3)];rw [TmF,if_neg (fun q=>q h)]
end
end Go.HL
namespace Go.Proofs.YtpgopgjleokciaaGreatDoor
set_option maxRecDepth 100000
set_option linter.unusedVariables false
set_option linter.unusedSimpArgs false
section
open Go.Proofs.Tryz
open Go.HL
theorem zi5 [Tracks] {S:List SlotS} {l:List ScorerS} {q i:Nat} (hlp: ∀x∈l,x.Positions.length<=10) (hsp: ∀x∈S,x.Positions.length<=1000000) (hq:q<l.length) (hi:i<S.length):ConP prog 81 [.vptr [zbt S,zaS l] 0,.int .i64 (q:Int),.int .i64 (i:Int)] (.bool (zhY l S q i)):=by
 refine uOb func81 ntmps81 ?_;refine gz3 ?_;refine uDr mixed ?_;refine gz1 ?_;refine uB 1 rfl ((by first|exact zu rfl|exact zl rfl)) ?_;refine gz1 ?_;refine uB 3 rfl (zO (h:=zaS l) zcn rfl rfl rfl) ?_;refine gz1 ?_;refine uB 5 rfl (zA (f:=zbs) (l:=l) (j:=q) (a:=l.getD q zT) zcn zch rfl rfl rfl (getD_some uO)) ?_;refine gz1 ?_;refine uB 7 rfl (zO (h:=eSs (l.getD q zT).Positions) zq rfl rfl rfl) ?_;refine gz1 ?_;refine uB 9 rfl ((by first|exact zu rfl|exact zl rfl)) ?_;refine gz1 ?_;refine uB 11 rfl (zO (h:=zbt S) zcl rfl rfl rfl) ?_;refine gz1 ?_;refine uB 13 rfl (zA (f:=zbA) (l:=S) (j:=i) (a:=S.getD i zbZ) zcl zcF rfl rfl rfl (getD_some uO)) ?_;refine gz1 ?_;refine uB 15 rfl (zO (h:=eSs (S.getD i zbZ).Positions) zq rfl rfl rfl) ?_;refine uB 16 rfl (uCl ztz rfl (zg0 (a:=(l.getD q zT).Positions) (b:=(S.getD i zbZ).Positions) (Aq (hlp _ (Ab (getD_some (d:=zT) hq))) (by decide)) (hsp _ (Ab (getD_some (d:=zbZ) hi))))) ?_;refine gz3 ?_;refine zw rfl ?_
 rfl
theorem ziq [Tracks] {S:List SlotS} {l:List ScorerS} {q:Nat} (hS:ScoOk l) (hq:q<l.length):ConP prog 82 [.vptr [zbt S,zaS l] 0,.int .i64 (q:Int)] (.int .i64 (wrL l q)):=by
 have hm:=Ab (getD_some (d:=zT) hq);have hw:=hS.w _ hm;refine uOb func82 ntmps82 ?_;refine gz5 ?_;refine dq ((by first|exact zu rfl|exact zl rfl)) ?_;refine gz1 ?_;refine dq (zO (h:=zaS l) zcn rfl rfl rfl) ?_;refine gz1 ?_;refine dq (zA (f:=zbs) (l:=l) (j:=q) (a:=l.getD q zT) zcn zch rfl rfl rfl (getD_some uO)) ?_;refine gz1 ?_;refine dq (zS (h':= .agg [.int .i64 (l.getD q zT).Num,.int .i64 (l.getD q zT).Den]) (za0 zU rfl rfl (Ap rfl)) rfl) ?_;refine dq (uCl zzH rfl (zgH (n:=(l.getD q zT).Num) (d:=(l.getD q zT).Den) (hS.dn _ hm) uO)) ?_;refine dq (zby rfl rfl uO uO) ?_;refine gz4 ?_;refine zw rfl ?_
 rfl
theorem zf3 [Tracks] {S:List SlotS} {l:List ScorerS} {fr:Nat} {T:List Bool} (hS:ScoOk l) (hsp: ∀x∈S,x.Positions.length<=1000000) (hS12:S.length<=12) (hf:fr<=S.length) (hT:T.length=l.length):ConP prog 80 [.vptr [zbt S,zaS l] 0,.int .i64 (fr:Int),.slice 1 (T.map .bool)] (.int .i64 (zia l S T fr)):=by
 have hl20:=hS.len;obtain ⟨m,hm⟩: ∃m,S.length=fr+m:=⟨S.length-fr,by omega⟩
 obtain ⟨E,hE⟩: ∃E,2^m=E:=⟨_,rfl⟩
 have hpn:=zGJ (m:=m) uO;rw [hE] at hpn;refine uOb func80 ntmps80 ?_;refine gz5 ?_;refine dq ((by first|exact zu rfl|exact zl rfl)) ?_;refine dq ((by first|exact zi zfn rfl zcl (by decide) rfl|exact zf zfn rfl zcl (by decide) rfl)) ?_;refine dq (zO (h:=zbt S) zcl rfl rfl rfl) ?_;refine dq (zax (f:=zbA) (l:=S) zcl rfl) ?_;refine gz1 ?_;refine dq (zS (zex rfl rfl uO uO) (congrArg (HVal.int .i64) (show ((S.length:Nat):Int)-(fr:Int)=(m:Int) by omega))) ?_;refine gz4 ?_;refine dq (zS (zva rfl rfl uO) (congrArg (fun q:Nat=>HVal.int .i64 (q:Int)) hE)) ?_;refine de rfl (zuy (n:=E) zac ty3 rfl rfl rfl rfl rfl uO fun b22=> ?_)
 refine gz5 ?_;refine dq ((by first|exact zu rfl|exact zl rfl)) ?_;refine dq ((by first|exact zi zfn rfl zcn (by decide) rfl|exact zf zfn rfl zcn (by decide) rfl)) ?_;refine dq (zO (h:=zaS l) zcn rfl rfl rfl) ?_;refine dq (zax (f:=zbs) (l:=l) zcn rfl) ?_;refine gz3 ?_;refine uV1 [9,4,28,53] (fun (k:Nat)=>[(28,.int .i64 k)]) (fun (k:Nat)=>[.arr (.slice (some ⟨b22,0,none⟩) E E) 1 ((zcE E (dpS l S T fr m k)).map (HVal.int .i64))]) (fun (k:Nat)=>k<=l.length/\(True)) (fun (k:Nat)=>l.length-k) (0) ?_ ?_ ?_ ?_;exact ⟨Ad _,trivial⟩;exact ⟨rfl,trivial⟩;exact zo (by rw [<-zCk];rfl)
 intro k hinv
 obtain ⟨hk,-⟩:=hinv;refine gz4 ?_;refine uCo (fun h1=> ?_) fun h2=> ?_
 obtain ⟨y,hy⟩: ∃y,l[k]? =some y:=⟨_,Aa h1⟩
 have hdy:=zk hy;have hkl:=zp hy;refine zdl ?_;refine dq (zA (f:=HVal.bool) (l:=T) (j:=k) (a:=T.getD k false) zrn ty4 rfl rfl rfl (getD_some uO)) ?_;refine gz2 ?_;refine uCo (fun h3=> ?_) fun h4=> ?_
 refine gz8 ?_;exact ⟨k+1,⟨by omega,trivial⟩,uD,⟨rfl,trivial⟩,uK,zo (by dsimp only;rw [zyr (by assumption)])⟩;refine gz2 ?_;have hTk:T.getD k false=false:=by simpa using h4
 refine gz3 ?_;refine dq (uCl ca82 rfl (ziq (S:=S) (l:=l) (q:=k) hS uO)) ?_;refine gz4 ?_;refine dq (zdh zac rfl) ?_;refine dq (zS (zex rfl rfl uO uO) (congrArg (HVal.int .i64) (show ((E:Nat):Int)-1=((E-1:Nat):Int) by omega))) ?_;refine gz3 ?_;refine uV1 [11,2,41,39] (fun (c:Nat)=>[(11,.int .i64 (c:Int))]) (fun (c:Nat)=>[.arr (.slice (some ⟨b22,0,none⟩) E E) 1 ((zcE E (zm3 l S T fr m k c)).map (HVal.int .i64))]) (fun (c:Nat)=>c<E) (fun (c:Nat)=>c) (E-1) ?_ ?_ ?_ ?_
 omega
 exact ⟨rfl,trivial⟩;exact zo (by rw [zAS])
 intro c hcE
 refine gz5 ?_;refine uCo (fun h5=> ?_) fun h6=> ?_
 have hc0:0<c:=by omega
 refine gz9 ?_;refine uV1 [12,1,46,34] (fun (i:Nat)=>[(46,.int .i64 (i:Int))]) (fun (i:Nat)=>[.arr (.slice (some ⟨b22,0,none⟩) E E) 1 ((zcE E (zfK l S T fr m k c i)).map (HVal.int .i64))]) (fun (i:Nat)=>i<=m) (fun (i:Nat)=>m-i) (0) ?_ ?_ ?_ ?_
 omega
 exact ⟨rfl,trivial⟩;exact zo (by rw [zzd])
 intro i hi
 refine gz4 ?_;refine uCo (fun h7=> ?_) fun h8=> ?_
 have him:i<m:=by omega
 refine zct ?_;refine dq (zAK rfl rfl uO) ?_;refine dq (zyZ rfl rfl) ?_;refine dq (zS (zwr rfl rfl) (congrArg HVal.bool zCa)) ?_;refine gz5 ?_;refine uGr rfl (fun hc=>by have hq:=hc;(try simp at hq);exact zS (h':= .int .i64 ((fr+i:Nat):Int)) (zaZ rfl rfl uO uO) (congrArg (HVal.int .i64) uO)) ?_;refine uGr rfl (fun hc=>by have hq:=hc;(try simp at hq);exact uCl ca81 rfl (zi5 (S:=S) (l:=l) (q:=k) (i:=fr+i) hS.po hsp uO uO)) ?_;refine gz2 ?_;refine uCo (fun h9=> ?_) fun h10=> ?_
 obtain ⟨hbt,hft⟩:c.testBit i=true/\zhY l S k (fr+i)=true:=by simp_all
 have hcl:=zum hbt;have hgc:(zcE E (zfK l S T fr m k c i))[c]? =some (prS l S T fr m k c i):=by rw [zl9 hcE,zwx]
 have hgr:(zcE E (zfK l S T fr m k c i))[zcI c i]? =some (dpS l S T fr m k (zcI c i)):=by rw [zl9 uO,zAU hcl]
 have hb1:=zD5 hS (S:=S) (T:=T) (fr:=fr) (m:=m) (k:=k) uO c i;have hb2:=zuv hS (S:=S) (T:=T) (fr:=fr) (m:=m) (k:=k) uO (zcI c i);have hb3:=ztX hS k;refine zbk (fun M=>M=[.arr (.slice (some ⟨b22,0,none⟩) E E) 1 ((zcE E (zfK l S T fr m k c i)).map (HVal.int .i64))]) [5,12] mixed ?_;refine gz4 ?_;refine uB 4 rfl (zx (j:=c) zac ty3 rfl rfl rfl hcE) ?_;refine uM 5 rfl rfl (fun M hM=>by subst hM;exact zat (i:=0) (j:=c) 0 ty3 rfl uO rfl hgc rfl rfl ⟨rfl,rfl⟩) ?_;refine gz3 ?_;refine uB 9 rfl (zva rfl rfl uO) ?_;refine uB 10 rfl (zAA rfl rfl uO uO hbt) ?_;refine uB 11 rfl (zx (j:=zcI c i) zac ty3 rfl rfl rfl uO) ?_;refine uM 12 rfl rfl (fun M hM=>by subst hM;exact zat (i:=0) (j:=zcI c i) 0 ty3 rfl uO rfl hgr rfl rfl ⟨rfl,rfl⟩) ?_;refine gz2 ?_;refine uB 15 rfl (zS (zl5 rfl rfl) (congrArg (HVal.int .i64) zAl)) ?_;refine uB 16 rfl (zx (j:=c) zac ty3 rfl rfl rfl hcE) ?_;refine uF 17 ?_;refine zz (zQ (i:=0) (j:=c) (f:=0) (y:= .int .i64 (prS l S T fr m k c i)) (y':= .int .i64 (max (prS l S T fr m k c i) (dpS l S T fr m k (zcI c i)+wrL l k))) ty3 rfl uO rfl rfl (za3 hgc) rfl rfl (by simp [zd]) rfl ?_)
 refine ⟨uE,?_⟩
 refine gz7 ?_;exact ⟨i+1,by omega,uD,⟨rfl,trivial⟩,uK,zo (by dsimp only;simp only [Cm];rw [<-B3,zAV hbt hft])⟩;refine gz7 ?_;exact ⟨i+1,by omega,uD,⟨rfl,trivial⟩,uK,zo (by dsimp only;rw [zDd uSa])⟩;obtain rfl:m=i:=by omega
 refine gz2 ?_;refine zv ?_;refine gz8 ?_;exact ⟨c-1,by omega,uD,⟨zP uO,trivial⟩,uK,zo (by dsimp only;rw [zAT hTk hc0])⟩;obtain rfl:c=0:=by omega
 refine gz2 ?_;refine zv ?_;refine gz7 ?_;exact ⟨k+1,⟨by omega,trivial⟩,uD,⟨rfl,trivial⟩,uK,zo (by dsimp only;rw [zAR l S T fr m k E hTk])⟩;have hnk:l.length<=k:=by omega
 obtain rfl:k=l.length:=by omega
 refine gz2 ?_;refine zv ?_;refine gz2 ?_;have hlast:(zcE E (dpS l S T fr m l.length))[E-1]? =some (dpS l S T fr m l.length (E-1)):=zl9 uO;refine gz3 ?_;refine dq (zdh zac rfl) ?_;refine gz1 ?_;refine dq (zx (j:=E-1) zac ty3 rfl rfl uO uO) ?_;refine de rfl (zat (i:=0) (j:=E-1) 0 ty3 rfl uO rfl hlast rfl rfl ?_)
 refine gz3 ?_;refine zav Ghost.clear rfl ⟨?_,rfl⟩
 show HVal.int .i64 _=HVal.int .i64 _
 unfold zia ziC;rw [show S.length-fr=m by omega,hE]
theorem zi4 [Tracks] {S:List SlotS} {l:List ScorerS} (hS:ScoOk l) (hsp: ∀x∈S,x.Positions.length<=1000000) (hS12:S.length<=12):ConP prog 29 [.vptr [zbt S,zaS l] 0] (zgV (zeb l S)):=by
 have hl20:=hS.len;refine uOb func29 ntmps29 ?_;refine gz5 ?_;refine dq ((by first|exact zu rfl|exact zl rfl)) ?_;refine dq ((by first|exact zi zfn rfl zcn (by decide) rfl|exact zf zfn rfl zcn (by decide) rfl)) ?_;refine dq (zO (h:=zaS l) zcn rfl rfl rfl) ?_;refine dq (zax (f:=zbs) (l:=l) zcn rfl) ?_;refine de rfl (zuy (n:=l.length) zrn ty4 rfl rfl rfl rfl rfl uO fun b16=> ?_)
 refine gz2 ?_;refine ze (zaH (M':=[.arr (.slice (some ⟨b16,0,none⟩) l.length l.length) 1 ((List.replicate l.length false).map .bool)]) (by rw [List.map_replicate];rfl)) ?_;refine gz3 ?_;refine de rfl (ze6 (hs':=[.vptr [zbt S,zaS l] 0,.int .i64 ((0:Nat):Int),.slice 1 ((List.replicate l.length false).map .bool)]) zzG rfl ⟨.weak (Weak.refl _),.weak (Weak.refl _),.arr (i:=0) rfl,trivial⟩ (zf3 (fr:=0) (T:=(List.replicate l.length false)) hS hsp hS12 uO (by rw [List.length_replicate])) rfl ?_)
 refine gz5 ?_;refine ze (zL 2) ?_;refine gz3 ?_;refine dq ((by first|exact zu rfl|exact zl rfl)) ?_;refine dq ((by first|exact zi zfn rfl zcl (by decide) rfl|exact zf zfn rfl zcl (by decide) rfl)) ?_;refine dq (zO (h:=zbt S) zcl rfl rfl rfl) ?_;refine dq (zax (f:=zbA) (l:=S) zcl rfl) ?_;refine gz3 ?_;refine uV3 [4,7,25,72] (fun (k:Nat) (u:Value) (q:BstS)=>[(25,.int .i64 k),(5,.raw u),(4,.int .i64 q.left)]) (fun (k:Nat) (u:Value) (q:BstS)=>[.arr u 2 (q.out.map za4),.arr (.slice (some ⟨b16,0,none⟩) l.length l.length) 1 (q.T.map .bool)]) (fun (k:Nat) (u:Value) (q:BstS)=>k<=S.length/\(q=zha l S k)) (fun (k:Nat) (u:Value) (q:BstS)=>S.length-k) (0) (.slice none 0 0) (zha l S 0) ?_ ?_ ?_ ?_;exact ⟨Ad _,rfl⟩;exact ⟨rfl,rfl,rfl,trivial⟩;exact uP
 intro k u q hinv
 obtain ⟨hk,hq⟩:=hinv;obtain ⟨T,left,out⟩:=q
 dsimp only
 refine gz4 ?_;refine uCo (fun h1=> ?_) fun h2=> ?_
 obtain ⟨x,hx⟩: ∃x,S[k]? =some x:=⟨_,Aa h1⟩
 have hdx:=zk hx;have hkl:=zp hx;have hsk:S.getD k zbZ=x:=by rw [Ae,hx];rfl
 have hTl:=(zj2 hS S k uO).tl;have hol:=(zj2 hS S k uO).fo.len;rw [<-hq] at hTl hol;dsimp only at hTl hol;have hlb:=zzx hS S k uO;rw [<-hq] at hlb;dsimp only at hlb;refine gz6 ?_;refine dq (zA zcl zcF rfl rfl rfl (by first|assumption|simp_all)) ?_;refine gz1 ?_;refine de rfl (zj zcF rfl fun b7=> ?_)
 refine gz1 ?_;refine de0 (zn zcF rfl rfl rfl rfl rfl ?_)
 refine gz1 ?_;refine ze (zm 7 rfl) ?_;refine gz1 ?_;refine dq ((by first|exact zi zcF rfl ty9 (by decide) rfl|exact zf zcF rfl ty9 (by decide) rfl)) ?_;refine gz1 ?_;refine dq (zB (cs:=[_,_]) zc1 zBW rfl) ?_;refine de rfl (zj zc1 rfl fun b8=> ?_)
 focus first
 |refine de0 (uY 0 ?_)
 |refine de0 (uY 1 ?_)
 |refine de0 (uY 2 ?_)
 |refine de0 (uY 3 ?_)
 refine gz1 ?_;refine ze (zaH (M':=[.cells b8 (zd (za4 ⟨x.Key,[]⟩)),.arr u 2 (out.map za4),.arr (.slice (some ⟨b16,0,none⟩) l.length l.length) 1 (T.map .bool)]) rfl) ?_;refine gz4 ?_;refine dq (zS (h':= .int .i64 ((k+1:Nat):Int)) (zaZ rfl rfl uO uO) (congrArg (HVal.int .i64) uO)) ?_;refine gz1 ?_;refine de rfl (ze6 (hs':=[.vptr [zbt S,zaS l] 0,.int .i64 ((k+1:Nat):Int),.slice 1 (T.map .bool)]) zzG rfl ⟨.weak (Weak.refl _),.weak (Weak.refl _),.arr (i:=2) rfl,trivial⟩ (zf3 (fr:=k+1) (T:=T) hS hsp hS12 uO uO) rfl ?_)
 refine gz3 ?_;refine uCo (fun h3=> ?_) fun h4=> ?_
 refine ze (zbb 8 (i:=0) rfl rfl) ?_;refine gz3 ?_;refine dq (za (hs:=[_]) zij zc1 rfl rfl (by decide) (by decide) rfl) ?_;refine de rfl (zI (i:=0) zij zc1 rfl rfl rfl rfl rfl (by simp [zaq,zd]) (by simp only [Ah,Ai,AC];omega) fun v43=> ?_)
 refine zaw ?_;exact ⟨k+1,v43,⟨T,left,out++[⟨x.Key,[]⟩]⟩,⟨by omega,by rw [zha,<-hq,zlS,if_pos (by assumption),hsk]⟩,uD,⟨rfl,rfl,rfl,trivial⟩,uK,zo (by dsimp only;rw [Ay];rfl)⟩;refine gz5 ?_;refine dq ((by first|exact zu rfl|exact zl rfl)) ?_;refine dq ((by first|exact zi zfn rfl zcn (by decide) rfl|exact zf zfn rfl zcn (by decide) rfl)) ?_;refine dq (zO (h:=zaS l) zcn rfl rfl rfl) ?_;refine dq (zax (f:=zbs) (l:=l) zcn rfl) ?_;refine gz3 ?_;refine uT1 [4,1,9,2,49,43] (fun j=>[(49,.int .i64 j),(4,.int .i64 left)]) (fun j=>[.cells b8 (zd (za4 ⟨x.Key,[]⟩)),.arr u 2 (out.map za4),.arr (.slice (some ⟨b16,0,none⟩) l.length l.length) 1 (T.map .bool)]) (fun j=>j<=l.length/\(∀r,r<j->zhV l S T left k r=false)) (fun j=>l.length-j) (0) ?_ ?_;exact ⟨Ad _,fun r hr=>by omega⟩;rintro j ⟨hj,hno⟩;refine gz4 ?_;refine uCo (fun h5=> ?_) fun h6=> ?_
 obtain ⟨y,hy⟩: ∃y,l[j]? =some y:=⟨_,Aa h5⟩
 have hdy:=zk hy;have hjl:=zp hy;have hTj:T[j]? =some (T.getD j false):=getD_some uO;refine zdl ?_;refine dq (zx (j:=j) zrn ty4 rfl rfl rfl uO) ?_;refine de rfl (zat (i:=2) (j:=j) 0 ty4 rfl uO rfl hTj rfl rfl ?_)
 refine gz4 ?_;refine uGr rfl (fun hc=>by have hq:=hc;(try simp at hq);exact uCl ca81 rfl (zi5 (S:=S) (l:=l) (q:=j) (i:=k) hS.po hsp uO uO)) ?_;refine gz3 ?_;refine uCo (fun h7=> ?_) fun h8=> ?_
 refine gz4 ?_
 focus first
 |refine ze (zaH (zsW hTf)) ?_
 |skip
 refine gz4 ?_;exact ⟨j+1,⟨by omega,zwn hno (zDu (by assumption))⟩,uD,⟨rfl,rfl,trivial⟩,uK,Ac _⟩;refine gz2 ?_;obtain ⟨hTf,hfj⟩:T.getD j false=false/\zhY l S j k=true:=by simp_all
 have hwj:=ztX hS j;refine gz3 ?_;refine dq (zx (j:=j) zrn ty4 rfl rfl rfl uO) ?_;refine de0 (zQ (i:=2) (j:=j) (f:=0) (y:= .bool (T.getD j false)) (y':= .bool true) ty4 rfl uO rfl rfl (za3 hTj) rfl rfl (by simp [zd]) rfl ?_)
 refine gz1 ?_;refine ze (zaH (M':=[.cells b8 (zd (za4 ⟨x.Key,[]⟩)),.arr u 2 (out.map za4),.arr (.slice (some ⟨b16,0,none⟩) l.length l.length) 1 ((T.set j true).map .bool)]) (by rw [B3];rfl)) ?_;have hTs:(T.set j true)[j]? =some true:=by rw [Bb uO]
 refine gz5 ?_;refine dq (uCl ca82 rfl (ziq (S:=S) (l:=l) (q:=j) hS uO)) ?_;refine gz6 ?_;refine dq (zS (h':= .int .i64 ((k+1:Nat):Int)) (zaZ rfl rfl uO uO) (congrArg (HVal.int .i64) uO)) ?_;refine gz1 ?_;refine de rfl (ze6 (hs':=[.vptr [zbt S,zaS l] 0,.int .i64 ((k+1:Nat):Int),.slice 1 ((T.set j true).map .bool)]) zzG rfl ⟨.weak (Weak.refl _),.weak (Weak.refl _),.arr (i:=2) rfl,trivial⟩ (zf3 (fr:=k+1) (T:=(T.set j true)) hS hsp hS12 uO (by rw [CA];omega)) rfl ?_)
 refine gz3 ?_;refine uCo (fun h9=> ?_) fun h10=> ?_
 refine gz2 ?_;refine dq ((by first|exact zu rfl|exact zl rfl)) ?_;refine dq ((by first|exact zi zfn rfl zcn (by decide) rfl|exact zf zfn rfl zcn (by decide) rfl)) ?_;refine dq (zO (h:=zaS l) zcn rfl rfl rfl) ?_;refine gz1 ?_;refine dq (zA (f:=zbs) (l:=l) (j:=j) (a:=l.getD j zT) zcn zch rfl rfl rfl (getD_some uO)) ?_;refine dq ((by first|exact zi zch rfl ty9 (by decide) rfl|exact zf zch rfl ty9 (by decide) rfl)) ?_;refine gz3 ?_
 focus first
 |refine de0 (uY 0 ?_)
 |refine de0 (uY 1 ?_)
 |refine de0 (uY 2 ?_)
 |refine de0 (uY 3 ?_)
 refine gz6 ?_;refine zv ?_;refine gz2 ?_
 focus first
 |refine ze (Ghost.perm (M':=[.cells b8 (zd (za4 ⟨x.Key,(l.getD j zT).Player⟩)),.arr u 2 (out.map za4),.arr (.slice (some ⟨b16,0,none⟩) l.length l.length) 1 ((T.set j true).map .bool)]) (zo rfl)) ?_
 |skip
 refine ze (zbb 8 (i:=0) rfl rfl) ?_;refine gz3 ?_;refine dq (za (hs:=[_]) zij zc1 rfl rfl (by decide) (by decide) rfl) ?_;refine de rfl (zI (i:=0) zij zc1 rfl rfl rfl rfl rfl (by simp [zaq,zd]) (by simp only [Ah,Ai,AC];omega) fun v95=> ?_)
 refine gz8 ?_;exact ⟨k+1,v95,⟨T.set j true,left-wrL l j,out++[⟨x.Key,(l.getD j zT).Player⟩]⟩,⟨by omega,by rw [zha,<-hq,zlS,if_neg (by assumption),zzL uO hno (zCe hTf hfj (by assumption)),hsk]⟩,uD,⟨rfl,rfl,rfl,trivial⟩,uK,zo (by dsimp only;rw [Ay];rfl)⟩;refine gz5 ?_;refine dq (zx (j:=j) zrn ty4 rfl rfl rfl uO) ?_;refine de0 (zQ (i:=2) (j:=j) (f:=0) (y:= .bool (true)) (y':= .bool false) ty4 rfl uO rfl rfl (za3 hTs) rfl rfl (by simp [zd]) rfl ?_)
 refine gz3 ?_
 focus first
 |refine ze (zaH (zsW hTf)) ?_
 |skip
 refine gz4 ?_;exact ⟨j+1,⟨by omega,zwn hno (zDt (by assumption))⟩,uD,⟨rfl,rfl,trivial⟩,uK,Ac _⟩;have hnj:l.length<=j:=by omega
 obtain rfl:j=l.length:=by omega
 refine gz2 ?_;refine zv ?_;refine gz2 ?_
 focus first
 |refine ze (Ghost.perm (M':=[.cells b8 (zd (za4 ⟨x.Key,(l.getD j zT).Player⟩)),.arr u 2 (out.map za4),.arr (.slice (some ⟨b16,0,none⟩) l.length l.length) 1 ((T.set j true).map .bool)]) (zo rfl)) ?_
 |skip
 refine ze (zbb 8 (i:=0) rfl rfl) ?_;refine gz3 ?_;refine dq (za (hs:=[_]) zij zc1 rfl rfl (by decide) (by decide) rfl) ?_;refine de rfl (zI (i:=0) zij zc1 rfl rfl rfl rfl rfl (by simp [zaq,zd]) (by simp only [Ah,Ai,AC];omega) fun v95=> ?_)
 refine gz8 ?_;exact ⟨k+1,v95,⟨T,left,out++[⟨x.Key,[]⟩]⟩,⟨by omega,by rw [zha,<-hq,zlS,if_neg (by assumption),zzK hno,hsk]⟩,uD,⟨rfl,rfl,rfl,trivial⟩,uK,zo (by dsimp only;rw [Ay];rfl)⟩;have hnk:S.length<=k:=by omega
 obtain rfl:k=S.length:=by omega
 refine gz2 ?_;refine zcK ?_;refine gz7 ?_;exact zav ((zaR 2 (i:=0) rfl rfl).trans Ghost.clear) rfl ⟨by show _=zgV (zha l S S.length).out;rw [<-hq],rfl⟩
theorem zuk [Tracks] {S:List SlotS} {l:List ScorerS} {f:List FillS} (hz:zdn S=0) (hS0:S.length<=1000000) (hsp: ∀x∈S,x.Positions.length<=1000000) (hsc:zhq l=0) (hl:l.length<=1000000) (hb:(∀x∈l,(-1000000000000000<=x.Num/\x.Num<=1000000000000000)/\ -1000000000<=x.Den/\x.Den<=1000000000)) (hf:FillOk l S S.length f) (hS12:S.length<=12):ConP prog 21 [zbt S,zaS l,zgV f] (.tup [zdB (ofH (sfL l (zeb l S) []-sfL l f [])),.int .i64 0]):=by
 have hS:=zoO hsc;have hfl:=hf.len;have hbo:=(zj2 hS S S.length (Af _)).fo;have hbl:(zeb l S).length=S.length:=hbo.len;have hb1:=zk1 hS (f:=f) uO [] f.length;rw [Ak] at hb1;have hb2:=zk1 hS (f:=zeb l S) uO [] (zeb l S).length;rw [Ak] at hb2;refine zaC func21 rfl ntmps21 rfl rfl ?_;refine gz1 ?_;refine de rfl (zj zU rfl fun b6=> ?_)
 refine gz7 ?_;refine dq (uCl ca66 rfl (zi2 (S:=S) (l:=l) (f:=f) hz hS0 hsp hsc hl hb hf)) ?_;refine gz6 ?_;refine zZ rfl (fun h1=> ?_) (fun h1=> ?_)
 ·exfalso
  try simp at h1
  done
 ·try simp at h1
  refine gz6 ?_;refine dq (zB (cs:=[_,_]) zfn zBU rfl) ?_;refine gz1 ?_;refine dq (uCl ca29 rfl (zi4 (S:=S) (l:=l) hS hsp hS12)) ?_;refine dq (uCl zw5 rfl (ziL (S:=S) (l:=l) (f:=zeb l S) (c:=[]) hS hbo hS12 hl)) ?_;refine gz2 ?_;refine dq (uCl zw5 rfl (ziL (S:=S) (l:=l) (f:=f) (c:=[]) hS hf hS12 hl)) ?_;refine gz1 ?_;refine dq (uCl zw4 rfl (zd5 (n:=sfL l (zeb l S) []-sfL l f []) uO)) ?_;refine de0 (zn (h:=zdB (ofH (sfL l (zeb l S) []-sfL l f []))) zU rfl rfl rfl rfl rfl ?_)
  refine gz3 ?_;exact ⟨_,_,zm 6 rfl,[_,_],_,⟨⟨_,_,_,_,_,rfl,zU,.inr ⟨rfl,rfl,rfl⟩⟩,⟨rfl,trivial⟩⟩,Weak.refl _,rfl,rfl⟩
theorem zqp [Tracks] {b:BookS} {t:Str} {w n:Int} (hT:Tracks.on=false) (hb:BookC b):ConP prog 10 [zcg b,.str t,.int .i64 w,.int .i64 n] (.tup [zdB (TmF b t w n),.int .i64 (TfE b t w n)]):=by
 refine zaC func10 rfl ntmps10 rfl rfl ?_;refine gz2 ?_;refine de rfl (zj zU rfl fun b8=> ?_)
 refine gz7 ?_;refine dq (uCl zzA rfl (zf1 (b:=b) (t:=t) (w:=w) (n:=n) hT hb)) ?_;refine gz6 ?_;refine uCo (fun h1=> ?_) fun h2=> ?_
 refine gz1 ?_;refine dq (zB (cs:=[_,_]) zU zid rfl) ?_;refine gz1 ?_
 focus first
 |refine de0 (uY 0 ?_)
 |refine de0 (uY 1 ?_)
 |refine de0 (uY 2 ?_)
 |refine de0 (uY 3 ?_)
 refine gz3 ?_
 focus first
 | (have q1:TfE b t w n=zcr b t w n:=by rw [TfE,if_pos (by simpa using h1)]
    exact ⟨_,_,zm 8 rfl,[_,_],_,⟨⟨_,_,_,_,_,rfl,zU,.inr ⟨rfl,rfl,rfl⟩⟩,⟨rfl,trivial⟩⟩,zai (by rw [TmF,if_pos (by rw [q1];simpa using h1)];exact Weak.refl _) (by rw [q1];exact Weak.refl _),rfl,rfl⟩)
 | (have q1:TfE b t w n=fdE b t w n:=by rw [TfE,if_neg (fun q=>q hz)]
    exact ⟨_,_,zm 8 rfl,[_,_],_,⟨⟨_,_,_,_,_,rfl,zU,.inr ⟨rfl,rfl,rfl⟩⟩,⟨rfl,trivial⟩⟩,zai (by rw [TmF,if_pos (by rw [q1];simpa using h3)];exact Weak.refl _) (by rw [q1];exact Weak.refl _),rfl,rfl⟩)
 | (have q1:TfE b t w n=0:=by rw [TfE,if_neg (fun q=>q hz)];exact hfz
    exact ⟨_,_,zm 8 rfl,[_,_],_,⟨⟨_,_,_,_,_,rfl,zU,.inr ⟨rfl,rfl,rfl⟩⟩,⟨rfl,trivial⟩⟩,zai (by rw [TmF,if_neg (fun q=>q q1)];exact Weak.refl _) (by rw [q1];exact Weak.refl _),rfl,rfl⟩)
 refine gz2 ?_;have hz:zcr b t w n=0:=by simp_all
 obtain ⟨hbz,htm,hwk,hnm⟩:=zpc hz;have hX:=zqj hbz;have hW:=hX.w;have hla:=hb.bb.lea;have hdn: ∀y∈dsL b t w n,(-1000000000000000<=y.Num/\y.Num<=1000000000000000)/\ -1000000000<=y.Den/\y.Den<=1000000000:=zri hX.ru (ztJ hX hb hwk n)
 have hdp: ∀y∈dsL b t w n,y.Positions.length<=1000000:=zo8 hla.po
 have hdl:(dsL b t w n).length<=1000000:=Aq (zjU b.League (wlL b w n) (zeg b t w)) (by
  have q2:=((zjT (b:=b.League.Bounds) (n:=zbr b.League w) hW.f.mo).p t).2
  show (rPl (zfU b.League.Bounds b.Moves (zbr b.League w)) t).length<=1000000
  omega)
 have hsl:=hW.sl;refine gz2 ?_;refine dq (zB (cs:=[_,_]) zc8 zAz rfl) ?_;refine gz2 ?_;refine dq (uCl ca20 rfl (zhA (b:=b) (n:=n) (w:=w) (t:=t) hT hb hX hwk hnm htm)) ?_;refine zh1 ?_;refine uCo (fun h3=> ?_) fun h4=> ?_
 refine gz1 ?_;refine dq (zB (cs:=[_,_]) zU zid rfl) ?_;refine gz1 ?_
 focus first
 |refine de0 (uY 0 ?_)
 |refine de0 (uY 1 ?_)
 |refine de0 (uY 2 ?_)
 |refine de0 (uY 3 ?_)
 refine gz3 ?_
 focus first
 | (have q1:TfE b t w n=zcr b t w n:=by rw [TfE,if_pos (by simpa using h1)]
    exact ⟨_,_,zm 8 rfl,[_,_],_,⟨⟨_,_,_,_,_,rfl,zU,.inr ⟨rfl,rfl,rfl⟩⟩,⟨rfl,trivial⟩⟩,zai (by rw [TmF,if_pos (by rw [q1];simpa using h1)];exact Weak.refl _) (by rw [q1];exact Weak.refl _),rfl,rfl⟩)
 | (have q1:TfE b t w n=fdE b t w n:=by rw [TfE,if_neg (fun q=>q hz)]
    exact ⟨_,_,zm 8 rfl,[_,_],_,⟨⟨_,_,_,_,_,rfl,zU,.inr ⟨rfl,rfl,rfl⟩⟩,⟨rfl,trivial⟩⟩,zai (by rw [TmF,if_pos (by rw [q1];simpa using h3)];exact Weak.refl _) (by rw [q1];exact Weak.refl _),rfl,rfl⟩)
 | (have q1:TfE b t w n=0:=by rw [TfE,if_neg (fun q=>q hz)];exact hfz
    exact ⟨_,_,zm 8 rfl,[_,_],_,⟨⟨_,_,_,_,_,rfl,zU,.inr ⟨rfl,rfl,rfl⟩⟩,⟨rfl,trivial⟩⟩,zai (by rw [TmF,if_neg (fun q=>q q1)];exact Weak.refl _) (by rw [q1];exact Weak.refl _),rfl,rfl⟩)
 refine gz2 ?_;have hfz:fdE b t w n=0:=by simp_all
 obtain ⟨hz2,hs0,hsk⟩:=zo0 hfz;rw [FdL,FdF,FdP,if_neg (fun q=>q hfz),if_neg (fun q=>q hfz),if_neg (fun q=>q hfz)];refine gz3 ?_;refine dq (zO (h:=zbt b.League.Slots) zcl rfl rfl rfl) ?_;refine gz2 ?_;refine dq (uCl ca21 rfl (zuk (S:=b.League.Slots) (l:=dsL b t w n) (f:=fdF b t w n) hX.sl hla.sl hla.sp hs0 hdl hdn (zuB hsk (fdC b t w n) b.League.Slots b.League.Slots.length) hsl)) ?_;refine gz2 ?_;refine de0 (zn (h:=zdB (ofH (msV b t w n))) zU rfl rfl rfl rfl rfl ?_)
 refine gz3 ?_
 focus first
 | (have q1:TfE b t w n=zcr b t w n:=by rw [TfE,if_pos (by simpa using h1)]
    exact ⟨_,_,zm 8 rfl,[_,_],_,⟨⟨_,_,_,_,_,rfl,zU,.inr ⟨rfl,rfl,rfl⟩⟩,⟨rfl,trivial⟩⟩,zai (by rw [TmF,if_pos (by rw [q1];simpa using h1)];exact Weak.refl _) (by rw [q1];exact Weak.refl _),rfl,rfl⟩)
 | (have q1:TfE b t w n=fdE b t w n:=by rw [TfE,if_neg (fun q=>q hz)]
    exact ⟨_,_,zm 8 rfl,[_,_],_,⟨⟨_,_,_,_,_,rfl,zU,.inr ⟨rfl,rfl,rfl⟩⟩,⟨rfl,trivial⟩⟩,zai (by rw [TmF,if_pos (by rw [q1];simpa using h3)];exact Weak.refl _) (by rw [q1];exact Weak.refl _),rfl,rfl⟩)
 | (have q1:TfE b t w n=0:=by rw [TfE,if_neg (fun q=>q hz)];exact hfz
    exact ⟨_,_,zm 8 rfl,[_,_],_,⟨⟨_,_,_,_,_,rfl,zU,.inr ⟨rfl,rfl,rfl⟩⟩,⟨rfl,trivial⟩⟩,zai (by rw [TmF,if_neg (fun q=>q q1)];exact Weak.refl _) (by rw [q1];exact Weak.refl _),rfl,rfl⟩)
theorem zpO [Tracks] {b:BookS} {t:Str} {w n:Int} (hT:Tracks.on=false) (hb:BookC b):ConP prog 8 [zcg b,.str t,.int .i64 w,.int .i64 n] (.tup [zaS (TsL b t w n),.int .i64 (TsE b t w n)]):=by
 refine uOb func8 ntmps8 ?_;refine zaw ?_;refine dq (uCl zzA rfl (zf1 (b:=b) (t:=t) (w:=w) (n:=n) hT hb)) ?_;refine gz6 ?_;refine uCo (fun h1=> ?_) fun h2=> ?_
 refine gz6 ?_
 focus first
 |exact zcA rfl (zai (by rw [TsL,if_pos (by simpa using h1)];exact z7 5) (by rw [TsE,if_pos (by simpa using h1)];exact Weak.refl _))
 | (refine zw rfl ?_
    rw [TsL,TsE,if_neg (fun q=>q hz),if_neg (fun q=>q hz)])
 refine gz2 ?_;have hz:zcr b t w n=0:=by simp_all
 obtain ⟨hbz,htm,hwk,hnm⟩:=zpc hz;have hX:=zqj hbz;refine gz2 ?_;refine dq (zB (cs:=[_,_]) zc8 zAz rfl) ?_;refine gz2 ?_;refine dq (uCl ca18 rfl (zhB (b:=b) (n:=n) (w:=w) (t:=t) hT hb hX hwk hnm htm)) ?_;refine gz6 ?_
 focus first
 |exact zcA rfl (zai (by rw [TsL,if_pos (by simpa using h1)];exact z7 5) (by rw [TsE,if_pos (by simpa using h1)];exact Weak.refl _))
 | (refine zw rfl ?_
    rw [TsL,TsE,if_neg (fun q=>q hz),if_neg (fun q=>q hz)])
end
end Go.Proofs.YtpgopgjleokciaaGreatDoor
namespace Go.HL
section
open Op
abbrev zvx:List HVal:=[.raw (.slice none 0 0),.raw (.slice none 0 0),.raw (.slice none 0 0),.raw (.slice none 0 0),.raw (.slice none 0 0),.int .i64 0,.int .i64 0,.int .i64 0,.int .i64 0,.raw (.slice none 0 0),.raw (.slice none 0 0),.raw (.slice none 0 0),.raw (.slice none 0 0),.int .i64 0]
abbrev zjq:List HVal:=[.raw (.slice none 0 0),.raw (.slice none 0 0),.raw (.slice none 0 0),.raw (.slice none 0 0),.raw (.slice none 0 0),.int .i64 0,.int .i64 0,.int .i64 0,.int .i64 0,.raw (.slice none 0 0),.raw (.slice none 0 0),.raw (.slice none 0 0),.raw (.slice none 0 0),.int .i64 0,.raw (.slice none 0 0),.raw (.slice none 0 0),.raw (.slice none 0 0),.raw (.slice none 0 0),.raw (.slice none 0 0)]
abbrev lgC (p:List PlayerS) (st:HVal) (f:List FixS) (r:List RuleS) (s:List SlotS) (b:BoundS) (t:List Str) (ga:HVal) (br:List Int) (tr:List Str) (w:Int):List HVal:=[zbj p,st,zmM f,zgd r,zbt s,.int .i64 b.Most,.int .i64 b.Hurt,.int .i64 b.Adds,.int .i64 b.Hold,eSs t,ga,eIs br,eSs tr,.int .i64 w]
abbrev bkC (g:LeagueS) (mv pl me he ch:HVal):List HVal:=[zbj g.Players,zfA g.Stints,zmM g.Fixtures,zgd g.Rules,zbt g.Slots,.int .i64 g.Bounds.Most,.int .i64 g.Bounds.Hurt,.int .i64 g.Bounds.Adds,.int .i64 g.Bounds.Hold,eSs g.Teams,zlZ g.Games,eIs g.Breaks,eSs g.Trust,.int .i64 g.Start,mv,pl,me,he,ch]
end
section
section
variable {P:Program} {e:Env} {dst:Option Tmp} {ty:TypeId} {pos:String} {af:Array Edge} {g:Option (Nat×Bool)}
end
end
section
section
variable {P:Program} {e:Env}
theorem zCs [Tracks] {n:Nat} {M:List MObj} {c:Code} {Q:Exit->Env->List MObj->Prop} {i:Nat} {v:Value} {sz:Nat} {es:List HVal} (hm:M[i]? =some (.arr v sz es))
 (k: ∀a cap,v= .slice a es.length cap->HWp P n c e M Q):HWp P n c e M Q:=
 zcS hm (fun h0 he=>k none 0 (by rw [h0,he];rfl)) fun b off cap hv _=>k _ _ hv
end
end
section
open Go Op
abbrev zi9 (k:BookS) (v:Value):HVal:= .agg (bkC k.League (zck k.Moves) (zbE k.Plays) (zca k.Mends) (zcc k.Health) (.raw v))
theorem zzv [Tracks] {k:BookS} {v:Value} {M:List MObj} {i:Nat} (hm:M[i]? =some (.arr v 5 (k.Choices.map zR))):Bor M (zi9 k v) (zcg k):=by
 refine .agg rfl fun j h h' h1 h2=> ?_
 match j,h1,h2 with
 |0,h1,h2|1,h1,h2|2,h1,h2|3,h1,h2|4,h1,h2|5,h1,h2|6,h1,h2|7,h1,h2|8,h1,h2|9,h1,h2|10,h1,h2|11,h1,h2|12,h1,h2|13,h1,h2|14,h1,h2|15,h1,h2|16,h1,h2|17,h1,h2=>cases h1;cases h2;exact .weak (Weak.refl _)
 |18,h1,h2=>cases h1;cases h2;exact .arr hm
 |n+19,h1,h2=>cases h1
def zcq (x:ChoiceS):ChoiceS:=⟨x.Team,x.Week,x.At,x.Players,[]⟩
def zae (b:BookS):BookS:=⟨b.League,b.Moves,b.Plays,b.Mends,b.Health,b.Choices.map zcq⟩
theorem zDX {l:List ChoiceS}:((l.take 0).map zcq++l.drop 0).map zR=l.map zR:=by simp
theorem zDV {l:List ChoiceS}:(l.take l.length).map zcq++l.drop l.length=l.map zcq:=by simp
theorem zDY {l:List ChoiceS} {k:Nat} {x:ChoiceS} (hx:l[k]? =some x):(((l.take k).map zcq++l.drop k).map zR).set k (zR (zcq x))=((l.take (k+1)).map zcq++l.drop (k+1)).map zR:=by
 have hl:=zp hx;rw [zaf hx,Ay,zk hx];have e:((l.take k).map zcq).length=k:=by rw [Ah,Az];omega
 rw [Ay,B4 _ _ (by rw [Ah];omega),Ah,e,BS]
 simp
theorem zDW {l:List ChoiceS} {k:Nat} {x:ChoiceS} (hx:l[k]? =some x):((l.take k).map zcq++l.drop k)[k]? =some x:=by
 have hl:=zp hx;rw [Al (by rw [Ah,Az];omega),Ah,Az,Ci (by omega),BS,zk hx];rfl
theorem zA6 {J:Imm} {v:Value} {sz j:Nat} {es cs:List HVal} {off:Nat} (hj:cs[j]? =some (.raw v)) (hv:V J (.slice sz es) v): ∀x,V J (.vptr cs off) x->V J (.vptr (cs.set j (.slice sz es)) off) x:=by
 intro x hx
 cases hx with
 |vptr hI hb ih=>
   refine .vptr hI (by rw [CA];exact hb) fun i c u h1 h2=> ?_
   by_cases e:i=j
   subst e;have hl:=zp hj;rw [Bb hl] at h1
   cases h1
   have:=ih i _ u hj h2;rw [this.raw_inv];exact hv;rw [A0 (fun q=>e q.symm)] at h1;exact ih i c u h1 h2
variable {P:Program}
theorem zwJ [Tracks] {e:Env} {M:List MObj} {i j off:Nat} {v:Value} {sz:Nat} {es cs:List HVal} (t:Nat) (hm:M[i]? =some (.arr v sz es)) (ht:e t=some (.vptr cs off)) (hj:cs[j]? =some (.raw v)):
 Ghost e M (upd e t (.vptr (cs.set j (.slice sz es)) off)) (M.eraseIdx i):=
 Ghost.freeze_arr hm fun _ hv=>zuC ht (zA6 hj hv) zrQ
theorem zx6 [Tracks] {e:Env} {M:List MObj} {m:MObj} (i:Nat) (hm:M[i]? =some m):Ghost e M e (M.eraseIdx i):=(Ghost.perm (zic hm)).trans Ghost.drop
end
section
open Go Op
/-! sums of fractions-/
theorem zzY {a b c:Int} (ha:0<=a) (hb:0<=b) (hc:0<=c):zdC (a*c) (b*c)=zdC a b*c:=by
 obtain ⟨a,rfl⟩:=Cp ha;obtain ⟨b,rfl⟩:=Cp hb;obtain ⟨c,rfl⟩:=Cp hc;unfold zdC;have e1:((a:Int)*c).toNat=a*c:=by rw [<-Int.natCast_mul];exact BZ _
 have e2:((b:Int)*c).toNat=b*c:=by rw [<-Int.natCast_mul];exact BZ _
 rw [e1,e2,BZ,BZ,Nat.gcd_mul_right,Int.natCast_mul]
theorem zCJ {w c:Int} (hc:0<c):max (w*c) (-(w*c))=max w (-w)*c:=by
 by_cases h:0<=w
 have h1:0<=w*c:=Int.mul_nonneg h (by omega);rw [show max w (-w)=w by omega]
 omega
 have h1:w*c<0:=Int.mul_neg_of_neg_of_pos (by omega) hc;rw [show max w (-w)= -w by omega,Bk]
 omega
theorem zqT {w T c:Int} (hT:0<T) (hc:0<c):zh5 (w*c) (T*c)=zh5 w T:=by
 unfold zh5;rw [zCJ hc,zzY (by omega) (by omega) (by omega),Int.mul_tdiv_mul_of_pos_left _ _ hc,Int.mul_tdiv_mul_of_pos_left _ _ hc]
theorem zxy {w T u S:Int} (hT:0<T) (hS:0<S) (h:w*S=u*T):zh5 w T=zh5 u S:=by
 rw [<-zqT (w:=w) hT hS,h,Cy T S,zqT hS hT]
theorem zDk (P M:Int):zh5 ((ofH P).Num*(ofH M).Den+(ofH M).Num*(ofH P).Den) ((ofH P).Den*(ofH M).Den)=ofH (P+M):=by
 obtain ⟨g1,hg1,e1,e2,h1,_⟩:=zrY P;obtain ⟨g2,hg2,e3,e4,h2,_⟩:=zrY M;refine zxy (Int.mul_pos (by omega) (by omega)) (by decide) ?_
 generalize (ofH P).Num=pN at*
 generalize (ofH P).Den=pD at*
 generalize (ofH M).Num=mN at*
 generalize (ofH M).Den=mD at*
 have a1:pN*mD*100=P*(pD*mD):=by
  rw [e1]
  conv=>lhs;rw [e2]
  simp only [Int.mul_assoc,Cy,Int.mul_left_comm]
 have a2:mN*pD*100=M*(pD*mD):=by
  rw [e3]
  conv=>lhs;rw [e4]
  simp only [Int.mul_assoc,Cy,Int.mul_left_comm]
 rw [Int.add_mul,Int.add_mul,a1,a2]
theorem zrX {a b A B:Int} (h1: -A<=a/\a<=A) (h2:0<=b/\b<=B) (hA:0<=A): -(A*B)<=a*b/\a*b<=A*B:=by
 have e1:=Be h1.2 h2.1;have e2:=A4 h2.2 hA;have e3:=Be h1.1 h2.1;rw [Bk] at e3
 omega
theorem zDj {P M:Int} (hP: -24000000<=P/\P<=24000000) (hM: -48000000<=M/\M<=48000000):
 (-2400000000<=(ofH P).Num*(ofH M).Den/\(ofH P).Num*(ofH M).Den<=2400000000)/\(-4800000000<=(ofH M).Num*(ofH P).Den/\(ofH M).Num*(ofH P).Den<=4800000000)/\
 (1<=(ofH P).Den*(ofH M).Den/\(ofH P).Den*(ofH M).Den<=10000):=by
 obtain ⟨⟨a1,a2⟩,a3⟩:=zoD hP;obtain ⟨⟨b1,b2⟩,b3⟩:=zoD hM;have m1:=zrX a3 (b:=(ofH M).Den) (B:=100) ⟨by omega,b2⟩ (by decide);have m2:=zrX b3 (b:=(ofH P).Den) (B:=100) ⟨by omega,a2⟩ (by decide);have m3:=zrX (a:=(ofH P).Den) (A:=100) (b:=(ofH M).Den) (B:=100) ⟨by omega,a2⟩ ⟨by omega,b2⟩ (by decide);have m4:=Int.mul_pos (show 0<(ofH P).Den by omega) (show 0<(ofH M).Den by omega);exact ⟨by omega,by omega,by omega⟩
/-! a book without captains-/
theorem zsk {α:Type} {g:Nat->α->α->Int} {d:α} {l:List α} (h: ∀(i:Nat) (x:α),l[i]? =some x->g i x (l.getD (i-1) d)=0): ∀(r:List α) (k:Nat),l.drop k=r->zaV g d l k r=0
 |[],_,_=>rfl
 |y::r,k,hd=>by
   have hy:l[k]? =some y:=by have:=congrArg (fun q:List α=>q[0]?) hd;simpa using this
   rw [zaT (h k y hy)];exact zsk h r (k+1) (by rw [<-Bl (i:=1),hd];rfl)
theorem zAh {α:Type} {g:Nat->α->α->Int} {d:α} {l:List α} {n:Nat} (hn:l.length<=n) (h: ∀(i:Nat) (x:α),l[i]? =some x->g i x (l.getD (i-1) d)=0):zd2 n g d l=0:=by
 unfold zd2;rw [if_neg (by omega)];exact zsk h l 0 rfl
theorem zDw {T:List Str} {n:Nat} {l:List ChoiceS} (h:zmK T n l=0):zmK T n (l.map zcq)=0:=by
 obtain ⟨h1,h2⟩:=zfD h;refine zAh (by rw [Ah];exact h1) fun i y hy=> ?_
 rw [Ag] at hy
 cases hx:l[i]? with
 |none=>rw [hx] at hy;cases hy
 |some x=>
   rw [hx] at hy
   cases hy
   have e:(l.map zcq).getD (i-1) zdP=zcq (l.getD (i-1) zdP):=by
    rw [Ae,Ae,Ag]
    cases l[i-1]?<;>rfl
   rw [e];have h3:=h2 i x hx
   generalize l.getD (i-1) zdP=p at h3⊢
   unfold zbV at h3⊢
   split at h3
   cases h3
   rename_i a1
   split at h3
   cases h3
   rename_i a2
   split at h3
   cases h3
   rename_i a3
   split at h3
   cases h3
   rename_i a4
   rw [if_neg (show ¬T.contains (zcq x).Team=false from a1),if_neg (show ¬(zaQ (zcq x).Week=false\/zaa (zcq x).At=false) from a2),if_neg (show ¬(zcq x).Players.length≠n from a3)];have a5:((zcq x).Players++[(zcq x).Captain]).all zbS=true:=by
    have a6:(x.Players++[x.Captain]).all zbS=true:=by simpa using a4
    rw [List.all_append,A2] at a6⊢;exact ⟨a6.1,rfl⟩
   rw [if_neg (by rw [a5];simp)];exact h3
theorem zCO {b:BookS} (h:zda b=0):zda (zae b)=0:=by
 unfold zda at h⊢
 split at h
 rename_i q;exact absurd h q
 rename_i q
 rw [if_neg (show ¬zcu (zae b).League≠0 from q)];have h1:=zg7 h
 show orI [zfi b.Moves,zbT b.Plays,zbu b.Mends,zor b.League.Players b.Health,zmK b.League.Teams b.League.Slots.length (b.Choices.map zcq)]=0
 have e1:zfi b.Moves=0:=h1 _ (by simp);have e2:zbT b.Plays=0:=h1 _ (by simp);have e3:zbu b.Mends=0:=h1 _ (by simp);have e4:zor b.League.Players b.Health=0:=h1 _ (by simp);rw [e1,e2,e3,e4,zDw (h1 _ (by simp))]
 decide
theorem nc_c {b:BookS} (h:BookC b):BookC (zae b):=by
 obtain ⟨⟨c1,c2,c3,c4,c5,c6,c7⟩,h2,h3,h4,h5,h6,h7,h8,l1,l2,l3,l4,l5,tt,l6⟩:=h;refine ⟨⟨c1,c2,c3,c4,c5,by show (b.Choices.map zcq).length<=_;rw [Ah];exact c6,fun x hx=> ?_⟩,h2,h3,h4,h5,h6,h7,fun x hx=> ?_,l1,l2,l3,l4,by show (b.Choices.map zcq).length<=_;rw [Ah];exact l5,tt,l6⟩
 obtain ⟨y,hy,rfl⟩:=List.mem_map.1 hx;exact c7 y hy;obtain ⟨y,hy,rfl⟩:=List.mem_map.1 hx;exact ⟨(h8 y hy).1,by unfold Sh zcq;simp⟩
theorem zsm {t:Str} {w a bf:Int}: ∀{l:List ChoiceS} {o:Option ChoiceS} {c:ChoiceS},zkR t w a bf o l=some c->c∈l\/o=some c
 |[],o,c,h=> .inr h
 |x::r,o,c,h=>by
   rw [zkR] at h
   rcases zsm h with q|q
   exact .inl (Am _ q)
   split at q
   cases q;exact .inl Aj
   exact .inr q
theorem zDU {b:BookS} (t:Str) (w n:Int):fdP (zae b) t w n=[]:=by
 unfold fdP
 cases h:fdC (zae b) t w n with
 |none=>rfl
 |some c=>
   have hc:c.Captain=[]:=by
    rcases zsm h with q|q
    obtain ⟨x,_,rfl⟩:=List.mem_map.1 q;rfl
    cases q
   unfold zmI;exact if_neg fun q=>q.1 hc
theorem zGK {b:BookS} {t:Str} {w n:Int} (h:fdP b t w n=[]):ptV b t w n+msV b t w n=sfL (dsL b t w n) (zeb (dsL b t w n) b.League.Slots) []:=by
 unfold ptV msV;rw [h];omega
def TpF (b:BookS) (t:Str) (w n:Int):FracS:=if zcr b t w n≠0 then ⟨0,0⟩ else PtF b t w n
theorem zGL {b:BookS} {t:Str} {w n:Int} (h:TfE b t w n=0):TpF b t w n=ofH (ptV b t w n):=by
 obtain ⟨h1,h2⟩:=zxY h;rw [TpF,if_neg (fun q=>q h1),PtF,if_neg (fun q=>q h2)]
theorem ztT {b:BookS} {t:Str} {w n:Int} (h:TsE b t w n≠0):TfE b t w n=TsE b t w n:=by
 unfold TsE at h⊢;unfold TfE
 by_cases q:zcr b t w n≠0
 rw [if_pos q,if_pos q];rw [if_neg q] at h⊢;rw [if_neg q];unfold fdE;rw [if_pos h]
theorem zBS {b:BookS} {t:Str} {w n:Int} (hb:BookW b) (h:fdE b t w n=0): -48000000<=msV b t w n/\msV b t w n<=48000000:=by
 obtain ⟨_,_,hs⟩:=zo0 h;have e1:(fdF b t w n).length=b.League.Slots.length:=(zuB hs (fdC b t w n) b.League.Slots b.League.Slots.length).len;have e2:(zeb (dsL b t w n) b.League.Slots).length=b.League.Slots.length:=(zj2 hs b.League.Slots b.League.Slots.length (Af _)).fo.len;have hl:=hb.sl;have h1:=zk1 hs (f:=fdF b t w n) (by omega) [] (fdF b t w n).length;have h2:=zk1 hs (f:=zeb (dsL b t w n) b.League.Slots) (by omega) [] (zeb (dsL b t w n) b.League.Slots).length;rw [Ak] at h1 h2;unfold msV
 omega
end
end Go.HL
namespace Go.Proofs.YtpgopgjleokciaaGreatDoor
set_option maxRecDepth 100000
set_option linter.unusedVariables false
set_option linter.unusedSimpArgs false
section
open Go.Proofs.Tryz
open Go.HL
theorem zuj [Tracks] {S:List SlotS} {l:List ScorerS} (hz:zdn S=0) (hS0:S.length<=1000000) (hsp: ∀x∈S,x.Positions.length<=1000000) (hsc:zhq l=0) (hl:l.length<=1000000) (hlp: ∀x∈l,x.Positions.length<=1000000) (hb:(∀x∈l,(-1000000000000000<=x.Num/\x.Num<=1000000000000000)/\ -1000000000<=x.Den/\x.Den<=1000000000)) (hS12:S.length<=12):ConP prog 12 [zbt S,zaS l] (.tup [zgV (zeb l S),zdB (ofH (sfL l (zeb l S) [])),.int .i64 0]):=by
 have hS:=zoO hsc;have hbo:=(zj2 hS S S.length (Af _)).fo;have hbl:(zeb l S).length=S.length:=hbo.len;have hb2:=zk1 hS (f:=zeb l S) uO [] (zeb l S).length;rw [Ak] at hb2;refine zaC func12 rfl ntmps12 rfl rfl ?_;refine gz2 ?_;refine de rfl (zj zU rfl fun b5=> ?_)
 refine gz5 ?_;refine dq (uCl zzB rfl (zf2 (l:=S) hS0 hsp)) ?_;refine gz1 ?_;refine dq (uCl zzC rfl (zfc (l:=l) hl hlp hb)) ?_;refine dq (za (hs:=[_,_]) zd9 zgp rfl rfl (by decide) (by decide) rfl) ?_;refine dq (uCl zkf rfl (zb0 (l:=[_,_]) (by simp))) ?_;refine gz6 ?_;refine zZ rfl (fun h1=> ?_) (fun h1=> ?_)
 exfalso
 try simp at h1
 rw [hz,hsc] at h1;exact absurd rfl h1
 try simp at h1
 refine gz5 ?_;refine dq (zB (cs:=[_,_]) zfn zBU rfl) ?_;refine gz1 ?_;refine dq (uCl ca29 rfl (zi4 (S:=S) (l:=l) hS hsp hS12)) ?_;refine gz6 ?_;refine dq (uCl zw5 rfl (ziL (S:=S) (l:=l) (f:=zeb l S) (c:=[]) hS hbo hS12 hl)) ?_;refine dq (uCl zw4 rfl (zd5 (n:=sfL l (zeb l S) []) uO)) ?_;refine gz1 ?_;refine de0 (zn (h:=zdB (ofH (sfL l (zeb l S) []))) zU rfl rfl rfl rfl rfl ?_)
 refine gz3 ?_;exact ⟨_,_,zm 5 rfl,[_,_,_],_,⟨rfl,⟨⟨_,_,_,_,_,rfl,zU,.inr ⟨rfl,rfl,rfl⟩⟩,⟨rfl,trivial⟩⟩⟩,Weak.refl _,rfl,rfl⟩
theorem zqq [Tracks] {b:BookS} {t:Str} {w n:Int} (hT:Tracks.on=false) (hb:BookC b):ConP prog 9 [zcg b,.str t,.int .i64 w,.int .i64 n] (.tup [zdB (TpF b t w n),.int .i64 (TfE b t w n)]):=by
 refine zaC func9 rfl ntmps9 rfl rfl ?_;refine gz2 ?_;refine de rfl (zj zU rfl fun b8=> ?_)
 refine gz7 ?_;refine dq (uCl zzA rfl (zf1 (b:=b) (t:=t) (w:=w) (n:=n) hT hb)) ?_;refine gz6 ?_;refine uCo (fun h1=> ?_) fun h2=> ?_
 refine gz1 ?_;refine dq (zB (cs:=[_,_]) zU zid rfl) ?_;refine gz1 ?_
 focus first
 |refine de0 (uY 0 ?_)
 |refine de0 (uY 1 ?_)
 |refine de0 (uY 2 ?_)
 |refine de0 (uY 3 ?_)
 refine gz3 ?_
 focus first
 | (have q1:TfE b t w n=zcr b t w n:=by rw [TfE,if_pos (by simpa using h1)]
    exact ⟨_,_,zm 8 rfl,[_,_],_,⟨⟨_,_,_,_,_,rfl,zU,.inr ⟨rfl,rfl,rfl⟩⟩,⟨rfl,trivial⟩⟩,zai (by rw [TpF,if_pos (by simpa using h1)];exact Weak.refl _) (by rw [q1];exact Weak.refl _),rfl,rfl⟩)
 | (have q1:TfE b t w n=fdE b t w n:=by rw [TfE,if_neg (fun q=>q hz)]
    exact ⟨_,_,zm 8 rfl,[_,_],_,⟨⟨_,_,_,_,_,rfl,zU,.inr ⟨rfl,rfl,rfl⟩⟩,⟨rfl,trivial⟩⟩,zai (by rw [TpF,if_neg (fun q=>q hz)];exact Weak.refl _) (by rw [q1];exact Weak.refl _),rfl,rfl⟩)
 refine gz2 ?_;have hz:zcr b t w n=0:=by simp_all
 obtain ⟨hbz,htm,hwk,hnm⟩:=zpc hz;have hX:=zqj hbz;refine gz2 ?_;refine dq (zB (cs:=[_,_]) zc8 zAz rfl) ?_;refine gz2 ?_;refine dq (uCl ca19 rfl (zmx (b:=b) (n:=n) (w:=w) (t:=t) hT hb hX hwk hnm htm)) ?_;refine gz2 ?_;refine de0 (zn (h:=zdB (PtF b t w n)) zU rfl rfl rfl rfl rfl ?_)
 refine gz3 ?_
 focus first
 | (have q1:TfE b t w n=zcr b t w n:=by rw [TfE,if_pos (by simpa using h1)]
    exact ⟨_,_,zm 8 rfl,[_,_],_,⟨⟨_,_,_,_,_,rfl,zU,.inr ⟨rfl,rfl,rfl⟩⟩,⟨rfl,trivial⟩⟩,zai (by rw [TpF,if_pos (by simpa using h1)];exact Weak.refl _) (by rw [q1];exact Weak.refl _),rfl,rfl⟩)
 | (have q1:TfE b t w n=fdE b t w n:=by rw [TfE,if_neg (fun q=>q hz)]
    exact ⟨_,_,zm 8 rfl,[_,_],_,⟨⟨_,_,_,_,_,rfl,zU,.inr ⟨rfl,rfl,rfl⟩⟩,⟨rfl,trivial⟩⟩,zai (by rw [TpF,if_neg (fun q=>q hz)];exact Weak.refl _) (by rw [q1];exact Weak.refl _),rfl,rfl⟩)
end
section
open Go.Proofs.Tryz
open Go.HL
theorem zay [Tracks] {b:Nat} {l:List Int} {a:Nat} (ha:a<=800000):Con prog 92 [pAt b] [St b l a] (fun x M'=> ∃t a',x=eSs t/\GoodTr t/\a'<=a+10/\M'=[St b l a']):=by
 refine uOb func92 ntmps92 ?_;refine gz6 ?_;refine ze (zL 1) ?_;refine gz3 ?_;refine de rfl (uCx 1 zBn rfl rfl (zfX (n:=3) uO uO uO) ?_)
 rintro _ _ ⟨L7,a7,rfl,hL7,ha7,rfl⟩;refine gz3 ?_;obtain ⟨hLn,hLb⟩:=hL7;refine gz1 ?_;refine uV2 [3,1,5,1,9,15] (fun (k:Nat) (q:GL Str)=>[(9,.int .i64 k),(3,.raw q.u)]) (fun (k:Nat) (q:GL Str)=>[St b l q.a,.arr q.u 1 (q.out.map .str)]) (fun (k:Nat) (q:GL Str)=>k<=L7.length/\(GLok Sh k (a7+k) q)) (fun (k:Nat) (q:GL Str)=>L7.length-k) (0) (⟨.slice none 0 0,[],a7⟩) ?_ ?_ ?_ ?_;exact ⟨Ad _,⟨by simp,by simp,uD⟩⟩;exact ⟨rfl,rfl,trivial⟩;exact uP
 intro k q hinv
 obtain ⟨hk,hq⟩:=hinv;obtain ⟨u,out,a2⟩:=q;obtain ⟨g1,g2,g3⟩:=id hq;dsimp only at g1 g2 g3;refine gz4 ?_;refine uCo (fun h1=> ?_) fun h2=> ?_
 obtain ⟨y,hy⟩: ∃y,L7[k]? =some y:=⟨_,Aa h1⟩
 have hdy:=zk hy;refine zct ?_;refine de rfl (uCx 0 zeB rfl rfl (zJ uSo uO) ?_)
 rintro _ _ ⟨y14,rfl,rfl⟩;refine gz2 ?_;refine uCo (fun h3=> ?_) fun h4=> ?_
 refine gz2 ?_;refine dq (za (hs:=[_,_,_]) zq ty9 rfl rfl (by decide) (by decide) rfl) ?_;refine gz1 ?_;refine dq (zA (f:=HVal.str) (l:=zgN) (j:=y.toNat) (a:=zgN.getD y.toNat []) zq ty9 rfl rfl (by have:=hLb y (Ab hy);omega) (getD_some (by have:=hLb y (Ab hy);simp [zgN];omega))) ?_;refine gz1 ?_;refine dq (za (hs:=[_]) zq ty9 rfl rfl (by decide) (by decide) rfl) ?_;refine de rfl (zI (i:=1) zq ty9 rfl rfl rfl rfl rfl (by simp [zaq,zd]) uSo fun v22=> ?_)
 refine gz8 ?_;exact ⟨k+1,⟨v22,out++[zgN.getD y.toNat []],a2+1⟩,⟨by omega,hq.add (x:=zgN.getD y.toNat []) (zmf _ (zzZ (by have:=hLb y (Ab hy);simp [zgN];omega))) uO⟩,uD,⟨rfl,rfl,trivial⟩,uK,uP⟩;refine gz7 ?_;exact ⟨k+1,⟨u,out,a2+1⟩,⟨by omega,hq.same uO⟩,uD,⟨rfl,rfl,trivial⟩,uK,uP⟩;have hnk:L7.length<=k:=by omega
 obtain rfl:k=L7.length:=by omega
 refine gz2 ?_;refine zN ?_;refine gz3 ?_
 dsimp only
 refine gz2 ?_;refine de rfl (uCx 0 zeB rfl rfl (zJ uO uO) ?_)
 rintro _ _ ⟨y25,rfl,rfl⟩;refine gz1 ?_;refine uCo (fun h5=> ?_) fun h6=> ?_
 refine gz3 ?_;refine dq (za (hs:=[_,_,_]) zq ty9 rfl rfl (by decide) (by decide) rfl) ?_;refine de rfl (uCx 0 ca5 rfl rfl (zg (L:=[_,_,_]) uO uSa uSa) ?_)
 rintro _ _ ⟨y29,rfl,hy29,rfl⟩;refine dq (za (hs:=[_]) zq ty9 rfl rfl (by decide) (by decide) rfl) ?_;refine de rfl (zI (i:=1) zq ty9 rfl rfl rfl rfl rfl (by simp [zaq,zd]) uSo fun v31=> ?_)
 refine gz8 ?_;exact zav (zaR 2 (i:=1) rfl rfl) rfl ⟨out++[y29],_,by simp,⟨by simp;omega,fun s hs=>by
  rcases List.mem_append.1 hs with hs|hs
  exact g2 s hs;rw [List.mem_singleton.1 hs];simp at hy29;rcases hy29 with rfl|rfl|rfl<;>(unfold Sh;simp)⟩,by omega,rfl⟩
 refine gz7 ?_;exact zav (zaR 2 (i:=1) rfl rfl) rfl ⟨out,_,rfl,⟨by omega,g2⟩,by omega,rfl⟩
theorem zcZ [Tracks] {b:Nat} {l:List Int} {a:Nat} (ha:a<=700000):Con prog 34 [pAt b] [St b l a] (fun x M'=> ∃k a',x=zbE k/\GoodPl k/\a'<=a+500/\M'=[St b l a']):=by
 refine uOb func34 ntmps34 ?_;refine gz6 ?_;refine ze (zL 9) ?_;refine gz2 ?_;refine dq (za (hs:=[_,_,_]) zq ty9 rfl rfl (by decide) (by decide) rfl) ?_;refine dq (zax (f:=HVal.str) (l:=zgN) zq rfl) ?_;refine gz3 ?_;refine uV2 [3,1,5,5,11,1,15,97] (fun (k:Nat) (q:GL Play)=>[(15,.int .i64 k),(3,.raw q.u)]) (fun (k:Nat) (q:GL Play)=>[St b l q.a,.arr q.u 9 (q.out.map zau)]) (fun (k:Nat) (q:GL Play)=>k<=zgN.length/\(GLok zdp (5*k) (a+130*k) q)) (fun (k:Nat) (q:GL Play)=>zgN.length-k) (0) (⟨.slice none 0 0,[],a⟩) ?_ ?_ ?_ ?_;exact ⟨by decide,⟨by simp,by simp,uD⟩⟩;exact ⟨rfl,rfl,trivial⟩;exact uP
 intro k q hinv
 obtain ⟨hk,hq⟩:=hinv;obtain ⟨u,out,a1⟩:=q;obtain ⟨g1,g2,g3⟩:=id hq;dsimp only at g1 g2 g3;have h3:zgN.length=3:=rfl;refine gz4 ?_;refine uCo (fun h1=> ?_) fun h2=> ?_
 obtain ⟨x,hx⟩: ∃x,zgN[k]? =some x:=⟨_,Aa h1⟩
 have hdx:=zk hx;refine gz5 ?_;refine dq (zA (f:=HVal.str) (l:=zgN) (j:=k) (a:=x) zq ty9 rfl rfl rfl hx) ?_;refine gz5 ?_;refine dq (za (hs:=[_,_]) zac ty3 rfl rfl (by decide) (by decide) rfl) ?_;refine de rfl (uCx 0 ca7 rfl rfl (zb (L:=[_,_]) uSo uSa uSa) ?_)
 rintro _ _ ⟨y21,rfl,hy21,rfl⟩;refine gz5 ?_;refine de rfl (uCx 0 ca6 rfl rfl (zD uSo uO uO uO) ?_)
 rintro _ _ ⟨y23,rfl,hy23,rfl⟩;refine gz3 ?_;refine zyE (3::6::7::8::9::11::24::25::26::27::28::29::30::31::32::33::34::35::36::37::38::39::40::41::42::43::44::45::46::47::48::49::50::51::52::53::54::55::56::57::58::59::60::61::62::63::64::65::66::67::68::69::70::71::72::73::74::75::76::77::78::79::80::81::82::83::84::85::86::87::88::89::90::91::92::93::94::95::96::97::98::99::100::101::102::103::104::105::106::107::108::109::110::[]) (fun (n:Nat) (no:Int) (at1:Int) (q2:GL Play)=>[(24,.int .i64 (n:Int)),(6,.int .i64 no),(7,.int .i64 at1),(3,.raw q2.u)]) (fun (n:Nat) (no:Int) (at1:Int) (q2:GL Play)=>[St b l q2.a,.arr q2.u 9 (q2.out.map zau)]) (fun (n:Nat) (no:Int) (at1:Int) (q2:GL Play)=>(n:Int)<=y23/\(0<=no/\no<=2*n)/\(0<=at1/\at1<=5+40*n)/\GLok zdp (5*k+n) (a1+2+25*n) q2) (fun (n:Nat) (no:Int) (at1:Int) (q2:GL Play)=>y23.toNat-n) (0) (0) (y21) (⟨u,out,a1+2⟩) ?_ ?_ ?_ ?_;exact ⟨by omega,⟨by omega,by omega⟩,⟨by simp at hy21;omega,by simp at hy21;omega⟩,⟨uD,g2,uD⟩⟩;exact ⟨rfl,rfl,rfl,rfl,trivial⟩;exact uP
 intro n no at1 q2 hinv
 obtain ⟨hn,hno,hat,hq2⟩:=hinv;obtain ⟨u,out,a2⟩:=q2;obtain ⟨g1,g2,g3⟩:=id hq2;dsimp only at g1 g2 g3;refine gz4 ?_;refine uCo (fun h3=> ?_) fun h4=> ?_
 refine gz7 ?_;refine dq (za (hs:=[_,_,_]) zac ty3 rfl rfl (by decide) (by decide) rfl) ?_;refine de rfl (uCx 0 ca7 rfl rfl (zb (L:=[_,_,_]) uSo uSa uSa) ?_)
 rintro _ _ ⟨y29,rfl,hy29,rfl⟩;refine dq (zaZ rfl rfl (by simp at hy29;omega) (by simp at hy29;omega)) ?_;refine gz4 ?_;refine de rfl (uCx 0 zhi rfl rfl (zX uSo uO) ?_)
 rintro _ _ ⟨y32,rfl,hy32,rfl⟩;refine gz2 ?_;have hyb:1<=y29/\y29<=2:=by simp at hy29;omega
 refine uVj [9,1,33,21] (fun (q9:Nat×Play)=>[(9,pAt q9.1)]) (fun (q9:Nat×Play)=>[St b l (a2+5),.arr u 9 (out.map zau),.cells q9.1 (zd (zau q9.2))]) (fun (q9:Nat×Play)=>zdp q9.2) ?_ ?_
 skip
 refine zhu mixed ?_;refine gz3 ?_;refine uB 3 rfl (za (hs:=[_,_,_]) zac ty3 rfl rfl (by decide) (by decide) rfl) ?_;refine gz1 ?_;refine uB 5 rfl (zA (f:=HVal.int .i64) (l:=znd) (j:=y32) (a:=znd.getD y32 0) zac ty3 rfl rfl rfl (getD_some (by simp [znd];omega))) ?_;refine gz1 ?_;refine uB 7 rfl (za (hs:=[_,_,_]) zq ty9 rfl rfl (by decide) (by decide) rfl) ?_;refine gz1 ?_;refine uB 9 rfl (zA (f:=HVal.str) (l:=zft) (j:=y32) (a:=zft.getD y32 []) zq ty9 rfl rfl rfl (getD_some (by simp [zft];omega))) ?_;refine gz2 ?_;refine uB 12 rfl (za (hs:=[_,_,_]) zq ty9 rfl rfl (by decide) (by decide) rfl) ?_;refine uA 14 ?_;refine uB 15 rfl (za (hs:=[_,_,_,_]) zq ty9 rfl rfl (by decide) (by decide) rfl) ?_;refine uA 17 ?_;refine uB 18 rfl (za (hs:=[_,_,_,_,_]) zac ty3 rfl rfl (by decide) (by decide) rfl) ?_;refine zis 13 21 rfl rfl (by kernel_rfl) ?_ ?_
 skip
 refine zt rfl (uCx 0 ca5 rfl rfl (zg (L:=[_,_,_]) uSo uSa uSa) ?_)
 rintro _ _ ⟨y46,rfl,hy46,rfl⟩;refine ⟨uE,?_⟩
 refine zis 16 21 rfl rfl (by kernel_rfl) ?_ ?_
 skip
 refine zt rfl (uCx 0 ca5 rfl rfl (zg (L:=[_,_,_,_]) uSo uSa uSa) ?_)
 rintro _ _ ⟨y49,rfl,hy49,rfl⟩;refine ⟨uE,?_⟩
 refine zis 19 21 rfl rfl (by kernel_rfl) ?_ ?_
 skip
 refine zt rfl (uCx 0 ca7 rfl rfl (zb (L:=[_,_,_,_,_]) uSo uSa uSa) ?_)
 rintro _ _ ⟨y52,rfl,hy52,rfl⟩;refine ⟨uE,?_⟩
 refine uB 20 rfl (zB (cs:=[_,_,_,_,_,_,_,_,_]) zb3 zu3 rfl) ?_;refine uF 21 ?_;refine zt rfl (zj zb3 rfl fun b9=> ?_)
 refine ⟨uE,?_⟩
 refine uF 22 ?_;refine zz (uY 0 ?_)
 refine ⟨uE,?_⟩
 refine uAz ?_;refine ⟨(b9,(⟨x,no+y29,at1,znd.getD y32 0,zft.getD y32 [],y46,y49,y52,0⟩:Play)),?_,⟨rfl,trivial⟩,uK,?_⟩
 exact ⟨zmf x (Ab hx),zkX y32,by simp at hy46;rcases hy46 with rfl|rfl|rfl<;>(unfold Sh;simp),by simp at hy49;rcases hy49 with rfl|rfl|rfl<;>(unfold Sh;simp)⟩;exact uP
 skip
 refine zt rfl (zj zb3 rfl fun b9=> ?_)
 refine ⟨uE,?_⟩
 refine uF 19 ?_;refine zt rfl (uCx 1 ca7 rfl rfl (zb (L:=[_,_,_,_,_]) uSo uSa uSa) ?_)
 rintro _ _ ⟨y52,rfl,hy52,rfl⟩;refine ⟨uE,?_⟩
 refine uB 20 rfl (zB (cs:=[_,_,_,_,_,_,_,_,_]) zb3 zu3 rfl) ?_;refine uF 22 ?_;refine zz (uY 1 ?_)
 refine ⟨uE,?_⟩
 refine uAz ?_;refine ⟨(b9,(⟨x,no+y29,at1,znd.getD y32 0,zft.getD y32 [],y46,y49,y52,0⟩:Play)),?_,⟨rfl,trivial⟩,uK,?_⟩
 exact ⟨zmf x (Ab hx),zkX y32,by simp at hy46;rcases hy46 with rfl|rfl|rfl<;>(unfold Sh;simp),by simp at hy49;rcases hy49 with rfl|rfl|rfl<;>(unfold Sh;simp)⟩;exact uP
 skip
 refine zt rfl (zj zb3 rfl fun b9=> ?_)
 refine ⟨uE,?_⟩
 refine uF 16 ?_;refine zt rfl (uCx 1 ca5 rfl rfl (zg (L:=[_,_,_,_]) uSo uSa uSa) ?_)
 rintro _ _ ⟨y49,rfl,hy49,rfl⟩;refine ⟨uE,?_⟩
 refine uF 19 ?_;refine zt rfl (uCx 0 ca7 rfl rfl (zb (L:=[_,_,_,_,_]) uSo uSa uSa) ?_)
 rintro _ _ ⟨y52,rfl,hy52,rfl⟩;refine ⟨uE,?_⟩
 refine uB 20 rfl (zB (cs:=[_,_,_,_,_,_,_,_,_]) zb3 zu3 rfl) ?_;refine uF 22 ?_;refine zz (uY 1 ?_)
 refine ⟨uE,?_⟩
 refine uAz ?_;refine ⟨(b9,(⟨x,no+y29,at1,znd.getD y32 0,zft.getD y32 [],y46,y49,y52,0⟩:Play)),?_,⟨rfl,trivial⟩,uK,?_⟩
 exact ⟨zmf x (Ab hx),zkX y32,by simp at hy46;rcases hy46 with rfl|rfl|rfl<;>(unfold Sh;simp),by simp at hy49;rcases hy49 with rfl|rfl|rfl<;>(unfold Sh;simp)⟩;exact uP
 skip
 refine zt rfl (zj zb3 rfl fun b9=> ?_)
 refine ⟨uE,?_⟩
 refine uF 13 ?_;refine zt rfl (uCx 1 ca5 rfl rfl (zg (L:=[_,_,_]) uSo uSa uSa) ?_)
 rintro _ _ ⟨y46,rfl,hy46,rfl⟩;refine ⟨uE,?_⟩
 refine uF 16 ?_;refine zt rfl (uCx 0 ca5 rfl rfl (zg (L:=[_,_,_,_]) uSo uSa uSa) ?_)
 rintro _ _ ⟨y49,rfl,hy49,rfl⟩;refine ⟨uE,?_⟩
 refine uF 19 ?_;refine zt rfl (uCx 0 ca7 rfl rfl (zb (L:=[_,_,_,_,_]) uSo uSa uSa) ?_)
 rintro _ _ ⟨y52,rfl,hy52,rfl⟩;refine ⟨uE,?_⟩
 refine uB 20 rfl (zB (cs:=[_,_,_,_,_,_,_,_,_]) zb3 zu3 rfl) ?_;refine uF 22 ?_;refine zz (uY 1 ?_)
 refine ⟨uE,?_⟩
 refine uAz ?_;refine ⟨(b9,(⟨x,no+y29,at1,znd.getD y32 0,zft.getD y32 [],y46,y49,y52,0⟩:Play)),?_,⟨rfl,trivial⟩,uK,?_⟩
 exact ⟨zmf x (Ab hx),zkX y32,by simp at hy46;rcases hy46 with rfl|rfl|rfl<;>(unfold Sh;simp),by simp at hy49;rcases hy49 with rfl|rfl|rfl<;>(unfold Sh;simp)⟩;exact uP
 intro q9 hq9
 obtain ⟨b9,x9⟩:=q9;dsimp only at hq9;refine uVj [11,1,54,47] (fun (q4:Play×Nat)=>[]) (fun (q4:Play×Nat)=>[St b l q4.2,.arr u 9 (out.map zau),.cells b9 (zd (zau q4.1))]) (fun (q4:Play×Nat)=>zdp q4.1/\q4.2<=a2+22) ?_ ?_
 skip
 refine gz5 ?_;refine dgx (fun x M'=> ∃(y:Bool) (a3:Nat),x= .bool y/\a3<=(a2+5)+1/\M'=[St b l a3,.arr u 9 (out.map zau),.cells b9 (zd (zau x9))]) rfl rfl (fun hc=>⟨_,false,(a2+5),rfl,by omega,rfl⟩) (fun hc=>⟨_,OpenTo.upd (t:=57) rfl (hc) (OpenTo.refl _),uCx 0 zeB rfl rfl (zJ (a:=(a2+5)) uO uO) (fun h M' hh=>by
  obtain ⟨y,h1,h2⟩:=hh;exact ⟨y,(a2+5)+1,h1,by omega,by rw [h2];rfl⟩)⟩) ?_
 rintro _ _ ⟨y10,a310,rfl,ha310,rfl⟩;refine gz2 ?_;refine uCo (fun h5=> ?_) fun h6=> ?_
 refine gz4 ?_;refine de rfl (uCx 0 ca6 rfl rfl (zD uO uO uO uO) ?_)
 rintro _ _ ⟨y63,rfl,hy63,rfl⟩;refine gz1 ?_;refine de0 (uY 2 ?_)
 refine gz1 ?_;refine de0 (uY 2 ?_)
 refine gz1 ?_;obtain ⟨s9,n9,t9,w9,m9,p9,st9,c9,u9⟩:=x9;refine ze (Ghost.perm (M':=[St b l (a310+1),.arr u 9 (out.map zau),.cells b9 (zd (zau ⟨s9,n9,t9,w9,m9,p9,st9,0,y63⟩))]) uP) ?_;refine gz2 ?_;refine de rfl (zaX (i:=1) (es:=out) zht rfl rfl ?_)
 refine gz3 ?_;refine uV2 [11,1,68,33] (fun (j:Nat) (q3:Play×Nat)=>[(68,.int .i64 j)]) (fun (j:Nat) (q3:Play×Nat)=>[St b l q3.2,.arr u 9 (out.map zau),.cells b9 (zd (zau q3.1))]) (fun (j:Nat) (q3:Play×Nat)=>j<=out.length/\(zdp q3.1/\q3.2<=a310+1+j)) (fun (j:Nat) (q3:Play×Nat)=>out.length-j) (0) ((⟨s9,n9,t9,w9,m9,p9,st9,0,y63⟩,a310+1)) ?_ ?_ ?_ ?_;exact ⟨Ad _,hq9,uD⟩;exact ⟨rfl,trivial⟩;exact uP
 intro j q3 hinv
 obtain ⟨hj,hq3⟩:=hinv;obtain ⟨⟨s3,n3,t3,w3,m3,p3,st3,c3,u3⟩,a4⟩:=q3;obtain ⟨hs3,ha4⟩:=hq3;dsimp only at hs3 ha4;refine gz4 ?_;refine uCo (fun h7=> ?_) fun h8=> ?_
 obtain ⟨z,hz⟩: ∃z,out[j]? =some z:=⟨_,Aa h7⟩
 have hdz:=zk hz;have hgz:=g2 z (Ab hz);refine zcS (i:=1) rfl (fun h0 he=> ?_) (fun ob off cap hv hcap=> ?_)
 exfalso;have:=congrArg List.length he;simp at this;subst this;simp at hz
 subst hv;refine gz5 ?_;refine dq (zx (j:=j) zht zb3 rfl rfl rfl uSo) ?_;refine de rfl (zad (i:=1) (j:=j) (f:=zau) (es:=out) zb3 rfl rfl rfl hz rfl rfl rfl ?_)
 refine de rfl (zj zb3 rfl fun b11=> ?_)
 refine de0 (zn zb3 rfl rfl rfl rfl rfl ?_)
 refine gz1 ?_;refine ze (zm 11 rfl) ?_;refine gz9 ?_;refine dgl rfl rfl (fun hc=>⟨_,OpenTo.upd (t:=79) rfl (hc) (OpenTo.refl _),zar (i:=2) ty3 rfl rfl (.inl ⟨rfl,rfl⟩) ⟨rfl,rfl⟩⟩) ?_;refine gz4 ?_;refine dgx (fun x M'=> ∃(y:Bool) (a3:Nat),x= .bool y/\a3<=a4+1/\M'=[St b l a3,.arr (.slice (some ⟨ob,off,none⟩) (out.map zau).length cap) 9 (out.map zau),.cells b9 (zd (zau ⟨s3,n3,t3,w3,m3,p3,st3,c3,u3⟩))]) rfl rfl (fun hc=>⟨_,false,a4,rfl,by omega,rfl⟩) (fun hc=>⟨_,OpenTo.upd (t:=84) rfl (hc) (OpenTo.refl _),uCx 0 zeB rfl rfl (zJ (a:=a4) uO uO) (fun h M' hh=>by
  obtain ⟨y,h1,h2⟩:=hh;exact ⟨y,a4+1,h1,by omega,by rw [h2];rfl⟩)⟩) ?_
 rintro _ _ ⟨y6,a36,rfl,ha36,rfl⟩;refine gz3 ?_;refine uCo (fun h9=> ?_) fun h10=> ?_
 refine zhu mixed ?_;refine gz9 ?_;refine uF 9 ?_;refine zz (uY 2 ?_)
 refine ⟨uE,?_⟩
 refine gz1 ?_;refine uF 11 ?_;refine zz (uY 2 ?_)
 refine ⟨uE,?_⟩
 refine gz1 ?_;refine uF 13 ?_;refine zz (uY 2 ?_)
 refine ⟨uE,?_⟩
 refine gz1 ?_;refine uF 15 ?_;refine zz (uY 2 ?_)
 refine ⟨uE,?_⟩
 refine gz7 ?_;exact ⟨j+1,(⟨s3,n3,t3,z.Week,z.Match,z.Player,z.Stat,c3,u3⟩,a36),⟨by omega,⟨hs3.1,hgz.2.1,hgz.2.2.1,hgz.2.2.2⟩,uD⟩,uD,⟨rfl,trivial⟩,uK,uP⟩;refine gz7 ?_;exact ⟨j+1,(⟨s3,n3,t3,w3,m3,p3,st3,c3,u3⟩,a36),⟨by omega,hs3,uD⟩,uD,⟨rfl,trivial⟩,uK,uP⟩;have hnj:out.length<=j:=by omega
 obtain rfl:j=out.length:=by omega
 refine gz2 ?_;refine zN ?_;refine gz1 ?_;exact ⟨(⟨s3,n3,t3,w3,m3,p3,st3,c3,u3⟩,a4),⟨hs3,uD⟩,trivial,uK,uP⟩;refine gz1 ?_;exact ⟨(x9,a310),⟨hq9,uD⟩,trivial,uK,uP⟩
 intro q4 hq4
 obtain ⟨x5,a5⟩:=q4;obtain ⟨hx5,ha5⟩:=hq4;dsimp only at hx5 ha5;refine ze (zbb 9 (i:=2) rfl rfl) ?_;refine gz3 ?_;refine dq (za (hs:=[_]) zht zb3 rfl rfl (by decide) (by decide) rfl) ?_;refine de rfl (zI (i:=1) zht zb3 rfl rfl rfl rfl rfl (by simp [zaq,zd]) uSo fun v104=> ?_)
 refine gz5 ?_;refine dq (za (hs:=[_,_,_,_]) zac ty3 rfl rfl (by decide) (by decide) rfl) ?_;refine de rfl (uCx 0 ca7 rfl rfl (zb (L:=[_,_,_,_]) uO uSa uSa) ?_)
 rintro _ _ ⟨y108,rfl,hy108,rfl⟩;refine dq (zaZ rfl rfl (by simp at hy108;omega) (by simp at hy108;omega)) ?_;refine gz8 ?_;exact ⟨n+1,no+y29,at1+y108,⟨v104,out++[x5],a5+1⟩,⟨by omega,⟨by simp at hy29;omega,by simp at hy29;omega⟩,⟨by simp at hy108;omega,by simp at hy108;omega⟩,hq2.add (x:=x5) hx5 uO⟩,uD,⟨rfl,rfl,rfl,rfl,trivial⟩,uK,uP⟩;refine gz2 ?_;refine zAf ?_;refine gz7 ?_;exact ⟨k+1,⟨u,out,a2⟩,⟨by omega,⟨uD,g2,uD⟩⟩,uD,⟨rfl,rfl,trivial⟩,uK,uP⟩;have hnk:zgN.length<=k:=by omega
 obtain rfl:k=zgN.length:=by omega
 refine gz2 ?_;refine zN ?_;refine gz2 ?_;refine uVj [12,1,112,111] (fun (q5:List Play×Nat)=>[]) (fun (q5:List Play×Nat)=>[St b l q5.2,.arr u 9 (q5.1.map zau)]) (fun (q5:List Play×Nat)=>q5.1.length<=15/\(∀x∈q5.1,zdp x)/\q5.2<=a+500) ?_ ?_
 skip
 refine gz2 ?_;refine de rfl (zaX (i:=1) zht rfl rfl ?_)
 refine gz3 ?_;refine dgx (fun x M'=> ∃(y:Bool) (a3:Nat),x= .bool y/\a3<=a1+1/\M'=[St b l a3,.arr u 9 (out.map zau)]) rfl rfl (fun hc=>⟨_,false,a1,rfl,by omega,rfl⟩) (fun hc=>⟨_,OpenTo.upd (t:=116) rfl (hc) (OpenTo.refl _),uCx 0 zeB rfl rfl (zJ (a:=a1) uO uO) (fun h M' hh=>by
  obtain ⟨y,h1,h2⟩:=hh;exact ⟨y,a1+1,h1,by omega,by rw [h2];rfl⟩)⟩) ?_
 rintro _ _ ⟨y,a3,rfl,ha3,rfl⟩;refine gz2 ?_;refine uCo (fun h11=> ?_) fun h12=> ?_
 have ho0:0<out.length:=by simp_all
 refine zcS (i:=1) rfl (fun h0 he=> ?_) (fun ob off cap hv hcap=> ?_)
 exfalso;have:=congrArg List.length he;simp at this;subst this;simp at ho0
 subst hv;refine gz4 ?_;refine de rfl (zaX (i:=1) zht rfl rfl ?_)
 refine de rfl (uCx 0 zhi rfl rfl (zX uO uO) ?_)
 rintro _ _ ⟨y123,rfl,hy123,rfl⟩;refine dq (zx (j:=y123) zht zb3 rfl rfl rfl uSo) ?_;refine gz2 ?_;obtain ⟨x,hx⟩: ∃x,out[y123]? =some x:=⟨_,Aa uO⟩
 refine gz2 ?_;refine de rfl (uCx 0 zhi rfl rfl (zX uO uO) ?_)
 rintro _ _ ⟨y126,rfl,hy126,rfl⟩;refine gz6 ?_;refine uCo (fun h13=> ?_) fun h14=> ?_
 refine zbk (fun M=> ∃i:Nat,M[i]? =some (.arr (.slice (some ⟨ob,off,none⟩) (out.map zau).length cap) 9 (out.map zau))) [6,13] mixed ?_;refine gz6 ?_;refine uM 6 rfl ⟨1,rfl⟩ (fun M hM=>by obtain ⟨i,hi⟩:=hM;exact zat (i:=i) (j:=y123) 0 ty9 rfl uO hi hx rfl rfl ⟨rfl,rfl⟩) ?_;refine uB 7 rfl (za (hs:=[_,_,_]) zq ty9 rfl rfl (by decide) (by decide) rfl) ?_;refine uA 9 ?_;refine gz3 ?_;refine uM 13 rfl ⟨1,rfl⟩ (fun M hM=>by obtain ⟨i,hi⟩:=hM;exact zat (i:=i) (j:=y123) 1 ty3 rfl uO hi hx rfl rfl ⟨rfl,rfl⟩) ?_;refine uB 14 rfl (za (hs:=[_,_,_,_]) zac ty3 rfl rfl (by decide) (by decide) rfl) ?_;refine uF 8 ?_;refine zt rfl (uCx 0 ca5 rfl rfl (zg (L:=[_,_,_]) uO uSa uSa) ?_)
 rintro _ _ ⟨y167,rfl,hy167,rfl⟩;refine ⟨uE,?_⟩
 refine uF 15 ?_;refine zt rfl (uCx 0 ca7 rfl rfl (zb (L:=[_,_,_,_]) uO uSa uSa) ?_)
 rintro _ _ ⟨y174,rfl,hy174,rfl⟩;refine ⟨uE,?_⟩
 refine gz2 ?_;refine uF 18 ?_;refine zz (zQ (i:=1) (j:=y123) (f:=0) (y:=zau x) (y':=zau ⟨y167,x.No,x.At,x.Week,x.Match,x.Player,x.Stat,x.Count,x.Undo⟩) ty9 rfl uO rfl rfl (za3 hx) rfl rfl (by simp [zd]) rfl ?_)
 refine ⟨uE,?_⟩
 refine gz2 ?_;refine uF 21 ?_;refine zz (zQ (i:=1) (j:=y123) (f:=1) (y:=zau ⟨y167,x.No,x.At,x.Week,x.Match,x.Player,x.Stat,x.Count,x.Undo⟩) (y':=zau ⟨y167,y174,x.At,x.Week,x.Match,x.Player,x.Stat,x.Count,x.Undo⟩) ty3 rfl uO rfl rfl (zaM (za3 hx)) rfl rfl (by simp [zd]) rfl ?_)
 refine ⟨uE,?_⟩
 refine gz2 ?_;exact ⟨(out.set y123 ⟨y167,y174,x.At,x.Week,x.Match,x.Player,x.Stat,x.Count,x.Undo⟩,a3+4),⟨by simp;omega,zfx (P:=zdp) g2 (by
  have hgx:=g2 x (Ab hx);exact ⟨by simp at hy167;rcases hy167 with rfl|rfl|rfl;exact hgx.1;exact zq4;(unfold Sh;simp),hgx.2.1,hgx.2.2.1,hgx.2.2.2⟩),uD⟩,trivial,uK,uP⟩
 refine gz4 ?_;refine uCo (fun h15=> ?_) fun h16=> ?_
 refine zbk (fun M=> ∃i:Nat,M[i]? =some (.arr (.slice (some ⟨ob,off,none⟩) (out.map zau).length cap) 9 (out.map zau))) [6,13] mixed ?_;refine gz6 ?_;refine uM 6 rfl ⟨1,rfl⟩ (fun M hM=>by obtain ⟨i,hi⟩:=hM;exact zat (i:=i) (j:=y123) 3 ty3 rfl uO hi hx rfl rfl ⟨rfl,rfl⟩) ?_;refine uB 7 rfl (za (hs:=[_,_,_]) zac ty3 rfl rfl (by decide) (by decide) rfl) ?_;refine uA 9 ?_;refine gz3 ?_;refine uM 13 rfl ⟨1,rfl⟩ (fun M hM=>by obtain ⟨i,hi⟩:=hM;exact zat (i:=i) (j:=y123) 4 ty9 rfl uO hi hx rfl rfl ⟨rfl,rfl⟩) ?_;refine uB 14 rfl (za (hs:=[_,_]) zq ty9 rfl rfl (by decide) (by decide) rfl) ?_;refine uF 8 ?_;refine zt rfl (uCx 0 ca7 rfl rfl (zb (L:=[_,_,_]) uO uSa uSa) ?_)
 rintro _ _ ⟨y189,rfl,hy189,rfl⟩;refine ⟨uE,?_⟩
 refine uF 15 ?_;refine zt rfl (uCx 0 ca5 rfl rfl (zg (L:=[_,_]) uO uSa uSa) ?_)
 rintro _ _ ⟨y196,rfl,hy196,rfl⟩;refine ⟨uE,?_⟩
 refine gz2 ?_;refine uF 18 ?_;refine zz (zQ (i:=1) (j:=y123) (f:=3) (y:=zau x) (y':=zau ⟨x.Source,x.No,x.At,y189,x.Match,x.Player,x.Stat,x.Count,x.Undo⟩) ty3 rfl uO rfl rfl (za3 hx) rfl rfl (by simp [zd]) rfl ?_)
 refine ⟨uE,?_⟩
 refine gz2 ?_;refine uF 21 ?_;refine zz (zQ (i:=1) (j:=y123) (f:=4) (y:=zau ⟨x.Source,x.No,x.At,y189,x.Match,x.Player,x.Stat,x.Count,x.Undo⟩) (y':=zau ⟨x.Source,x.No,x.At,y189,y196,x.Player,x.Stat,x.Count,x.Undo⟩) ty9 rfl uO rfl rfl (zaM (za3 hx)) rfl rfl (by simp [zd]) rfl ?_)
 refine ⟨uE,?_⟩
 refine gz2 ?_;exact ⟨(out.set y123 ⟨x.Source,x.No,x.At,y189,y196,x.Player,x.Stat,x.Count,x.Undo⟩,a3+4),⟨by simp;omega,zfx (P:=zdp) g2 (by
  have hgx:=g2 x (Ab hx);exact ⟨hgx.1,by simp at hy196;rcases hy196 with rfl|rfl;exact hgx.2.1;exact zq4,hgx.2.2.1,hgx.2.2.2⟩),uD⟩,trivial,uK,uP⟩
 refine gz4 ?_;refine uCo (fun h17=> ?_) fun h18=> ?_
 refine zbk (fun M=> ∃i:Nat,M[i]? =some (.arr (.slice (some ⟨ob,off,none⟩) (out.map zau).length cap) 9 (out.map zau))) [6,13] mixed ?_;refine gz6 ?_;refine uM 6 rfl ⟨1,rfl⟩ (fun M hM=>by obtain ⟨i,hi⟩:=hM;exact zat (i:=i) (j:=y123) 7 ty3 rfl uO hi hx rfl rfl ⟨rfl,rfl⟩) ?_;refine uB 7 rfl (za (hs:=[_,_,_]) zac ty3 rfl rfl (by decide) (by decide) rfl) ?_;refine uA 9 ?_;refine gz3 ?_;refine uM 13 rfl ⟨1,rfl⟩ (fun M hM=>by obtain ⟨i,hi⟩:=hM;exact zat (i:=i) (j:=y123) 8 ty3 rfl uO hi hx rfl rfl ⟨rfl,rfl⟩) ?_;refine uB 14 rfl (za (hs:=[_,_,_]) zac ty3 rfl rfl (by decide) (by decide) rfl) ?_;refine uF 8 ?_;refine zt rfl (uCx 0 ca7 rfl rfl (zb (L:=[_,_,_]) uO uSa uSa) ?_)
 rintro _ _ ⟨y211,rfl,hy211,rfl⟩;refine ⟨uE,?_⟩
 refine uF 15 ?_;refine zt rfl (uCx 0 ca7 rfl rfl (zb (L:=[_,_,_]) uO uSa uSa) ?_)
 rintro _ _ ⟨y218,rfl,hy218,rfl⟩;refine ⟨uE,?_⟩
 refine gz2 ?_;refine uF 18 ?_;refine zz (zQ (i:=1) (j:=y123) (f:=7) (y:=zau x) (y':=zau ⟨x.Source,x.No,x.At,x.Week,x.Match,x.Player,x.Stat,y211,x.Undo⟩) ty3 rfl uO rfl rfl (za3 hx) rfl rfl (by simp [zd]) rfl ?_)
 refine ⟨uE,?_⟩
 refine gz2 ?_;refine uF 21 ?_;refine zz (zQ (i:=1) (j:=y123) (f:=8) (y:=zau ⟨x.Source,x.No,x.At,x.Week,x.Match,x.Player,x.Stat,y211,x.Undo⟩) (y':=zau ⟨x.Source,x.No,x.At,x.Week,x.Match,x.Player,x.Stat,y211,y218⟩) ty3 rfl uO rfl rfl (zaM (za3 hx)) rfl rfl (by simp [zd]) rfl ?_)
 refine ⟨uE,?_⟩
 refine gz2 ?_;exact ⟨(out.set y123 ⟨x.Source,x.No,x.At,x.Week,x.Match,x.Player,x.Stat,y211,y218⟩,a3+4),⟨by simp;omega,zfx (P:=zdp) g2 (by
  have hgx:=g2 x (Ab hx);exact ⟨hgx.1,hgx.2.1,hgx.2.2.1,hgx.2.2.2⟩),uD⟩,trivial,uK,uP⟩
 refine zbk (fun M=> ∃i:Nat,M[i]? =some (.arr (.slice (some ⟨ob,off,none⟩) (out.map zau).length cap) 9 (out.map zau))) [7,14,21] mixed ?_;refine gz7 ?_;refine uM 7 rfl ⟨1,rfl⟩ (fun M hM=>by obtain ⟨i,hi⟩:=hM;exact zat (i:=i) (j:=y123) 5 ty9 rfl uO hi hx rfl rfl ⟨rfl,rfl⟩) ?_;refine uB 8 rfl (za (hs:=[_,_]) zq ty9 rfl rfl (by decide) (by decide) rfl) ?_;refine uA 10 ?_;refine gz3 ?_;refine uM 14 rfl ⟨1,rfl⟩ (fun M hM=>by obtain ⟨i,hi⟩:=hM;exact zat (i:=i) (j:=y123) 6 ty9 rfl uO hi hx rfl rfl ⟨rfl,rfl⟩) ?_;refine uB 15 rfl (za (hs:=[_,_]) zq ty9 rfl rfl (by decide) (by decide) rfl) ?_;refine uA 17 ?_;refine gz3 ?_;refine uM 21 rfl ⟨1,rfl⟩ (fun M hM=>by obtain ⟨i,hi⟩:=hM;exact zat (i:=i) (j:=y123) 2 ty3 rfl uO hi hx rfl rfl ⟨rfl,rfl⟩) ?_;refine uB 22 rfl (za (hs:=[_,_]) zac ty3 rfl rfl (by decide) (by decide) rfl) ?_;refine uF 9 ?_;refine zt rfl (uCx 0 ca5 rfl rfl (zg (L:=[_,_]) uO uSa uSa) ?_)
 rintro _ _ ⟨y136,rfl,hy136,rfl⟩;refine ⟨uE,?_⟩
 refine uF 16 ?_;refine zt rfl (uCx 0 ca5 rfl rfl (zg (L:=[_,_]) uO uSa uSa) ?_)
 rintro _ _ ⟨y143,rfl,hy143,rfl⟩;refine ⟨uE,?_⟩
 refine uF 23 ?_;refine zt rfl (uCx 0 ca7 rfl rfl (zb (L:=[_,_]) uO uSa uSa) ?_)
 rintro _ _ ⟨y150,rfl,hy150,rfl⟩;refine ⟨uE,?_⟩
 refine gz2 ?_;refine uF 26 ?_;refine zz (zQ (i:=1) (j:=y123) (f:=5) (y:=zau x) (y':=zau ⟨x.Source,x.No,x.At,x.Week,x.Match,y136,x.Stat,x.Count,x.Undo⟩) ty9 rfl uO rfl rfl (za3 hx) rfl rfl (by simp [zd]) rfl ?_)
 refine ⟨uE,?_⟩
 refine gz2 ?_;refine uF 29 ?_;refine zz (zQ (i:=1) (j:=y123) (f:=6) (y:=zau ⟨x.Source,x.No,x.At,x.Week,x.Match,y136,x.Stat,x.Count,x.Undo⟩) (y':=zau ⟨x.Source,x.No,x.At,x.Week,x.Match,y136,y143,x.Count,x.Undo⟩) ty9 rfl uO rfl rfl (zaM (za3 hx)) rfl rfl (by simp [zd]) rfl ?_)
 refine ⟨uE,?_⟩
 refine gz2 ?_;refine uF 32 ?_;refine zz (zQ (i:=1) (j:=y123) (f:=2) (y:=zau ⟨x.Source,x.No,x.At,x.Week,x.Match,y136,y143,x.Count,x.Undo⟩) (y':=zau ⟨x.Source,x.No,y150,x.Week,x.Match,y136,y143,x.Count,x.Undo⟩) ty3 rfl uO rfl rfl (zaM (zaM (za3 hx))) rfl rfl (by simp [zd]) rfl ?_)
 refine ⟨uE,?_⟩
 refine gz2 ?_;exact ⟨(out.set y123 ⟨x.Source,x.No,y150,x.Week,x.Match,y136,y143,x.Count,x.Undo⟩,a3+5),⟨by simp;omega,zfx (P:=zdp) g2 (by
  have hgx:=g2 x (Ab hx);exact ⟨hgx.1,hgx.2.1,by simp at hy136;rcases hy136 with rfl|rfl;exact hgx.2.2.1;(unfold Sh;simp),by simp at hy143;rcases hy143 with rfl|rfl;exact hgx.2.2.2;exact zq4⟩),uD⟩,trivial,uK,uP⟩
 refine gz1 ?_;exact ⟨(out,a3),⟨uD,g2,uD⟩,trivial,uK,uP⟩
 intro q5 hq5
 obtain ⟨k1,a4⟩:=q5;dsimp only at hq5;obtain ⟨q1,q2,q3⟩:=hq5;refine gz5 ?_;exact zav (zaR 2 (i:=1) rfl rfl) rfl ⟨k1,a4,rfl,⟨by omega,q2⟩,by omega,rfl⟩
end
section
open Go.Proofs.Tryz
open Go.HL
theorem zdV [Tracks] {b:Nat} {l:List Int} {a:Nat} (ha:a<=800000):Con prog 170 [pAt b] [St b l a] (fun x M'=> ∃t a',x=eSs t/\t.length<=4/\a'<=a+5/\M'=[St b l a']):=by
 refine uOb func170 ntmps170 ?_;refine gz6 ?_;refine ze (zL 1) ?_;refine gz2 ?_;refine dq (za (hs:=[_,_,_,_]) zq ty9 rfl rfl (by decide) (by decide) rfl) ?_;refine dq (zax (f:=HVal.str) (l:=sp4) zq rfl) ?_;refine gz3 ?_;refine uV2 [3,1,5,1,8,11] (fun (k:Nat) (q:GL Str)=>[(8,.int .i64 k),(3,.raw q.u)]) (fun (k:Nat) (q:GL Str)=>[St b l q.a,.arr q.u 1 (q.out.map HVal.str)]) (fun (k:Nat) (q:GL Str)=>k<=sp4.length/\(GLok (fun _=>True) (k) (a+k) q)) (fun (k:Nat) (q:GL Str)=>sp4.length-k) (0) (⟨.slice none 0 0,[],a⟩) ?_ ?_ ?_ ?_
 ·exact ⟨Ad _,⟨by simp,by simp,uD⟩⟩
 ·exact ⟨rfl,rfl,trivial⟩
 ·exact uP
 ·intro k q hinv
  obtain ⟨hk,hq⟩:=hinv;have hlen:sp4.length=4:=rfl;obtain ⟨u,out,a2⟩:=q;obtain ⟨g1,g2,g3⟩:=id hq;dsimp only at g1 g2 g3;refine gz4 ?_;refine uCo (fun h1=> ?_) fun h2=> ?_
  ·obtain ⟨x,hx⟩: ∃x,sp4[k]? =some x:=⟨_,Aa h1⟩
   have hdx:=zk hx;refine gz5 ?_;refine dq (zA (f:=HVal.str) (l:=sp4) (j:=k) (a:=x) zq ty9 rfl rfl rfl hx) ?_;refine gz5 ?_;refine de rfl (uCx 0 zeB rfl rfl (zJ uS uS) ?_)
   rintro _ _ ⟨y13,rfl,rfl⟩;refine gz1 ?_;refine uCo (fun h3=> ?_) fun h4=> ?_
   ·refine gz3 ?_;refine dq (za (hs:=[_]) zq ty9 rfl rfl (by decide) (by decide) rfl) ?_;refine de rfl (zI (i:=1) zq ty9 rfl rfl rfl rfl rfl (by simp [zaq,zd,zaB,za6]) uSo fun v17=> ?_)
    refine gz8 ?_;exact ⟨k+1,⟨v17,out++[x],a2+1⟩,⟨by omega,hq.add (x:=x) trivial uO⟩,uD,⟨rfl,rfl,trivial⟩,uK,zo (by dsimp only;first|rfl|(rw [Ay];rfl))⟩
   ·refine gz7 ?_;exact ⟨k+1,⟨u,out,a2+1⟩,⟨by omega,hq.same uO⟩,uD,⟨rfl,rfl,trivial⟩,uK,zo (by dsimp only;first|rfl|(rw [Ay];rfl))⟩
  ·have hnk:sp4.length<=k:=by omega
   obtain rfl:k=sp4.length:=by omega
   refine gz2 ?_;refine zN ?_;refine gz5 ?_;refine de rfl (zaX (i:=1) zq rfl rfl ?_)
   refine gz2 ?_;refine uCo (fun h5=> ?_) fun h6=> ?_
   ·refine gz2 ?_;refine dq (za (hs:=[_,_,_]) zq ty9 rfl rfl (by decide) (by decide) rfl) ?_;refine de rfl (uCx 0 ca5 rfl rfl (zg (L:=[_,_,_]) uS uS uS) ?_)
    rintro _ _ ⟨y24,rfl,hy24,rfl⟩;refine dq (za (hs:=[_]) zq ty9 rfl rfl (by decide) (by decide) rfl) ?_;refine gz3 ?_;exact zav ((zaH (M':=[St b l (a2+1),.arr u 1 (out.map HVal.str)]) rfl).trans ((Ghost.perm (List.Perm.swap _ _ _)).trans Ghost.drop)) rfl ⟨[y24],_,rfl,by simp,by omega,rfl⟩
   ·refine gz7 ?_;exact zav (zaR 2 (i:=1) rfl rfl) rfl ⟨out,a2,rfl,by omega,by omega,rfl⟩
theorem zea [Tracks] {b:Nat} {l:List Int} {a:Nat} (ha:a<=700000):Con prog 86 [pAt b] [St b l a] (fun x M'=> ∃k a',x=zbj k/\GoodPys k/\a'<=a+40/\M'=[St b l a']):=by
 refine uOb func86 ntmps86 ?_;refine gz6 ?_;refine ze (zL 3) ?_;refine gz2 ?_;refine dq (za (hs:=[_,_,_,_,_]) zq ty9 rfl rfl (by decide) (by decide) rfl) ?_;refine dq (zax (f:=HVal.str) (l:=nm5) zq rfl) ?_;refine gz3 ?_;refine uV2 [3,1,5,1,8,17] (fun (k:Nat) (q:GL PlayerS)=>[(8,.int .i64 k),(3,.raw q.u)]) (fun (k:Nat) (q:GL PlayerS)=>[St b l q.a,.arr q.u 3 (q.out.map zeT)]) (fun (k:Nat) (q:GL PlayerS)=>k<=nm5.length/\(GLok (GoodPy) (k) (a+8*k) q)) (fun (k:Nat) (q:GL PlayerS)=>nm5.length-k) (0) (⟨.slice none 0 0,[],a⟩) ?_ ?_ ?_ ?_;exact ⟨Ad _,⟨by simp,by simp,uD⟩⟩;exact ⟨rfl,rfl,trivial⟩;exact uP
 intro k q hinv
 obtain ⟨hk,hq⟩:=hinv;have hlen:nm5.length=5:=rfl;obtain ⟨u,out,a2⟩:=q;obtain ⟨g1,g2,g3⟩:=id hq;dsimp only at g1 g2 g3;refine gz4 ?_;refine uCo (fun h1=> ?_) fun h2=> ?_
 obtain ⟨x,hx⟩: ∃x,nm5[k]? =some x:=⟨_,Aa h1⟩
 have hdx:=zk hx;refine gz5 ?_;refine dq (zA (f:=HVal.str) (l:=nm5) (j:=k) (a:=x) zq ty9 rfl rfl rfl hx) ?_;refine gz6 ?_;refine de rfl (uCx 0 zeB rfl rfl (zJ uS uS) ?_)
 rintro _ _ ⟨y13,rfl,rfl⟩;refine gz1 ?_;refine uCo (fun h3=> ?_) fun h4=> ?_
 refine gz8 ?_;exact ⟨k+1,⟨u,out,a2+1⟩,⟨by omega,hq.same uO⟩,uD,⟨rfl,rfl,trivial⟩,uK,zo (by dsimp only;first|rfl|(rw [Ay];rfl))⟩;refine gz6 ?_;refine dq (za (hs:=[_,_,_,_,_,_]) zq ty9 rfl rfl (by decide) (by decide) rfl) ?_;refine de rfl (uCx 0 ca5 rfl rfl (zg (L:=[_,_,_,_,_,_]) uS uS uS) ?_)
 rintro _ _ ⟨y18,rfl,hy18,rfl⟩;refine gz1 ?_;refine de rfl (uCx 0 zwY rfl rfl (zdV uS) ?_)
 rintro _ _ ⟨t20,a20,rfl,ht20,ha20,rfl⟩;refine dq (zB (cs:=[_,_,_]) zeO zGx rfl) ?_;refine dq (za (hs:=[_]) znb zeO rfl rfl (by decide) (by decide) rfl) ?_;refine de rfl (zI (i:=1) znb zeO rfl rfl rfl rfl rfl (by simp [zaq,zd,zaB,za6]) uSo fun v23=> ?_)
 refine gz8 ?_;exact ⟨k+1,⟨v23,out++[(⟨x,y18,t20⟩:PlayerS)],a20⟩,⟨by omega,hq.add (x:=(⟨x,y18,t20⟩:PlayerS)) ⟨by exact hy18,ht20⟩ (by dsimp only at ha20;omega)⟩,uD,⟨rfl,rfl,trivial⟩,uK,zo (by dsimp only;first|rfl|(rw [Ay];rfl))⟩;have hnk:nm5.length<=k:=by omega
 obtain rfl:k=nm5.length:=by omega
 refine gz2 ?_;refine zN ?_;refine gz7 ?_;exact zav (zaR 2 (i:=1) rfl rfl) rfl ⟨out,a2,rfl,⟨by omega,g2⟩,by omega,rfl⟩
theorem zaN [Tracks] {b:Nat} {l:List Int} {a:Nat} (ha:a<=800000):Con prog 90 [pAt b] [St b l a] (fun x M'=> ∃y:BoundS,x=zgc y/\M'=[St b l (a+4)]):=by
 refine zaC func90 rfl ntmps90 rfl rfl ?_;refine gz1 ?_;refine de rfl (zj zjn rfl fun b2=> ?_)
 refine gz3 ?_;refine dq (za (hs:=[_,_,_,_]) zac ty3 rfl rfl (by decide) (by decide) rfl) ?_;refine de rfl (uCx 1 ca7 rfl rfl (zb (L:=[_,_,_,_]) uS uS uS) ?_)
 rintro _ _ ⟨y5,rfl,hy5,rfl⟩;refine gz1 ?_;refine dq (za (hs:=[_,_,_]) zac ty3 rfl rfl (by decide) (by decide) rfl) ?_;refine de rfl (uCx 0 ca7 rfl rfl (zb (L:=[_,_,_]) uS uS uS) ?_)
 rintro _ _ ⟨y8,rfl,hy8,rfl⟩;refine gz1 ?_;refine dq (za (hs:=[_,_,_,_]) zac ty3 rfl rfl (by decide) (by decide) rfl) ?_;refine de rfl (uCx 0 ca7 rfl rfl (zb (L:=[_,_,_,_]) uS uS uS) ?_)
 rintro _ _ ⟨y11,rfl,hy11,rfl⟩;refine gz1 ?_;refine dq (za (hs:=[_,_,_,_]) zac ty3 rfl rfl (by decide) (by decide) rfl) ?_;refine de rfl (uCx 0 ca7 rfl rfl (zb (L:=[_,_,_,_]) uS uS uS) ?_)
 rintro _ _ ⟨y14,rfl,hy14,rfl⟩;refine dq (zB (cs:=[_,_,_,_]) zjn pl32 rfl) ?_;refine de0 (uY 1 ?_)
 refine gz2 ?_;exact ⟨_,_,zbb 2 (i:=1) rfl rfl,[_],_,⟨⟨_,_,_,_,_,rfl,zjn,.inr ⟨rfl,rfl,rfl⟩⟩,trivial⟩,Weak.refl _,⟨y5,y8,y11,y14⟩,rfl,rfl⟩
theorem zbm [Tracks] {b:Nat} {l:List Int} {a:Nat} (ha:a<=700000):Con prog 89 [pAt b] [St b l a] (fun x M'=> ∃k a',x=zbt k/\GoodS4s k/\0<k.length/\a'<=a+25/\M'=[St b l a']):=by
 refine uOb func89 ntmps89 ?_;refine gz6 ?_;refine ze (zL 2) ?_;refine gz2 ?_;refine dq (za (hs:=[_,_,_,_]) zq ty9 rfl rfl (by decide) (by decide) rfl) ?_;refine gz1 ?_;refine de rfl (uCx 1 ca6 rfl rfl (zD uS uS uS uS) ?_)
 rintro _ _ ⟨y8,rfl,hy8,rfl⟩;refine dq (zaP (es:=sl4) (f:=HVal.str) (h:=y8.toNat) zq ty9 rfl rfl ⟨_,_,rfl,by omega⟩ uO (by simp [sl4];omega)) ?_;refine dq (zax (f:=HVal.str) (l:=(sl4.take y8.toNat)) zq rfl) ?_;refine gz2 ?_;have hlen:(sl4.take y8.toNat).length=y8.toNat:=by simp [sl4];omega
 refine gz1 ?_;refine uV2 [3,1,5,1,11,12] (fun (k:Nat) (q:GL SlotS)=>[(11,.int .i64 k),(3,.raw q.u)]) (fun (k:Nat) (q:GL SlotS)=>[St b l q.a,.arr q.u 2 (q.out.map zbA)]) (fun (k:Nat) (q:GL SlotS)=>k<=(sl4.take y8.toNat).length/\(q.out.length=k/\GLok zlQ k (a+1+5*k) q)) (fun (k:Nat) (q:GL SlotS)=>(sl4.take y8.toNat).length-k) (0) (⟨.slice none 0 0,[],a+1⟩) ?_ ?_ ?_ ?_;exact ⟨Ad _,rfl,⟨by simp,by simp,uD⟩⟩;exact ⟨rfl,rfl,trivial⟩;exact uP
 intro k q hinv
 obtain ⟨hk,⟨hn,hq⟩⟩:=hinv;obtain ⟨u,out,a2⟩:=q;obtain ⟨g1,g2,g3⟩:=id hq;dsimp only at g1 g2 g3;dsimp only at hn;refine gz4 ?_;refine uCo (fun h1=> ?_) fun h2=> ?_
 obtain ⟨x,hx⟩: ∃x,(sl4.take y8.toNat)[k]? =some x:=⟨_,Aa (by simpa using h1)⟩
 have hdx:=zk hx;refine gz5 ?_;refine dq (zA (f:=HVal.str) (l:=(sl4.take y8.toNat)) (j:=k) (a:=x) zq ty9 rfl rfl rfl hx) ?_;refine gz7 ?_;refine de rfl (uCx 0 zwY rfl rfl (zdV uS) ?_)
 rintro _ _ ⟨t18,a18,rfl,ht18,ha18,rfl⟩;refine dq (zB (cs:=[_,_]) zcF zAy rfl) ?_;refine dq (za (hs:=[_]) zcl zcF rfl rfl (by decide) (by decide) rfl) ?_;refine de rfl (zI (i:=1) zcl zcF rfl rfl rfl rfl rfl (by simp [zaq,zd,zaB,za6]) uSo fun v21=> ?_)
 refine gz8 ?_;exact ⟨k+1,⟨v21,out++[(⟨x,t18⟩:SlotS)],a18⟩,⟨by omega,by simp;omega,hq.add (x:=(⟨x,t18⟩:SlotS)) (by show t18.length<=4;omega) (by dsimp only at ha18;omega)⟩,uD,⟨rfl,rfl,trivial⟩,uK,zo (by dsimp only;first|rfl|(rw [Ay];rfl))⟩;have hnk:(sl4.take y8.toNat).length<=k:=by simpa using h2
 obtain rfl:k=(sl4.take y8.toNat).length:=by omega
 refine gz2 ?_;refine zN ?_;refine gz7 ?_;exact zav (zaR 2 (i:=1) rfl rfl) rfl ⟨out,a2,rfl,⟨by omega,g2⟩,by omega,by omega,rfl⟩
end
section
open Go.HL
set_option linter.unusedSimpArgs false
end
end Go.Proofs.YtpgopgjleokciaaGreatDoor
namespace Go.HL
section
section
variable {P:Program} {e:Env} {dst:Option Tmp} {ty:TypeId} {pos:String} {af:Array Edge} {g:Option (Nat×Bool)} {M:List MObj} {K:HVal->List MObj->Prop}
end
end
end Go.HL
namespace Go.Proofs.YtpgopgjleokciaaGreatDoor
set_option maxRecDepth 100000
set_option linter.unusedVariables false
set_option linter.unusedSimpArgs false
section
open Go.Proofs.Tryz
open Go.HL
theorem zgJ [Tracks] {l:List MoveS} {v:Value} (hl:l.length<=1000000):Con prog 38 [.raw v] [.arr v 4 (l.map zdq)] (fun x M'=> ∃u,x= .raw u/\M'=[.arr u 4 ((zan none l).map zdq)]):=by
 refine uOb func38 ntmps38 ?_;refine gz6 ?_;refine de rfl (zaX (i:=0) zb9 rfl rfl ?_)
 refine gz2 ?_;refine uCo (fun h1=> ?_) fun h2=> ?_
 refine gz5 ?_
 (refine zah rfl ⟨_,rfl,?_⟩
  rw [zs7 uO])
 refine gz3 ?_;refine zcS (i:=0) rfl (fun h0 he=> ?_) (fun b off cap hv hcap=> ?_)
 exfalso;have:=congrArg List.length he;simp at this;subst this;simp at h2
 rw [Ah] at hv hcap;subst hv;refine gz4 ?_;refine uT1 [2,4,10,50] (fun k=>[(3,.int .i64 (k:Int))]) (fun k=>[.arr (.slice (some ⟨b,off,none⟩) l.length cap) 4 (l.map zdq)]) (fun k=>(1<=k/\k<=l.length)/\zan none (l.take k)=l.take k) (fun k=>l.length-k) (1) ?_ ?_;exact ⟨⟨by omega,by omega⟩,zs7 uSo⟩;rintro k ⟨⟨hk1,hk⟩,hu⟩;refine gz4 ?_;refine de rfl (zaX (i:=0) zb9 rfl rfl ?_)
 refine gz2 ?_;refine uCo (fun h3=> ?_) fun h4=> ?_
 obtain ⟨x,hx⟩: ∃x,l[k]? =some x:=⟨_,Aa uO⟩
 obtain ⟨y,hy⟩: ∃y,l[k-1]? =some y:=⟨_,Aa uO⟩
 refine gz4 ?_;refine zbW (fun M=>M=[.arr (.slice (some ⟨b,off,none⟩) l.length cap) 4 (l.map zdq)]) [3,8] mixed ?_;refine gz2 ?_;refine uB 2 rfl (zx (j:=k) zb9 zG rfl rfl rfl uO) ?_;refine uM 3 rfl rfl (uW (zad (i:=0) (j:=k) zG rfl uO rfl hx rfl rfl rfl ⟨rfl,rfl⟩)) ?_;refine gz3 ?_;refine uB 7 rfl (zx (j:=k-1) zb9 zG rfl rfl uO uO) ?_;refine uM 8 rfl rfl (uW (zad (i:=0) (j:=k-1) zG rfl uO rfl hy rfl rfl rfl ⟨rfl,rfl⟩)) ?_;refine uB 9 rfl (zu5 zG zBN rfl rfl ⟨rfl,⟨_,_,_,_,ty3,rfl⟩,⟨rfl,⟨_,_,_,_,ty3,rfl⟩,⟨rfl,⟨_,_,_,_,ty9,rfl⟩,⟨rfl,⟨_,_,_,_,ty9,rfl⟩,trivial⟩⟩⟩⟩) ?_;refine gz1 ?_;refine uCo (fun h5=> ?_) fun h6=> ?_
 have hxy:x=y:=(zjb _ _).1 (by simpa using h5);obtain ⟨hC0,hU0⟩:=CmpA.start hx hy uO hxy hu;refine gz3 ?_;refine dq (ze9 (l:=k) (h:=l.length) zb9 zG rfl ⟨_,_,rfl,rfl⟩ rfl uO uO hcap) ?_;refine gz2 ?_;rw [zs0 uO];refine gz5 ?_;refine uV2 [3,1,5,1,29,25] (fun (k2:Nat) (D:List MoveS)=>[(5,.int .i64 (k2:Int)),(3,.int .i64 ((zan none (l.take (k+k2))).length:Int))]) (fun (k2:Nat) (D:List MoveS)=>[.arr (.slice (some ⟨b,off,none⟩) l.length cap) 4 (D.map zdq)]) (fun (k2:Nat) (D:List MoveS)=>(1<=k2/\k+k2<=l.length)/\CmpA l (k+k2) D) (fun (k2:Nat) (D:List MoveS)=>l.length-k2) (1) (l) ?_ ?_ ?_ ?_;exact ⟨⟨by omega,by have:=zp hx;omega⟩,hC0⟩;exact ⟨rfl,zP (by rw [hU0]),trivial⟩;exact Ac _
 intro k2 D hinv
 obtain ⟨⟨hk2,hkk⟩,hD⟩:=hinv;have hlt0:=hD.lt;have hle0:=hD.len;refine gz4 ?_;refine dq (zdh zb9 rfl) ?_;refine gz2 ?_;refine uCo (fun h7=> ?_) fun h8=> ?_
 obtain ⟨x2,hx2⟩: ∃x,l[k+k2]? =some x:=⟨_,Aa uO⟩
 obtain ⟨y2,hy2⟩: ∃y,l[k+k2-1]? =some y:=⟨_,Aa uO⟩
 have hDx:D[k+k2]? =some x2:=by rw [hD.hi _ uO,hx2]
 have hDy:D[k+k2-1]? =some y2:=by rw [hD.hi _ uO,hy2]
 refine gz4 ?_;refine zbW (fun M=>M=[.arr (.slice (some ⟨b,off,none⟩) l.length cap) 4 (D.map zdq)]) [3,8] mixed ?_;refine gz2 ?_;refine uB 2 rfl (zx (j:=k2) zb9 zG rfl rfl rfl uO) ?_;refine uM 3 rfl rfl (uW (zad (i:=0) (j:=(k+k2)) zG rfl uO rfl hDx rfl rfl rfl ⟨rfl,rfl⟩)) ?_;refine gz3 ?_;refine uB 7 rfl (zx (j:=k2-1) zb9 zG rfl rfl uO uO) ?_;refine uM 8 rfl rfl (uW (zad (i:=0) (j:=(k+k2-1)) zG rfl uO rfl hDy rfl rfl rfl ⟨rfl,rfl⟩)) ?_;refine uB 9 rfl (zje zG zBN rfl rfl ⟨rfl,⟨_,_,_,_,ty3,rfl⟩,⟨rfl,⟨_,_,_,_,ty3,rfl⟩,⟨rfl,⟨_,_,_,_,ty9,rfl⟩,⟨rfl,⟨_,_,_,_,ty9,rfl⟩,trivial⟩⟩⟩⟩) ?_;refine gz1 ?_;refine uCo (fun h9=> ?_) fun h10=> ?_
 refine gz5 ?_;refine dq (zx (j:=k2) zb9 zG rfl rfl rfl uO) ?_;refine de rfl (zad (i:=0) (j:=(k+k2)) zG rfl uO rfl hDx rfl rfl rfl ?_)
 refine dq (zx (j:=(zan none (l.take (k+k2))).length) zb9 zG rfl rfl rfl uO) ?_;refine de0 (za5 (i:=0) (j:=(zan none (l.take (k+k2))).length) (y:=D[(zan none (l.take (k+k2))).length]'uO) (y':=x2) zG rfl rfl rfl rfl (Aa _) rfl rfl rfl ?_)
 refine zee ?_;have hxy:x2≠y2:=fun q=>by have q2:=(zjb _ _).2 q;simp_all
 obtain ⟨hC1,hU1⟩:=hD.more hx2 hy2 hxy;exact ⟨k2+1,_,⟨⟨by omega,by omega⟩,hC1⟩,uD,⟨rfl,zP (by rw [<-A6,hU1];rfl),trivial⟩,uK,Ac _⟩;refine gz8 ?_;have hxy:x2=y2:=(zjb _ _).1 (by simpa using h10);obtain ⟨hC1,hU1⟩:=hD.same hx2 hy2 hxy;exact ⟨k2+1,D,⟨⟨by omega,by omega⟩,hC1⟩,uD,⟨rfl,zP (by rw [<-A6,hU1]),trivial⟩,uK,Ac _⟩;have hkl:k+k2=l.length:=by omega
 refine gz2 ?_;refine zN ?_;refine gz5 ?_;refine dq (ze9 (l:=(zan none (l.take (k+k2))).length) (h:=l.length) zb9 zG rfl ⟨_,_,rfl,rfl⟩ rfl uO uO hcap) ?_;refine de0 (zeU (i:=0) (m:=(zan none (l.take (k+k2))).length) ((zan none (l.take (k+k2))).length) zb9 zG rfl rfl rfl (ziG uO hcap) rfl uO (Af _) (by rw [Ah,hD.len];omega) ?_)
 refine gz4 ?_;refine dq (zgE (h:=(zan none (l.take (k+k2))).length) zb9 zG rfl ⟨_,_,rfl,rfl⟩ uO) ?_;refine gz3 ?_
 (refine zah rfl ⟨_,rfl,?_⟩
  have hlo:=hD.lo;rw [hkl,Ak] at hlo⊢;rw [<-BI,hlo];rfl)
 refine gz8 ?_;have hxy:x≠y:=fun q=>by have q2:=(zjb _ _).2 q;simp_all
 exact ⟨k+1,⟨⟨by omega,by omega⟩,by rw [zjM hx hy uO,if_neg hxy,hu,zaf hx]⟩,uD,⟨rfl,trivial⟩,uK,Ac _⟩;have hkl:k=l.length:=by omega
 rw [hkl,Ak] at hu;refine gz2 ?_;refine zv ?_;refine gz7 ?_
 (refine zah rfl ⟨_,rfl,?_⟩
  rw [hu])
theorem zfd [Tracks] {l:List HealthS} {fid:FuncId} {caps:List HVal} {p:HealthS->Bool} (hca:Callable prog fid) (hp: ∀x,ConP prog fid ([zcw x]++caps) (.bool (p x))) (hl:l.length<=1000000):ConP prog 255 [.slice 4 (l.map zcw),.fn (.func fid) [] caps] (.int .i64 (zW p l 0)):=by
 refine uOb func255 ntmps255 ?_;refine zaw ?_;refine uT1 [4,2,8,11] (fun k=>[(8,.int .i64 k)]) (fun k=>[]) (fun k=>k<=l.length/\(zW p l 0=zW p (l.drop k) k)) (fun k=>l.length-k) (0) ?_ ?_;exact ⟨Ad _,rfl⟩;rintro k ⟨hk,hg⟩;refine gz4 ?_;refine uCo (fun h1=> ?_) fun h2=> ?_
 obtain ⟨x,hx⟩: ∃x,l[k]? =some x:=⟨_,Aa h1⟩
 have hdx:=zk hx;rw [hdx] at hg;refine zdu ?_;refine dq (zap hca rfl rfl (WeakL.refl _) (hp _)) ?_;refine gz1 ?_;refine uCo (fun h3=> ?_) fun h4=> ?_
 refine gz5 ?_;refine uRp ?_
 (rw [hg];simp_all [zW])
 refine gz7 ?_;refine ⟨k+1,?_,?_,⟨rfl,trivial⟩,uK,Ac _⟩
 refine ⟨by omega,?_⟩
 rw [hg,zW,if_neg uSa];rfl
 dsimp only;omega
 have hnk:l.length<=k:=by omega
 obtain rfl:k=l.length:=by omega
 rw [zH (Af _)] at hg;refine gz2 ?_;refine zv ?_;refine gz6 ?_;refine uRp ?_
 (rw [hg];rfl)
end
section
open Go.Proofs.Tryz
open Go.HL
theorem ziu [Tracks] {b:Nat} {l:List Int} {a:Nat} {lo hi:Int} (ha:a<=900000) (hlh:lo<=hi) (h0: -1000000000<=lo) (h1:hi<=1000000000):Con prog 101 [pAt b,.int .i64 lo,.int .i64 hi] [St b l a] (fun x M'=> ∃y:Int,x= .int .i64 y/\(-2000000000000<=y/\y<=2000000000000)/\M'=[St b l (a+2)]):=by
 refine uOb func101 ntmps101 ?_;refine gz6 ?_;refine de rfl (uCx 0 zeB rfl rfl (zJ uS uS) ?_)
 rintro _ _ ⟨y8,rfl,rfl⟩;refine gz1 ?_;refine uCo (fun h1=> ?_) fun h2=> ?_
 refine gz8 ?_;refine dq (za (hs:=[_,_,_,_,_,_]) zac ty3 rfl rfl (by decide) (by decide) rfl) ?_;refine de rfl (uCx 0 ca7 rfl rfl (zb (L:=[_,_,_,_,_,_]) uS uS uS) ?_)
 rintro _ _ ⟨y17,rfl,hy17,rfl⟩;refine gz3 ?_;exact zah rfl ⟨_,rfl,by simp at hy17;rcases hy17 with rfl|rfl|rfl|rfl|rfl|rfl<;>omega,rfl⟩;refine gz6 ?_;refine de rfl (uCx 0 ca6 rfl rfl (zD uS uS uS uS) ?_)
 rintro _ _ ⟨y21,rfl,hy21,rfl⟩;refine gz3 ?_;exact zah rfl ⟨_,rfl,by omega,rfl⟩
theorem ze3 [Tracks] {l:List HealthS} {fid:FuncId} {caps:List HVal} {p:HealthS->Bool} {v:Value} (hca:Callable prog fid) (hp: ∀x,ConP prog fid ([zcw x]++caps) (.bool (p x))) (hl:l.length<=1000000):Con prog 188 [.raw v,.fn (.func fid) [] caps] [.arr v 4 (l.map zcw)] (fun x M'=> ∃u,x= .raw u/\M'=[.arr u 4 ((l.filter (fun x=> !p x)).map zcw)]):=by
 refine uOb func188 ntmps188 ?_;refine gz6 ?_;refine de rfl (ze6 (hs':=[.slice 4 (l.map zcw),.fn (.func fid) [] caps]) zFL rfl ⟨.arr (i:=0) rfl,.weak (Weak.refl _),trivial⟩ (zfd (p:=p) hca hp hl) rfl ?_)
 refine gz7 ?_;refine uCo (fun h1=> ?_) fun h2=> ?_
 ·refine gz5 ?_
  (refine zah rfl ⟨_,rfl,?_⟩
   rw [zhH p l 0 uO h1]
   done)
 ·refine gz3 ?_;obtain ⟨i0,hi0,hil,⟨x0,hx0,hp0⟩,hb0⟩:=zgC p l 0 uO h2;rw [Cz] at hi0;obtain ⟨hD0,hn0⟩:=DelInv.start (p:=p) hil hx0 hp0 hb0;refine zcS (i:=0) rfl (fun h0 he=> ?_) (fun b off cap hv hcap=> ?_)
  ·exfalso;have:=congrArg List.length he;simp at this;subst this;simp at hil
  rw [Ah] at hv hcap;subst hv;refine gz2 ?_;refine dq (zS (zaZ rfl rfl (by rw [hi0];omega) (by rw [hi0];omega)) (congrArg _ (by rw [hi0]))) ?_;refine gz3 ?_;refine uV2 [5,3,16,20] (fun (j:Nat) (D:List HealthS)=>[(6,.int .i64 (j:Int)),(5,.int .i64 (((l.take j).filter (fun x=> !p x)).length:Int))]) (fun (j:Nat) (D:List HealthS)=>[.arr (.slice (some ⟨b,off,none⟩) l.length cap) 4 (D.map zcw)]) (fun (j:Nat) (D:List HealthS)=>DelInv p l j D) (fun (j:Nat) (D:List HealthS)=>l.length-j) (i0+1) (l) ?_ ?_ ?_ ?_
  ·exact hD0
  ·exact ⟨rfl,zP (by rw [hn0,hi0]),trivial⟩
  ·exact Ac _
  ·intro j D hD
   have hlt0:=hD.lt;have hle0:=hD.len;refine gz4 ?_;refine de rfl (zaX (i:=0) zjo rfl rfl ?_)
   refine gz2 ?_;refine uCo (fun h3=> ?_) fun h4=> ?_
   ·obtain ⟨x,hx⟩: ∃x,l[j]? =some x:=⟨_,Aa uO⟩
    refine gz7 ?_;refine dq (zx (j:=j) zjo zcB rfl rfl rfl uO) ?_;refine de rfl (zad (i:=0) (j:=j) zcB rfl rfl rfl (hD.get hx) rfl rfl rfl ?_)
    refine de rfl (zj zcB rfl fun b7=> ?_)
    refine de0 (zn zcB rfl rfl rfl rfl rfl ?_)
    refine gz1 ?_;refine ze (zm 7 rfl) ?_;refine gz3 ?_;refine dq (zap hca rfl rfl (WeakL.refl _) (hp _)) ?_;refine gz2 ?_;refine uCo (fun h5=> ?_) fun h6=> ?_
    ·refine gz4 ?_;refine dq (zx (j:=((l.take j).filter (fun x=> !p x)).length) zjo zcB rfl rfl rfl (by have:=hD.lt;omega)) ?_;refine de0 (za5 (i:=0) (j:=((l.take j).filter (fun x=> !p x)).length) (y:=D[((l.take j).filter (fun x=> !p x)).length]'(by have:=hD.lt;have:=hD.len;omega)) (y':=x) zcB rfl rfl rfl rfl (Aa _) rfl rfl rfl ?_)
     refine gz3 ?_;refine dq (zaZ rfl rfl uO (by have:=hD.lt;omega)) ?_;refine gz9 ?_;exact ⟨j+1,_,(hD.keep hx uSa).1,uD,⟨rfl,zP (by rw [(hD.keep hx uSa).2];rfl),trivial⟩,uK,Ac _⟩
    ·refine gz8 ?_;exact ⟨j+1,_,(hD.skip hx uSa).1,uD,⟨rfl,zP (by rw [(hD.skip hx uSa).2]),trivial⟩,uK,Ac _⟩
   ·obtain rfl:j=l.length:=by have:=hD.jle;omega
    have hend:=hD.done;refine gz2 ?_;refine zN ?_;refine gz5 ?_;refine dq (ze9 (l:=((l.take l.length).filter (fun x=> !p x)).length) zjo zcB rfl ⟨_,_,rfl,rfl⟩ rfl uO uO hcap) ?_;refine de0 (zeU (i:=0) (m:=((l.take l.length).filter (fun x=> !p x)).length) (((l.take l.length).filter (fun x=> !p x)).length) zjo zcB rfl rfl rfl (ziG uO hcap) rfl uO (Af _) (by rw [Ah,hD.len];omega) ?_)
    refine gz4 ?_;refine dq (zgE (h:=((l.take l.length).filter (fun x=> !p x)).length) zjo zcB rfl ⟨_,_,rfl,rfl⟩ uO) ?_;refine gz3 ?_
    (refine zah rfl ⟨_,rfl,?_⟩
     rw [Ak,<-BI,hend];rfl)
theorem zfG [Tracks] {l:List StintS} {fid:FuncId} {caps:List HVal} {p:StintS->Bool} (hca:Callable prog fid) (hp: ∀x,ConP prog fid ([zdk x]++caps) (.bool (p x))) (hl:l.length<=1000000):ConP prog 298 [.slice 3 (l.map zdk),.fn (.func fid) [] caps] (.int .i64 (zW p l 0)):=by
 refine uOb func298 ntmps298 ?_;refine zaw ?_;refine uT1 [4,2,8,11] (fun k=>[(8,.int .i64 k)]) (fun k=>[]) (fun k=>k<=l.length/\(zW p l 0=zW p (l.drop k) k)) (fun k=>l.length-k) (0) ?_ ?_;exact ⟨Ad _,rfl⟩;rintro k ⟨hk,hg⟩;refine gz4 ?_;refine uCo (fun h1=> ?_) fun h2=> ?_
 obtain ⟨x,hx⟩: ∃x,l[k]? =some x:=⟨_,Aa h1⟩
 have hdx:=zk hx;rw [hdx] at hg;refine zdu ?_;refine dq (zap hca rfl rfl (WeakL.refl _) (hp _)) ?_;refine gz1 ?_;refine uCo (fun h3=> ?_) fun h4=> ?_
 refine gz5 ?_;refine uRp ?_
 (rw [hg];simp_all [zW])
 refine gz7 ?_;refine ⟨k+1,?_,?_,⟨rfl,trivial⟩,uK,Ac _⟩
 refine ⟨by omega,?_⟩
 rw [hg,zW,if_neg uSa];rfl
 dsimp only;omega
 have hnk:l.length<=k:=by omega
 obtain rfl:k=l.length:=by omega
 rw [zH (Af _)] at hg;refine gz2 ?_;refine zv ?_;refine gz6 ?_;refine uRp ?_
 (rw [hg];rfl)
theorem zfq [Tracks] {l:List StintS} {fid:FuncId} {caps:List HVal} {p:StintS->Bool} {v:Value} (hca:Callable prog fid) (hp: ∀x,ConP prog fid ([zdk x]++caps) (.bool (p x))) (hl:l.length<=1000000):Con prog 241 [.raw v,.fn (.func fid) [] caps] [.arr v 3 (l.map zdk)] (fun x M'=> ∃u,x= .raw u/\M'=[.arr u 3 ((l.filter (fun x=> !p x)).map zdk)]):=by
 refine uOb func241 ntmps241 ?_;refine gz6 ?_;refine de rfl (ze6 (hs':=[.slice 3 (l.map zdk),.fn (.func fid) [] caps]) zF9 rfl ⟨.arr (i:=0) rfl,.weak (Weak.refl _),trivial⟩ (zfG (p:=p) hca hp hl) rfl ?_)
 refine gz7 ?_;refine uCo (fun h1=> ?_) fun h2=> ?_
 ·refine gz5 ?_
  (refine zah rfl ⟨_,rfl,?_⟩
   rw [zhH p l 0 uO h1]
   done)
 ·refine gz3 ?_;obtain ⟨i0,hi0,hil,⟨x0,hx0,hp0⟩,hb0⟩:=zgC p l 0 uO h2;rw [Cz] at hi0;obtain ⟨hD0,hn0⟩:=DelInv.start (p:=p) hil hx0 hp0 hb0;refine zcS (i:=0) rfl (fun h0 he=> ?_) (fun b off cap hv hcap=> ?_)
  ·exfalso;have:=congrArg List.length he;simp at this;subst this;simp at hil
  rw [Ah] at hv hcap;subst hv;refine gz2 ?_;refine dq (zS (zaZ rfl rfl (by rw [hi0];omega) (by rw [hi0];omega)) (congrArg _ (by rw [hi0]))) ?_;refine gz3 ?_;refine uV2 [5,3,16,20] (fun (j:Nat) (D:List StintS)=>[(6,.int .i64 (j:Int)),(5,.int .i64 (((l.take j).filter (fun x=> !p x)).length:Int))]) (fun (j:Nat) (D:List StintS)=>[.arr (.slice (some ⟨b,off,none⟩) l.length cap) 3 (D.map zdk)]) (fun (j:Nat) (D:List StintS)=>DelInv p l j D) (fun (j:Nat) (D:List StintS)=>l.length-j) (i0+1) (l) ?_ ?_ ?_ ?_
  ·exact hD0
  ·exact ⟨rfl,zP (by rw [hn0,hi0]),trivial⟩
  ·exact Ac _
  ·intro j D hD
   have hlt0:=hD.lt;have hle0:=hD.len;refine gz4 ?_;refine de rfl (zaX (i:=0) zhs rfl rfl ?_)
   refine gz2 ?_;refine uCo (fun h3=> ?_) fun h4=> ?_
   ·obtain ⟨x,hx⟩: ∃x,l[j]? =some x:=⟨_,Aa uO⟩
    refine gz7 ?_;refine dq (zx (j:=j) zhs zcP rfl rfl rfl uO) ?_;refine de rfl (zad (i:=0) (j:=j) zcP rfl rfl rfl (hD.get hx) rfl rfl rfl ?_)
    refine de rfl (zj zcP rfl fun b7=> ?_)
    refine de0 (zn zcP rfl rfl rfl rfl rfl ?_)
    refine gz1 ?_;refine ze (zm 7 rfl) ?_;refine gz3 ?_;refine dq (zap hca rfl rfl (WeakL.refl _) (hp _)) ?_;refine gz2 ?_;refine uCo (fun h5=> ?_) fun h6=> ?_
    ·refine gz4 ?_;refine dq (zx (j:=((l.take j).filter (fun x=> !p x)).length) zhs zcP rfl rfl rfl (by have:=hD.lt;omega)) ?_;refine de0 (za5 (i:=0) (j:=((l.take j).filter (fun x=> !p x)).length) (y:=D[((l.take j).filter (fun x=> !p x)).length]'(by have:=hD.lt;have:=hD.len;omega)) (y':=x) zcP rfl rfl rfl rfl (Aa _) rfl rfl rfl ?_)
     refine gz3 ?_;refine dq (zaZ rfl rfl uO (by have:=hD.lt;omega)) ?_;refine gz9 ?_;exact ⟨j+1,_,(hD.keep hx uSa).1,uD,⟨rfl,zP (by rw [(hD.keep hx uSa).2];rfl),trivial⟩,uK,Ac _⟩
    ·refine gz8 ?_;exact ⟨j+1,_,(hD.skip hx uSa).1,uD,⟨rfl,zP (by rw [(hD.skip hx uSa).2]),trivial⟩,uK,Ac _⟩
   ·obtain rfl:j=l.length:=by have:=hD.jle;omega
    have hend:=hD.done;refine gz2 ?_;refine zN ?_;refine gz5 ?_;refine dq (ze9 (l:=((l.take l.length).filter (fun x=> !p x)).length) zhs zcP rfl ⟨_,_,rfl,rfl⟩ rfl uO uO hcap) ?_;refine de0 (zeU (i:=0) (m:=((l.take l.length).filter (fun x=> !p x)).length) (((l.take l.length).filter (fun x=> !p x)).length) zhs zcP rfl rfl rfl (ziG uO hcap) rfl uO (Af _) (by rw [Ah,hD.len];omega) ?_)
    refine gz4 ?_;refine dq (zgE (h:=((l.take l.length).filter (fun x=> !p x)).length) zhs zcP rfl ⟨_,_,rfl,rfl⟩ uO) ?_;refine gz3 ?_
    (refine zah rfl ⟨_,rfl,?_⟩
     rw [Ak,<-BI,hend];rfl)
theorem zeG [Tracks] {x:HealthS}:ConP prog 103 [zcw x] (.str x.Player):=by
 refine uOb func103 ntmps103 ?_;refine zaw ?_;refine zw rfl ?_
 rfl
theorem znZ [Tracks] {L:List PlayerS} {x:HealthS} (hL:L.length<=1000000):ConP prog 189 [zcw x,.vptr [zbj L] 0,.vptr [.fn (.func 103) [] []] 0] (.bool (ofB L x.Player)):=by
 refine uOb func189 ntmps189 ?_;refine gz4 ?_;refine uDr mixed ?_;refine gz3 ?_;refine uB 3 rfl (zap zBb rfl rfl (WeakL.refl _) (zeG (x:=x))) ?_;refine uB 4 rfl (uCl zty rfl (zdA (l:=L) (s:=x.Player) hL)) ?_;refine gz4 ?_;refine uGy 9 rfl rfl (fun hc=>zap zBb rfl rfl (WeakL.refl _) (zeG (x:=x))) ?_;refine gz5 ?_;refine zw rfl ?_;refine congrArg _ ?_;unfold ofB
 cases decide (zW (fun x_1:PlayerS=>x_1.Key==x.Player) L 0<0)
 rfl
 rfl
theorem zpQ [Tracks] {L:List PlayerS} {l:List HealthS} {v:Value} (hL:L.length<=1000000) (hl:l.length<=1000000):Con prog 102 [zbj L,.raw v,.fn (.func 103) [] []] [.arr v 4 (l.map zcw)] (fun x M'=> ∃u,x= .raw u/\M'=[.arr u 4 ((l.filter fun x=> !(ofB L x.Player)).map zcw)]):=by
 refine uOb func102 ntmps102 ?_;refine gz8 ?_;refine de rfl (uCx 0 zFa rfl rfl (ze3 (l:=l) (p:=fun x=>ofB L x.Player) zFb (fun _=>znZ hL) hl) ?_)
 rintro _ _ ⟨u9,rfl,rfl⟩;refine gz3 ?_;exact zah rfl ⟨u9,rfl,rfl⟩
theorem zeH [Tracks] {x:StintS}:ConP prog 181 [zdk x] (.str x.Player):=by
 refine uOb func181 ntmps181 ?_;refine zaw ?_;refine zw rfl ?_
 rfl
theorem zpl [Tracks] {L:List PlayerS} {x:StintS} (hL:L.length<=1000000):ConP prog 242 [zdk x,.vptr [zbj L] 0,.vptr [.fn (.func 181) [] []] 0] (.bool (ofB L x.Player)):=by
 refine uOb func242 ntmps242 ?_;refine gz4 ?_;refine uDr mixed ?_;refine gz3 ?_;refine uB 3 rfl (zap zBo rfl rfl (WeakL.refl _) (zeH (x:=x))) ?_;refine uB 4 rfl (uCl zty rfl (zdA (l:=L) (s:=x.Player) hL)) ?_;refine gz4 ?_;refine uGy 9 rfl rfl (fun hc=>zap zBo rfl rfl (WeakL.refl _) (zeH (x:=x))) ?_;refine gz5 ?_;refine zw rfl ?_;refine congrArg _ ?_;unfold ofB
 cases decide (zW (fun x_1:PlayerS=>x_1.Key==x.Player) L 0<0)
 rfl
 rfl
theorem zqs [Tracks] {L:List PlayerS} {l:List StintS} {v:Value} (hL:L.length<=1000000) (hl:l.length<=1000000):Con prog 179 [zbj L,.raw v,.fn (.func 181) [] []] [.arr v 3 (l.map zdk)] (fun x M'=> ∃u,x= .raw u/\M'=[.arr u 3 ((l.filter fun x=> !(ofB L x.Player)).map zdk)]):=by
 refine uOb func179 ntmps179 ?_;refine gz8 ?_;refine de rfl (uCx 0 zFJ rfl rfl (zfq (l:=l) (p:=fun x=>ofB L x.Player) zFK (fun _=>zpl hL) hl) ?_)
 rintro _ _ ⟨u9,rfl,rfl⟩;refine gz3 ?_;exact zah rfl ⟨u9,rfl,rfl⟩
theorem ziX [Tracks] {b:Nat} {l:List Int} {a:Nat} {L:List PlayerS} (ha:a<=700000) (hL:L.length<=1000000):Con prog 39 [pAt b,zbj L] [St b l a] (fun x M'=> ∃k a',x=zcc k/\GoodHes k/\a'<=a+150/\M'=[St b l a']):=by
 refine uOb func39 ntmps39 ?_;refine gz6 ?_;refine ze (zL 4) ?_;refine gz2 ?_;refine dq (za (hs:=[_,_,_,_,_]) zq ty9 rfl rfl (by decide) (by decide) rfl) ?_;refine dq (zax (f:=HVal.str) (l:=nm5) zq rfl) ?_;refine gz3 ?_;refine uV2 [5,1,7,3,12,47] (fun (k:Nat) (q:GL HealthS)=>[(12,.int .i64 k),(5,.raw q.u)]) (fun (k:Nat) (q:GL HealthS)=>[St b l q.a,.arr q.u 4 (q.out.map zcw)]) (fun (k:Nat) (q:GL HealthS)=>k<=nm5.length/\(GLok zt0 (2*k) (a+24*k) q)) (fun (k:Nat) (q:GL HealthS)=>nm5.length-k) (0) (⟨.slice none 0 0,[],a⟩) ?_ ?_ ?_ ?_;exact ⟨Ad _,⟨by simp,by simp,uD⟩⟩;exact ⟨rfl,rfl,trivial⟩;exact uP
 intro k q hinv
 obtain ⟨hk,hq⟩:=hinv;have hlen:nm5.length=5:=rfl;obtain ⟨u,out,a2⟩:=q;obtain ⟨g1,g2,g3⟩:=id hq;dsimp only at g1 g2 g3;refine gz4 ?_;refine uCo (fun h1=> ?_) fun h2=> ?_
 obtain ⟨x,hx⟩: ∃x,nm5[k]? =some x:=⟨_,Aa h1⟩
 have hdx:=zk hx;refine gz5 ?_;refine dq (zA (f:=HVal.str) (l:=nm5) (j:=k) (a:=x) zq ty9 rfl rfl rfl hx) ?_;refine gz5 ?_;refine de rfl (uCx 0 ca6 rfl rfl (zD uS uS uS uS) ?_)
 rintro _ _ ⟨y17,rfl,hy17,rfl⟩;refine gz4 ?_;refine de rfl (uCx 0 ca6 rfl rfl (zD uS uS uS uS) ?_)
 rintro _ _ ⟨y19,rfl,hy19,rfl⟩;refine gz3 ?_;refine uV3 [5,1,8,2,20,38] (fun (n:Nat) (wk:Int) (q2:GL HealthS)=>[(20,.int .i64 (n:Int)),(8,.int .i64 wk),(5,.raw q2.u)]) (fun (n:Nat) (wk:Int) (q2:GL HealthS)=>[St b l q2.a,.arr q2.u 4 (q2.out.map zcw)]) (fun (n:Nat) (wk:Int) (q2:GL HealthS)=>(n:Int)<=y19/\(1<=wk/\wk<=3+4*n)/\GLok zt0 (2*k+n) (a+24*k+2+11*n) q2) (fun (n:Nat) (wk:Int) (q2:GL HealthS)=>y19.toNat-n) (0) (y17) (⟨u,out,a2+2⟩) ?_ ?_ ?_ ?_;exact ⟨by omega,by omega,⟨uD,g2,uD⟩⟩;exact ⟨rfl,rfl,rfl,trivial⟩;exact uP
 intro n wk q2 hinv
 obtain ⟨hn,hw,hq2⟩:=hinv;obtain ⟨u,out,a2⟩:=q2;obtain ⟨g1,g2,g3⟩:=id hq2;dsimp only at g1 g2 g3;refine gz4 ?_;refine uCo (fun h3=> ?_) fun h4=> ?_
 refine gz9 ?_;refine de rfl (uCx 0 ca6 rfl rfl (zD uS uS uS uS) ?_)
 rintro _ _ ⟨y26,rfl,hy26,rfl⟩;refine gz2 ?_;refine dq (za (hs:=[_,_]) zac ty3 rfl rfl (by decide) (by decide) rfl) ?_;refine de rfl (uCx 0 ca7 rfl rfl (zb (L:=[_,_]) uS uS uS) ?_)
 rintro _ _ ⟨y30,rfl,hy30,rfl⟩;refine dq (zB (cs:=[_,_,_,_]) zcB zGB rfl) ?_;refine de rfl (zj zcB rfl fun b9=> ?_)
 refine de0 (uY 0 ?_)
 refine gz1 ?_;refine zbW (fun M=> ∃i:Nat,M[i]? =some (.cells b9 (zd (zcw (⟨x,wk,wk+y26,y30⟩:HealthS))))) [1] mixed ?_;refine gz1 ?_;refine uM 1 rfl ⟨0,rfl⟩ (fun M hM=>by obtain ⟨i,hi⟩:=hM;exact zar (i:=i) (h:= .int .i64 (wk+y26)) ty3 rfl hi (.inl ⟨rfl,rfl⟩) ⟨rfl,rfl⟩) ?_;refine gz1 ?_;refine uF 3 ?_;refine zt rfl (uCx 1 ca6 rfl rfl (zD uS uS uS uS) ?_)
 rintro _ _ ⟨y35,rfl,hy35,rfl⟩;refine ⟨uE,?_⟩
 refine gz3 ?_;refine uVj [37,16] (fun (q4:HealthS×Nat)=>[]) (fun (q4:HealthS×Nat)=>[St b l q4.2,.arr u 4 (out.map zcw),.cells b9 (zd (zcw q4.1))]) (fun (q4:HealthS×Nat)=>zt0 q4.1/\q4.2<=a2+11) ?_ ?_
 skip
 refine gz2 ?_;refine de rfl (uCx 0 zeB rfl rfl (zJ uS uS) ?_)
 rintro _ _ ⟨y38,rfl,rfl⟩;refine gz1 ?_;refine uCo (fun h5=> ?_) fun h6=> ?_
 refine gz3 ?_;refine dq (za (hs:=[_,_]) zq ty9 rfl rfl (by decide) (by decide) rfl) ?_;refine de rfl (uCx 0 ca5 rfl rfl (zg (L:=[_,_]) uS uS uS) ?_)
 rintro _ _ ⟨y42,rfl,hy42,rfl⟩;refine gz1 ?_;refine de rfl (uCx 0 zmF rfl rfl (ziu uS uS uS uS) ?_)
 rintro _ _ ⟨y44,rfl,hy44,rfl⟩;refine gz1 ?_;refine de rfl (uCx 0 zmF rfl rfl (ziu uS uS uS uS) ?_)
 rintro _ _ ⟨y46,rfl,hy46,rfl⟩;refine gz1 ?_;refine de rfl (uCx 0 zmF rfl rfl (ziu uS uS uS uS) ?_)
 rintro _ _ ⟨y48,rfl,hy48,rfl⟩;refine gz1 ?_;refine de0 (uY 1 ?_)
 refine gz1 ?_;refine de0 (uY 1 ?_)
 refine gz1 ?_;refine de0 (uY 1 ?_)
 refine gz1 ?_;refine de0 (uY 1 ?_)
 refine gz1 ?_;exact ⟨((⟨y42,y44,y46,y48⟩:HealthS),a2+11),⟨⟨uD,uD⟩,uD⟩,trivial,uK,uP⟩;refine gz1 ?_;exact ⟨((⟨x,wk,wk+y26,y30⟩:HealthS),a2+4),⟨⟨uD,uD⟩,uD⟩,trivial,uK,uP⟩
 intro q4 hq4
 obtain ⟨x5,a5⟩:=q4;obtain ⟨hx5,ha5⟩:=hq4;dsimp only at hx5 ha5;refine ze (zbb 9 (i:=2) rfl rfl) ?_;refine gz3 ?_;refine dq (za (hs:=[_]) zjo zcB rfl rfl (by decide) (by decide) rfl) ?_;refine de rfl (zI (i:=1) zjo zcB rfl rfl rfl rfl rfl (by simp [zaq,zd,zaB,za6]) uSo fun v56=> ?_)
 refine gz8 ?_;exact ⟨n+1,wk+y26+y35,⟨v56,out++[x5],a5⟩,⟨by omega,⟨by omega,by omega⟩,hq2.add (x:=x5) hx5 uO⟩,uD,⟨rfl,rfl,rfl,trivial⟩,uK,uP⟩;refine gz2 ?_;refine zcK ?_;refine gz7 ?_;exact ⟨k+1,⟨u,out,a2⟩,⟨by omega,hq2.mono uO uO⟩,uD,⟨rfl,rfl,trivial⟩,uK,uP⟩;have hnk:nm5.length<=k:=by omega
 obtain rfl:k=nm5.length:=by omega
 refine gz2 ?_;refine zN ?_;refine gz5 ?_;refine de rfl (uCx 1 zEj rfl rfl (zpQ (L:=L) (l:=out) hL uO) ?_)
 rintro _ _ ⟨u61,rfl,rfl⟩;refine gz3 ?_;exact zav (zaR 4 (i:=0) rfl rfl) rfl ⟨_,a2,rfl,GoodHes.filter uO g2,by omega,rfl⟩
theorem zjv [Tracks] {b:Nat} {l:List Int} {a:Nat} (ha:a<=700000):Con prog 180 [pAt b] [St b l a] (fun x M'=> ∃(u:Value) (k:List StintS) (a':Nat),x= .raw u/\k.length<=10/\a'<=a+100/\M'=[.arr u 3 (k.map zdk),St b l a']):=by
 refine uOb func180 ntmps180 ?_;refine gz6 ?_;refine ze (zL 3) ?_;refine gz2 ?_;refine dq (za (hs:=[_,_,_,_,_]) zq ty9 rfl rfl (by decide) (by decide) rfl) ?_;refine dq (zax (f:=HVal.str) (l:=nm5) zq rfl) ?_;refine gz3 ?_;refine uV2 [3,1,5,3,10,40] (fun (k:Nat) (q:GL StintS)=>[(10,.int .i64 k),(3,.raw q.u)]) (fun (k:Nat) (q:GL StintS)=>[St b l q.a,.arr q.u 3 (q.out.map zdk)]) (fun (k:Nat) (q:GL StintS)=>k<=nm5.length/\(GLok (fun _=>True) (2*k) (a+20*k) q)) (fun (k:Nat) (q:GL StintS)=>nm5.length-k) (0) (⟨.slice none 0 0,[],a⟩) ?_ ?_ ?_ ?_
 ·exact ⟨Ad _,⟨by simp,by simp,uD⟩⟩
 ·exact ⟨rfl,rfl,trivial⟩
 ·exact uP
 ·intro k q hinv
  obtain ⟨hk,hq⟩:=hinv;have hlen:nm5.length=5:=rfl;obtain ⟨u,out,a2⟩:=q;obtain ⟨g1,g2,g3⟩:=id hq;dsimp only at g1 g2 g3;refine gz4 ?_;refine uCo (fun h1=> ?_) fun h2=> ?_
  ·obtain ⟨x,hx⟩: ∃x,nm5[k]? =some x:=⟨_,Aa h1⟩
   have hdx:=zk hx;refine gz5 ?_;refine dq (zA (f:=HVal.str) (l:=nm5) (j:=k) (a:=x) zq ty9 rfl rfl rfl hx) ?_;refine gz5 ?_;refine de rfl (uCx 0 ca6 rfl rfl (zD uS uS uS uS) ?_)
   rintro _ _ ⟨y15,rfl,hy15,rfl⟩;refine gz4 ?_;refine de rfl (uCx 0 ca6 rfl rfl (zD uS uS uS uS) ?_)
   rintro _ _ ⟨y17,rfl,hy17,rfl⟩;refine gz3 ?_;refine uV3 [3,1,6,2,18,31] (fun (n:Nat) (wk:Int) (q2:GL StintS)=>[(18,.int .i64 (n:Int)),(6,.int .i64 wk),(3,.raw q2.u)]) (fun (n:Nat) (wk:Int) (q2:GL StintS)=>[St b l q2.a,.arr q2.u 3 (q2.out.map zdk)]) (fun (n:Nat) (wk:Int) (q2:GL StintS)=>(n:Int)<=y17/\(1<=wk/\wk<=2+3*n)/\GLok (fun _=>True) (2*k+n) (a+20*k+2+9*n) q2) (fun (n:Nat) (wk:Int) (q2:GL StintS)=>y17.toNat-n) (0) (y15) (⟨u,out,a2+2⟩) ?_ ?_ ?_ ?_
   ·exact ⟨by omega,by omega,⟨uD,g2,uD⟩⟩
   ·exact ⟨rfl,rfl,rfl,trivial⟩
   ·exact uP
   ·intro n wk q2 hinv
    obtain ⟨hn,hw,hq2⟩:=hinv;obtain ⟨u,out,a2⟩:=q2;obtain ⟨g1,g2,g3⟩:=id hq2;dsimp only at g1 g2 g3;refine gz4 ?_;refine uCo (fun h3=> ?_) fun h4=> ?_
    ·refine gz7 ?_;refine dq (za (hs:=[_,_,_,_]) zq ty9 rfl rfl (by decide) (by decide) rfl) ?_;refine de rfl (uCx 0 ca5 rfl rfl (zg (L:=[_,_,_,_]) uS uS uS) ?_)
     rintro _ _ ⟨y23,rfl,hy23,rfl⟩;refine gz1 ?_;refine dq (zB (cs:=[_,_,_]) zcP zGF rfl) ?_;refine de rfl (zj zcP rfl fun b7=> ?_)
     refine de0 (uY 0 ?_)
     refine gz1 ?_;refine uVj [26,14] (fun (q4:StintS×Nat)=>[]) (fun (q4:StintS×Nat)=>[St b l q4.2,.arr u 3 (out.map zdk),.cells b7 (zd (zdk q4.1))]) (fun (q4:StintS×Nat)=>q4.2<=a2+8) ?_ ?_
     ·skip
      refine gz2 ?_;refine de rfl (uCx 1 zeB rfl rfl (zJ uS uS) ?_)
      rintro _ _ ⟨y27,rfl,rfl⟩;refine gz1 ?_;refine uCo (fun h5=> ?_) fun h6=> ?_
      ·refine gz3 ?_;refine dq (za (hs:=[_,_,_]) zq ty9 rfl rfl (by decide) (by decide) rfl) ?_;refine de rfl (uCx 0 ca5 rfl rfl (zg (L:=[_,_,_]) uS uS uS) ?_)
       rintro _ _ ⟨y31,rfl,hy31,rfl⟩;refine gz1 ?_;refine dq (za (hs:=[_,_]) zq ty9 rfl rfl (by decide) (by decide) rfl) ?_;refine de rfl (uCx 0 ca5 rfl rfl (zg (L:=[_,_]) uS uS uS) ?_)
       rintro _ _ ⟨y34,rfl,hy34,rfl⟩;refine gz1 ?_;refine de rfl (uCx 0 zmF rfl rfl (ziu uS uS uS uS) ?_)
       rintro _ _ ⟨y36,rfl,hy36,rfl⟩;refine gz1 ?_;refine de0 (uY 1 ?_)
       refine gz1 ?_;refine de0 (uY 1 ?_)
       refine gz1 ?_;refine de0 (uY 1 ?_)
       refine gz1 ?_;exact ⟨((⟨y31,y34,y36⟩:StintS),a2+6),uD,trivial,uK,uP⟩
      ·refine gz1 ?_;exact ⟨((⟨x,y23,wk⟩:StintS),a2+2),uD,trivial,uK,uP⟩
     ·intro q4 ha5
      obtain ⟨x5,a5⟩:=q4;dsimp only at ha5;refine ze (zbb 7 (i:=2) rfl rfl) ?_;refine gz3 ?_;refine dq (za (hs:=[_]) zhs zcP rfl rfl (by decide) (by decide) rfl) ?_;refine de rfl (zI (i:=1) zhs zcP rfl rfl rfl rfl rfl (by simp [zaq,zd,zaB,za6]) uSo fun v43=> ?_)
      refine gz5 ?_;refine de rfl (uCx 0 ca6 rfl rfl (zD uS uS uS uS) ?_)
      rintro _ _ ⟨y46,rfl,hy46,rfl⟩;refine gz9 ?_;exact ⟨n+1,wk+y46,⟨v43,out++[x5],a5+1⟩,⟨by omega,⟨by omega,by omega⟩,hq2.add (x:=x5) trivial uO⟩,uD,⟨rfl,rfl,rfl,trivial⟩,uK,uP⟩
    ·refine gz2 ?_;refine zcK ?_;refine gz7 ?_;exact ⟨k+1,⟨u,out,a2⟩,⟨by omega,hq2.mono uO uO⟩,uD,⟨rfl,rfl,trivial⟩,uK,uP⟩
  ·have hnk:nm5.length<=k:=by omega
   obtain rfl:k=nm5.length:=by omega
   refine gz2 ?_;refine zN ?_;refine gz7 ?_;exact zav (Ghost.perm (List.Perm.swap _ _ _)) rfl ⟨_,out,a2,rfl,by omega,by omega,rfl⟩
theorem ziY [Tracks] {b:Nat} {l:List Int} {a:Nat} {L:List PlayerS} (ha:a<=700000) (hL:L.length<=1000000):Con prog 93 [pAt b,zbj L] [St b l a] (fun x M'=> ∃k a',x=zfA k/\k.length<=10/\a'<=a+100/\M'=[St b l a']):=by
 refine uOb func93 ntmps93 ?_;refine gz6 ?_;refine de rfl (uCx 0 zE8 rfl rfl (zjv (b:=b) (l:=l) (a:=a) ha) ?_)
 rintro _ _ ⟨u7,k7,a7,rfl,hk7,ha7,rfl⟩;refine de rfl (uCx 0 zE7 rfl rfl (zqs (L:=L) (l:=k7) hL uO) ?_)
 rintro _ _ ⟨u8,rfl,rfl⟩;refine gz3 ?_;exact zav (zaR 4 (i:=0) rfl rfl) rfl ⟨_,a7,rfl,Aq (AZ _ _) hk7,by omega,rfl⟩
end
section
open Go.Proofs.Tryz
open Go.HL
theorem znR [Tracks] {n d:Int} (hn: -1000000<=n/\n<=1000000) (hd:1<=d/\d<=1000000):ConP prog 240 [.int .i64 n,.int .i64 d] (.agg [.int .i64 (n.tdiv (zh6 n d)),.int .i64 (d.tdiv (zh6 n d))]):=by
 have hg0:=zCI (n:=n) hd.1;refine zaC func240 rfl ntmps240 rfl rfl ?_;refine gz1 ?_;refine de rfl (zj zU rfl fun b4=> ?_)
 refine gz4 ?_;refine dq (uCl zBI rfl (zim (n:=n) (d:=d) uO uO)) ?_;refine gz2 ?_;refine uDr mixed ?_;refine gz2 ?_;refine uB 2 rfl (zcW (n:=zh6 n d) rfl rfl uO uO uO) ?_;refine gz2 ?_;refine uB 5 rfl (zcW (n:=zh6 n d) rfl rfl uO uO uO) ?_;refine uB 6 rfl (zB (cs:=[_,_]) zU zid rfl) ?_;refine uF 7 ?_;refine zz (uY 0 ?_)
 refine ⟨uE,?_⟩
 refine gz2 ?_;exact ⟨_,_,zm 4 rfl,[_],_,⟨⟨_,_,_,_,_,rfl,zU,.inr ⟨rfl,rfl,rfl⟩⟩,trivial⟩,Weak.refl _,rfl,rfl⟩
theorem zj7 [Tracks] {n:Int} (hn: -1000000<=n/\n<=1000000):ConP prog 177 [.int .i64 n] (.agg [.int .i64 (n.tdiv (zh6 n 100)),.int .i64 ((100:Int).tdiv (zh6 n 100))]):=by
 refine zaC func177 rfl ntmps177 rfl rfl ?_;refine gz1 ?_;refine de rfl (zj zU rfl fun b2=> ?_)
 refine gz3 ?_;refine dq (uCl zFI rfl (znR (n:=n) (d:=100) hn uO)) ?_;refine de0 (uY 0 ?_)
 refine gz2 ?_;exact ⟨_,_,zm 2 rfl,[_],_,⟨⟨_,_,_,_,_,rfl,zU,.inr ⟨rfl,rfl,rfl⟩⟩,trivial⟩,Weak.refl _,rfl,rfl⟩
theorem zrw [Tracks] {b:Nat} {l:List Int} {a:Nat} (ha:a<=700000):Con prog 89 [pAt b] [St b l a] (fun x M'=> ∃(u:Value) (k:List SlotS) (a':Nat),x= .raw u/\GoodS4s k/\0<k.length/\a'<=a+25/\M'=[.arr u 2 (k.map zbA),St b l a']):=by
 refine uOb func89 ntmps89 ?_;refine gz6 ?_;refine ze (zL 2) ?_;refine gz2 ?_;refine dq (za (hs:=[_,_,_,_]) zq ty9 rfl rfl (by decide) (by decide) rfl) ?_;refine gz1 ?_;refine de rfl (uCx 1 ca6 rfl rfl (zD uS uS uS uS) ?_)
 rintro _ _ ⟨y8,rfl,hy8,rfl⟩;refine dq (zaP (es:=sl4) (f:=HVal.str) (h:=y8.toNat) zq ty9 rfl rfl ⟨_,_,rfl,by omega⟩ uO (by simp [sl4];omega)) ?_;refine dq (zax (f:=HVal.str) (l:=(sl4.take y8.toNat)) zq rfl) ?_;refine gz2 ?_;have hlen:(sl4.take y8.toNat).length=y8.toNat:=by simp [sl4];omega
 refine gz1 ?_;refine uV2 [3,1,5,1,11,12] (fun (k:Nat) (q:GL SlotS)=>[(11,.int .i64 k),(3,.raw q.u)]) (fun (k:Nat) (q:GL SlotS)=>[St b l q.a,.arr q.u 2 (q.out.map zbA)]) (fun (k:Nat) (q:GL SlotS)=>k<=(sl4.take y8.toNat).length/\(q.out.length=k/\GLok zlQ k (a+1+5*k) q)) (fun (k:Nat) (q:GL SlotS)=>(sl4.take y8.toNat).length-k) (0) (⟨.slice none 0 0,[],a+1⟩) ?_ ?_ ?_ ?_
 ·exact ⟨Ad _,rfl,⟨by simp,by simp,uD⟩⟩
 ·exact ⟨rfl,rfl,trivial⟩
 ·exact uP
 ·intro k q hinv
  obtain ⟨hk,⟨hn,hq⟩⟩:=hinv;obtain ⟨u,out,a2⟩:=q;obtain ⟨g1,g2,g3⟩:=id hq;dsimp only at g1 g2 g3;dsimp only at hn;refine gz4 ?_;refine uCo (fun h1=> ?_) fun h2=> ?_
  ·obtain ⟨x,hx⟩: ∃x,(sl4.take y8.toNat)[k]? =some x:=⟨_,Aa (by simpa using h1)⟩
   have hdx:=zk hx;refine gz5 ?_;refine dq (zA (f:=HVal.str) (l:=(sl4.take y8.toNat)) (j:=k) (a:=x) zq ty9 rfl rfl rfl hx) ?_;refine gz7 ?_;refine de rfl (uCx 0 zwY rfl rfl (zdV uS) ?_)
   rintro _ _ ⟨t18,a18,rfl,ht18,ha18,rfl⟩;refine dq (zB (cs:=[_,_]) zcF zAy rfl) ?_;refine dq (za (hs:=[_]) zcl zcF rfl rfl (by decide) (by decide) rfl) ?_;refine de rfl (zI (i:=1) zcl zcF rfl rfl rfl rfl rfl (by simp [zaq,zd,zaB,za6]) uSo fun v21=> ?_)
   refine gz8 ?_;exact ⟨k+1,⟨v21,out++[(⟨x,t18⟩:SlotS)],a18⟩,⟨by omega,by simp;omega,hq.add (x:=(⟨x,t18⟩:SlotS)) (by show t18.length<=4;omega) (by dsimp only at ha18;omega)⟩,uD,⟨rfl,rfl,trivial⟩,uK,zo (by dsimp only;first|rfl|(rw [Ay];rfl))⟩
  ·have hnk:(sl4.take y8.toNat).length<=k:=by simpa using h2
   obtain rfl:k=(sl4.take y8.toNat).length:=by omega
   refine gz2 ?_;refine zN ?_;refine gz7 ?_;exact zav (Ghost.perm (List.Perm.swap _ _ _)) rfl ⟨_,out,a2,rfl,⟨by omega,g2⟩,by omega,by omega,rfl⟩
theorem zbX [Tracks] {b:Nat} {l:List Int} {a:Nat} (ha:a<=700000):Con prog 88 [pAt b] [St b l a] (fun x M'=> ∃k a',x=zgd k/\GoodRus k/\a'<=a+40/\M'=[St b l a']):=by
 refine uOb func88 ntmps88 ?_;refine gz6 ?_;refine ze (zL 7) ?_;refine gz2 ?_;refine dq (za (hs:=[_,_,_,_,_]) zq ty9 rfl rfl (by decide) (by decide) rfl) ?_;refine dq (zax (f:=HVal.str) (l:=ru5) zq rfl) ?_;refine gz3 ?_;refine uV2 [3,1,5,2,9,37] (fun (k:Nat) (q:GL RuleS)=>[(9,.int .i64 k),(3,.raw q.u)]) (fun (k:Nat) (q:GL RuleS)=>[St b l q.a,.arr q.u 7 (q.out.map zoZ)]) (fun (k:Nat) (q:GL RuleS)=>k<=ru5.length/\(GLok zzr k (a+8*k) q)) (fun (k:Nat) (q:GL RuleS)=>ru5.length-k) (0) (⟨.slice none 0 0,[],a⟩) ?_ ?_ ?_ ?_;exact ⟨Ad _,⟨by simp,by simp,uD⟩⟩;exact ⟨rfl,rfl,trivial⟩;exact uP
 intro k q hinv
 obtain ⟨hk,hq⟩:=hinv;have hlen:ru5.length=5:=rfl;obtain ⟨u,out,a2⟩:=q;obtain ⟨g1,g2,g3⟩:=id hq;dsimp only at g1 g2 g3;refine gz4 ?_;refine uCo (fun h1=> ?_) fun h2=> ?_
 obtain ⟨x,hx⟩: ∃x,ru5[k]? =some x:=⟨_,Aa h1⟩
 have hdx:=zk hx;refine gz5 ?_;refine dq (zA (f:=HVal.str) (l:=ru5) (j:=k) (a:=x) zq ty9 rfl rfl rfl hx) ?_;refine gz6 ?_;refine de rfl (uCx 0 zeB rfl rfl (zJ uS uS) ?_)
 rintro _ _ ⟨y14,rfl,rfl⟩;refine gz1 ?_;refine uCo (fun h3=> ?_) fun h4=> ?_
 refine gz8 ?_;exact ⟨k+1,⟨u,out,a2+1⟩,⟨by omega,hq.same uO⟩,uD,⟨rfl,rfl,trivial⟩,uK,uP⟩;refine gz5 ?_;refine dq (za (hs:=[_,_,_,_]) zq ty9 rfl rfl (by decide) (by decide) rfl) ?_;refine de rfl (uCx 0 ca5 rfl rfl (zg (L:=[_,_,_,_]) uS uS uS) ?_)
 rintro _ _ ⟨y18,rfl,hy18,rfl⟩;refine gz1 ?_;refine dq (za (hs:=[_,_,_,_]) zq ty9 rfl rfl (by decide) (by decide) rfl) ?_;refine de rfl (uCx 0 ca5 rfl rfl (zg (L:=[_,_,_,_]) uS uS uS) ?_)
 rintro _ _ ⟨y21,rfl,hy21,rfl⟩;refine gz1 ?_;refine de rfl (uCx 0 ca6 rfl rfl (zD uS uS uS uS) ?_)
 rintro _ _ ⟨y23,rfl,hy23,rfl⟩;refine gz1 ?_;refine dq (za (hs:=[_,_,_,_,_,_]) zac ty3 rfl rfl (by decide) (by decide) rfl) ?_;refine de rfl (uCx 0 ca7 rfl rfl (zb (L:=[_,_,_,_,_,_]) uS uS uS) ?_)
 rintro _ _ ⟨y26,rfl,hy26,rfl⟩;refine dq (uCl zE6 rfl (zj7 (n:=y26) (by simp at hy26;omega))) ?_;refine dq (zB (cs:=[_,_,_,_,_,_,_]) zgG zGE rfl) ?_;refine de rfl (zj zgG rfl fun b6=> ?_)
 refine de0 (uY 0 ?_)
 refine gz1 ?_;have hb1:=zv8 (n:=y26) (g:=zh6 y26 100) (by simp at hy26;omega);have hb2:=zv8 (n:=100) (g:=zh6 y26 100) uO;refine uVj [29,12] (fun (q4:RuleS×Nat)=>[]) (fun (q4:RuleS×Nat)=>[St b l q4.2,.arr u 7 (out.map zoZ),.cells b6 (zd (zoZ q4.1))]) (fun (q4:RuleS×Nat)=>zzr q4.1/\q4.2<=a2+7) ?_ ?_
 skip
 refine gz2 ?_;refine de rfl (uZ 0 ?_)
 refine gz3 ?_;refine dgl rfl rfl (fun hc=>⟨_,OpenTo.upd (t:=33) rfl (hc) (OpenTo.refl _),zar (i:=0) ty3 rfl rfl (.inl ⟨rfl,rfl⟩) ⟨rfl,rfl⟩⟩) ?_;refine gz3 ?_;refine uCo (fun h5=> ?_) fun h6=> ?_
 refine gz2 ?_;refine dq (za (hs:=[_,_,_,_,_]) zac ty3 rfl rfl (by decide) (by decide) rfl) ?_;refine de rfl (uCx 1 ca7 rfl rfl (zb (L:=[_,_,_,_,_]) uS uS uS) ?_)
 rintro _ _ ⟨y39,rfl,hy39,rfl⟩;refine gz1 ?_;refine de0 (uY 1 ?_)
 refine gz1 ?_;exact ⟨((⟨x,y18,y21,y23,y39,y26.tdiv (zh6 y26 100),(100:Int).tdiv (zh6 y26 100)⟩:RuleS),a2+6),⟨⟨hb1,hb2⟩,uD⟩,trivial,uK,uP⟩;refine gz1 ?_;exact ⟨((⟨x,y18,y21,y23,0,y26.tdiv (zh6 y26 100),(100:Int).tdiv (zh6 y26 100)⟩:RuleS),a2+5),⟨⟨hb1,hb2⟩,uD⟩,trivial,uK,uP⟩
 intro q4 hq4
 obtain ⟨x5,a5⟩:=q4;obtain ⟨hx5,ha5⟩:=hq4;dsimp only at hx5 ha5;refine ze (zbb 6 (i:=2) rfl rfl) ?_;refine gz3 ?_;refine dq (za (hs:=[_]) zoR zgG rfl rfl (by decide) (by decide) rfl) ?_;refine de rfl (zI (i:=1) zoR zgG rfl rfl rfl rfl rfl (by simp [zaq,zd,zaB,za6]) uSo fun v44=> ?_)
 refine gz8 ?_;exact ⟨k+1,⟨v44,out++[x5],a5⟩,⟨by omega,hq.add (x:=x5) hx5 uO⟩,uD,⟨rfl,rfl,trivial⟩,uK,uP⟩;have hnk:ru5.length<=k:=by omega
 obtain rfl:k=ru5.length:=by omega
 refine gz2 ?_;refine zN ?_;refine gz7 ?_;exact zav (zaR 2 (i:=1) rfl rfl) rfl ⟨out,a2,rfl,⟨by omega,g2⟩,by omega,rfl⟩
theorem zj4 [Tracks] {b:Nat} {l:List Int} {a:Nat} (ha:a<=600000):Con prog 97 [pAt b] [St b l a] (fun x M'=> ∃k a',x=zbt k/\GoodSlos k/\a'<=a+40/\M'=[St b l a']):=by
 refine uOb func97 ntmps97 ?_;refine gz5 ?_;refine de rfl (uCx 0 zrH rfl rfl (zrw uS) ?_)
 rintro _ _ ⟨u6,k6,a6,rfl,hk6,hn6,ha6,rfl⟩;refine gz2 ?_;have hl6:=hk6.len;have hg6:=hk6.all;refine ze (zaH (M':=[.arr u6 2 (k6.map zbA),St b l a6]) rfl) ?_;refine ze (Ghost.perm (List.Perm.swap _ _ _)) ?_;refine uVj [4,1,7,31] (fun (q:List SlotS×Nat)=>[]) (fun (q:List SlotS×Nat)=>[St b l q.2,.arr u6 2 (q.1.map zbA)]) (fun (q:List SlotS×Nat)=>GoodSlos q.1/\q.2<=a6+5) ?_ ?_
 ·skip
  refine gz2 ?_;refine de rfl (uCx 0 zeB rfl rfl (zJ uS uS) ?_)
  rintro _ _ ⟨y8,rfl,rfl⟩;refine gz1 ?_;refine uCo (fun h1=> ?_) fun h2=> ?_
  ·refine zcS (i:=1) rfl (fun h0 he=> ?_) (fun ob off cap hv hcap=> ?_)
   ·exfalso;have:=congrArg List.length he;simp at this;subst this;simp at hn6
   subst hv;refine gz4 ?_;refine de rfl (zaX (i:=1) (es:=k6) zcl rfl rfl ?_)
   refine de rfl (uCx 0 zhi rfl rfl (zX uS uS) ?_)
   rintro _ _ ⟨y13,rfl,hy13,rfl⟩;refine dq (zx (j:=y13) zcl zcF rfl rfl rfl uSo) ?_;refine gz2 ?_;obtain ⟨x,hx⟩: ∃x,k6[y13]? =some x:=⟨_,Aa uO⟩
   have hgx:=hg6 x (Ab hx);dsimp only [zlQ] at hgx;refine zbk (fun M=> ∃i:Nat,M[i]? =some (.arr (.slice (some ⟨ob,off,none⟩) (k6.map zbA).length cap) 2 (k6.map zbA))) [6,12] mixed ?_;refine gz6 ?_;refine uM 6 rfl ⟨1,rfl⟩ (fun M hM=>by obtain ⟨i,hi⟩:=hM;exact zat (i:=i) (j:=y13) 0 ty9 rfl uO hi hx rfl rfl ⟨rfl,rfl⟩) ?_;refine uB 7 rfl (za (hs:=[_,_,_]) zq ty9 rfl rfl (by decide) (by decide) rfl) ?_;refine uA 9 ?_;refine gz2 ?_;refine uM 12 rfl ⟨1,rfl⟩ (fun M hM=>by obtain ⟨i,hi⟩:=hM;exact zat (i:=i) (j:=y13) 1 zq rfl uO hi hx rfl rfl ⟨rfl,rfl⟩) ?_;refine uA 14 ?_;refine uB 15 rfl (za (hs:=[_,_,_]) zq ty9 rfl rfl (by decide) (by decide) rfl) ?_;refine uF 8 ?_;refine zt rfl (uCx 0 ca5 rfl rfl (zg (L:=[_,_,_]) uS uS uS) ?_)
   rintro _ _ ⟨y23,rfl,hy23,rfl⟩;refine ⟨uE,?_⟩
   refine uF 13 ?_;refine zt rfl (uCa zkg rfl (zab uO) fun v28=> ?_)
   refine ⟨uE,?_⟩
   refine uF 16 ?_;refine zt rfl (uCx 1 ca5 rfl rfl (zg (L:=[_,_,_]) uS uS uS) ?_)
   rintro _ _ ⟨y31,rfl,hy31,rfl⟩;refine ⟨uE,?_⟩
   refine uB 17 rfl (za (hs:=[_]) zq ty9 rfl rfl (by decide) (by decide) rfl) ?_;refine uF 18 ?_;refine zt rfl (zlO (N:=[St b l (a6+1+1+1+1),.arr (.slice (some ⟨ob,off,none⟩) (k6.map zbA).length cap) 2 (k6.map zbA)]) (sz:=1) (es:=(x.Positions++[y31]).map .str) 1 (zI (i:=1) zq ty9 rfl rfl rfl rfl rfl (by simp [zaq,zd]) uSo fun v=>⟨v,rfl,by simp,rfl⟩) ?_)
   refine ⟨fun _=> .inl ⟨1,rfl⟩,?_⟩
   refine gz2 ?_;refine uF 21 ?_;refine zz (zQ (i:=1) (j:=y13) (f:=0) (y:=zbA x) (y':=zbA ⟨y23,x.Positions⟩) ty9 rfl uO rfl rfl (za3 hx) rfl rfl (by simp [zd]) rfl ?_)
   refine ⟨uE,?_⟩
   refine gz2 ?_;refine uF 24 ?_;refine zz (zQ (i:=1) (j:=y13) (f:=1) (y:=zbA ⟨y23,x.Positions⟩) (y':=zbA ⟨y23,x.Positions++[y31]⟩) zq rfl uO rfl rfl (zaM (za3 hx)) rfl rfl (by simp [zd]) rfl ?_)
   refine ⟨uE,?_⟩
   refine gz1 ?_;exact ⟨(k6.set y13 ⟨y23,x.Positions++[y31]⟩,a6+4),⟨⟨by simp;omega,zfx (P:=zoT) hk6.up.all (by dsimp only [zoT];simp;omega)⟩,uD⟩,trivial,uK,uP⟩
  ·refine gz1 ?_;exact ⟨(k6,a6+1),⟨hk6.up,uD⟩,trivial,uK,uP⟩
 ·intro q hq3
  obtain ⟨k1,a4⟩:=q;obtain ⟨q1,q3⟩:=hq3;dsimp only at q1 q3;refine gz3 ?_;refine de rfl (uCx 0 zeB rfl rfl (zJ uS uS) ?_)
  rintro _ _ ⟨y39,rfl,rfl⟩;refine gz1 ?_;refine uCo (fun h3=> ?_) fun h4=> ?_
  ·refine gz4 ?_;exact ⟨_,_,(zaH (M':=[St b l (a4+1),.arr u6 2 (k1.map zbA)]) rfl).trans ((Ghost.perm (List.Perm.swap _ _ _)).trans Ghost.drop),_,.slice 2 [],rfl,z7 2,[],a4+1,rfl,⟨by simp,by simp⟩,by omega,rfl⟩
  ·refine gz7 ?_;exact zav (zaR 2 (i:=1) rfl rfl) rfl ⟨k1,a4+1,rfl,q1,by omega,rfl⟩
theorem zaF [Tracks] {b:Nat} {l:List Int} {a:Nat} (ha:a<=600000):Con prog 91 [pAt b] [St b l a] (fun x M'=> ∃k a',x=eIs k/\k.length<=6/\a'<=a+20/\M'=[St b l a']):=by
 refine uOb func91 ntmps91 ?_;refine gz6 ?_;refine ze (zL 1) ?_;refine gz3 ?_;refine de rfl (uCx 1 zBn rfl rfl (zfX (n:=5) uO uO uO) ?_)
 rintro _ _ ⟨L7,a7,rfl,hL7,ha7,rfl⟩;refine gz1 ?_;refine de rfl (uCx 0 ca6 rfl rfl (zD uS uS uS uS) ?_)
 rintro _ _ ⟨y9,rfl,hy9,rfl⟩;refine dq (zaP (es:=L7) (f:=HVal.int .i64) (h:=y9.toNat) zac ty3 rfl rfl ⟨_,_,rfl,by omega⟩ uO (by have:=hL7.1;omega)) ?_;refine dq (zax (f:=HVal.int .i64) (l:=L7.take y9.toNat) zac rfl) ?_;refine gz2 ?_;obtain ⟨hLn,hLb⟩:=hL7;have hlen:(L7.take y9.toNat).length=y9.toNat:=by simp;omega
 refine gz1 ?_;refine uV2 [3,1,5,1,12,10] (fun (k:Nat) (q:GL Int)=>[(12,.int .i64 k),(3,.raw q.u)]) (fun (k:Nat) (q:GL Int)=>[St b l (a7+1),.arr q.u 1 (q.out.map (.int .i64))]) (fun (k:Nat) (q:GL Int)=>k<=(L7.take y9.toNat).length/\(q.out.length<=k)) (fun (k:Nat) (q:GL Int)=>(L7.take y9.toNat).length-k) (0) (⟨.slice none 0 0,[],a⟩) ?_ ?_ ?_ ?_;exact ⟨Ad _,by simp⟩;exact ⟨rfl,rfl,trivial⟩;exact uP
 intro k q hinv
 obtain ⟨hk,hq⟩:=hinv;obtain ⟨u,out,a2⟩:=q;dsimp only at hq;refine gz4 ?_;refine uCo (fun h1=> ?_) fun h2=> ?_
 obtain ⟨y,hy⟩: ∃y,(L7.take y9.toNat)[k]? =some y:=⟨_,Aa (by simpa using h1)⟩
 have hdy:=zk hy;refine gz5 ?_;refine dq (zA (f:=HVal.int .i64) (l:=L7.take y9.toNat) (j:=k) (a:=y) zac ty3 rfl rfl rfl hy) ?_;refine gz6 ?_;refine dq (zaZ rfl rfl (by have:=hLb y (AL (Ab hy));omega) (by have:=hLb y (AL (Ab hy));omega)) ?_;refine dq (za (hs:=[_]) zac ty3 rfl rfl (by decide) (by decide) rfl) ?_;refine de rfl (zI (i:=1) zac ty3 rfl rfl rfl rfl rfl (by simp [zaq,zd,zaB,za6]) uSo fun v20=> ?_)
 refine gz8 ?_;exact ⟨k+1,⟨v20,out++[y+1],a⟩,⟨by omega,by simp;omega⟩,uD,⟨rfl,rfl,trivial⟩,uK,uP⟩;have hnk:(L7.take y9.toNat).length<=k:=by simpa using h2
 obtain rfl:k=(L7.take y9.toNat).length:=by omega
 refine gz2 ?_;refine zN ?_;refine gz5 ?_;refine de rfl (uCx 0 zeB rfl rfl (zJ uS uS) ?_)
 rintro _ _ ⟨y23,rfl,rfl⟩;refine gz1 ?_;refine uCo (fun h3=> ?_) fun h4=> ?_
 refine gz3 ?_;refine de rfl (uCx 0 zmF rfl rfl (ziu uS uS uS uS) ?_)
 rintro _ _ ⟨y26,rfl,hy26,rfl⟩;refine dq (za (hs:=[_]) zac ty3 rfl rfl (by decide) (by decide) rfl) ?_;refine de rfl (zI (i:=1) zac ty3 rfl rfl rfl rfl rfl (by simp [zaq,zd,zaB,za6]) uSo fun v28=> ?_)
 refine gz8 ?_;exact zav (zaR 2 (i:=1) rfl rfl) rfl ⟨out++[y26],_,by simp,by simp;omega,by omega,rfl⟩;refine gz7 ?_;exact zav (zaR 2 (i:=1) rfl rfl) rfl ⟨out,_,rfl,by omega,by omega,rfl⟩
end
section
open Go.Proofs.Tryz
open Go.HL
theorem zn4 [Tracks] {l:List GameS} (hb: ∀x∈l,GamB x) (hl:l.length<=1000000) {v:Value}:
 Con prog 95 [.raw v,.fn (.func 96) [] []] [.arr v 8 (l.map zaW)] fun x M'=> ∃l':List GameS,x= .tup []/\l'.Perm l/\l'.Pairwise (fun a b=> ¬zgs b a<0)/\M'=[.arr v 8 (l'.map zaW)]:=by
 have h:=zoc (e:=fun x:{m:GameS//GamB m}=>zaW x.1) zzs (Tryz.isAgg182) (Tryz.sizeOf182) (fun _=>rfl) (fun _=>rfl) (fun _=>rfl) (c:=fun x y=>zgs x.1 y.1) (zpb zwQ) ca96 (fun x y=> @zhx zhK x.1 y.1 x.2.week y.2.week) (l:=l.attachWith _ hb) (by simpa using hl) (v:=v);rw [zqi hb zaW] at h;refine h.mono fun x M' ⟨l',e1,hp,hw,e2⟩=>⟨l'.map Subtype.val,e1,?_,?_,?_⟩
 have h9:=hp.map Subtype.val;rw [zml hb] at h9;exact h9;exact List.pairwise_map.2 hw;rw [e2,AX];rfl
theorem zfZ [Tracks] {T:List Str} {W p n:Int} (hT:T.length<=1000000) (hW:1<=W/\W<=10) (hp:0<=p/\p<=10) (hn:2<=n/\n<=10):ConP prog 182 [.int .i64 W,.int .i64 p,.vptr [.int .i64 n] 0,.vptr [eSs T] 0] (.str (onS T W p n)):=by
 obtain ⟨o1,o2,o3⟩:=zGt (W:=W) hp hn;refine uOb func182 ntmps182 ?_;refine gz7 ?_;refine uVj [7,1,9,17] (fun (i1:Int)=>[(7,.int .i64 i1)]) (fun (i1:Int)=>[]) (fun (i1:Int)=>i1=onI W p n) ?_ ?_
 skip
 refine gz4 ?_;refine uCo (fun h1=> ?_) fun h2=> ?_
 refine zhu mixed ?_;refine gz7 ?_;refine uB 7 rfl (zcx (n:=n-1) rfl rfl uO) ?_;refine gz5 ?_;refine uB 13 rfl (zcx (n:=n-1) rfl rfl uO) ?_;refine gz3 ?_;exact ⟨1+((p-1-(W-1)).tmod (n-1)+(n-1)).tmod (n-1),by rw [onI,if_pos h1],⟨rfl,trivial⟩,uK,Ac _⟩;refine gz1 ?_;exact ⟨p,by rw [onI,if_neg uO],⟨rfl,trivial⟩,uK,Ac _⟩
 intro i1 hi1
 have hi0:0<=i1:=by rw [hi1];exact o3
 refine gz7 ?_;refine uCo (fun h3=> ?_) fun h4=> ?_
 refine gz4 ?_;refine zw rfl ?_
 show HVal.str _=_
 (rw [onS,if_pos uO])
 refine gz5 ?_;refine dq (zA (f:=HVal.str) (l:=T) (j:=i1.toNat) (a:=T.getD i1.toNat []) zq ty9 rfl rfl uO (getD_some uO)) ?_;refine gz4 ?_;refine zw rfl ?_
 show HVal.str _=_
 (rw [onS,if_neg uO,<-hi1])
theorem zlh [Tracks] {T:List Str} (hT:2<=T.length/\T.length<=4):Con prog 94 [eSs T,.int .i64 3] [] (fun x M'=> ∃k,x=zlZ k/\GoodGas k/\M'=[]):=by
 obtain ⟨n1,n2,n3,n4⟩:=zDT hT;refine uOb func94 ntmps94 ?_;refine gz9 ?_;refine dq (zcx rfl rfl uO) ?_;refine dq (zS (h':= .int .i64 (nOf T)) (zaZ rfl rfl uO uO) rfl) ?_;refine de rfl (zj ty3 rfl fun b5=> ?_)
 refine de0 (uY 0 ?_)
 refine gz1 ?_;refine ze (zbb 5 (i:=0) rfl rfl) ?_;refine gz7 ?_;refine ze (zL 8) ?_;refine gz5 ?_;refine uV2 [7,5,19,56] (fun (w:Nat) (q:GL GameS)=>[(8,.int .i64 ((w:Int)+1)),(7,.raw q.u)]) (fun (w:Nat) (q:GL GameS)=>[.arr q.u 8 (q.out.map zaW)]) (fun (w:Nat) (q:GL GameS)=>w<=3/\GLok GamB (2*w) 0 q) (fun (w:Nat) (q:GL GameS)=>3-w) (0) (⟨.slice none 0 0,[],0⟩) ?_ ?_ ?_ ?_;exact ⟨by omega,⟨by simp,by simp,by simp⟩⟩;exact ⟨zP uO,rfl,trivial⟩;exact Ac _
 intro w q hinv
 obtain ⟨hw,hq⟩:=hinv;obtain ⟨u,out,a2⟩:=q;obtain ⟨g1,g2,g3⟩:=id hq;dsimp only at g1 g2 g3;refine gz6 ?_;refine uCo (fun h1=> ?_) fun h2=> ?_
 refine gz6 ?_;refine dq (zS (h':= .int .i64 (mOf T)) (zcW rfl rfl uO uO uO) rfl) ?_;refine gz3 ?_;refine uU2 [7,1,9,3,26,49] (fun (j:Nat) (q2:GL GameS)=>[(26,.int .i64 (j:Int)),(7,.raw q2.u)]) (fun (j:Nat) (q2:GL GameS)=>[.arr q2.u 8 (q2.out.map zaW)]) (fun (j:Nat) (q2:GL GameS)=>(j:Int)<=mOf T/\GLok GamB (2*w+j) 0 q2) (fun (j:Nat) (q2:GL GameS)=>(mOf T).toNat-j) (0) (⟨u,out,0⟩) ?_ ?_;exact ⟨by omega,⟨uD,g2,by simp⟩⟩;rintro j q2 ⟨hj,hq2⟩;obtain ⟨u,out,a2⟩:=q2;obtain ⟨g1,g2,g3⟩:=id hq2;dsimp only at g1 g2 g3;refine gz4 ?_;refine uCo (fun h3=> ?_) fun h4=> ?_
 refine gz8 ?_;refine uDr mixed ?_;refine gz4 ?_;refine uB 4 rfl (zap zBp rfl rfl (WeakL.refl _) (zfZ (T:=T) (W:=((w:Int)+1)) (p:=(j:Int)) (n:=nOf T) uO uO uO uO)) ?_;refine gz3 ?_;refine uB 8 rfl (zex (m:=nOf T) rfl rfl uO uO) ?_;refine gz1 ?_;refine uB 10 rfl (zex (m:=nOf T-1) rfl rfl uO uO) ?_;refine uB 11 rfl (zap zBp rfl rfl (WeakL.refl _) (zfZ (T:=T) (W:=((w:Int)+1)) (p:=(nOf T-1-j)) (n:=nOf T) uO uO uO uO)) ?_;refine uB 12 rfl (zB (cs:=[_,_,_,_,_,_,_,_]) zcs zGz rfl) ?_;refine uF 13 ?_;refine zt rfl (zj zcs rfl fun b10=> ?_)
 refine ⟨uE,?_⟩
 refine uF 14 ?_;refine zz (uY 0 ?_)
 refine ⟨uE,?_⟩
 refine gz3 ?_;refine dq (zcx rfl rfl uO) ?_;refine gz3 ?_;refine uVj [11,1,45,10] (fun (tn:Bool)=>[(11,.bool tn)]) (fun (tn:Bool)=>[.cells b10 (zd (zaW (⟨(w:Int)+1,onS T ((w:Int)+1) j (nOf T),onS T ((w:Int)+1) (nOf T-1-j) (nOf T),false,0,0,0,0⟩:GameS))),.arr u 8 (out.map zaW)]) (fun (tn:Bool)=>True) ?_ ?_
 skip
 refine gz4 ?_;refine uCo (fun h5=> ?_) fun h6=> ?_
 refine gz4 ?_;refine dq (zex (m:=nOf T) rfl rfl uO uO) ?_;refine dq (zcW (n:=nOf T-1) rfl rfl uO uO uO) ?_;refine dq (zcx rfl rfl uO) ?_;refine gz1 ?_;refine dq (zAI ty4 rfl rfl) ?_;refine gz2 ?_;exact ⟨_,trivial,⟨rfl,trivial⟩,uK,zo rfl⟩;refine gz1 ?_;exact ⟨_,trivial,⟨rfl,trivial⟩,uK,zo rfl⟩
 intro tn _
 refine uVj [55,7] (fun (g5:GameS)=>[]) (fun (g5:GameS)=>[.cells b10 (zd (zaW g5)),.arr u 8 (out.map zaW)]) (fun (g5:GameS)=>GamB g5) ?_ ?_
 skip
 refine gz3 ?_;refine uCo (fun h7=> ?_) fun h8=> ?_
 refine gz2 ?_;refine de rfl (uZ 0 ?_)
 refine gz1 ?_;refine de rfl (uZ 0 ?_)
 refine gz1 ?_;refine de0 (uY 0 ?_)
 refine gz1 ?_;refine de0 (uY 0 ?_)
 refine gz1 ?_;exact ⟨(⟨(w:Int)+1,onS T ((w:Int)+1) (nOf T-1-j) (nOf T),onS T ((w:Int)+1) j (nOf T),false,0,0,0,0⟩:GameS),zwa uO,trivial,uK,zo rfl⟩;refine gz1 ?_;exact ⟨(⟨(w:Int)+1,onS T ((w:Int)+1) j (nOf T),onS T ((w:Int)+1) (nOf T-1-j) (nOf T),false,0,0,0,0⟩:GameS),zwa uO,trivial,uK,zo rfl⟩
 intro g5 hg5
 refine gz2 ?_;refine de rfl (uZ 0 ?_)
 refine gz3 ?_;refine dgl rfl rfl (fun hc=>⟨_,OpenTo.upd (t:=66) rfl (hc) (OpenTo.refl _),zar (i:=0) ty9 rfl rfl (.inl ⟨rfl,rfl⟩) ⟨rfl,rfl⟩⟩) ?_;refine gz3 ?_;refine uCo (fun h9=> ?_) fun h10=> ?_
 refine gz2 ?_;refine de rfl (zja (i:=0) (h:=zaW g5) zcs rfl rfl rfl rfl rfl ?_)
 refine dq (za (hs:=[_]) zgo zcs rfl rfl (by decide) (by decide) rfl) ?_;refine de rfl (zI (i:=1) zgo zcs rfl rfl rfl rfl rfl (by simp [zaq,zd,zaB,za6]) uSo fun v73=> ?_)
 refine gz4 ?_;refine ze Ghost.drop ?_;refine gz4 ?_;exact ⟨j+1,⟨v73,out++[g5],0⟩,⟨by omega,hq2.add (x:=g5) hg5 uO⟩,uD,⟨rfl,rfl,trivial⟩,uK,zo (by dsimp only;rw [Ay];rfl)⟩;refine gz3 ?_;refine ze Ghost.drop ?_;refine gz4 ?_;exact ⟨j+1,⟨u,out,0⟩,⟨by omega,hq2.same uO⟩,uD,⟨rfl,rfl,trivial⟩,uK,zo rfl⟩;refine gz2 ?_;refine zN ?_;refine gz8 ?_;exact ⟨w+1,⟨u,out,0⟩,⟨by omega,⟨uD,g2,by simp⟩⟩,uD,⟨zP uO,rfl,trivial⟩,uK,zo rfl⟩;refine gz2 ?_;refine zN ?_;refine gz4 ?_;refine de rfl (uCx 0 ca95 rfl rfl (zn4 (l:=out) g2 uO) ?_)
 rintro _ _ ⟨Z,rfl,hz1,hz2,rfl⟩;have hzl:=hz1.length_eq;refine gz6 ?_;exact zav (zaR 4 (i:=0) rfl rfl) rfl ⟨Z,rfl,⟨by omega,fun x hx=>g2 x (hz1.mem_iff.1 hx)⟩,rfl⟩
end
section
open Go.Proofs.Tryz
open Go.HL
theorem zmr [Tracks] {a b:Str}:ConP prog 239 [.str a,.str b] (.int .i64 (zY a b)):=by
 refine uOb func239 ntmps239 ?_;refine gz5 ?_;refine dq (uCl ztB rfl zeq) ?_;refine gz4 ?_;refine dq (uCl ztB rfl zeq) ?_;refine gz6 ?_;refine zdL rfl ?_;refine gz6 ?_;refine zdL rfl ?_;refine gz8 ?_;refine uCo (fun h1=> ?_) fun h2=> ?_
 refine gz4 ?_;refine uRp ?_;rw [zgx]
 (rw [if_pos (by assumption)])
 refine gz8 ?_;refine uCo (fun h3=> ?_) fun h4=> ?_
 refine gz4 ?_;refine uRp ?_;rw [zgx]
 (rw [if_neg uSa,if_neg uSa])
 refine gz6 ?_;refine uRp ?_;rw [zgx]
 (rw [if_neg uSa];simp_all)
theorem zhR [Tracks] {l m:List Str} (hl:l.length<=1000000) (hm:m.length<=1000000):ConP prog 174 [eSs l,eSs m] (.int .i64 (zhk l m)):=by
 refine uOb func174 ntmps174 ?_;refine zaw ?_;refine uT1 [4,5,11,20] (fun k=>[(11,.int .i64 k)]) (fun k=>[]) (fun k=>k<=l.length/\(k<=m.length/\zhk l m=zhk (l.drop k) (m.drop k))) (fun k=>l.length-k) (0) ?_ ?_;exact ⟨Ad _,Ad _,rfl⟩;rintro k ⟨hk,⟨hkm,hg⟩⟩;refine gz4 ?_;refine uCo (fun h1=> ?_) fun h2=> ?_
 obtain ⟨x,hx⟩: ∃x,l[k]? =some x:=⟨_,Aa h1⟩
 have hdx:=zk hx;rw [hdx] at hg;refine zz1 ?_;refine uCo (fun h3=> ?_) fun h4=> ?_
 refine gz4 ?_;refine uRp ?_
 (rw [hg,zzO (.inr (BB uO)) (by simp)])
 refine gz5 ?_;refine dq (zA (j:=k) (a:=m.getD k []) zq ty9 rfl rfl rfl (getD_some uO)) ?_;refine gz6 ?_;refine dq (uCl zFH rfl zmr) ?_;refine gz6 ?_;refine uCo (fun h5=> ?_) fun h6=> ?_
 refine gz5 ?_;refine uRp ?_
 (rw [hg,zmL (m:=m) (k:=k) h4,zym (by rw [Ae];exact h5)])
 refine gz7 ?_;refine ⟨k+1,?_,?_,⟨rfl,trivial⟩,uK,Ac _⟩
 refine ⟨by omega,by omega,?_⟩
 rw [hg,zmL (m:=m) (k:=k) h4];exact zyl (by rw [Ae];exact h6)
 dsimp only;omega
 have hnk:l.length<=k:=by omega
 obtain rfl:k=l.length:=by omega
 rw [zH (Af _)] at hg;refine gz2 ?_;refine zv ?_;refine zaw ?_;refine uCo (fun h7=> ?_) fun h8=> ?_
 refine gz4 ?_;refine uRp ?_
 (rw [hg,zun,if_pos uO])
 refine gz6 ?_;refine uRp ?_
 (rw [hg,zun,if_neg uO])
theorem zmp [Tracks] {l:List FixS} {v:Value} {fid:FuncId} {caps:List HVal} {p:FixS->FixS->Bool} (hca:Callable prog fid) (hp: ∀x y,ConP prog fid ([za2 x,za2 y]++caps) (.bool (p x y))) (hl:l.length<=1000000):Con prog 175 [.raw v,.fn (.func fid) [] caps] [.arr v 4 (l.map za2)] (fun x M'=> ∃(u:Value) (D:List FixS),x= .raw u/\(D.length<=l.length/\∀x∈D,x∈l)/\M'=[.arr u 4 (D.map za2)]):=by
 refine uOb func175 ntmps175 ?_;refine gz6 ?_;refine de rfl (zaX (i:=0) zc7 rfl rfl ?_)
 refine gz2 ?_;refine uCo (fun h1=> ?_) fun h2=> ?_
 refine gz5 ?_;exact zah rfl ⟨_,l,rfl,⟨Af _,fun _ q=>q⟩,rfl⟩;refine gz3 ?_;refine zcS (i:=0) rfl (fun h0 he=> ?_) (fun b off cap hv hcap=> ?_)
 exfalso;have:=congrArg List.length he;simp at this;subst this;simp at h2
 rw [Ah] at hv hcap;subst hv;refine gz4 ?_;refine uT1 [4,4,12,53] (fun k=>[(5,.int .i64 (k:Int))]) (fun k=>[.arr (.slice (some ⟨b,off,none⟩) l.length cap) 4 (l.map za2)]) (fun k=>1<=k/\k<=l.length) (fun k=>l.length-k) (1) ?_ ?_;exact ⟨by omega,by omega⟩;rintro k ⟨hk1,hk⟩;refine gz4 ?_;refine de rfl (zaX (i:=0) zc7 rfl rfl ?_)
 refine gz2 ?_;refine uCo (fun h3=> ?_) fun h4=> ?_
 obtain ⟨x,hx⟩: ∃x,l[k]? =some x:=⟨_,Aa uO⟩
 obtain ⟨y,hy⟩: ∃y,l[k-1]? =some y:=⟨_,Aa uO⟩
 refine gz4 ?_;refine zbW (fun M=>M=[.arr (.slice (some ⟨b,off,none⟩) l.length cap) 4 (l.map za2)]) [4,9] mixed ?_;refine gz3 ?_;refine uB 3 rfl (zx (j:=k) zc7 zaK rfl rfl rfl uO) ?_;refine uM 4 rfl rfl (uW (zad (i:=0) (j:=k) zaK rfl uO rfl hx rfl rfl rfl ⟨rfl,rfl⟩)) ?_;refine gz3 ?_;refine uB 8 rfl (zx (j:=k-1) zc7 zaK rfl rfl uO uO) ?_;refine uM 9 rfl rfl (uW (zad (i:=0) (j:=k-1) zaK rfl uO rfl hy rfl rfl rfl ⟨rfl,rfl⟩)) ?_;refine uB 10 rfl (zap hca rfl rfl (WeakL.refl _) (hp x y)) ?_;refine gz1 ?_;refine uCo (fun h5=> ?_) fun h6=> ?_
 refine gz3 ?_;refine dq (ze9 (l:=k) (h:=l.length) zc7 zaK rfl ⟨_,_,rfl,rfl⟩ rfl uO uO hcap) ?_;refine gz2 ?_;rw [zs0 uO];refine gz5 ?_;refine uU3 [5,1,7,1,32,27] (fun (k2:Nat) (kk:Nat) (D:List FixS)=>[(7,.int .i64 (k2:Int)),(5,.int .i64 (kk:Int))]) (fun (k2:Nat) (kk:Nat) (D:List FixS)=>[.arr (.slice (some ⟨b,off,none⟩) l.length cap) 4 (D.map za2)]) (fun (k2:Nat) (kk:Nat) (D:List FixS)=>(1<=k2/\k+k2<=l.length)/\(k<=kk/\kk+1<=k+k2)/\D.length=l.length/\∀x∈D,x∈l) (fun (k2:Nat) (kk:Nat) (D:List FixS)=>l.length-k2) (1) (k) (l) ?_ ?_;exact ⟨⟨by omega,by have:=zp hx;omega⟩,⟨by omega,by omega⟩,rfl,fun _ q=>q⟩;rintro k2 kk D ⟨⟨hk2,hkk⟩,⟨hc1,hc2⟩,hDl,hDm⟩;refine gz4 ?_;refine dq (zdh zc7 rfl) ?_;refine gz2 ?_;refine uCo (fun h7=> ?_) fun h8=> ?_
 obtain ⟨x2,hDx⟩: ∃x,D[k+k2]? =some x:=⟨_,Aa uO⟩
 obtain ⟨y2,hDy⟩: ∃y,D[k+k2-1]? =some y:=⟨_,Aa uO⟩
 refine gz4 ?_;refine zbW (fun M=>M=[.arr (.slice (some ⟨b,off,none⟩) l.length cap) 4 (D.map za2)]) [4,9] mixed ?_;refine gz3 ?_;refine uB 3 rfl (zx (j:=k2) zc7 zaK rfl rfl rfl uO) ?_;refine uM 4 rfl rfl (uW (zad (i:=0) (j:=(k+k2)) zaK rfl uO rfl hDx rfl rfl rfl ⟨rfl,rfl⟩)) ?_;refine gz3 ?_;refine uB 8 rfl (zx (j:=k2-1) zc7 zaK rfl rfl uO uO) ?_;refine uM 9 rfl rfl (uW (zad (i:=0) (j:=(k+k2-1)) zaK rfl uO rfl hDy rfl rfl rfl ⟨rfl,rfl⟩)) ?_;refine uB 10 rfl (zap hca rfl rfl (WeakL.refl _) (hp x2 y2)) ?_;refine gz2 ?_;refine uCo (fun h9=> ?_) fun h10=> ?_
 refine gz5 ?_;refine dq (zx (j:=k2) zc7 zaK rfl rfl rfl uO) ?_;refine de rfl (zad (i:=0) (j:=(k+k2)) zaK rfl uO rfl hDx rfl rfl rfl ?_)
 refine dq (zx (j:=kk) zc7 zaK rfl rfl rfl uO) ?_;refine de0 (za5 (i:=0) (j:=kk) (y:=D[kk]'uO) (y':=x2) zaK rfl rfl rfl rfl (Aa _) rfl rfl rfl ?_)
 refine zee ?_;exact ⟨k2+1,kk+1,D.set kk x2,⟨⟨by omega,by omega⟩,⟨by omega,by omega⟩,by simp;omega,fun z hz=>(Ch hz).elim (hDm z) (fun q=>by rw [q];exact hDm x2 (Ab hDx))⟩,uD,⟨rfl,zP uO,trivial⟩,uK,Ac _⟩;refine gz8 ?_;exact ⟨k2+1,kk,D,⟨⟨by omega,by omega⟩,⟨by omega,by omega⟩,hDl,hDm⟩,uD,⟨rfl,rfl,trivial⟩,uK,Ac _⟩;refine gz2 ?_;refine zcK ?_;refine gz5 ?_;refine dq (ze9 (l:=kk) (h:=l.length) zc7 zaK rfl ⟨_,_,rfl,rfl⟩ rfl uO uO hcap) ?_;refine de0 (zeU (i:=0) (m:=kk) (kk) zc7 zaK rfl rfl rfl (ziG uO hcap) rfl uO (Af _) (by rw [Ah,hDl];omega) ?_)
 refine gz4 ?_;refine dq (zgE (h:=kk) zc7 zaK rfl ⟨_,_,rfl,rfl⟩ uO) ?_;refine gz3 ?_;exact zah rfl ⟨_,D.take kk,rfl,⟨by simp;omega,fun z hz=>hDm z (AL hz)⟩,by rw [BI];rfl⟩;refine gz8 ?_;exact ⟨k+1,⟨by omega,by omega⟩,uD,⟨rfl,trivial⟩,uK,Ac _⟩;refine gz2 ?_;refine zv ?_;refine gz7 ?_;exact zah rfl ⟨_,l,rfl,⟨Af _,fun _ q=>q⟩,rfl⟩
theorem zi1 [Tracks] {A X C:List FixS} {ia ib:Int} {n b off cap:Nat} {fid:FuncId} {caps:List HVal} {c:FixS->FixS->Int} (hca:Callable prog fid) (hp: ∀x y,ConP prog fid ([za2 x,za2 y]++caps) (.int .i64 (c x y))) (hn:A.length+X.length+C.length=n) (hia:ia=(A.length:Int)) (hib:ib=(A.length:Int)+X.length) (hl:n<=1000000):Con prog 295 [.raw (.slice (some ⟨b,off,none⟩) n cap),.int .i64 ia,.int .i64 ib,.fn (.func fid) [] caps] [.arr (.slice (some ⟨b,off,none⟩) n cap) 4 ((A++X++C).map za2)] (fun x M'=>x= .tup []/\M'=[.arr (.slice (some ⟨b,off,none⟩) n cap) 4 ((A++zao c X++C).map za2)]):=by
 refine uOb func295 ntmps295 ?_;refine gz6 ?_;refine uV1 [8,2,12,41] (fun (k:Nat)=>[(8,.int .i64 ((A.length+k:Nat):Int))]) (fun (k:Nat)=>[.arr (.slice (some ⟨b,off,none⟩) n cap) 4 ((A++(zao c (X.take k)++X.drop k)++C).map za2)]) (fun (k:Nat)=>1<=k) (fun (k:Nat)=>X.length-k) (1) ?_ ?_ ?_ ?_;exact Af _;exact ⟨zP uO,trivial⟩;exact zo (by rw [zlx])
 intro k hk
 refine gz6 ?_;refine uCo (fun h1=> ?_) fun h2=> ?_
 obtain ⟨x,hx⟩: ∃x,X[k]? =some x:=⟨_,Aa uO⟩
 refine gz9 ?_;refine uV2 [9,1,18,35] (fun (D:List FixS) (B:List FixS)=>[(9,.int .i64 ((A.length+D.length:Nat):Int))]) (fun (D:List FixS) (B:List FixS)=>[.arr (.slice (some ⟨b,off,none⟩) n cap) 4 (((A++D)++x::(B++X.drop (k+1)++C)).map za2)]) (fun (D:List FixS) (B:List FixS)=>D.length+B.length=k/\zdE c x (zao c (X.take k))=zdE c x D++B) (fun (D:List FixS) (B:List FixS)=>D.length) (zao c (X.take k)) ([]) ?_ ?_ ?_ ?_;exact ⟨by simp [za9];omega,by simp⟩;exact ⟨zP (by simp [za9];omega),trivial⟩;exact zo (by rw [zk hx];simp)
 intro D B hinv
 obtain ⟨hA,hB⟩:=hinv;have hlA:D.length<X.length:=by omega
 refine gz1 ?_;refine zbW (fun M=>M=[.arr (.slice (some ⟨b,off,none⟩) n cap) 4 (((A++D)++x::(B++X.drop (k+1)++C)).map za2)]) [8,13] mixed ?_;refine gz7 ?_;refine ahg 7 rfl rfl (by kernel_rfl) (by kernel_rfl) rfl (fun hc=>by
  have hq:0<D.length:=by simp at hc;omega
  exact ⟨_,OpenTo.upd (t:=24) rfl (hc) (OpenTo.upd (t:=23) rfl (hc) (OpenTo.refl _)),zx (j:=(A++D).length) zc7 zaK rfl rfl (by simp) uSo⟩) ?_
 refine zpI 8 rfl rfl (by kernel_rfl) (by kernel_rfl) (by simp) rfl rfl (fun hc=>⟨_,OpenTo.upd (t:=25) rfl (hc) (OpenTo.refl _),fun M hM=>by
  subst hM;exact zad (i:=0) (j:=(A++D).length) zaK rfl rfl rfl zgz rfl rfl rfl ⟨rfl,rfl⟩
  ⟩) ?_
 refine gz2 ?_;refine ahg 11 rfl rfl (by kernel_rfl) (by kernel_rfl) rfl (fun hc=>by
  have hq:0<D.length:=by simp at hc;omega
  exact ⟨_,OpenTo.upd (t:=28) rfl (hc) (OpenTo.refl _),zex rfl rfl uO uO⟩) ?_
 refine ahg 12 rfl rfl (by kernel_rfl) (by kernel_rfl) rfl (fun hc=>by
  have hq:0<D.length:=by simp at hc;omega
  exact ⟨_,OpenTo.upd (t:=29) rfl (hc) (OpenTo.upd (t:=27) rfl (hc) (OpenTo.refl _)),zx (j:=(A++D).length-1) zc7 zaK rfl rfl uSo uSo⟩) ?_
 refine zpI 13 rfl rfl (by kernel_rfl) (by kernel_rfl) (by simp) rfl rfl (fun hc=>⟨_,OpenTo.upd (t:=30) rfl (hc) (OpenTo.refl _),fun M hM=>by
  have hq:0<D.length:=by simp at hc;omega
  subst hM;exact zad (i:=0) (j:=(A++D).length-1) zaK rfl rfl rfl (zh0 uSo) rfl rfl rfl ⟨rfl,rfl⟩
  ⟩) ?_
 refine uGy 14 rfl rfl (fun hc=>zap hca rfl rfl (WeakL.refl _) (hp _ _)) ?_;refine gz3 ?_;refine uCo (fun h3=> ?_) fun h4=> ?_
 obtain ⟨hA0,hcx⟩:=h3;obtain ⟨D1,y,rfl⟩:=zo9 (A:=D) uO;rw [zuL] at hcx;have hD1:(D1++[y]).length=D1.length+1:=by simp
 refine gz4 ?_;refine zbk (fun M=>M=[.arr (.slice (some ⟨b,off,none⟩) n cap) 4 (((A++(D1++[y]))++x::(B++X.drop (k+1)++C)).map za2)]) [9,13] mixed ?_;refine gz8 ?_;refine uB 8 rfl (zx (j:=(A++(D1++[y])).length-1) zc7 zaK rfl rfl uSo uSo) ?_;refine uM 9 rfl rfl (uW (zad (i:=0) (j:=(A++(D1++[y])).length-1) zaK rfl rfl rfl (zmV) rfl rfl rfl ⟨rfl,rfl⟩)) ?_;refine gz2 ?_;refine uB 12 rfl (zx (j:=(A++(D1++[y])).length) zc7 zaK rfl rfl (by simp) uSo) ?_;refine uM 13 rfl rfl (uW (zad (i:=0) (j:=(A++(D1++[y])).length) zaK rfl rfl rfl zgz rfl rfl rfl ⟨rfl,rfl⟩)) ?_;refine uB 14 rfl (zx (j:=(A++(D1++[y])).length) zc7 zaK rfl rfl (by simp) uSo) ?_;refine uF 15 ?_;refine zz (za5 (i:=0) (j:=(A++(D1++[y])).length) (y:=x) (y':=y) zaK rfl rfl rfl rfl zgz rfl rfl rfl ?_)
 refine ⟨uE,?_⟩
 refine uB 16 rfl (zx (j:=(A++(D1++[y])).length-1) zc7 zaK rfl rfl uSo uSo) ?_;refine uF 17 ?_;refine zz (za5 (i:=0) (j:=(A++(D1++[y])).length-1) (y:=y) (y':=x) zaK rfl rfl rfl rfl (by rw [A0 (by simp)];exact zmV) rfl rfl rfl ?_)
 refine ⟨uE,?_⟩
 refine gz8 ?_;exact ⟨D1,y::B,⟨by simp at hA⊢;omega,zpZ hB hcx⟩,uD,⟨zP uO,trivial⟩,uK,zo (by rw [<-AV,zp8];simp)⟩;have hins:=zpY (l:=X) (k:=k) hx hB (by intro h0;have h9:=h4 uO;rw [zoz h0] at h9;omega);refine gz2 ?_;refine zN ?_;refine gz8 ?_;exact ⟨k+1,by omega,uD,⟨zP uO,trivial⟩,uK,zo (by rw [zwe hins])⟩;have hend:zao c (X.take k)++X.drop k=zao c X:=by rw [A3 uO,zH uO];simp
 refine gz2 ?_;refine zv ?_;refine gz1 ?_;exact zah rfl ⟨rfl,by rw [hend]⟩
theorem zmE [Tracks] {l:List FixS} {n0:Int} {n b off cap:Nat} {fid:FuncId} {caps:List HVal} {c:FixS->FixS->Int} (hca:Callable prog fid) (hp: ∀x y,ConP prog fid ([za2 x,za2 y]++caps) (.int .i64 (c x y))) (hc:Cmp c fun _=>True) (hn:l.length=n) (hn0:n0=(n:Int)) (hl:n<=20):Con prog 238 [.raw (.slice (some ⟨b,off,none⟩) n cap),.int .i64 n0,.fn (.func fid) [] caps] [.arr (.slice (some ⟨b,off,none⟩) n cap) 4 ((l).map za2)] (fun x M'=> ∃Z:List FixS,x= .tup []/\(Z.Perm l/\Srt c Z)/\M'=[.arr (.slice (some ⟨b,off,none⟩) n cap) 4 ((Z).map za2)]):=by
 refine uOb func238 ntmps238 ?_;refine zaw ?_;refine uV3 [7,2,11,12] (fun (a0:Nat) (k:Nat) (Z:List FixS)=>[(7,.int .i64 (a0:Int)),(8,.int .i64 ((a0+20:Nat):Int))]) (fun (a0:Nat) (k:Nat) (Z:List FixS)=>[.arr (.slice (some ⟨b,off,none⟩) n cap) 4 ((Z++l.drop a0).map za2)]) (fun (a0:Nat) (k:Nat) (Z:List FixS)=>a0=20*k/\a0<=n/\Blk c 20 Z/\Z.length=a0/\Z.Perm (l.take a0)) (fun (a0:Nat) (k:Nat) (Z:List FixS)=>n-a0) (0) (0) ([]) ?_ ?_ ?_ ?_
 ·exact ⟨rfl,Ad _,Blk.nil,rfl,by simp⟩
 ·exact ⟨rfl,rfl,trivial⟩
 ·exact zo (by simp)
 ·intro a0 k Z hinv
  obtain ⟨ha0,ha1,hZ,hZl,hZp⟩:=hinv;refine gz6 ?_;refine uCo (fun h1=> ?_) fun h2=> ?_
  ·refine gz3 ?_;refine ze (zaH (M':=[.arr (.slice (some ⟨b,off,none⟩) n cap) 4 ((Z++(l.drop a0).take 20++l.drop (a0+20)).map za2)]) (by rw [AV Z,<-win])) ?_;refine gz5 ?_;refine de rfl (uCx 0 zw3 rfl rfl (zi1 (A:=Z) (X:=((l.drop a0).take 20)) (C:=(l.drop (a0+20))) (n:=n) hca hp (by first|omega|(simp;omega)) uO (by first|omega|(simp;omega)) uO) ?_)
   rintro _ _ ⟨rfl,rfl⟩;refine zdl ?_;exact ⟨a0+20,k+1,Z++zao c ((l.drop a0).take 20),⟨by omega,by omega,hZ.add (k:=k) uO (zkV hc _) (by rw [za9,Az];omega),by rw [Av,za9,Az,Bt];omega,by rw [zs5];exact hZp.append (zbp c _)⟩,uD,⟨zP uO,zP uO,trivial⟩,uK,Ac _⟩
  ·refine gz2 ?_;refine zcK ?_;refine gz2 ?_;refine ze (zaH (M':=[.arr (.slice (some ⟨b,off,none⟩) n cap) 4 ((Z++l.drop a0++[]).map za2)]) (by simp)) ?_;refine gz5 ?_;refine de rfl (uCx 0 zw3 rfl rfl (zi1 (A:=Z) (X:=(l.drop a0)) (C:=[]) (n:=n) hca hp (by first|omega|(simp;omega)) uO (by first|omega|(simp;omega)) uO) ?_)
   rintro _ _ ⟨rfl,rfl⟩;refine gz2 ?_;refine uV2 [6,4,28,35] (fun (bs:Nat) (D:List FixS)=>[(6,.int .i64 (bs:Int))]) (fun (bs:Nat) (D:List FixS)=>[.arr (.slice (some ⟨b,off,none⟩) n cap) 4 ((D).map za2)]) (fun (bs:Nat) (D:List FixS)=>20<=bs/\bs<=2*n+20/\Blk c bs D/\D.Perm l) (fun (bs:Nat) (D:List FixS)=>n-bs) (20) (Z++zao c (l.drop a0)) ?_ ?_ ?_ ?_
   ·refine ⟨Af _,by omega,hZ.add (k:=k) uO (zkV hc _) (by rw [za9,Bt];omega),?_⟩
    have:=hZp.append (zbp c (l.drop a0))
    rwa [Bi] at this
   ·exact ⟨rfl,trivial⟩
   ·exact zo (by simp)
   ·intro bs D hinv
    obtain ⟨hb1,hb2,hD,hDp⟩:=hinv;have hDl:D.length=n:=by rw [hDp.length_eq];exact hn
    refine gz6 ?_;refine zZ rfl (fun h3=> ?_) (fun h3=> ?_)
    ·exfalso
     try simp at h3
     all_goals omega
    ·try simp at h3
     refine gz2 ?_;refine zN ?_;refine gz1 ?_;have hDs:=hD.all uO;exact zah rfl ⟨D,rfl,⟨hDp,hDs⟩,rfl⟩
theorem znU [Tracks] {v:Value} {fid:FuncId} {caps:List HVal}:Con prog 295 [.raw v,.int .i64 0,.int .i64 0,.fn (.func fid) [] caps] [.arr v 4 []] (fun x M'=>x= .tup []/\M'=[.arr v 4 []]):=by
 refine uOb func295 ntmps295 ?_;refine gz6 ?_;refine uU1 [8,2,12,41] (fun (u:Unit)=>[(8,.int .i64 1)]) (fun (u:Unit)=>[.arr v 4 []]) (fun (u:Unit)=>True) (fun (u:Unit)=>0) (()) ?_ ?_
 ·trivial
 ·intro u hu
  refine gz6 ?_;refine zZ rfl (fun h1=> ?_) (fun h1=> ?_)
  ·exfalso
   try simp at h1
   all_goals omega
  ·try simp at h1
   refine gz2 ?_;refine zv ?_;refine gz1 ?_;exact zah rfl ⟨rfl,rfl⟩
theorem zlX [Tracks] {v:Value} {fid:FuncId} {caps:List HVal}:Con prog 238 [.raw v,.int .i64 0,.fn (.func fid) [] caps] [.arr v 4 []] (fun x M'=>x= .tup []/\M'=[.arr v 4 []]):=by
 refine uOb func238 ntmps238 ?_;refine zaw ?_;refine uU1 [7,2,11,12] (fun (u:Unit)=>[(7,.int .i64 0),(8,.int .i64 20)]) (fun (u:Unit)=>[.arr v 4 []]) (fun (u:Unit)=>True) (fun (u:Unit)=>0) (()) ?_ ?_
 ·trivial
 ·intro u hu
  refine gz6 ?_;refine zZ rfl (fun h1=> ?_) (fun h1=> ?_)
  ·exfalso
   try simp at h1
   all_goals omega
  ·try simp at h1
   refine gz2 ?_;refine zv ?_;refine gz7 ?_;refine de rfl (uCx 0 zw3 rfl rfl znU ?_)
   rintro _ _ ⟨rfl,rfl⟩;refine gz2 ?_;refine uU1 [6,4,28,35] (fun (u:Unit)=>[(6,.int .i64 20)]) (fun (u:Unit)=>[.arr v 4 []]) (fun (u:Unit)=>True) (fun (u:Unit)=>0) (()) ?_ ?_
   ·trivial
   ·intro u hu
    refine gz6 ?_;refine zZ rfl (fun h2=> ?_) (fun h2=> ?_)
    ·exfalso
     try simp at h2
     all_goals omega
    ·try simp at h2
     refine gz2 ?_;refine zv ?_;refine gz1 ?_;exact zah rfl ⟨rfl,rfl⟩
theorem zlm [Tracks] {fid:FuncId} {caps:List HVal}:Con prog 171 [.raw (.slice none 0 0),.fn (.func fid) [] caps] [.arr (.slice none 0 0) 4 []] (fun x M'=>x= .tup []/\M'=[.arr (.slice none 0 0) 4 []]):=by
 refine uOb func171 ntmps171 ?_;refine gz3 ?_;refine dq (zdh zc7 rfl) ?_;refine gz1 ?_;refine de rfl (uCx 0 zBF rfl rfl zlX ?_)
 rintro _ _ ⟨rfl,rfl⟩;refine gz1 ?_;exact zah rfl ⟨rfl,rfl⟩
theorem zln [Tracks] {l:List FixS} {n b off cap:Nat} {fid:FuncId} {caps:List HVal} {c:FixS->FixS->Int} (hca:Callable prog fid) (hp: ∀x y,ConP prog fid ([za2 x,za2 y]++caps) (.int .i64 (c x y))) (hc:Cmp c fun _=>True) (hn:l.length=n) (hl:n<=20):Con prog 171 [.raw (.slice (some ⟨b,off,none⟩) n cap),.fn (.func fid) [] caps] [.arr (.slice (some ⟨b,off,none⟩) n cap) 4 ((l).map za2)] (fun x M'=> ∃Z:List FixS,x= .tup []/\(Z.Perm l/\Srt c Z)/\M'=[.arr (.slice (some ⟨b,off,none⟩) n cap) 4 ((Z).map za2)]):=by
 refine uOb func171 ntmps171 ?_;refine gz3 ?_;refine dq (zdh zc7 rfl) ?_;refine gz1 ?_;refine de rfl (uCx 0 zBF rfl rfl (zmE hca hp hc hn rfl hl) ?_)
 rintro _ _ ⟨Z,rfl,hz,rfl⟩;refine gz1 ?_;exact zah rfl ⟨Z,rfl,hz,rfl⟩
theorem zlW [Tracks] {l:List FixS} {v:Value} {fid:FuncId} {caps:List HVal} {c:FixS->FixS->Int} (hca:Callable prog fid) (hp: ∀x y,ConP prog fid ([za2 x,za2 y]++caps) (.int .i64 (c x y))) (hc:Cmp c fun _=>True) (hl:l.length<=20):Con prog 171 [.raw v,.fn (.func fid) [] caps] [.arr v 4 (l.map za2)] fun x M'=> ∃Z:List FixS,x= .tup []/\(Z.Perm l/\Srt c Z)/\M'=[.arr v 4 (Z.map za2)]:=
 zuq (fun h1 h2=>by
  have h3:l=[]:=by first|exact List.map_eq_nil_iff.1 h2|simpa using h2
  subst h1 h3;exact zlm.mono fun x M' ⟨e1,e2⟩=>⟨[],e1,⟨Ac _,Srt.nil⟩,e2⟩)
  fun b off cap h1=>by
   rw [Ah] at h1;subst h1;exact zln hca hp hc rfl hl
theorem zik [Tracks] {x y:FixS}:ConP prog 172 [za2 x,za2 y] (.int .i64 (zpK x y)):=by
 refine uOb func172 ntmps172 ?_;refine zct ?_;refine dq (za (hs:=[_,_]) zac ty3 rfl rfl (by decide) (by decide) rfl) ?_;refine gz4 ?_;refine dq (za (hs:=[_,_]) zac ty3 rfl rfl (by decide) (by decide) rfl) ?_;refine dq (uCl zBm rfl (zf4 (a:=[x.Week,x.At]) (b:=[y.Week,y.At]) (by simp) (by simp))) ?_;refine gz6 ?_;refine uCo (fun h1=> ?_) fun h2=> ?_
 refine gz5 ?_;refine uRp ?_
 (rw [zpK,if_pos (by assumption)])
 refine gz5 ?_;refine dq (za (hs:=[_]) zq ty9 rfl rfl (by decide) (by decide) rfl) ?_;refine gz2 ?_;refine dq (za (hs:=[_]) zq ty9 rfl rfl (by decide) (by decide) rfl) ?_;refine dq (uCl zE3 rfl (zhR (l:=[x.Home]) (m:=[y.Home]) (by simp) (by simp))) ?_;refine gz3 ?_;refine uRp ?_
 (rw [zpK,if_neg uO])
theorem zil [Tracks] {x y:FixS}:ConP prog 176 [za2 x,za2 y] (.bool (bif (bif x.Week==y.Week then x.At==y.At else false) then x.Home==y.Home else false)):=by
 refine uOb func176 ntmps176 ?_;refine gz28 ?_;refine zw rfl ?_
 rfl
theorem zdj [Tracks] {b:Nat} {l:List Int} {a:Nat} (ha:a<=700000):Con prog 87 [pAt b] [St b l a] (fun x M'=> ∃k a',x=zmM k/\k.length<=12/\a'<=a+150/\M'=[St b l a']):=by
 refine uOb func87 ntmps87 ?_;refine gz6 ?_;refine ze (zL 4) ?_;refine gz5 ?_;refine uV2 [3,58] (fun (w:Nat) (q:GL FixS)=>[(4,.int .i64 ((w:Int)+1)),(3,.raw q.u)]) (fun (w:Nat) (q:GL FixS)=>[St b l q.a,.arr q.u 4 (q.out.map za2)]) (fun (w:Nat) (q:GL FixS)=>w<=4/\GLok (fun _=>True) (3*w) (a+32*w) q) (fun (w:Nat) (q:GL FixS)=>4-w) (0) (⟨.slice none 0 0,[],a⟩) ?_ ?_ ?_ ?_;exact ⟨by omega,⟨by simp,by simp,uD⟩⟩;exact ⟨zP uO,rfl,trivial⟩;exact uP
 intro w q hinv
 obtain ⟨hw,hq⟩:=hinv;obtain ⟨u,out,a2⟩:=q;obtain ⟨g1,g2,g3⟩:=id hq;dsimp only at g1 g2 g3;refine gz5 ?_;refine uCo (fun h1=> ?_) fun h2=> ?_
 refine gz6 ?_;refine dq (zby rfl rfl uO uO) ?_;refine gz4 ?_;refine de rfl (uCx 0 ca6 rfl rfl (zD uS uS uS uS) ?_)
 rintro _ _ ⟨y14,rfl,hy14,rfl⟩;refine gz3 ?_;refine uV3 [3,1,5,2,15,46] (fun (n:Nat) (at1:Int) (q2:GL FixS)=>[(15,.int .i64 (n:Int)),(5,.int .i64 at1),(3,.raw q2.u)]) (fun (n:Nat) (at1:Int) (q2:GL FixS)=>[St b l q2.a,.arr q2.u 4 (q2.out.map za2)]) (fun (n:Nat) (at1:Int) (q2:GL FixS)=>(n:Int)<=y14/\(0<=at1/\at1<=1000+20*n)/\GLok (fun _=>True) (3*w+n) (a+32*w+1+10*n) q2) (fun (n:Nat) (at1:Int) (q2:GL FixS)=>y14.toNat-n) (0) (100*((w:Int)+1)) (⟨u,out,a2+1⟩) ?_ ?_ ?_ ?_;exact ⟨by omega,by omega,⟨uD,g2,uD⟩⟩;exact ⟨rfl,rfl,rfl,trivial⟩;exact uP
 intro n at1 q2 hinv
 obtain ⟨hn,hat,hq2⟩:=hinv;obtain ⟨u,out,a2⟩:=q2;obtain ⟨g1,g2,g3⟩:=id hq2;dsimp only at g1 g2 g3;refine gz4 ?_;refine uCo (fun h3=> ?_) fun h4=> ?_
 refine gz7 ?_;refine dq (za (hs:=[_,_,_]) zac ty3 rfl rfl (by decide) (by decide) rfl) ?_;refine de rfl (uCx 0 ca7 rfl rfl (zb (L:=[_,_,_]) uS uS uS) ?_)
 rintro _ _ ⟨y20,rfl,hy20,rfl⟩;refine dq (zaZ rfl rfl (by simp at hy20;omega) (by simp at hy20;omega)) ?_;refine gz6 ?_;refine dq (za (hs:=[_,_,_]) zq ty9 rfl rfl (by decide) (by decide) rfl) ?_;refine de rfl (uCx 0 ca5 rfl rfl (zg (L:=[_,_,_]) uS uS uS) ?_)
 rintro _ _ ⟨y26,rfl,hy26,rfl⟩;refine gz1 ?_;refine dq (za (hs:=[_,_,_]) zq ty9 rfl rfl (by decide) (by decide) rfl) ?_;refine de rfl (uCx 0 ca5 rfl rfl (zg (L:=[_,_,_]) uS uS uS) ?_)
 rintro _ _ ⟨y29,rfl,hy29,rfl⟩;refine dq (zB (cs:=[_,_,_,_]) zaK zGD rfl) ?_;refine de rfl (zj zaK rfl fun b6=> ?_)
 refine de0 (uY 0 ?_)
 refine gz1 ?_;refine uVj [31,11] (fun (q3:FixS×Nat)=>[]) (fun (q3:FixS×Nat)=>[St b l q3.2,.arr u 4 (out.map za2),.cells b6 (zd (za2 q3.1))]) (fun (q3:FixS×Nat)=>q3.2<=a2+4) ?_ ?_
 skip
 refine ze (Ghost.perm (M':=[St b l (a2+3),.cells b6 (zd (za2 (⟨(w:Int)+1,at1+y20,y26,y29⟩:FixS))),.arr u 4 (out.map za2)]) uP) ?_;refine gz2 ?_;refine de rfl (uZ 1 ?_)
 refine gz1 ?_;refine de rfl (uZ 1 ?_)
 refine gz3 ?_;refine dgx (fun xq M'=> ∃(y:Bool) (a4:Nat),xq= .bool y/\a4<=a2+4/\M'=[St b l a4,.cells b6 (zd (za2 (⟨(w:Int)+1,at1+y20,y26,y29⟩:FixS))),.arr u 4 (out.map za2)]) rfl rfl (fun hc=>⟨_,false,a2+3,rfl,by omega,rfl⟩) (fun hc=>⟨_,OpenTo.upd (t:=37) rfl (hc) (OpenTo.refl _),uCx 0 zeB rfl rfl (zJ (a:=a2+3) uO uO) (fun h M' hh=>by
  obtain ⟨y,h1,h2⟩:=hh;exact ⟨y,a2+4,h1,by omega,by rw [h2];rfl⟩)⟩) ?_
 rintro _ _ ⟨y38,a4,rfl,ha4,rfl⟩;refine gz3 ?_;refine uCo (fun h5=> ?_) fun h6=> ?_
 refine gz2 ?_;refine de0 (uY 1 ?_)
 refine gz1 ?_;exact ⟨((⟨(w:Int)+1,at1+y20,y26,[112,105,110,107]⟩:FixS),a4),ha4,trivial,uK,uP⟩;refine gz1 ?_;exact ⟨((⟨(w:Int)+1,at1+y20,y26,y29⟩:FixS),a4),ha4,trivial,uK,uP⟩
 intro q3 ha4
 obtain ⟨x4,a4⟩:=q3;dsimp only at ha4;refine uVj [42,14] (fun (q4:FixS×Nat)=>[]) (fun (q4:FixS×Nat)=>[St b l q4.2,.arr u 4 (out.map za2),.cells b6 (zd (za2 q4.1))]) (fun (q4:FixS×Nat)=>q4.2<=a2+10) ?_ ?_
 skip
 refine gz2 ?_;refine de rfl (uCx 0 zeB rfl rfl (zJ uS uS) ?_)
 rintro _ _ ⟨y43,rfl,rfl⟩;refine gz1 ?_;refine uCo (fun h7=> ?_) fun h8=> ?_
 refine zbk (fun M=> ∃i:Nat,M[i]? =some (.cells b6 (zd (za2 x4)))) [6] mixed ?_;refine gz1 ?_;refine gx2 [2,4] ?_;refine gz1 ?_;refine uM 6 rfl (⟨2,rfl⟩) (fun M hM=>by obtain ⟨i,hi⟩:=hM;exact zar (i:=i) ty9 rfl hi (.inl ⟨rfl,rfl⟩) ⟨rfl,rfl⟩) ?_;refine uB 7 rfl (za (hs:=[_,_]) zq ty9 rfl rfl (by decide) (by decide) rfl) ?_;refine uF 1 ?_;refine zt rfl (uCx 0 zmF rfl rfl (ziu uS uS uS uS) ?_)
 rintro _ _ ⟨y45,rfl,hy45,rfl⟩;refine ⟨uE,?_⟩
 refine uA 9 ?_;refine uF 3 ?_;refine zt rfl (uCx 0 zmF rfl rfl (ziu uS uS uS uS) ?_)
 rintro _ _ ⟨y47,rfl,hy47,rfl⟩;refine ⟨uE,?_⟩
 refine uF 8 ?_;refine zt rfl (uCx 0 ca5 rfl rfl (zg (L:=[_,_]) uS uS uS) ?_)
 rintro _ _ ⟨y52,rfl,hy52,rfl⟩;refine ⟨uE,?_⟩
 refine uF 10 ?_;refine zz (uY 2 ?_)
 refine ⟨uE,?_⟩
 refine gz1 ?_;refine uF 12 ?_;refine zz (uY 2 ?_)
 refine ⟨uE,?_⟩
 refine gz1 ?_;refine uF 14 ?_;refine zz (uY 2 ?_)
 refine ⟨uE,?_⟩
 refine gz1 ?_;exact ⟨((⟨y45,y47,y52,x4.Away⟩:FixS),a4+6),uD,trivial,uK,uP⟩;refine gz1 ?_;exact ⟨(x4,a4+1),uD,trivial,uK,uP⟩
 intro q4 ha5
 obtain ⟨x5,a5⟩:=q4;dsimp only at ha5;refine ze (zbb 6 (i:=2) rfl rfl) ?_;refine gz3 ?_;refine dq (za (hs:=[_]) zc7 zaK rfl rfl (by decide) (by decide) rfl) ?_;refine de rfl (zI (i:=1) zc7 zaK rfl rfl rfl rfl rfl (by simp [zaq,zd,zaB,za6]) uSo fun v59=> ?_)
 refine gz8 ?_;exact ⟨n+1,at1+y20,⟨v59,out++[x5],a5⟩,⟨by omega,by simp at hy20;omega,hq2.add (x:=x5) trivial uO⟩,uD,⟨rfl,rfl,rfl,trivial⟩,uK,uP⟩;refine gz2 ?_;refine zcK ?_;refine gz8 ?_;exact ⟨w+1,⟨u,out,a2⟩,⟨by omega,hq2.mono uO uO⟩,uD,⟨zP uO,rfl,trivial⟩,uK,uP⟩;refine gz2 ?_;refine zN ?_;refine gz4 ?_;refine de rfl (uCx 1 zE1 rfl rfl (zlW (l:=out) (c:=zpK) zE2 (fun _ _=>zik) zzy uO) ?_)
 rintro _ _ ⟨Z,rfl,⟨hz1,hz2⟩,rfl⟩;have hzl:=hz1.length_eq;refine gz3 ?_;refine de rfl (uCx 0 zE4 rfl rfl (zmp (l:=Z) zE5 (fun _ _=>zil) uO) ?_)
 rintro _ _ ⟨u64,D64,rfl,⟨hD1,hD2⟩,rfl⟩;refine gz3 ?_;exact zav (zaR 2 (i:=0) rfl rfl) rfl ⟨D64,a2,rfl,by omega,by omega,rfl⟩
end
end Go.Proofs.YtpgopgjleokciaaGreatDoor
namespace Go.HL
section
open Go
theorem zco {e:Env} {places:List (Nat×Nat)} {cs cs' out:List HVal} {i off sz:Nat} {x:Operand} {h:HVal} {r:List (Nat×Operand)} (h1:places[i]? =some (off,sz)) (h2:zh e x=some h) (h3:zd3 sz h=true)
 (h4:Nat.ble (off+sz) cs.length=true) (h5:zaE cs off (zd h)=cs') (k:zg4 e places cs' r=some out):zg4 e places cs ((i,x)::r)=some out:=by
 rw [zg4,h1,h2];simp only [h3,h4];rw [h5];exact k
theorem zqK {e:Env} {places:List (Nat×Nat)} {cs:List HVal}:zg4 e places cs []=some cs:=rfl
theorem zq8 [Tracks] {P:Program} {e:Env} {dst:Option Tmp} {ty:TypeId} {pos:String} {af:Array Edge} {g:Option (Nat×Bool)} {t:TypeId} {fs:List (Nat×Nat)} {size bytes:Nat} {zs:Array Value} {parts:Array (Nat×Operand)} {ps:List (Nat×Operand)} {places:List (Nat×Nat)} {cs zc:List HVal}
 (hf:Fits P t (.struct fs) size bytes (.agg zs)) (hp:Places P fs places) (hz:zs.toList.map za6=zc) (hps:parts.toList=ps)
 (hr:zg4 e places zc ps=some cs):POp P e ⟨dst,.build t parts,ty,pos,af,g⟩ (.agg cs):=
 zB hf hp (by rw [hz,hps];exact hr)
theorem ziS [Tracks] {P:Program} {e:Env} {dst:Option Tmp} {ty:TypeId} {pos:String} {af:Array Edge} {g:Option (Nat×Bool)} {t:TypeId} {fs:List (Nat×Nat)} {size bytes:Nat} {zs:Array Value} {parts:Array (Nat×Operand)} {ps:List (Nat×Operand)} {places:List (Nat×Nat)} {cs zc:List HVal}
 (hf:Fits P t (.struct fs) size bytes (.agg zs)) (hp:Places P fs places) (hz:zs.toList.map za6=zc:=by exact (show _=[_,_,_,_,_,_,_,_,_,_,_,_,_,_] from rfl)) (hps:parts.toList=ps:=by exact (show _=[_,_,_,_,_,_,_,_,_] from rfl))
 (hr:zg4 e places zc ps=some cs:=by exact zco (cs':=[_,_,_,_,_,_,_,_,_,_,_,_,_,_]) rfl rfl rfl rfl rfl (zco (cs':=[_,_,_,_,_,_,_,_,_,_,_,_,_,_]) rfl rfl rfl rfl rfl (zco (cs':=[_,_,_,_,_,_,_,_,_,_,_,_,_,_]) rfl rfl rfl rfl rfl (zco (cs':=[_,_,_,_,_,_,_,_,_,_,_,_,_,_]) rfl rfl rfl rfl rfl (zco (cs':=[_,_,_,_,_,_,_,_,_,_,_,_,_,_]) rfl rfl rfl rfl rfl (zco (cs':=[_,_,_,_,_,_,_,_,_,_,_,_,_,_]) rfl rfl rfl rfl rfl (zco (cs':=[_,_,_,_,_,_,_,_,_,_,_,_,_,_]) rfl rfl rfl rfl rfl (zco (cs':=[_,_,_,_,_,_,_,_,_,_,_,_,_,_]) rfl rfl rfl rfl rfl (zco (cs':=[_,_,_,_,_,_,_,_,_,_,_,_,_,_]) rfl rfl rfl rfl rfl (zqK)))))))))):POp P e ⟨dst,.build t parts,ty,pos,af,g⟩ (.agg cs):=zq8 hf hp hz hps hr
theorem zGP [Tracks] {P:Program} {e:Env} {dst:Option Tmp} {ty:TypeId} {pos:String} {af:Array Edge} {g:Option (Nat×Bool)} {t:TypeId} {fs:List (Nat×Nat)} {size bytes:Nat} {zs:Array Value} {parts:Array (Nat×Operand)} {ps:List (Nat×Operand)} {places:List (Nat×Nat)} {cs zc:List HVal}
 (hf:Fits P t (.struct fs) size bytes (.agg zs)) (hp:Places P fs places) (hz:zs.toList.map za6=zc:=by exact (show _=[_,_,_,_,_,_,_,_,_,_,_,_,_,_,_,_,_,_,_] from rfl)) (hps:parts.toList=ps:=by exact (show _=[_,_,_] from rfl))
 (hr:zg4 e places zc ps=some cs:=by exact zco (cs':=[_,_,_,_,_,_,_,_,_,_,_,_,_,_,_,_,_,_,_]) rfl rfl rfl rfl rfl (zco (cs':=[_,_,_,_,_,_,_,_,_,_,_,_,_,_,_,_,_,_,_]) rfl rfl rfl rfl rfl (zco (cs':=[_,_,_,_,_,_,_,_,_,_,_,_,_,_,_,_,_,_,_]) rfl rfl rfl rfl rfl (zqK)))):POp P e ⟨dst,.build t parts,ty,pos,af,g⟩ (.agg cs):=zq8 hf hp hz hps hr
end
end Go.HL
namespace Go.Proofs.YtpgopgjleokciaaGreatDoor
set_option maxRecDepth 100000
set_option linter.unusedVariables false
set_option linter.unusedSimpArgs false
section
open Go.Proofs.Tryz
open Go.HL
theorem zce [Tracks] {b:Nat} {l:List Int} {a:Nat} (ha:a<=500000):Con prog 33 [pAt b] [St b l a] (fun x M'=> ∃g a',x=zfz g/\LeaC g/\a'<=a+500/\M'=[St b l a']):=by
 refine zaC func33 rfl ntmps33 rfl rfl ?_;refine gz1 ?_;refine de rfl (zj zbi rfl fun b2=> ?_)
 refine gz1 ?_;refine uVj [3,1,6,23] (fun (q:Nat×LeagueS×Nat)=>[(3,pAt q.1)]) (fun (q:Nat×LeagueS×Nat)=>[.cells q.1 (lgC q.2.1.Players (.raw (.slice none 0 0)) q.2.1.Fixtures q.2.1.Rules q.2.1.Slots q.2.1.Bounds q.2.1.Teams (.raw (.slice none 0 0)) q.2.1.Breaks q.2.1.Trust q.2.1.Start),.cells b2 zvx,St b l q.2.2]) (fun (q:Nat×LeagueS×Nat)=>LeaD q.2.1/\q.2.2<=a+300) ?_ ?_
 ·skip
  refine zhu mixed ?_;refine gz1 ?_;refine gx4 [2,4,6,8] ?_;refine uB 10 rfl (za (hs:=[_,_,_,_]) zq ty9 rfl rfl (by decide) (by decide) rfl) ?_;refine gz1 ?_;refine uB 12 rfl (za (hs:=[_,_,_]) zac ty3 rfl rfl (by decide) (by decide) rfl) ?_;refine gx3 [15,17,19] ?_;refine uB 20 rfl (za (hs:=[_,_,_]) zac ty3 rfl rfl (by decide) (by decide) rfl) ?_;refine zis 1 23 rfl rfl (by kernel_rfl) ?_ ?_
  ·skip
   refine zt rfl (uCx 1 ca86 rfl rfl (zea uS) ?_)
   rintro _ _ ⟨k7,a7,rfl,hk7,ha7,rfl⟩;refine ⟨uE,?_⟩
   refine zis 3 23 rfl rfl (by kernel_rfl) ?_ ?_
   ·skip
    refine zt rfl (uCx 0 zzI rfl rfl (zdj uS) ?_)
    rintro _ _ ⟨k9,a9,rfl,hk9,ha9,rfl⟩;refine ⟨uE,?_⟩
    refine zis 5 23 rfl rfl (by kernel_rfl) ?_ ?_
    ·skip
     refine zt rfl (uCx 0 zxb rfl rfl (zbX uS) ?_)
     rintro _ _ ⟨k11,a11,rfl,hk11,ha11,rfl⟩;refine ⟨uE,?_⟩
     refine zis 7 23 rfl rfl (by kernel_rfl) ?_ ?_
     ·skip
      refine zt rfl (uCx 0 zrH rfl rfl (zbm uS) ?_)
      rintro _ _ ⟨k13,a13,rfl,hk13,hn13,ha13,rfl⟩;refine ⟨uE,?_⟩
      refine zis 9 23 rfl rfl (by kernel_rfl) ?_ ?_
      ·skip
       refine zt rfl (uCx 0 zrI rfl rfl (zaN uS) ?_)
       rintro _ _ ⟨y15,rfl,rfl⟩;refine ⟨uE,?_⟩
       refine zis 13 23 rfl rfl (by kernel_rfl) ?_ ?_
       ·skip
        refine zt rfl (uCx 0 ca7 rfl rfl (zb (L:=[_,_,_]) uS uS uS) ?_)
        rintro _ _ ⟨y19,rfl,hy19,rfl⟩;refine ⟨uE,?_⟩
        refine uB 14 rfl (zaP (es:=tm4) (f:=HVal.str) (h:=y19.toNat) zq ty9 rfl rfl ⟨_,_,rfl,by simp at hy19;omega⟩ uO (by simp [tm4];simp at hy19;omega)) ?_;refine zis 16 23 rfl rfl (by kernel_rfl) ?_ ?_
        ·skip
         refine zt rfl (uCx 0 zn8 rfl rfl (zaF uS) ?_)
         rintro _ _ ⟨k22,a22,rfl,hk22,ha22,rfl⟩;refine ⟨uE,?_⟩
         refine zis 18 23 rfl rfl (by kernel_rfl) ?_ ?_
         ·skip
          refine zt rfl (uCx 0 zmH rfl rfl (zay uS) ?_)
          rintro _ _ ⟨t24,a24,rfl,ht24,ha24,rfl⟩;refine ⟨uE,?_⟩
          refine zis 21 23 rfl rfl (by kernel_rfl) ?_ ?_
          ·skip
           refine zt rfl (uCx 0 ca7 rfl rfl (zb (L:=[_,_,_]) uS uS uS) ?_)
           rintro _ _ ⟨y27,rfl,hy27,rfl⟩;refine ⟨uE,?_⟩
           refine uB 22 rfl (ziS zbi zks) ?_;refine uF 23 ?_;refine zt rfl (zj zbi rfl fun b3=> ?_)
           refine ⟨uE,?_⟩
           refine uF 24 ?_;refine zz (uY 0 ?_)
           refine ⟨uE,?_⟩
           refine uAz ?_;refine ⟨(b3,⟨k7,[],k9,k11,k13,y15,(tm4.take y19.toNat),[],k22,t24,y27⟩,a24+1),?_,⟨rfl,trivial⟩,uK,?_⟩
           ·exact ⟨⟨hk7,hk9,hk11,hk13,⟨by dsimp only;simp [tm4];simp at hy19;omega,by dsimp only;simp [tm4];simp at hy19;omega⟩,hk22,ht24,by simp at hy27;dsimp only;omega,zfw (by simp at hy19;omega)⟩,uD⟩
           ·exact uP
          ·skip
           refine zt rfl (zj zbi rfl fun b3=> ?_)
           refine ⟨uE,?_⟩
           refine uF 21 ?_;refine zt rfl (uCx 1 ca7 rfl rfl (zb (L:=[_,_,_]) uS uS uS) ?_)
           rintro _ _ ⟨y27,rfl,hy27,rfl⟩;refine ⟨uE,?_⟩
           refine uB 22 rfl (ziS zbi zks) ?_;refine uF 24 ?_;refine zz (uY 1 ?_)
           refine ⟨uE,?_⟩
           refine uAz ?_;refine ⟨(b3,⟨k7,[],k9,k11,k13,y15,(tm4.take y19.toNat),[],k22,t24,y27⟩,a24+1),?_,⟨rfl,trivial⟩,uK,?_⟩
           ·exact ⟨⟨hk7,hk9,hk11,hk13,⟨by dsimp only;simp [tm4];simp at hy19;omega,by dsimp only;simp [tm4];simp at hy19;omega⟩,hk22,ht24,by simp at hy27;dsimp only;omega,zfw (by simp at hy19;omega)⟩,uD⟩
           ·exact uP
         ·skip
          refine zt rfl (zj zbi rfl fun b3=> ?_)
          refine ⟨uE,?_⟩
          refine uF 18 ?_;refine zt rfl (uCx 1 zmH rfl rfl (zay uS) ?_)
          rintro _ _ ⟨t24,a24,rfl,ht24,ha24,rfl⟩;refine ⟨uE,?_⟩
          refine uF 21 ?_;refine zt rfl (uCx 0 ca7 rfl rfl (zb (L:=[_,_,_]) uS uS uS) ?_)
          rintro _ _ ⟨y27,rfl,hy27,rfl⟩;refine ⟨uE,?_⟩
          refine uB 22 rfl (ziS zbi zks) ?_;refine uF 24 ?_;refine zz (uY 1 ?_)
          refine ⟨uE,?_⟩
          refine uAz ?_;refine ⟨(b3,⟨k7,[],k9,k11,k13,y15,(tm4.take y19.toNat),[],k22,t24,y27⟩,a24+1),?_,⟨rfl,trivial⟩,uK,?_⟩
          ·exact ⟨⟨hk7,hk9,hk11,hk13,⟨by dsimp only;simp [tm4];simp at hy19;omega,by dsimp only;simp [tm4];simp at hy19;omega⟩,hk22,ht24,by simp at hy27;dsimp only;omega,zfw (by simp at hy19;omega)⟩,uD⟩
          ·exact uP
        ·skip
         refine zt rfl (zj zbi rfl fun b3=> ?_)
         refine ⟨uE,?_⟩
         refine uF 16 ?_;refine zt rfl (uCx 1 zn8 rfl rfl (zaF uS) ?_)
         rintro _ _ ⟨k22,a22,rfl,hk22,ha22,rfl⟩;refine ⟨uE,?_⟩
         refine uF 18 ?_;refine zt rfl (uCx 0 zmH rfl rfl (zay uS) ?_)
         rintro _ _ ⟨t24,a24,rfl,ht24,ha24,rfl⟩;refine ⟨uE,?_⟩
         refine uF 21 ?_;refine zt rfl (uCx 0 ca7 rfl rfl (zb (L:=[_,_,_]) uS uS uS) ?_)
         rintro _ _ ⟨y27,rfl,hy27,rfl⟩;refine ⟨uE,?_⟩
         refine uB 22 rfl (ziS zbi zks) ?_;refine uF 24 ?_;refine zz (uY 1 ?_)
         refine ⟨uE,?_⟩
         refine uAz ?_;refine ⟨(b3,⟨k7,[],k9,k11,k13,y15,(tm4.take y19.toNat),[],k22,t24,y27⟩,a24+1),?_,⟨rfl,trivial⟩,uK,?_⟩
         ·exact ⟨⟨hk7,hk9,hk11,hk13,⟨by dsimp only;simp [tm4];simp at hy19;omega,by dsimp only;simp [tm4];simp at hy19;omega⟩,hk22,ht24,by simp at hy27;dsimp only;omega,zfw (by simp at hy19;omega)⟩,uD⟩
         ·exact uP
       ·skip
        refine zt rfl (zj zbi rfl fun b3=> ?_)
        refine ⟨uE,?_⟩
        refine uF 13 ?_;refine zt rfl (uCx 1 ca7 rfl rfl (zb (L:=[_,_,_]) uS uS uS) ?_)
        rintro _ _ ⟨y19,rfl,hy19,rfl⟩;refine ⟨uE,?_⟩
        refine uB 14 rfl (zaP (es:=tm4) (f:=HVal.str) (h:=y19.toNat) zq ty9 rfl rfl ⟨_,_,rfl,by simp at hy19;omega⟩ uO (by simp [tm4];simp at hy19;omega)) ?_;refine uF 16 ?_;refine zt rfl (uCx 0 zn8 rfl rfl (zaF uS) ?_)
        rintro _ _ ⟨k22,a22,rfl,hk22,ha22,rfl⟩;refine ⟨uE,?_⟩
        refine uF 18 ?_;refine zt rfl (uCx 0 zmH rfl rfl (zay uS) ?_)
        rintro _ _ ⟨t24,a24,rfl,ht24,ha24,rfl⟩;refine ⟨uE,?_⟩
        refine uF 21 ?_;refine zt rfl (uCx 0 ca7 rfl rfl (zb (L:=[_,_,_]) uS uS uS) ?_)
        rintro _ _ ⟨y27,rfl,hy27,rfl⟩;refine ⟨uE,?_⟩
        refine uB 22 rfl (ziS zbi zks) ?_;refine uF 24 ?_;refine zz (uY 1 ?_)
        refine ⟨uE,?_⟩
        refine uAz ?_;refine ⟨(b3,⟨k7,[],k9,k11,k13,y15,(tm4.take y19.toNat),[],k22,t24,y27⟩,a24+1),?_,⟨rfl,trivial⟩,uK,?_⟩
        ·exact ⟨⟨hk7,hk9,hk11,hk13,⟨by dsimp only;simp [tm4];simp at hy19;omega,by dsimp only;simp [tm4];simp at hy19;omega⟩,hk22,ht24,by simp at hy27;dsimp only;omega,zfw (by simp at hy19;omega)⟩,uD⟩
        ·exact uP
      ·skip
       refine zt rfl (zj zbi rfl fun b3=> ?_)
       refine ⟨uE,?_⟩
       refine uF 9 ?_;refine zt rfl (uCx 1 zrI rfl rfl (zaN uS) ?_)
       rintro _ _ ⟨y15,rfl,rfl⟩;refine ⟨uE,?_⟩
       refine uF 13 ?_;refine zt rfl (uCx 0 ca7 rfl rfl (zb (L:=[_,_,_]) uS uS uS) ?_)
       rintro _ _ ⟨y19,rfl,hy19,rfl⟩;refine ⟨uE,?_⟩
       refine uB 14 rfl (zaP (es:=tm4) (f:=HVal.str) (h:=y19.toNat) zq ty9 rfl rfl ⟨_,_,rfl,by simp at hy19;omega⟩ uO (by simp [tm4];simp at hy19;omega)) ?_;refine uF 16 ?_;refine zt rfl (uCx 0 zn8 rfl rfl (zaF uS) ?_)
       rintro _ _ ⟨k22,a22,rfl,hk22,ha22,rfl⟩;refine ⟨uE,?_⟩
       refine uF 18 ?_;refine zt rfl (uCx 0 zmH rfl rfl (zay uS) ?_)
       rintro _ _ ⟨t24,a24,rfl,ht24,ha24,rfl⟩;refine ⟨uE,?_⟩
       refine uF 21 ?_;refine zt rfl (uCx 0 ca7 rfl rfl (zb (L:=[_,_,_]) uS uS uS) ?_)
       rintro _ _ ⟨y27,rfl,hy27,rfl⟩;refine ⟨uE,?_⟩
       refine uB 22 rfl (ziS zbi zks) ?_;refine uF 24 ?_;refine zz (uY 1 ?_)
       refine ⟨uE,?_⟩
       refine uAz ?_;refine ⟨(b3,⟨k7,[],k9,k11,k13,y15,(tm4.take y19.toNat),[],k22,t24,y27⟩,a24+1),?_,⟨rfl,trivial⟩,uK,?_⟩
       ·exact ⟨⟨hk7,hk9,hk11,hk13,⟨by dsimp only;simp [tm4];simp at hy19;omega,by dsimp only;simp [tm4];simp at hy19;omega⟩,hk22,ht24,by simp at hy27;dsimp only;omega,zfw (by simp at hy19;omega)⟩,uD⟩
       ·exact uP
     ·skip
      refine zt rfl (zj zbi rfl fun b3=> ?_)
      refine ⟨uE,?_⟩
      refine uF 7 ?_;refine zt rfl (uCx 1 zrH rfl rfl (zbm uS) ?_)
      rintro _ _ ⟨k13,a13,rfl,hk13,hn13,ha13,rfl⟩;refine ⟨uE,?_⟩
      refine uF 9 ?_;refine zt rfl (uCx 0 zrI rfl rfl (zaN uS) ?_)
      rintro _ _ ⟨y15,rfl,rfl⟩;refine ⟨uE,?_⟩
      refine uF 13 ?_;refine zt rfl (uCx 0 ca7 rfl rfl (zb (L:=[_,_,_]) uS uS uS) ?_)
      rintro _ _ ⟨y19,rfl,hy19,rfl⟩;refine ⟨uE,?_⟩
      refine uB 14 rfl (zaP (es:=tm4) (f:=HVal.str) (h:=y19.toNat) zq ty9 rfl rfl ⟨_,_,rfl,by simp at hy19;omega⟩ uO (by simp [tm4];simp at hy19;omega)) ?_;refine uF 16 ?_;refine zt rfl (uCx 0 zn8 rfl rfl (zaF uS) ?_)
      rintro _ _ ⟨k22,a22,rfl,hk22,ha22,rfl⟩;refine ⟨uE,?_⟩
      refine uF 18 ?_;refine zt rfl (uCx 0 zmH rfl rfl (zay uS) ?_)
      rintro _ _ ⟨t24,a24,rfl,ht24,ha24,rfl⟩;refine ⟨uE,?_⟩
      refine uF 21 ?_;refine zt rfl (uCx 0 ca7 rfl rfl (zb (L:=[_,_,_]) uS uS uS) ?_)
      rintro _ _ ⟨y27,rfl,hy27,rfl⟩;refine ⟨uE,?_⟩
      refine uB 22 rfl (ziS zbi zks) ?_;refine uF 24 ?_;refine zz (uY 1 ?_)
      refine ⟨uE,?_⟩
      refine uAz ?_;refine ⟨(b3,⟨k7,[],k9,k11,k13,y15,(tm4.take y19.toNat),[],k22,t24,y27⟩,a24+1),?_,⟨rfl,trivial⟩,uK,?_⟩
      ·exact ⟨⟨hk7,hk9,hk11,hk13,⟨by dsimp only;simp [tm4];simp at hy19;omega,by dsimp only;simp [tm4];simp at hy19;omega⟩,hk22,ht24,by simp at hy27;dsimp only;omega,zfw (by simp at hy19;omega)⟩,uD⟩
      ·exact uP
    ·skip
     refine zt rfl (zj zbi rfl fun b3=> ?_)
     refine ⟨uE,?_⟩
     refine uF 5 ?_;refine zt rfl (uCx 1 zxb rfl rfl (zbX uS) ?_)
     rintro _ _ ⟨k11,a11,rfl,hk11,ha11,rfl⟩;refine ⟨uE,?_⟩
     refine uF 7 ?_;refine zt rfl (uCx 0 zrH rfl rfl (zbm uS) ?_)
     rintro _ _ ⟨k13,a13,rfl,hk13,hn13,ha13,rfl⟩;refine ⟨uE,?_⟩
     refine uF 9 ?_;refine zt rfl (uCx 0 zrI rfl rfl (zaN uS) ?_)
     rintro _ _ ⟨y15,rfl,rfl⟩;refine ⟨uE,?_⟩
     refine uF 13 ?_;refine zt rfl (uCx 0 ca7 rfl rfl (zb (L:=[_,_,_]) uS uS uS) ?_)
     rintro _ _ ⟨y19,rfl,hy19,rfl⟩;refine ⟨uE,?_⟩
     refine uB 14 rfl (zaP (es:=tm4) (f:=HVal.str) (h:=y19.toNat) zq ty9 rfl rfl ⟨_,_,rfl,by simp at hy19;omega⟩ uO (by simp [tm4];simp at hy19;omega)) ?_;refine uF 16 ?_;refine zt rfl (uCx 0 zn8 rfl rfl (zaF uS) ?_)
     rintro _ _ ⟨k22,a22,rfl,hk22,ha22,rfl⟩;refine ⟨uE,?_⟩
     refine uF 18 ?_;refine zt rfl (uCx 0 zmH rfl rfl (zay uS) ?_)
     rintro _ _ ⟨t24,a24,rfl,ht24,ha24,rfl⟩;refine ⟨uE,?_⟩
     refine uF 21 ?_;refine zt rfl (uCx 0 ca7 rfl rfl (zb (L:=[_,_,_]) uS uS uS) ?_)
     rintro _ _ ⟨y27,rfl,hy27,rfl⟩;refine ⟨uE,?_⟩
     refine uB 22 rfl (ziS zbi zks) ?_;refine uF 24 ?_;refine zz (uY 1 ?_)
     refine ⟨uE,?_⟩
     refine uAz ?_;refine ⟨(b3,⟨k7,[],k9,k11,k13,y15,(tm4.take y19.toNat),[],k22,t24,y27⟩,a24+1),?_,⟨rfl,trivial⟩,uK,?_⟩
     ·exact ⟨⟨hk7,hk9,hk11,hk13,⟨by dsimp only;simp [tm4];simp at hy19;omega,by dsimp only;simp [tm4];simp at hy19;omega⟩,hk22,ht24,by simp at hy27;dsimp only;omega,zfw (by simp at hy19;omega)⟩,uD⟩
     ·exact uP
   ·skip
    refine zt rfl (zj zbi rfl fun b3=> ?_)
    refine ⟨uE,?_⟩
    refine uF 3 ?_;refine zt rfl (uCx 1 zzI rfl rfl (zdj uS) ?_)
    rintro _ _ ⟨k9,a9,rfl,hk9,ha9,rfl⟩;refine ⟨uE,?_⟩
    refine uF 5 ?_;refine zt rfl (uCx 0 zxb rfl rfl (zbX uS) ?_)
    rintro _ _ ⟨k11,a11,rfl,hk11,ha11,rfl⟩;refine ⟨uE,?_⟩
    refine uF 7 ?_;refine zt rfl (uCx 0 zrH rfl rfl (zbm uS) ?_)
    rintro _ _ ⟨k13,a13,rfl,hk13,hn13,ha13,rfl⟩;refine ⟨uE,?_⟩
    refine uF 9 ?_;refine zt rfl (uCx 0 zrI rfl rfl (zaN uS) ?_)
    rintro _ _ ⟨y15,rfl,rfl⟩;refine ⟨uE,?_⟩
    refine uF 13 ?_;refine zt rfl (uCx 0 ca7 rfl rfl (zb (L:=[_,_,_]) uS uS uS) ?_)
    rintro _ _ ⟨y19,rfl,hy19,rfl⟩;refine ⟨uE,?_⟩
    refine uB 14 rfl (zaP (es:=tm4) (f:=HVal.str) (h:=y19.toNat) zq ty9 rfl rfl ⟨_,_,rfl,by simp at hy19;omega⟩ uO (by simp [tm4];simp at hy19;omega)) ?_;refine uF 16 ?_;refine zt rfl (uCx 0 zn8 rfl rfl (zaF uS) ?_)
    rintro _ _ ⟨k22,a22,rfl,hk22,ha22,rfl⟩;refine ⟨uE,?_⟩
    refine uF 18 ?_;refine zt rfl (uCx 0 zmH rfl rfl (zay uS) ?_)
    rintro _ _ ⟨t24,a24,rfl,ht24,ha24,rfl⟩;refine ⟨uE,?_⟩
    refine uF 21 ?_;refine zt rfl (uCx 0 ca7 rfl rfl (zb (L:=[_,_,_]) uS uS uS) ?_)
    rintro _ _ ⟨y27,rfl,hy27,rfl⟩;refine ⟨uE,?_⟩
    refine uB 22 rfl (ziS zbi zks) ?_;refine uF 24 ?_;refine zz (uY 1 ?_)
    refine ⟨uE,?_⟩
    refine uAz ?_;refine ⟨(b3,⟨k7,[],k9,k11,k13,y15,(tm4.take y19.toNat),[],k22,t24,y27⟩,a24+1),?_,⟨rfl,trivial⟩,uK,?_⟩
    ·exact ⟨⟨hk7,hk9,hk11,hk13,⟨by dsimp only;simp [tm4];simp at hy19;omega,by dsimp only;simp [tm4];simp at hy19;omega⟩,hk22,ht24,by simp at hy27;dsimp only;omega,zfw (by simp at hy19;omega)⟩,uD⟩
    ·exact uP
  ·skip
   refine zt rfl (zj zbi rfl fun b3=> ?_)
   refine ⟨uE,?_⟩
   refine uF 1 ?_;refine zt rfl (uCx 2 ca86 rfl rfl (zea uS) ?_)
   rintro _ _ ⟨k7,a7,rfl,hk7,ha7,rfl⟩;refine ⟨uE,?_⟩
   refine uF 3 ?_;refine zt rfl (uCx 0 zzI rfl rfl (zdj uS) ?_)
   rintro _ _ ⟨k9,a9,rfl,hk9,ha9,rfl⟩;refine ⟨uE,?_⟩
   refine uF 5 ?_;refine zt rfl (uCx 0 zxb rfl rfl (zbX uS) ?_)
   rintro _ _ ⟨k11,a11,rfl,hk11,ha11,rfl⟩;refine ⟨uE,?_⟩
   refine uF 7 ?_;refine zt rfl (uCx 0 zrH rfl rfl (zbm uS) ?_)
   rintro _ _ ⟨k13,a13,rfl,hk13,hn13,ha13,rfl⟩;refine ⟨uE,?_⟩
   refine uF 9 ?_;refine zt rfl (uCx 0 zrI rfl rfl (zaN uS) ?_)
   rintro _ _ ⟨y15,rfl,rfl⟩;refine ⟨uE,?_⟩
   refine uF 13 ?_;refine zt rfl (uCx 0 ca7 rfl rfl (zb (L:=[_,_,_]) uS uS uS) ?_)
   rintro _ _ ⟨y19,rfl,hy19,rfl⟩;refine ⟨uE,?_⟩
   refine uB 14 rfl (zaP (es:=tm4) (f:=HVal.str) (h:=y19.toNat) zq ty9 rfl rfl ⟨_,_,rfl,by simp at hy19;omega⟩ uO (by simp [tm4];simp at hy19;omega)) ?_;refine uF 16 ?_;refine zt rfl (uCx 0 zn8 rfl rfl (zaF uS) ?_)
   rintro _ _ ⟨k22,a22,rfl,hk22,ha22,rfl⟩;refine ⟨uE,?_⟩
   refine uF 18 ?_;refine zt rfl (uCx 0 zmH rfl rfl (zay uS) ?_)
   rintro _ _ ⟨t24,a24,rfl,ht24,ha24,rfl⟩;refine ⟨uE,?_⟩
   refine uF 21 ?_;refine zt rfl (uCx 0 ca7 rfl rfl (zb (L:=[_,_,_]) uS uS uS) ?_)
   rintro _ _ ⟨y27,rfl,hy27,rfl⟩;refine ⟨uE,?_⟩
   refine uB 22 rfl (ziS zbi zks) ?_;refine uF 24 ?_;refine zz (uY 1 ?_)
   refine ⟨uE,?_⟩
   refine uAz ?_;refine ⟨(b3,⟨k7,[],k9,k11,k13,y15,(tm4.take y19.toNat),[],k22,t24,y27⟩,a24+1),?_,⟨rfl,trivial⟩,uK,?_⟩
   ·exact ⟨⟨hk7,hk9,hk11,hk13,⟨by dsimp only;simp [tm4];simp at hy19;omega,by dsimp only;simp [tm4];simp at hy19;omega⟩,hk22,ht24,by simp at hy27;dsimp only;omega,zfw (by simp at hy19;omega)⟩,uD⟩
   ·exact uP
 ·intro q hq0
  obtain ⟨b3,⟨k7,kst,k9,k11,k13,y15,T,kga,k22,t24,y27⟩,a27⟩:=q;obtain ⟨⟨hk7,hk9,hk11,hk13,htl,hk22,ht24,hst,htt⟩,ha27⟩:=hq0;dsimp only at hk7 hk9 hk11 hk13 htl hk22 ht24 hst htt ha27⊢;have hp5:=hk7.len;have htr:t24.length<=100/\∀s∈t24,Sh s:=⟨by have:=ht24.len;omega,ht24.all⟩
  refine gz3 ?_;refine de rfl (uZ 0 ?_)
  refine de rfl (uCx 2 ca93 rfl rfl (ziY (a:=a27) (L:=k7) uO uO) ?_)
  rintro _ _ ⟨k32,a32,rfl,hk32,ha32,rfl⟩;refine gz1 ?_;refine de0 (uY 1 ?_)
  refine gz4 ?_;refine de rfl (uZ 1 ?_)
  refine de rfl (za8 (M1:=[]) (R:=[_,_,_]) ca94 rfl (WeakL.refl _) (Ac _) (zlh (T:=T) htl) ?_)
  rintro _ _ ⟨k36,rfl,hk36,rfl⟩;refine gz3 ?_;have hl36:=hk36.len;have hg36:=hk36.all;refine ze (zL 8) ?_;refine gz1 ?_;refine uV2 [5,1,38,14] (fun (k:Nat) (q:GL GameS)=>[(38,.int .i64 k)]) (fun (k:Nat) (q:GL GameS)=>[St b l q.a,.cells b2 zvx,.cells b3 (lgC k7 (zfA k32) k9 k11 k13 y15 T (.raw q.u) k22 t24 y27),.arr q.u 8 (q.out.map zaW)]) (fun (k:Nat) (q:GL GameS)=>k<=k36.length/\(GLok GamB k (a32+k) q)) (fun (k:Nat) (q:GL GameS)=>k36.length-k) (0) (⟨.slice none 0 0,[],a32⟩) ?_ ?_ ?_ ?_
  ·exact ⟨Ad _,⟨by simp,by simp,uD⟩⟩
  ·exact ⟨rfl,trivial⟩
  ·exact uP
  ·intro k q hinv
   obtain ⟨hk,hq⟩:=hinv;obtain ⟨u,out,a2⟩:=q;obtain ⟨g1,g2,g3⟩:=id hq;dsimp only at g1 g2 g3;refine gz4 ?_;refine uCo (fun h1=> ?_) fun h2=> ?_
   ·obtain ⟨x,hx⟩: ∃x,k36[k]? =some x:=⟨_,Aa h1⟩
    have hdx:=zk hx;refine gz7 ?_;refine de rfl (zj zcs rfl fun b5=> ?_)
    refine de0 (uY 0 ?_)
    refine gz3 ?_;refine de rfl (uCx 1 zeB rfl rfl (zJ uS uS) ?_)
    rintro _ _ ⟨y43,rfl,rfl⟩;refine gz2 ?_;refine uCo (fun h3=> ?_) fun h4=> ?_
    ·refine gz2 ?_;refine de rfl (uZ 3 ?_)
     refine de rfl (zja (i:=1) (h:=zaW x) zcs rfl rfl rfl rfl rfl ?_)
     refine dq (za (hs:=[_]) zgo zcs rfl rfl (by decide) (by decide) rfl) ?_;refine de rfl (zI (i:=4) zgo zcs rfl rfl rfl rfl rfl (by simp [zaq,zd,zaB,za6]) uSo fun v49=> ?_)
     refine gz1 ?_;refine de0 (uY 3 ?_)
     refine gz3 ?_;refine ze (zbb 5 (i:=1) rfl rfl) ?_;refine gz4 ?_;exact ⟨k+1,⟨v49,out++[x],a2+1⟩,⟨by omega,hq.add (x:=x) (hg36 x (Ab hx)) uO⟩,uD,⟨rfl,trivial⟩,uK,zo (by dsimp only;rw [Ay];rfl)⟩
    ·refine gz3 ?_;refine ze (zbb 5 (i:=1) rfl rfl) ?_;refine gz4 ?_;exact ⟨k+1,⟨u,out,a2+1⟩,⟨by omega,hq.same uO⟩,uD,⟨rfl,trivial⟩,uK,zo rfl⟩
   ·have hnk:k36.length<=k:=by omega
    obtain rfl:k=k36.length:=by omega
    refine gz2 ?_;refine zN ?_;refine gz4 ?_;refine de rfl (uZ 2 ?_)
    refine de rfl (uCx 3 ca95 rfl rfl (zn4 (l:=out) g2 uO) ?_)
    rintro _ _ ⟨Z,rfl,hz1,hz2,rfl⟩;have hzl:=hz1.length_eq;refine gz1 ?_;have hgz:Z.length<=6/\∀x∈Z,GamB x:=⟨by omega,fun x hx=>g2 x (hz1.mem_iff.1 hx)⟩
    refine uVj [55,44] (fun (q5:LeagueS×Nat)=>[]) (fun (q5:LeagueS×Nat)=>[St b l q5.2,.cells b2 zvx,.cells b3 (lgC q5.1.Players (zfA q5.1.Stints) q5.1.Fixtures q5.1.Rules q5.1.Slots q5.1.Bounds q5.1.Teams (.raw u) q5.1.Breaks q5.1.Trust q5.1.Start),.arr u 8 (q5.1.Games.map zaW)]) (fun (q5:LeagueS×Nat)=>LeaC q5.1/\q5.2<=a+500) ?_ ?_
    ·skip
     refine gz2 ?_;refine de rfl (uCx 1 zeB rfl rfl (zJ uS uS) ?_)
     rintro _ _ ⟨y56,rfl,rfl⟩;refine gz1 ?_;refine uCo (fun h5=> ?_) fun h6=> ?_
     ·refine gz2 ?_;refine de rfl (uCx 0 zhi rfl rfl (zX uS uS) ?_)
      rintro _ _ ⟨y58,rfl,hy58,rfl⟩;refine gz6 ?_;refine uCo (fun h7=> ?_) fun h8=> ?_
      ·refine gz2 ?_;refine dq (za (hs:=[_,_,_]) zac ty3 rfl rfl (by decide) (by decide) rfl) ?_;refine de rfl (uCx 0 ca7 rfl rfl (zb (L:=[_,_,_]) uS uS uS) ?_)
       rintro _ _ ⟨y81,rfl,hy81,rfl⟩;refine gz1 ?_;refine de0 (uY 3 ?_)
       refine gz2 ?_;exact ⟨((⟨k7,k32,k9,k11,k13,y15,T,Z,k22,t24,y81⟩:LeagueS),a2+3),⟨zjR (h1:=hk7) (h2:=by dsimp only;omega) (h3:=by dsimp only;omega) (h4:=hk11) (h5:=hk13.up) (h6:=by dsimp only;omega) (h7:=hgz) (h8:=by dsimp only;omega) (h9:=htr) (h10:=by simp at hy81;dsimp only;omega) (h11:=htt),uD⟩,trivial,uK,uP⟩
      ·refine gz4 ?_;refine uCo (fun h9=> ?_) fun h10=> ?_
       ·refine gz2 ?_;refine de rfl (uZ 3 ?_)
        refine de rfl (uCa zkg rfl (zab uO) fun v87=> ?_)
        refine gz1 ?_;refine dq (za (hs:=[_,_]) zq ty9 rfl rfl (by decide) (by decide) rfl) ?_;refine de rfl (uCx 1 ca5 rfl rfl (zg (L:=[_,_]) uS uS uS) ?_)
        rintro _ _ ⟨y90,rfl,hy90,rfl⟩;refine dq (za (hs:=[_]) zq ty9 rfl rfl (by decide) (by decide) rfl) ?_;refine de rfl (zlO (N:=[St b l (a2+3),.arr u 8 (Z.map zaW),.cells b2 zvx,.cells b3 (lgC k7 (zfA k32) k9 k11 k13 y15 T (.raw u) k22 t24 y27)]) (sz:=1) (es:=(T++[y90]).map .str) 1 (zI (i:=1) zq ty9 rfl rfl rfl rfl rfl (by simp [zaq,zd]) uSo fun v=>⟨v,rfl,by simp,rfl⟩) ?_)
        refine gz1 ?_;refine de0 (uY 3 ?_)
        refine gz2 ?_;exact ⟨((⟨k7,k32,k9,k11,k13,y15,T++[y90],Z,k22,t24,y27⟩:LeagueS),a2+3),⟨zjR (h1:=hk7) (h2:=by dsimp only;omega) (h3:=by dsimp only;omega) (h4:=hk11) (h5:=hk13.up) (h6:=by dsimp only;rw [Av];simp only [Ai,AC];omega) (h7:=hgz) (h8:=by dsimp only;omega) (h9:=htr) (h10:=hst) (h11:=htt.app _),uD⟩,trivial,uK,uP⟩
       ·refine gz4 ?_;refine uCo (fun h11=> ?_) fun h12=> ?_
        ·refine gz2 ?_;refine de rfl (uCx 0 ca97 rfl rfl (zj4 uS) ?_)
         rintro _ _ ⟨k97,a97,rfl,hk97,ha97,rfl⟩;refine gz1 ?_;refine de0 (uY 3 ?_)
         refine gz2 ?_;exact ⟨((⟨k7,k32,k9,k11,k97,y15,T,Z,k22,t24,y27⟩:LeagueS),a97),⟨zjR (h1:=hk7) (h2:=by dsimp only;omega) (h3:=by dsimp only;omega) (h4:=hk11) (h5:=hk97) (h6:=by dsimp only;omega) (h7:=hgz) (h8:=by dsimp only;omega) (h9:=htr) (h10:=hst) (h11:=htt),by dsimp only at ha97⊢;omega⟩,trivial,uK,uP⟩
        ·refine gz2 ?_;refine de rfl (uZ 3 ?_)
         refine de rfl (zaX (i:=1) zgo rfl rfl ?_)
         refine gz2 ?_;refine uCo (fun h13=> ?_) fun h14=> ?_
         ·have hz0:0<Z.length:=by first|assumption|omega|simp_all
          obtain ⟨x0,hx0⟩: ∃x,Z[0]? =some x:=⟨_,Aa hz0⟩
          refine zcS (i:=1) rfl (fun h0 he=> ?_) (fun ob off cap hv hcap=> ?_)
          ·exfalso;have:=congrArg List.length he;simp at this;subst this;simp at hz0
          subst hv;refine zbk (fun M=> ∃i:Nat,M[i]? =some (.cells b3 (lgC k7 (zfA k32) k9 k11 k13 y15 T (.raw (.slice (some ⟨ob,off,none⟩) (Z.map zaW).length cap)) k22 t24 y27))) [1,3,5] mixed ?_;refine gz1 ?_;refine uM 1 rfl (⟨3,rfl⟩) (fun M hM=>by obtain ⟨i,hi⟩:=hM;exact zar (i:=i) zgo rfl hi (.inl ⟨rfl,rfl⟩) ⟨rfl,rfl⟩) ?_;refine gz1 ?_;refine uM 3 rfl (⟨3,rfl⟩) (fun M hM=>by obtain ⟨i,hi⟩:=hM;exact zar (i:=i) zgo rfl hi (.inl ⟨rfl,rfl⟩) ⟨rfl,rfl⟩) ?_;refine gz1 ?_;refine uM 5 rfl (⟨3,rfl⟩) (fun M hM=>by obtain ⟨i,hi⟩:=hM;exact zar (i:=i) zgo rfl hi (.inl ⟨rfl,rfl⟩) ⟨rfl,rfl⟩) ?_;refine uB 6 rfl (zB (cs:=[_,_]) zU zid rfl) ?_;refine uB 7 rfl (zB (cs:=[_,_]) zU zid rfl) ?_;refine uB 8 rfl (zx (j:=0) zgo zcs rfl rfl rfl uSo) ?_;refine gz1 ?_;refine uF 10 ?_;refine zz (zQ (i:=1) (j:=0) (f:=3) (y:=zaW x0) (y':=zaW (⟨x0.Week,x0.Home,x0.Away,true,x0.FNum,x0.FDen,x0.ONum,x0.ODen⟩:GameS)) ty4 rfl uO rfl rfl (za3 hx0) rfl rfl (by simp [zd]) rfl ?_)
          refine ⟨fun _=> .inl ⟨3,rfl⟩,?_⟩
          refine uB 11 rfl (zx (j:=0) zgo zcs rfl rfl rfl uSo) ?_;refine gz1 ?_;refine uF 13 ?_;refine zz (zQ (i:=1) (j:=0) (f:=4) (y:=zaW (⟨x0.Week,x0.Home,x0.Away,true,x0.FNum,x0.FDen,x0.ONum,x0.ODen⟩:GameS)) (y':=zaW (⟨x0.Week,x0.Home,x0.Away,true,1,1,x0.ONum,x0.ODen⟩:GameS)) zU rfl uO rfl rfl (zaM (za3 hx0)) rfl rfl (by simp [zd]) rfl ?_)
          refine ⟨fun _=> .inl ⟨3,rfl⟩,?_⟩
          refine uB 14 rfl (zx (j:=0) zgo zcs rfl rfl rfl uSo) ?_;refine gz1 ?_;refine uF 16 ?_;refine zz (zQ (i:=1) (j:=0) (f:=6) (y:=zaW (⟨x0.Week,x0.Home,x0.Away,true,1,1,x0.ONum,x0.ODen⟩:GameS)) (y':=zaW (⟨x0.Week,x0.Home,x0.Away,true,1,1,1,1⟩:GameS)) zU rfl uO rfl rfl (zaM (zaM (za3 hx0))) rfl rfl (by simp [zd]) rfl ?_)
          refine ⟨fun _=> .inl ⟨3,rfl⟩,?_⟩
          refine gz2 ?_;exact ⟨((⟨k7,k32,k9,k11,k13,y15,T,Z.set 0 (⟨x0.Week,x0.Home,x0.Away,true,1,1,1,1⟩:GameS),k22,t24,y27⟩:LeagueS),a2+2),⟨zjR (h1:=hk7) (h2:=by dsimp only;omega) (h3:=by dsimp only;omega) (h4:=hk11) (h5:=hk13.up) (h6:=by dsimp only;omega) (h7:=⟨by dsimp only;rw [CA];omega,zfx (P:=GamB) hgz.2 ⟨(hgz.2 x0 (Ab hx0)).week,uD,uD⟩⟩) (h8:=by dsimp only;omega) (h9:=htr) (h10:=hst) (h11:=htt),uD⟩,trivial,uK,uP⟩
         ·refine gz2 ?_;exact ⟨((⟨k7,k32,k9,k11,k13,y15,T,Z,k22,t24,y27⟩:LeagueS),a2+2),⟨zjR (h1:=hk7) (h2:=by dsimp only;omega) (h3:=by dsimp only;omega) (h4:=hk11) (h5:=hk13.up) (h6:=by dsimp only;omega) (h7:=hgz) (h8:=by dsimp only;omega) (h9:=htr) (h10:=hst) (h11:=htt),uD⟩,trivial,uK,uP⟩
     ·refine gz1 ?_;exact ⟨((⟨k7,k32,k9,k11,k13,y15,T,Z,k22,t24,y27⟩:LeagueS),a2+1),⟨zjR (h1:=hk7) (h2:=by dsimp only;omega) (h3:=by dsimp only;omega) (h4:=hk11) (h5:=hk13.up) (h6:=by dsimp only;omega) (h7:=hgz) (h8:=by dsimp only;omega) (h9:=htr) (h10:=hst) (h11:=htt),uD⟩,trivial,uK,uP⟩
    ·intro q5 hq5
     obtain ⟨g5,a5⟩:=q5;obtain ⟨hg5,ha5⟩:=hq5;dsimp only at hg5 ha5;refine ze (zk7 (i:=3) (k:=2) (j:=10) rfl rfl rfl) ?_;refine ze (Ghost.perm (M':=[.cells b2 zvx,St b l a5,.cells b3 (zd (zfz g5))]) uP) ?_;refine gz1 ?_;refine de rfl (zja (i:=2) (h:=zfz g5) zbi rfl rfl rfl rfl rfl ?_)
     refine de0 (zn (h:=zfz g5) zbi rfl rfl rfl rfl rfl ?_)
     refine gz2 ?_;exact ⟨_,_,(zm 2 rfl).trans ((Ghost.perm (List.Perm.swap _ _ _)).trans Ghost.drop),[_],_,⟨⟨_,_,_,_,_,rfl,zbi,.inr ⟨rfl,rfl,rfl⟩⟩,trivial⟩,Weak.refl _,g5,a5,rfl,hg5,ha5,rfl⟩
end
section
open Go.HL
set_option linter.unusedSimpArgs false
end
section
open Go.Proofs.Tryz
open Go.HL
theorem zkQ [Tracks] {A X C:List MvS} {ia ib:Int} {n b off cap:Nat} {fid:FuncId} {caps:List HVal} {c:MvS->MvS->Int} (hca:Callable prog fid) (hp: ∀x y,ConP prog fid ([zdt x,zdt y]++caps) (.int .i64 (c x y))) (hn:A.length+X.length+C.length=n) (hia:ia=(A.length:Int)) (hib:ib=(A.length:Int)+X.length) (hl:n<=1000000):Con prog 185 [.raw (.slice (some ⟨b,off,none⟩) n cap),.int .i64 ia,.int .i64 ib,.fn (.func fid) [] caps] [.arr (.slice (some ⟨b,off,none⟩) n cap) 4 ((A++X++C).map zdt)] (fun x M'=>x= .tup []/\M'=[.arr (.slice (some ⟨b,off,none⟩) n cap) 4 ((A++zao c X++C).map zdt)]):=by
 refine uOb func185 ntmps185 ?_;refine gz6 ?_;refine uV1 [8,2,12,41] (fun (k:Nat)=>[(8,.int .i64 ((A.length+k:Nat):Int))]) (fun (k:Nat)=>[.arr (.slice (some ⟨b,off,none⟩) n cap) 4 ((A++(zao c (X.take k)++X.drop k)++C).map zdt)]) (fun (k:Nat)=>1<=k) (fun (k:Nat)=>X.length-k) (1) ?_ ?_ ?_ ?_;exact Af _;exact ⟨zP uO,trivial⟩;exact zo (by rw [zlx])
 intro k hk
 refine gz6 ?_;refine uCo (fun h1=> ?_) fun h2=> ?_
 obtain ⟨x,hx⟩: ∃x,X[k]? =some x:=⟨_,Aa uO⟩
 refine gz9 ?_;refine uV2 [9,1,18,35] (fun (D:List MvS) (B:List MvS)=>[(9,.int .i64 ((A.length+D.length:Nat):Int))]) (fun (D:List MvS) (B:List MvS)=>[.arr (.slice (some ⟨b,off,none⟩) n cap) 4 (((A++D)++x::(B++X.drop (k+1)++C)).map zdt)]) (fun (D:List MvS) (B:List MvS)=>D.length+B.length=k/\zdE c x (zao c (X.take k))=zdE c x D++B) (fun (D:List MvS) (B:List MvS)=>D.length) (zao c (X.take k)) ([]) ?_ ?_ ?_ ?_;exact ⟨by simp [za9];omega,by simp⟩;exact ⟨zP (by simp [za9];omega),trivial⟩;exact zo (by rw [zk hx];simp)
 intro D B hinv
 obtain ⟨hA,hB⟩:=hinv;have hlA:D.length<X.length:=by omega
 refine gz1 ?_;refine zbW (fun M=>M=[.arr (.slice (some ⟨b,off,none⟩) n cap) 4 (((A++D)++x::(B++X.drop (k+1)++C)).map zdt)]) [8,13] mixed ?_;refine gz7 ?_;refine ahg 7 rfl rfl (by kernel_rfl) (by kernel_rfl) rfl (fun hc=>by
  have hq:0<D.length:=by simp at hc;omega
  exact ⟨_,OpenTo.upd (t:=24) rfl (hc) (OpenTo.upd (t:=23) rfl (hc) (OpenTo.refl _)),zx (j:=(A++D).length) zb9 zG rfl rfl (by simp) uSo⟩) ?_
 refine zpI 8 rfl rfl (by kernel_rfl) (by kernel_rfl) (by simp) rfl rfl (fun hc=>⟨_,OpenTo.upd (t:=25) rfl (hc) (OpenTo.refl _),fun M hM=>by
  subst hM;exact zad (i:=0) (j:=(A++D).length) zG rfl rfl rfl zgz rfl rfl rfl ⟨rfl,rfl⟩
  ⟩) ?_
 refine gz2 ?_;refine ahg 11 rfl rfl (by kernel_rfl) (by kernel_rfl) rfl (fun hc=>by
  have hq:0<D.length:=by simp at hc;omega
  exact ⟨_,OpenTo.upd (t:=28) rfl (hc) (OpenTo.refl _),zex rfl rfl uO uO⟩) ?_
 refine ahg 12 rfl rfl (by kernel_rfl) (by kernel_rfl) rfl (fun hc=>by
  have hq:0<D.length:=by simp at hc;omega
  exact ⟨_,OpenTo.upd (t:=29) rfl (hc) (OpenTo.upd (t:=27) rfl (hc) (OpenTo.refl _)),zx (j:=(A++D).length-1) zb9 zG rfl rfl uSo uSo⟩) ?_
 refine zpI 13 rfl rfl (by kernel_rfl) (by kernel_rfl) (by simp) rfl rfl (fun hc=>⟨_,OpenTo.upd (t:=30) rfl (hc) (OpenTo.refl _),fun M hM=>by
  have hq:0<D.length:=by simp at hc;omega
  subst hM;exact zad (i:=0) (j:=(A++D).length-1) zG rfl rfl rfl (zh0 uSo) rfl rfl rfl ⟨rfl,rfl⟩
  ⟩) ?_
 refine uGy 14 rfl rfl (fun hc=>zap hca rfl rfl (WeakL.refl _) (hp _ _)) ?_;refine gz3 ?_;refine uCo (fun h3=> ?_) fun h4=> ?_
 obtain ⟨hA0,hcx⟩:=h3;obtain ⟨D1,y,rfl⟩:=zo9 (A:=D) uO;rw [zuL] at hcx;have hD1:(D1++[y]).length=D1.length+1:=by simp
 refine gz4 ?_;refine zbk (fun M=>M=[.arr (.slice (some ⟨b,off,none⟩) n cap) 4 (((A++(D1++[y]))++x::(B++X.drop (k+1)++C)).map zdt)]) [9,13] mixed ?_;refine gz8 ?_;refine uB 8 rfl (zx (j:=(A++(D1++[y])).length-1) zb9 zG rfl rfl uSo uSo) ?_;refine uM 9 rfl rfl (uW (zad (i:=0) (j:=(A++(D1++[y])).length-1) zG rfl rfl rfl (zmV) rfl rfl rfl ⟨rfl,rfl⟩)) ?_;refine gz2 ?_;refine uB 12 rfl (zx (j:=(A++(D1++[y])).length) zb9 zG rfl rfl (by simp) uSo) ?_;refine uM 13 rfl rfl (uW (zad (i:=0) (j:=(A++(D1++[y])).length) zG rfl rfl rfl zgz rfl rfl rfl ⟨rfl,rfl⟩)) ?_;refine uB 14 rfl (zx (j:=(A++(D1++[y])).length) zb9 zG rfl rfl (by simp) uSo) ?_;refine uF 15 ?_;refine zz (za5 (i:=0) (j:=(A++(D1++[y])).length) (y:=x) (y':=y) zG rfl rfl rfl rfl zgz rfl rfl rfl ?_)
 refine ⟨uE,?_⟩
 refine uB 16 rfl (zx (j:=(A++(D1++[y])).length-1) zb9 zG rfl rfl uSo uSo) ?_;refine uF 17 ?_;refine zz (za5 (i:=0) (j:=(A++(D1++[y])).length-1) (y:=y) (y':=x) zG rfl rfl rfl rfl (by rw [A0 (by simp)];exact zmV) rfl rfl rfl ?_)
 refine ⟨uE,?_⟩
 refine gz8 ?_;exact ⟨D1,y::B,⟨by simp at hA⊢;omega,zpZ hB hcx⟩,uD,⟨zP uO,trivial⟩,uK,zo (by rw [<-AV,zp8];simp)⟩;have hins:=zpY (l:=X) (k:=k) hx hB (by intro h0;have h9:=h4 uO;rw [zoz h0] at h9;omega);refine gz2 ?_;refine zN ?_;refine gz8 ?_;exact ⟨k+1,by omega,uD,⟨zP uO,trivial⟩,uK,zo (by rw [zwe hins])⟩;have hend:zao c (X.take k)++X.drop k=zao c X:=by rw [A3 uO,zH uO];simp
 refine gz2 ?_;refine zv ?_;refine gz1 ?_;exact zah rfl ⟨rfl,by rw [hend]⟩
theorem zps [Tracks] {l:List MvS} {n0:Int} {n b off cap:Nat} {fid:FuncId} {caps:List HVal} {c:MvS->MvS->Int} (hca:Callable prog fid) (hp: ∀x y,ConP prog fid ([zdt x,zdt y]++caps) (.int .i64 (c x y))) (hc:Cmp c fun _=>True) (hn:l.length=n) (hn0:n0=(n:Int)) (hl:n<=20):Con prog 98 [.raw (.slice (some ⟨b,off,none⟩) n cap),.int .i64 n0,.fn (.func fid) [] caps] [.arr (.slice (some ⟨b,off,none⟩) n cap) 4 ((l).map zdt)] (fun x M'=> ∃Z:List MvS,x= .tup []/\(Z.Perm l/\Srt c Z)/\M'=[.arr (.slice (some ⟨b,off,none⟩) n cap) 4 ((Z).map zdt)]):=by
 refine uOb func98 ntmps98 ?_;refine zaw ?_;refine uV3 [7,2,11,12] (fun (a0:Nat) (k:Nat) (Z:List MvS)=>[(7,.int .i64 (a0:Int)),(8,.int .i64 ((a0+20:Nat):Int))]) (fun (a0:Nat) (k:Nat) (Z:List MvS)=>[.arr (.slice (some ⟨b,off,none⟩) n cap) 4 ((Z++l.drop a0).map zdt)]) (fun (a0:Nat) (k:Nat) (Z:List MvS)=>a0=20*k/\a0<=n/\Blk c 20 Z/\Z.length=a0/\Z.Perm (l.take a0)) (fun (a0:Nat) (k:Nat) (Z:List MvS)=>n-a0) (0) (0) ([]) ?_ ?_ ?_ ?_
 ·exact ⟨rfl,Ad _,Blk.nil,rfl,by simp⟩
 ·exact ⟨rfl,rfl,trivial⟩
 ·exact zo (by simp)
 ·intro a0 k Z hinv
  obtain ⟨ha0,ha1,hZ,hZl,hZp⟩:=hinv;refine gz6 ?_;refine uCo (fun h1=> ?_) fun h2=> ?_
  ·refine gz3 ?_;refine ze (zaH (M':=[.arr (.slice (some ⟨b,off,none⟩) n cap) 4 ((Z++(l.drop a0).take 20++l.drop (a0+20)).map zdt)]) (by rw [AV Z,<-win])) ?_;refine gz5 ?_;refine de rfl (uCx 0 zwZ rfl rfl (zkQ (A:=Z) (X:=((l.drop a0).take 20)) (C:=(l.drop (a0+20))) (n:=n) hca hp (by first|omega|(simp;omega)) uO (by first|omega|(simp;omega)) uO) ?_)
   rintro _ _ ⟨rfl,rfl⟩;refine zdl ?_;exact ⟨a0+20,k+1,Z++zao c ((l.drop a0).take 20),⟨by omega,by omega,hZ.add (k:=k) uO (zkV hc _) (by rw [za9,Az];omega),by rw [Av,za9,Az,Bt];omega,by rw [zs5];exact hZp.append (zbp c _)⟩,uD,⟨zP uO,zP uO,trivial⟩,uK,Ac _⟩
  ·refine gz2 ?_;refine zcK ?_;refine gz2 ?_;refine ze (zaH (M':=[.arr (.slice (some ⟨b,off,none⟩) n cap) 4 ((Z++l.drop a0++[]).map zdt)]) (by simp)) ?_;refine gz5 ?_;refine de rfl (uCx 0 zwZ rfl rfl (zkQ (A:=Z) (X:=(l.drop a0)) (C:=[]) (n:=n) hca hp (by first|omega|(simp;omega)) uO (by first|omega|(simp;omega)) uO) ?_)
   rintro _ _ ⟨rfl,rfl⟩;refine gz2 ?_;refine uV2 [6,4,28,35] (fun (bs:Nat) (D:List MvS)=>[(6,.int .i64 (bs:Int))]) (fun (bs:Nat) (D:List MvS)=>[.arr (.slice (some ⟨b,off,none⟩) n cap) 4 ((D).map zdt)]) (fun (bs:Nat) (D:List MvS)=>20<=bs/\bs<=2*n+20/\Blk c bs D/\D.Perm l) (fun (bs:Nat) (D:List MvS)=>n-bs) (20) (Z++zao c (l.drop a0)) ?_ ?_ ?_ ?_
   ·refine ⟨Af _,by omega,hZ.add (k:=k) uO (zkV hc _) (by rw [za9,Bt];omega),?_⟩
    have:=hZp.append (zbp c (l.drop a0))
    rwa [Bi] at this
   ·exact ⟨rfl,trivial⟩
   ·exact zo (by simp)
   ·intro bs D hinv
    obtain ⟨hb1,hb2,hD,hDp⟩:=hinv;have hDl:D.length=n:=by rw [hDp.length_eq];exact hn
    refine gz6 ?_;refine zZ rfl (fun h3=> ?_) (fun h3=> ?_)
    ·exfalso
     try simp at h3
     all_goals omega
    ·try simp at h3
     refine gz2 ?_;refine zN ?_;refine gz1 ?_;have hDs:=hD.all uO;exact zah rfl ⟨D,rfl,⟨hDp,hDs⟩,rfl⟩
theorem zqo [Tracks] {v:Value} {fid:FuncId} {caps:List HVal}:Con prog 185 [.raw v,.int .i64 0,.int .i64 0,.fn (.func fid) [] caps] [.arr v 4 []] (fun x M'=>x= .tup []/\M'=[.arr v 4 []]):=by
 refine uOb func185 ntmps185 ?_;refine gz6 ?_;refine uU1 [8,2,12,41] (fun (u:Unit)=>[(8,.int .i64 1)]) (fun (u:Unit)=>[.arr v 4 []]) (fun (u:Unit)=>True) (fun (u:Unit)=>0) (()) ?_ ?_
 ·trivial
 ·intro u hu
  refine gz6 ?_;refine zZ rfl (fun h1=> ?_) (fun h1=> ?_)
  ·exfalso
   try simp at h1
   all_goals omega
  ·try simp at h1
   refine gz2 ?_;refine zv ?_;refine gz1 ?_;exact zah rfl ⟨rfl,rfl⟩
theorem zn6 [Tracks] {v:Value} {fid:FuncId} {caps:List HVal}:Con prog 98 [.raw v,.int .i64 0,.fn (.func fid) [] caps] [.arr v 4 []] (fun x M'=>x= .tup []/\M'=[.arr v 4 []]):=by
 refine uOb func98 ntmps98 ?_;refine zaw ?_;refine uU1 [7,2,11,12] (fun (u:Unit)=>[(7,.int .i64 0),(8,.int .i64 20)]) (fun (u:Unit)=>[.arr v 4 []]) (fun (u:Unit)=>True) (fun (u:Unit)=>0) (()) ?_ ?_
 ·trivial
 ·intro u hu
  refine gz6 ?_;refine zZ rfl (fun h1=> ?_) (fun h1=> ?_)
  ·exfalso
   try simp at h1
   all_goals omega
  ·try simp at h1
   refine gz2 ?_;refine zv ?_;refine gz7 ?_;refine de rfl (uCx 0 zwZ rfl rfl zqo ?_)
   rintro _ _ ⟨rfl,rfl⟩;refine gz2 ?_;refine uU1 [6,4,28,35] (fun (u:Unit)=>[(6,.int .i64 20)]) (fun (u:Unit)=>[.arr v 4 []]) (fun (u:Unit)=>True) (fun (u:Unit)=>0) (()) ?_ ?_
   ·trivial
   ·intro u hu
    refine gz6 ?_;refine zZ rfl (fun h2=> ?_) (fun h2=> ?_)
    ·exfalso
     try simp at h2
     all_goals omega
    ·try simp at h2
     refine gz2 ?_;refine zv ?_;refine gz1 ?_;exact zah rfl ⟨rfl,rfl⟩
theorem znx [Tracks] {fid:FuncId} {caps:List HVal}:Con prog 36 [.raw (.slice none 0 0),.fn (.func fid) [] caps] [.arr (.slice none 0 0) 4 []] (fun x M'=>x= .tup []/\M'=[.arr (.slice none 0 0) 4 []]):=by
 refine uOb func36 ntmps36 ?_;refine gz3 ?_;refine dq (zdh zb9 rfl) ?_;refine gz1 ?_;refine de rfl (uCx 0 ca98 rfl rfl zn6 ?_)
 rintro _ _ ⟨rfl,rfl⟩;refine gz1 ?_;exact zah rfl ⟨rfl,rfl⟩
theorem zny [Tracks] {l:List MvS} {n b off cap:Nat} {fid:FuncId} {caps:List HVal} {c:MvS->MvS->Int} (hca:Callable prog fid) (hp: ∀x y,ConP prog fid ([zdt x,zdt y]++caps) (.int .i64 (c x y))) (hc:Cmp c fun _=>True) (hn:l.length=n) (hl:n<=20):Con prog 36 [.raw (.slice (some ⟨b,off,none⟩) n cap),.fn (.func fid) [] caps] [.arr (.slice (some ⟨b,off,none⟩) n cap) 4 ((l).map zdt)] (fun x M'=> ∃Z:List MvS,x= .tup []/\(Z.Perm l/\Srt c Z)/\M'=[.arr (.slice (some ⟨b,off,none⟩) n cap) 4 ((Z).map zdt)]):=by
 refine uOb func36 ntmps36 ?_;refine gz3 ?_;refine dq (zdh zb9 rfl) ?_;refine gz1 ?_;refine de rfl (uCx 0 ca98 rfl rfl (zps hca hp hc hn rfl hl) ?_)
 rintro _ _ ⟨Z,rfl,hz,rfl⟩;refine gz1 ?_;exact zah rfl ⟨Z,rfl,hz,rfl⟩
theorem zn5 [Tracks] {l:List MvS} {v:Value} {fid:FuncId} {caps:List HVal} {c:MvS->MvS->Int} (hca:Callable prog fid) (hp: ∀x y,ConP prog fid ([zdt x,zdt y]++caps) (.int .i64 (c x y))) (hc:Cmp c fun _=>True) (hl:l.length<=20):Con prog 36 [.raw v,.fn (.func fid) [] caps] [.arr v 4 (l.map zdt)] fun x M'=> ∃Z:List MvS,x= .tup []/\(Z.Perm l/\Srt c Z)/\M'=[.arr v 4 (Z.map zdt)]:=
 zuq (fun h1 h2=>by
  have h3:l=[]:=by first|exact List.map_eq_nil_iff.1 h2|simpa using h2
  subst h1 h3;exact znx.mono fun x M' ⟨e1,e2⟩=>⟨[],e1,⟨Ac _,Srt.nil⟩,e2⟩)
  fun b off cap h1=>by
   rw [Ah] at h1;subst h1;exact zny hca hp hc rfl hl
theorem zqy [Tracks] {l:List MoveS} (hb: ∀x∈l,MovB x) (hl:l.length<=20) {v:Value}:
 Con prog 36 [.raw v,.fn (.func 37) [] []] [.arr v 4 (l.map zdq)] fun x M'=> ∃l':List MoveS,x= .tup []/\l'.Perm l/\M'=[.arr v 4 (l'.map zdq)]:=by
 have h:=zn5 (l:=l.attachWith _ hb) (v:=v) (c:=zBa) (caps:=[]) ca37 (fun x y=>zhz (a:=x.1) (b:=y.1) x.2 y.2) zyi (by simpa using hl);rw [show ((l.attachWith _ hb).map zdt)=l.map zdq from zqi hb zdq] at h;refine h.mono fun x M' ⟨l',e1,⟨hp,hw⟩,e2⟩=>⟨l'.map Subtype.val,e1,?_,?_⟩
 have h9:=hp.map Subtype.val;rw [zml hb] at h9;exact h9;rw [e2,AX];rfl
end
end Go.Proofs.YtpgopgjleokciaaGreatDoor
