/- Part 3 of the proof: a program logic, contracts of functions and plain facts; no conditions. -/
import Derived.Test.YtaihpegdcgdcgaaGreatDoorQTopFreeHaveNoOwner2
import Derived.Ground.GgzProg
import Derived.Ground.Names2Prog
import Derived.Ground.SlgmProg
import Derived.Ground.SlmcProg
import Derived.Ground.SlsfProg
import Derived.Shelf.SlIter.Collect
import Derived.Shelf.SlIter.Keys
import Derived.Shelf.SlIter.Sorted
import Derived.Shelf.SlMaps.Clone
import Derived.Shelf.SlSortCmp.NoneTotal
import Derived.Shelf.Slices.CompactI
import Derived.Shelf.Slices.CompactS
import Derived.Shelf.Slices.Delete
import Derived.Shelf.Slices.In.SortNone
import Derived.Shelf.Sort.Plain
import Derived.Shelf.SortM.Plain
import Derived.Shelf.Spec.SlicesInsert
import Derived.Shelf.Spec.SlicesInsertGrow
import Derived.Shelf.Strconv.Atoi
import Derived.Shelf.Strconv.Itoa3
import Derived.Shelf.Strings.Prefix
import Derived.Test.YtaihpegdcgdcgaaGreatDoorProg
set_option linter.unusedVariables false
set_option linter.unusedSimpArgs false
set_option maxHeartbeats 16000000
namespace Go.Proofs.YtaihpegdcgdcgaaGreatDoor
set_option maxRecDepth 100000
set_option linter.unusedVariables false
set_option linter.unusedSimpArgs false
section
open Go.Proofs.Tryz
open Go.HL
theorem zpL [Tracks]:KeyOk prog 191 zgh:=zfS (cs:=fun x:Num=>zb (zgh x)) zkr zyO (fun x y=>⟨rfl,⟨_,_,_,_,ty9,rfl⟩,⟨rfl,⟨_,_,_,_,ty3,rfl⟩,trivial⟩⟩)
 (fun x y=>by obtain ⟨a,b⟩:=x;obtain ⟨c,d⟩:=y;show (_&&(_&&true))=_;rw [AK];simp [eqH,Prod.mk.injEq]) (fun x=>rfl)
theorem zsy [Tracks]:KeyOk prog 193 eOf:=zfS (cs:=fun x:Of2=>zb (eOf x)) znM zyP (fun x y=>⟨rfl,⟨_,_,_,_,ty9,rfl⟩,⟨rfl,⟨_,_,_,_,ty9,rfl⟩,trivial⟩⟩)
 (fun x y=>by obtain ⟨a,b⟩:=x;obtain ⟨c,d⟩:=y;show (_&&(_&&true))=_;rw [AK];simp [eqH,Prod.mk.injEq]) (fun x=>rfl)
theorem zdk [Tracks] {n:Int}:ConP prog 54 [.int .i64 n] (.bool (zcA n)):=by
 refine uOb func54 ntmps54 ?_;refine gz5 ?_;refine dq (uCl zbm rfl z7) ?_;refine gz4 ?_;refine zB rfl ?_
 rfl
theorem zmy [Tracks] {p:Play}:ConP prog 114 [zad p] (.int .i64 (playFault p)):=by
 refine uOb func114 ntmps114 ?_;refine gz9 ?_;refine dq (uCl zca rfl zac) ?_;refine gz3 ?_;refine uCo (fun h1=> ?_) fun h2=> ?_
 refine gz4 ?_;refine uRp ?_
 simp_all [playFault]
 refine gz3 ?_;refine dq (uCl zbm rfl z7) ?_;refine gz3 ?_;refine uGr rfl (fun hc=>uCl zhT rfl za5) ?_;refine gz5 ?_;refine uGr rfl (fun hc=>uCl zmB rfl zdk) ?_;refine gz4 ?_;refine uCo (fun h3=> ?_) fun h4=> ?_
 refine gz4 ?_;refine uRp ?_
 simp_all [playFault]
 refine gz3 ?_;refine dq (uCl zca rfl zac) ?_;refine gz4 ?_;refine uGr rfl (fun hc=>uCl zca rfl zac) ?_;refine gz5 ?_;refine uGr rfl (fun hc=>uCl zca rfl zac) ?_;refine gz4 ?_;refine uCo (fun h5=> ?_) fun h6=> ?_
 refine gz4 ?_;refine uRp ?_
 simp_all [playFault]
 refine gz3 ?_;refine dq (uCl zbm rfl z7) ?_;refine gz5 ?_;have hN:=zeT (n:=p.No) (lo:=1) (hi:=3000) uSa;refine gz1 ?_;refine uGr rfl (fun hc=>uCl zbm rfl z7) ?_;refine gz3 ?_;refine uCo (fun h7=> ?_) fun h8=> ?_
 refine gz4 ?_;refine uRp ?_
 simp_all [playFault]
 refine zct ?_;refine uCo (fun h9=> ?_) fun h10=> ?_
 refine gz4 ?_;refine uRp ?_
 simp_all [playFault]
 refine gz7 ?_;refine uRp ?_
 simp_all [playFault]
theorem zq3 [Tracks] {a b:Play}:ConP prog 115 [zad a,zad b] (.int .i64 (byNo a b)):=by
 refine uOb func115 ntmps115 ?_;refine gz5 ?_;refine uDr mixed ?_;refine gz4 ?_;refine uB 4 rfl (uCl zcT rfl zG) ?_;refine gz4 ?_;refine uB 9 rfl (uCl zch rfl zN) ?_;refine uB 10 rfl (za (hs:=[_,_]) zV ty3 rfl rfl (by decide) (by decide) rfl) ?_;refine uB 11 rfl (uCl zeM rfl (zaW (l:=[_,_]) (by simp))) ?_;refine gz3 ?_;refine zB rfl ?_
 rfl
theorem zhc [Tracks] {l:List Play} (hl:l.length<=1000000):ConP prog 52 [zbq l] (.int .i64 (zbT l)):=by
 refine uOb func52 ntmps52 ?_;refine gz9 ?_;refine uCo (fun h1=> ?_) fun h2=> ?_
 refine gz4 ?_;refine zaa Ghost.clear rfl ⟨?_,rfl⟩
 show HVal.int .i64 _=_
 (rw [zbT,if_pos uO])
 refine gz3 ?_;refine de rfl (zaJ fun m14=> ?_)
 refine de rfl (zaJ fun m15=> ?_)
 refine zeZ ?_;refine uT1 [2,1,5,6,18,45] (fun k=>[(18,.int .i64 k),(5,.bool (za1 (l.take k)).c)]) (fun k=>[.map m15 (sk (em (.int .i64) (za1 (l.take k)).W)),.map m14 (sk (zbe (za1 (l.take k)).S))]) (fun k=>k<=l.length/\(zbp l 0 l=zbp l k (l.drop k))) (fun k=>l.length-k) (0) ?_ ?_;exact ⟨Ad _,rfl⟩;rintro k ⟨hk,hg⟩;refine gz4 ?_;refine uCo (fun h3=> ?_) fun h4=> ?_
 obtain ⟨x,hx⟩: ∃x,l[k]? =some x:=⟨_,Aa h3⟩
 have hdx:=zg hx;rw [hdx] at hg;refine gz8 ?_;refine de rfl (zi zbk rfl fun b7=> ?_)
 refine gz1 ?_;refine de0 (zo zbk rfl rfl rfl rfl rfl ?_)
 refine gz1 ?_;refine zf (zp 7 rfl) ?_;refine gz3 ?_;refine dq (uCl zxv rfl zmy) ?_;refine gz6 ?_;refine uCo (fun h5=> ?_) fun h6=> ?_
 refine gz5 ?_;refine zaa Ghost.clear rfl ⟨?_,rfl⟩
 show HVal.int .i64 _=_
 (rw [ziE uO (by rw [hg,zbp,if_pos (by simpa using h5)]) (by simpa using h5)])
 refine gz3 ?_;refine uDr mixed ?_;refine gz7 ?_;refine uGy 7 rfl rfl (fun hc=>by have hq:=hc;(try simp at hq);exact zC (j:=k-1) (a:=l.getD (k-1) zki) zg8 zbk rfl rfl uO (getD_some uO)) ?_;refine gz1 ?_;refine uGy 9 rfl rfl (fun hc=>uCl zxw rfl zq3) ?_;refine gz3 ?_;refine uCo (fun h7=> ?_) fun h8=> ?_
 refine gz4 ?_;refine zaa Ghost.clear rfl ⟨?_,rfl⟩
 show HVal.int .i64 _=_
 (rw [ziE (c:=7) uO (by rw [hg,zbp,if_neg (by simpa using h6),if_pos (by obtain ⟨qa,qb⟩:=h7;exact ⟨by omega,by simpa using qb⟩)]) (by decide)])
 refine gz6 ?_;refine de0 (zgi (i:=1) znL ty9 rfl rfl rfl rfl ?_)
 refine gz6 ?_;refine de rfl (zhX (i:=0) (z0:=(0:Int)) ze4 ty9 ty3 rfl rfl rfl rfl ?_)
 refine zi6 ?_;refine uCo (fun h9=> ?_) fun h10=> ?_
 refine zat ?_;refine de0 (zcF (i:=0) ze4 ty9 rfl rfl rfl rfl ?_)
 refine gz7 ?_;refine ⟨k+1,⟨by omega,?_⟩,uD,⟨rfl,?_,trivial⟩,uK,?_⟩
 rw [hg,zkj (by simpa using h6) (fun hk0=>by simp_all)];rw [zdM hx];exact congrArg (fun b=>some (HVal.bool b)) (by simp_all [zgf]);exact zq (by dsimp only;rw [zdM hx];rfl);refine gz8 ?_;refine de0 (zcF (i:=0) ze4 ty9 rfl rfl rfl rfl ?_)
 refine gz7 ?_;refine ⟨k+1,⟨by omega,?_⟩,uD,⟨rfl,?_,trivial⟩,uK,?_⟩
 rw [hg,zkj (by simpa using h6) (fun hk0=>by simp_all)];rw [zdM hx];exact congrArg (fun b=>some (HVal.bool b)) (by simp_all [zgf]);exact zq (by dsimp only;rw [zdM hx];rfl);have hnk:l.length<=k:=by omega
 obtain rfl:k=l.length:=by omega
 rw [zD (Ae _)] at hg;rw [Ap];refine gz2 ?_;refine zn ?_;refine gz4 ?_;have e1:(sk (zbe (za1 l).S)).length=(za1 l).S.length:=by simp [sk,zbe]
 have e2:(sk (em (HVal.int .i64) (za1 l).W)).length=(za1 l).W.length:=by simp [sk]
 refine gz2 ?_;refine de rfl (zhj (i:=1) znL rfl rfl ?_)
 refine gz3 ?_;refine dgl rfl rfl (fun hc=>⟨_,OpenTo.upd (t:=68) rfl (hc) (OpenTo.refl _),zhj (i:=0) ze4 rfl rfl ⟨rfl,rfl⟩⟩) ?_;refine gz4 ?_;refine uCo (fun h11=> ?_) fun h12=> ?_
 refine gz4 ?_;refine zaa Ghost.clear rfl ⟨?_,rfl⟩
 show HVal.int .i64 _=_
 (rw [zd3 uO hg,zdH,if_pos uO])
 refine gz4 ?_;refine uCo (fun h13=> ?_) fun h14=> ?_
 refine gz4 ?_;refine zaa Ghost.clear rfl ⟨?_,rfl⟩
 show HVal.int .i64 _=_
 (rw [zd3 uO hg,zdH,if_neg uO,if_pos (by assumption)])
 refine gz7 ?_;refine zaa Ghost.clear rfl ⟨?_,rfl⟩
 show HVal.int .i64 _=_
 (rw [zd3 uO hg,zdH,if_neg uO,if_neg uSa])
theorem zhd [Tracks] {l:List Str} (hl:l.length<=1000000):ConP prog 53 [eSs l] (.int .i64 (zb0 l)):=by
 refine uOb func53 ntmps53 ?_;refine gz9 ?_;refine uCo (fun h1=> ?_) fun h2=> ?_
 refine gz4 ?_;refine uRp ?_
 (rw [zb0,if_pos uO])
 refine gz9 ?_;refine uT1 [2,3,10,14] (fun k=>[(10,.int .i64 k)]) (fun k=>[]) (fun k=>k<=l.length/\(zb0 l=zc8 l k (l.drop k))) (fun k=>l.length-k) (0) ?_ ?_;refine ⟨Ad _,?_⟩
 rw [zb0,if_neg uO];rfl;rintro k ⟨hk,hg⟩;refine gz4 ?_;refine uCo (fun h3=> ?_) fun h4=> ?_
 obtain ⟨x,hx⟩: ∃x,l[k]? =some x:=⟨_,Aa h3⟩
 have hdx:=zg hx;rw [hdx] at hg;refine zdN ?_;refine dq (uCl zca rfl zac) ?_;refine gz2 ?_;refine uCo (fun h5=> ?_) fun h6=> ?_
 refine gz4 ?_;refine uRp ?_
 (rw [hg];simp_all [zc8])
 refine gz5 ?_;refine dq (zaI zj ty9 rfl rfl ⟨_,_,rfl,rfl⟩ uO uO) ?_;refine gz1 ?_;refine dq (uCl zeL rfl (zF uSo)) ?_;refine gz1 ?_;refine uCo (fun h7=> ?_) fun h8=> ?_
 refine gz4 ?_;refine uRp ?_
 (rw [hg];simp_all [zc8])
 refine gz7 ?_;refine ⟨k+1,?_,?_,⟨rfl,trivial⟩,uK,Ac _⟩
 refine ⟨by omega,?_⟩
 rw [hg];simp_all [zc8]
 dsimp only;omega
 have hnk:l.length<=k:=by omega
 obtain rfl:k=l.length:=by omega
 rw [zD (Ae _)] at hg;refine gz2 ?_;refine zn ?_;refine gz6 ?_;refine uRp ?_
 (rw [hg];simp_all [zc8])
theorem zq4 [Tracks] {l:List Play} {trust:List Str} {n:Int} (hl:l.length<=1000000) (ht:trust.length<=1000000):Con prog 116 [zbq l,eSs trust,.int .i64 n] [] (fun x M'=> ∃b O,x= .raw (.map (some b))/\ANodup O/\(∀m,alk m O=zlZ l trust n m)/\M'=[.map b (sk (em .str O))]):=by
 refine uOb func116 ntmps116 ?_;refine gz4 ?_;refine de rfl (zaJ fun m16=> ?_)
 refine gz9 ?_;refine uT1 [9,4,19,35] (fun k=>[(19,.int .i64 k)]) (fun k=>[.map m16 (sk (em (.int .i64) (zd8 (l.take k) trust n)))]) (fun k=>k<=l.length/\(True)) (fun k=>l.length-k) (0) ?_ ?_;exact ⟨Ad _,trivial⟩;rintro k ⟨hk,-⟩;refine gz4 ?_;refine uCo (fun h1=> ?_) fun h2=> ?_
 obtain ⟨x,hx⟩: ∃x,l[k]? =some x:=⟨_,Aa h1⟩
 have hdx:=zg hx;refine gz7 ?_;refine de rfl (zi zbk rfl fun b9=> ?_)
 refine de0 (zo zbk rfl rfl rfl rfl rfl ?_)
 refine gz1 ?_;refine zf (zp 9 rfl) ?_;refine gz4 ?_;refine dq (uCl zvq rfl (zdx uO)) ?_;refine zeZ ?_;refine uCo (fun h3=> ?_) fun h4=> ?_
 refine gz8 ?_;exact ⟨k+1,⟨by omega,trivial⟩,uD,⟨rfl,trivial⟩,uK,zq (by dsimp only;rw [zjP hx,zdj,if_pos (by simpa using h3)];try rfl)⟩;refine gz6 ?_;refine de rfl (zhX (i:=0) (z0:=(0:Int)) ze4 ty9 ty3 rfl rfl rfl rfl ?_)
 refine zi6 ?_;refine uCo (fun h5=> ?_) fun h6=> ?_
 refine gz5 ?_;refine de0 (zcF (i:=0) ze4 ty9 rfl rfl rfl rfl ?_)
 refine gz7 ?_;exact ⟨k+1,⟨by omega,trivial⟩,uD,⟨rfl,trivial⟩,uK,zq (by dsimp only;rw [zjP hx,zdj,if_neg (by simp_all;try omega),if_pos (by simpa using h5)];try rfl)⟩;refine gz7 ?_;exact ⟨k+1,⟨by omega,trivial⟩,uD,⟨rfl,trivial⟩,uK,zq (by dsimp only;rw [zjP hx,zdj,if_neg (by simp_all;try omega),if_neg (by simp_all;try omega)];try rfl)⟩;have hnk:l.length<=k:=by omega
 obtain rfl:k=l.length:=by omega
 refine gz2 ?_;refine zn ?_;refine gz2 ?_;rw [Ap];refine gz1 ?_;refine de rfl (zaJ fun m54=> ?_)
 refine gz5 ?_;refine de rfl (zoD (i:=1) ze4 rfl rfl fun r=> ?_)
 refine gz2 ?_;refine uU2 [14,2,57,11] (fun (vis:List Nat) (E:List (Str×Int))=>[]) (fun (vis:List Nat) (E:List (Str×Int))=>[.map m54 (sk (em .str (znK trust E))),.iter r m16 (sk (em (.int .i64) (zd8 l trust n))) vis]) (fun (vis:List Nat) (E:List (Str×Int))=>VisOk ((zd8 l trust n)) vis E/\(True)) (fun (vis:List Nat) (E:List (Str×Int))=>((zd8 l trust n)).length-vis.length) ([]) ([]) ?_ ?_;exact ⟨VisOk.nil _,trivial⟩;rintro vis E ⟨hvis,-⟩;refine gz1 ?_;refine de rfl (zoC (i:=1) (L:=(zd8 l trust n)) (enc:=(fun p:Str×Int=>(HVal.str p.1,HVal.int .i64 p.2))) rfl rfl (zvJ _ _) hvis.nd hvis.lt fun cb R vis' hnx=> ?_)
 refine gz3 ?_;refine uCo (fun h7=> ?_) fun h8=> ?_
 obtain ⟨j,q,hq,hj,rfl⟩:=hnx.t h7;have hroom:=hvis.room hq hj;have hstep:=hvis.step hq hj;have hqm:=Ab hq;refine gz4 ?_;refine de rfl (zne (i:=1) (L:=(zd8 l trust n)) (enc:=(fun p:Str×Int=>(HVal.str p.1,HVal.int .i64 p.2))) rfl rfl (zvJ _ _) hq ?_)
 refine zat ?_;obtain ⟨hq0,hq1⟩:=zrW hqm;refine dq (zC (j:=q.2.toNat) (a:=trust.getD q.2.toNat []) zj ty9 rfl rfl uO (getD_some uO)) ?_;refine gz1 ?_;refine de0 (zcF (i:=0) (v:=trust.getD q.2.toNat []) zha ty9 rfl rfl rfl rfl ?_)
 refine gz2 ?_;exact ⟨_,E++[q],⟨hstep,trivial⟩,by dsimp only;rw [AA];simp only [Ak,AL];omega,trivial,uK,zq (by dsimp only;rw [ztU hvis (zjQ _ _ _) hq hj];rfl)⟩;obtain ⟨rfl,hlen⟩:=hnx.f h8;have hEp:=hvis.done hlen;refine gz2 ?_;refine zJ ?_;refine gz2 ?_;refine zf (Ghost.only (i:=0) rfl) ?_;refine gz5 ?_;exact zW rfl ⟨_,_,rfl,zsL hEp,zu0 hEp,rfl⟩
end
end Go.Proofs.YtaihpegdcgdcgaaGreatDoor
namespace Go.HL
section
variable {P:Program}
abbrev hsm (L:zfG):HVal:= .hmap (L.map fun p=> .str p.1) (L.map (·.2))
abbrev zsp (S:List (List UInt8)):HVal:=hsm (zbe S)
theorem zxf (L:zfG):(sk L).map (·.1)=L.map fun p=>HVal.str p.1:=by simp [sk,Function.comp_def]
theorem zxg (L:zfG):(sk L).map (·.2)=L.map (·.2):=by simp [sk,Function.comp_def]
section
variable {e:Env} {dst:Option Tmp} {ty:TypeId} {pos:String} {af:Array Edge} {g:Option (Nat×Bool)}
end
inductive Bow (M:List MObj):HVal->HVal->Prop
 |weak {h h':HVal} (hw:Weak h h'):Bow M h h'
 |arr {i:Nat} {v:Value} {sz:Nat} {es:List HVal} (hm:M[i]? =some (.arr v sz es)):Bow M (.raw v) (.slice sz es)
 |cells {i b off:Nat} {cs cs':List HVal} (hm:M[i]? =some (.cells b cs)) (hl:cs.length=cs'.length) (h: ∀(j:Nat) (c c':HVal),cs[j]? =some c->cs'[j]? =some c'->Bow M c c'):Bow M (.raw (.pointer (some ⟨b,off,none⟩))) (.vptr cs' off)
 |map {i b:Nat} {L:zfG} (hm:M[i]? =some (.map b (sk L))):Bow M (.raw (.map (some b))) (hsm L)
 |vptr {off:Nat} {l l':List HVal} (hl:l.length=l'.length) (h: ∀(j:Nat) (c c':HVal),l[j]? =some c->l'[j]? =some c'->Bow M c c'):Bow M (.vptr l off) (.vptr l' off)
 |fn {f:Fn} {c1 l l':List HVal} (hl:l.length=l'.length) (h: ∀(j:Nat) (c c':HVal),l[j]? =some c->l'[j]? =some c'->Bow M c c'):Bow M (.fn f c1 l) (.fn f c1 l')
theorem Bow.refl {M:List MObj} {h:HVal}:Bow M h h:= .weak (Weak.refl _)
theorem V.vptr_inv' {I:Imm} {cs:List HVal} {off:Nat} {v:Value} (h:V I (.vptr cs off) v): ∃b base rc el fr,v= .pointer (some ⟨b,base+off,none⟩)/\I.heap b=some (.cells rc el fr)/\base+cs.length<=rc.size/\
 ∀(j:Nat) (c:HVal) (v:Value),cs[j]? =some c->rc[base+j]? =some v->V I c v:=by
 cases h with
 |vptr h1 h2 h3=>exact ⟨_,_,_,_,_,rfl,h1,h2,h3⟩
theorem Bow.v [Tracks] {M:List MObj} {I:Imm} {F:List MObj} {w:World} {h h':HVal} (hb:Bow M h h') (hs:Sat P I (M++F) w): ∀{v:Value},V I h v->V (zbK w) h' v:=by
 induction hb with
 |weak hw=>intro v hv;exact hw _ _ (hv.mono hs.le_all)
 |arr hm=>intro v hv;exact (Bor.arr hm).v hs hv
 | @cells i b off cs cs' hm hl _ ih=>
   intro v hv
   rw [hv.raw_inv];obtain ⟨rc,el,fr,h2,h3,h4⟩:=hs.obj _ (Al _ (Ab hm));have:=V.vptr (I:=zbK w) (cs:=cs') (off:=off) (base:=0) h2 (by have:=h4.1;simp at this;omega) fun j c v a1 a2=>by
    have hj:=zl a1;have hj':=Aa (l:=cs) (i:=j) (by omega);exact ih j _ c hj' a1 (h4.2 j _ v hj' (by simpa using a2))
   rwa [A9] at this
 | @map i b L hm=>
   intro v hv
   rw [hv.raw_inv];obtain ⟨es,clk,h1,h2,h3⟩:=hs.obj _ (Al _ (Ab hm));have hn:es.size=L.length:=by simpa [sk] using h2.1
   refine .hmap (I:=zbK w) h1 (by simp [hn]) (by simp [hn]) (fun j c m a1 a2=> ?_) (fun j c m a1 a2=> ?_)
   rw [<-zxf,Ag] at a1
   cases hq:(sk L)[j]? with
   |none=>rw [hq] at a1;simp at a1
   |some p=>rw [hq] at a1;simp at a1;subst a1;exact ((h3 j p m hq a2).1).mono hs.le_all
   rw [<-zxg,Ag] at a1
   cases hq:(sk L)[j]? with
   |none=>rw [hq] at a1;simp at a1
   |some p=>rw [hq] at a1;simp at a1;subst a1;exact ((h3 j p m hq a2).2).mono hs.le_all
 | @vptr off l l' hl _ ih=>
   intro v hv
   obtain ⟨b,base,rc,el,fr,rfl,h1,h2,h3⟩:=hv.vptr_inv';refine .vptr (I:=zbK w) (hs.imm _ _ h1) (by omega) fun j c u a1 a2=> ?_
   have hj:=zl a1;have hj':=Aa (l:=l) (i:=j) (by omega);exact ih j _ c hj' a1 (h3 j _ u hj' a2)
 | @fn f c1 l l' hl _ ih=>
   intro v hv
   cases hv with
   |fn g1 g2 g3 g4=>
     refine .fn g1 (by omega) (fun j c u a1 a2=>(g3 j c u a1 a2).mono hs.le_all) fun j c u a1 a2=> ?_
     have hj:=zl a1;have hj':=Aa (l:=l) (i:=j) (by omega);exact ih j _ c hj' a1 (g4 j _ u hj' a2)
end
section
open Go
variable {P:Program} {e:Env} {dst:Option Tmp} {ty:TypeId} {pos:String} {af:Array Edge} {g:Option (Nat×Bool)}
theorem zuP [Tracks] {x:Operand} {t:TypeId} {m:Int} (hx:ze e x=some (.int .u64 m)):POp P e ⟨dst,.unOp .neg t x,ty,pos,af,g⟩ (.int .u64 (IntKind.wrap .u64 (-m))):=
 zw fun I a w ho=>⟨.int .u64 (IntKind.wrap .u64 (-m)),by
  have h1:=(ho.one (x:=x) (by simp [Op.operands]) hx).int_inv;simp only [execOp,h1,Op.unary,Op.intArith,Sem.run_bind,Sem.run_pure,Result.andThen_ok];rw [Int.zero_sub],.int _ _⟩
theorem zvP {n:Int} (h1: -9223372036854775808<=n) (h2:n<=9223372036854775807):IntKind.wrap .u64 n=if n<0 then n+18446744073709551616 else n:=by
 unfold IntKind.wrap
 split<;>simp [IntKind.bits,IntKind.signed]<;>omega
end
end Go.HL
namespace Go.Proofs.YtaihpegdcgdcgaaGreatDoor
set_option maxRecDepth 100000
set_option linter.unusedVariables false
set_option linter.unusedSimpArgs false
section
open Go.Proofs.Tryz
open Go.HL
theorem zhH [Tracks] {l:List Str} (hl:l.length<=1000000):ConP prog 225 [eSs l] (.int .i64 (zgl l)):=by
 refine uOb func225 ntmps225 ?_;refine zct ?_;refine uCo (fun h1=> ?_) fun h2=> ?_
 refine gz4 ?_;refine uRp ?_;unfold zgl
 (try clear hdx hg);(try simp only [Af]);focus first|rfl|(simp_all;done)|((repeat' split)<;>focus first|rfl|(exfalso;omega)|(simp_all;done)|(exfalso;rcases ‹_\/_› with q|q<;>simp_all;done)|(exfalso;simp_all;omega))
 refine gz6 ?_;refine uCo (fun h3=> ?_) fun h4=> ?_
 refine gz4 ?_;refine uRp ?_;unfold zgl
 (try clear hdx hg);(try simp only [Af]);focus first|rfl|(simp_all;done)|((repeat' split)<;>focus first|rfl|(exfalso;omega)|(simp_all;done)|(exfalso;rcases ‹_\/_› with q|q<;>simp_all;done)|(exfalso;simp_all;omega))
 refine gz5 ?_;refine dq (uCl zsa rfl (zg2 (by assumption))) ?_;refine gz3 ?_;refine uRp ?_;unfold zgl
 (try clear hdx hg);(try simp only [Af]);focus first|rfl|(simp_all;done)|((repeat' split)<;>focus first|rfl|(exfalso;omega)|(simp_all;done)|(exfalso;rcases ‹_\/_› with q|q<;>simp_all;done)|(exfalso;simp_all;omega))
theorem zph [Tracks] {n d:Int} (hn: -1000000000000<=n/\n<=1000000000000) (hd:1<=d/\d<=1000000000000):ConP prog 269 [.agg [.int .i64 n,.int .i64 d]] (.bool (zmJ n d)):=by
 refine uOb func269 ntmps269 ?_;refine gz4 ?_;refine uDr mixed ?_;refine gz2 ?_;refine uB 2 rfl (zau (zcp ty3 zpS rfl) (congrArg (HVal.int .u64) (zvP uO uO))) ?_;refine gz2 ?_;refine uB 5 rfl (zau (zcp ty3 zpS rfl) (congrArg (HVal.int .u64) (show IntKind.wrap .u64 d=((d.natAbs:Nat):Int) by rw [zvP uO uO,if_neg uO];omega))) ?_;refine gz3 ?_;refine uVj [3,1,11,5] (fun (z0:Unit)=>[(3,.int .u64 ((n.natAbs:Nat):Int))]) (fun (z0:Unit)=>[]) (fun (z0:Unit)=>True) ?_ ?_
 skip
 refine gz5 ?_;refine uCo (fun h1=> ?_) fun h2=> ?_
 refine gz2 ?_;refine dq (zau (zuP rfl) (congrArg (HVal.int .u64) (show IntKind.wrap .u64 (-(if n<0 then n+18446744073709551616 else n))=((n.natAbs:Nat):Int) by rw [if_pos (by assumption),zxk uO uO];omega))) ?_;refine gz2 ?_;exact ⟨(),trivial,⟨rfl,trivial⟩,uK,Ac _⟩;refine gz1 ?_;exact ⟨(),trivial,⟨congrArg (fun q=>some (HVal.int .u64 q)) (show (if n<0 then n+18446744073709551616 else n)=((n.natAbs:Nat):Int) by rw [if_neg uO];omega),trivial⟩,uK,Ac _⟩
 intro z0 _
 refine gz2 ?_;refine uT2 [3,2,16,6] (fun a b=>[(3,.int .u64 ((a:Nat):Int)),(4,.int .u64 ((b:Nat):Int))]) (fun a b=>[]) (fun a b=>Nat.gcd a b=Nat.gcd n.natAbs d.natAbs) (fun a b=>b) (n.natAbs) (d.natAbs) ?_ ?_
 rfl
 intro a b hg
 refine gz5 ?_;refine uCo (fun h3=> ?_) fun h4=> ?_
 have hb0:0<b:=by omega
 refine gz3 ?_;refine zkv mixed ?_;refine gz3 ?_;refine uB 3 rfl (zau (zcL rfl rfl uO) (congrArg (HVal.int .u64) (zqU a b))) ?_;refine gz4 ?_;refine ⟨b,a%b,?_,?_,⟨rfl,rfl,trivial⟩,uK,Ac _⟩
 exact zoJ.trans hg
 dsimp only;exact BM _ hb0
 obtain rfl:b=0:=by omega
 rw [Nat.gcd_zero_right] at hg;refine gz2 ?_;refine zJ ?_;refine gz8 ?_;refine zB rfl ?_
 show HVal.bool _=_
 unfold zmJ;rw [<-hg]
 congr 1
 rw [AK]
 simp
 try omega
theorem zg1 [Tracks] {n d most:Int} (hn: -1000000000<=n/\n<=1000000000) (hd: -1000000000<=d/\d<=1000000000) (hm:0<=most/\most<=1000000):ConP prog 223 [.agg [.int .i64 n,.int .i64 d],.int .i64 most] (.int .i64 (zcj n d most)):=by
 refine uOb func223 ntmps223 ?_;refine zdz ?_;refine dg rfl rfl (fun hc=>by
  have hd1:1<=d:=by (have q:=hc;simp at q;omega)
  exact ⟨_,OpenTo.upd (t:=10) rfl (hc) (OpenTo.refl _),uCl zyK rfl (zph (n:=n) (d:=d) uO uO)⟩) ?_
 refine gz4 ?_;refine uCo (fun h1=> ?_) fun h2=> ?_
 refine gz4 ?_;refine uRp ?_;unfold zcj
 (rw [if_pos uSa])
 have hd1:1<=d:=by (first|omega|(simp_all;omega))
 have hmd:=zqA (a:=most) (b:=d) (A:=1000000) (B:=1000000000) uO uO uO uO;have hmn: -most*d= -(most*d):=Int.neg_mul _ _;refine gz3 ?_;refine dq (zcL rfl rfl uO) ?_;refine gz5 ?_;refine uGr rfl (fun hc=>by have hq:=hc;(try simp at hq);exact zlB rfl uO uO) ?_;refine gz2 ?_;refine uGr rfl (fun hc=>by have hq:=hc;(try simp at hq);exact zfB rfl rfl uO uO) ?_;refine gz3 ?_;refine uGr rfl (fun hc=>by have hq:=hc;(try simp at hq);exact zfB rfl rfl uO uO) ?_;refine uGr rfl (fun hc=>uCl zbm rfl z7) ?_;refine gz3 ?_;refine uCo (fun h3=> ?_) fun h4=> ?_
 refine gz4 ?_;refine uRp ?_;unfold zcj
 (rw [if_neg uSa,if_pos uSa])
 refine gz7 ?_;refine uRp ?_;unfold zcj
 (rw [if_neg uSa,if_neg uSa])
theorem zfk [Tracks] {l:List PlayerS} {s:Str} {fid:FuncId} (hca:Callable prog fid) (hp: ∀x:PlayerS,ConP prog fid [zc4 x,.str s] (.int .i64 (zS x.Key s))) (hl:l.length<=1000000) (hs:SortedS (l.map (·.Key))):ConP prog 230 [zaT l,.str s,.fn (.func fid) [] []] (.tup [.int .i64 (ze0 (l.map (·.Key)) s),.bool ((l.map (·.Key)).contains s)]):=by
 have hLl:(l.map (·.Key)).length=l.length:=Ah _;refine uOb func230 ntmps230 ?_;refine zn9 ?_;refine uT2 [9,3,15,20] (fun i j=>[(9,.int .i64 i),(10,.int .i64 j)]) (fun i j=>[]) (fun i j=>i<=j/\j<=(l.map (·.Key)).length/\(∀(k:Nat) (x:Str),k<i->(l.map (·.Key))[k]? =some x->Op.bytesLess x s=true)/\(∀(k:Nat) (x:Str),j<=k->(l.map (·.Key))[k]? =some x->Op.bytesLess x s=false)) (fun i j=>j-i) (0) (l.length) ?_ ?_;exact ⟨Ad _,by rw [hLl];exact Ae _,fun k x h=>by omega,fun k x h1 h2=>by have:=zl h2;omega⟩;rintro i j ⟨hij,hjl,ha,hb⟩;rw [hLl] at hjl;refine gz6 ?_;refine uCo (fun h1=> ?_) fun h2=> ?_
 obtain ⟨x,hx⟩: ∃x,l[(i+j)/2]? =some x:=⟨_,Aa uO⟩
 have hxL:(l.map (·.Key))[(i+j)/2]? =some x.Key:=by rw [Ag,hx];rfl
 have hm:(i+j)/2<j/\i<=(i+j)/2:=by omega
 refine gz7 ?_;refine dq (zcp ty3 zl1 rfl) ?_;refine dq (zrH rfl rfl uO) ?_;refine dq (zau (zcp zl1 ty3 rfl) (zty (i:=i) (j:=j) uO)) ?_;refine gz6 ?_;refine dq (zC (j:=(i+j)/2) (a:=x) zg7 ze2 rfl rfl rfl hx) ?_;refine gz2 ?_;refine dq (zan hca rfl rfl (WeakL.refl _) (hp _)) ?_;refine gz2 ?_;refine uCo (fun h3=> ?_) fun h4=> ?_
 refine gz6 ?_;exact ⟨(i+j)/2+1,j,⟨by omega,by rw [hLl];exact hjl,zu7 hs hxL (zn7.1 h3),hb⟩,uD,⟨rfl,rfl,trivial⟩,uK,Ac _⟩;refine gz5 ?_;exact ⟨i,(i+j)/2,⟨by omega,by omega,ha,zrX hs hxL (by have q:=fun e=>(show ¬zS x.Key s<0 by omega) (zn7.2 e);simpa using q)⟩,uD,⟨rfl,rfl,trivial⟩,uK,Ac _⟩;obtain rfl:i=j:=by omega
 have hjl2:i<=(l.map (·.Key)).length:=by rw [hLl];exact hjl
 refine gz2 ?_;refine zJ ?_;refine zct ?_;refine uGr rfl (fun hc=>by have hq:=hc;(try simp at hq);exact zC (j:=i) (a:=l.getD i zc7) zg7 ze2 rfl rfl rfl (getD_some uO)) ?_;refine gz2 ?_;refine uGr rfl (fun hc=>zan hca rfl rfl (WeakL.refl _) (hp _)) ?_;refine gz6 ?_;refine zB rfl ?_;rw [zoj hjl2 ha hb,<-zqo hs hjl2 ha hb,<-zsZ]
theorem zm0 [Tracks] {x:PlayerS} {s:Str}:ConP prog 231 [zc4 x,.str s] (.int .i64 (zS x.Key s)):=by
 refine uOb func231 ntmps231 ?_;refine gz8 ?_;refine dq (uCl zcT rfl zG) ?_;refine gz3 ?_;refine zB rfl ?_
 rfl
theorem zky [Tracks] {l:List PlayerS} {s:Str} (hl:l.length<=1000000) (hs:SortedS (l.map (·.Key))):ConP prog 175 [zaT l,.str s] (.int .i64 (zj9 (l.map (·.Key)) s)):=by
 refine uOb func175 ntmps175 ?_;refine gz6 ?_;refine dq (uCl zyC rfl (zfk (l:=l) zyD (fun _=>zm0) hl hs)) ?_;refine zct ?_;refine uCo (fun h1=> ?_) fun h2=> ?_
 refine gz4 ?_;refine uRp ?_;unfold zj9
 simp_all
 refine gz7 ?_;refine uRp ?_;unfold zj9
 simp_all
theorem zfx [Tracks] {l:List PlayerS} (hT:Tracks.on=false) (hl:l.length<=1000000) (hn: ∀p∈l,p.Name∈zb8) (hp: ∀p∈l,p.Positions.length<=1000000):ConP prog 174 [zaT l] (.int .i64 (zce l)):=by
 refine uOb func174 ntmps174 ?_;refine gz9 ?_;refine uCo (fun h1=> ?_) fun h2=> ?_
 refine gz4 ?_;refine uRp ?_
 (refine congrArg _ (zbW ?_)
  omega)
 refine gz9 ?_;refine uT1 [2,4,11,42] (fun k=>[(11,.int .i64 k)]) (fun k=>[]) (fun k=>k<=l.length/\(zaO zb2 zc7 l 0 l=zaO zb2 zc7 l k (l.drop k))) (fun k=>l.length-k) (0) ?_ ?_;exact ⟨Ad _,rfl⟩;rintro k ⟨hk,hg⟩;refine gz4 ?_;refine uCo (fun h3=> ?_) fun h4=> ?_
 obtain ⟨x,hx⟩: ∃x,l[k]? =some x:=⟨_,Aa h3⟩
 have hdx:=zg hx;rw [hdx] at hg;refine gz8 ?_;refine de rfl (zi ze2 rfl fun b4=> ?_)
 refine gz1 ?_;refine de0 (zo ze2 rfl rfl rfl rfl rfl ?_)
 refine gz1 ?_;refine zf (zp 4 rfl) ?_;refine gz5 ?_;refine dq (uCl zca rfl zac) ?_;refine gz3 ?_;refine uCo (fun h5=> ?_) fun h6=> ?_
 refine gz4 ?_;refine uRp ?_
 (refine congrArg _ (zA (e:=5) ?_ hg ?_ ?_)
  omega
  unfold zb2;exact uT
  first|decide|assumption)
 refine uDr mixed ?_;refine gz8 ?_;refine uGy 8 rfl rfl (fun hc=>by have hq:=hc;(try simp at hq);exact zC (j:=k-1) (a:=l.getD (k-1) zc7) zg7 ze2 rfl rfl uO (getD_some uO)) ?_;refine gz6 ?_;refine uCo (fun h7=> ?_) fun h8=> ?_
 refine gz4 ?_;refine uRp ?_
 (refine congrArg _ (zA (e:=7) ?_ hg ?_ ?_)
  omega
  unfold zb2;exact uT
  first|decide|assumption)
 have hn6:=zlz (hn x (Ab hx));refine gz3 ?_;refine dq (uCl zyB rfl (zp9 hT (hn x (Ab hx)))) ?_;refine gz5 ?_;refine uGr rfl (fun hc=>uCl zbm rfl z7) ?_;refine gz3 ?_;refine zaF rfl (fun h9=> ?_) (fun h9=> ?_)
 exfalso
 try simp at h9
 simp_all
 try simp at h9
 refine gz6 ?_;refine dq (uCl zvy rfl (zhH (hp x (Ab hx)))) ?_;refine gz6 ?_;refine uCo (fun h10=> ?_) fun h11=> ?_
 refine gz5 ?_;refine uRp ?_
 (refine congrArg _ (zA (e:=(zgl x.Positions)) ?_ hg ?_ ?_)
  omega
  unfold zb2;exact uT
  first|decide|assumption)
 refine gz7 ?_;refine ⟨k+1,?_,?_,⟨rfl,trivial⟩,uK,Ac _⟩
 refine ⟨by omega,?_⟩
 rw [hg,zaN (by unfold zb2;(try clear hdx hg);(try simp only [Af]);focus first|(simp_all;done)|((repeat' split)<;>focus first|rfl|(exfalso;omega)|(simp_all;done)|(exfalso;rcases ‹_\/_› with q|q<;>simp_all;done)|(exfalso;simp_all;omega)))]
 dsimp only;omega
 have hnk:l.length<=k:=by omega
 obtain rfl:k=l.length:=by omega
 rw [zD (Ae _)] at hg;refine gz2 ?_;refine zn ?_;refine gz6 ?_;refine uRp ?_
 (refine congrArg _ (zbG ?_ hg)
  omega)
theorem zj1 [Tracks] {L:List PlayerS} {l:List StintS} (hT:Tracks.on=false) (hL:L.length<=1000000) (hn: ∀p∈L,p.Name∈zb8) (hp: ∀p∈L,p.Positions.length<=1000000) (hl:l.length<=1000000):ConP prog 165 [zaT L,zd2 l] (.int .i64 (zlL L l)):=by
 refine uOb func165 ntmps165 ?_;refine gz6 ?_;refine dq (uCl zvr rfl (zfx (l:=L) hT hL hn hp)) ?_;refine gz6 ?_;refine uCo (fun h1=> ?_) fun h2=> ?_
 refine gz5 ?_;refine uRp ?_
 try rw [hE]
 (rw [zlL,if_pos (by assumption)])
 refine gz3 ?_;have hz:zce L=0:=by first|assumption|simp_all
 have hE:zlL L l=zg5 L l:=by rw [zlL,if_neg (by simp [hz])]
 refine gz5 ?_;refine uCo (fun h3=> ?_) fun h4=> ?_
 refine gz4 ?_;refine uRp ?_
 try rw [hE]
 (refine congrArg _ (zbW ?_)
  omega)
 refine gz9 ?_;refine uT1 [4,1,6,2,18,53] (fun k=>[(18,.int .i64 k)]) (fun k=>[]) (fun k=>k<=l.length/\(zaO (zcV L) zdY l 0 l=zaO (zcV L) zdY l k (l.drop k))) (fun k=>l.length-k) (0) ?_ ?_;exact ⟨Ad _,rfl⟩;rintro k ⟨hk,hg⟩;refine gz4 ?_;refine uCo (fun h5=> ?_) fun h6=> ?_
 obtain ⟨x,hx⟩: ∃x,l[k]? =some x:=⟨_,Aa h5⟩
 have hdx:=zg hx;rw [hdx] at hg;refine gz8 ?_;refine de rfl (zi zbV rfl fun b7=> ?_)
 refine gz1 ?_;refine de0 (zo zbV rfl rfl rfl rfl rfl ?_)
 refine gz1 ?_;refine zf (zp 7 rfl) ?_;refine gz1 ?_;have hfn:zj9 (L.map (·.Key)) x.Player<0↔zeR L x.Player=false:=zoG;refine gz4 ?_;refine dq (uCl zvs rfl (zky (l:=L) hL (znx hz))) ?_;refine gz3 ?_;refine uCo (fun h7=> ?_) fun h8=> ?_
 refine gz4 ?_;refine uRp ?_
 try rw [hE]
 (refine congrArg _ (zA (e:=8) ?_ hg ?_ ?_)
  omega
  unfold zcV;exact uT
  first|decide|assumption)
 refine gz7 ?_;refine uGr rfl (fun hc=>uCl zca rfl zac) ?_;refine gz4 ?_;refine uCo (fun h9=> ?_) fun h10=> ?_
 refine gz4 ?_;refine uRp ?_
 try rw [hE]
 (refine congrArg _ (zA (e:=5) ?_ hg ?_ ?_)
  omega
  unfold zcV;exact uT
  first|decide|assumption)
 refine gz3 ?_;refine dq (uCl zmB rfl zdk) ?_;refine gz3 ?_;refine uCo (fun h11=> ?_) fun h12=> ?_
 refine gz4 ?_;refine uRp ?_
 try rw [hE]
 (refine congrArg _ (zA (e:=1) ?_ hg ?_ ?_)
  omega
  unfold zcV;exact uT
  first|decide|assumption)
 refine uDr mixed ?_;refine gz8 ?_;refine uGy 8 rfl rfl (fun hc=>by have hq:=hc;(try simp at hq);exact zC (j:=k-1) (a:=l.getD (k-1) zdY) zfr zbV rfl rfl uO (getD_some uO)) ?_;refine gz2 ?_;refine uGy 11 rfl rfl (fun hc=>uCl zcT rfl zG) ?_;refine gz5 ?_;refine uGy 17 rfl rfl (fun hc=>by have hq:=hc;(try simp at hq);exact zC (j:=k-1) (a:=l.getD (k-1) zdY) zfr zbV rfl rfl uO (getD_some uO)) ?_;refine gz2 ?_;refine uGy 20 rfl rfl (fun hc=>uCl zch rfl zN) ?_;refine uGy 21 rfl rfl (fun hc=>za (hs:=[_,_]) zV ty3 rfl rfl (by decide) (by decide) rfl) ?_;refine uGy 22 rfl rfl (fun hc=>uCl zeM rfl (zaW (l:=[_,_]) (by simp))) ?_;refine gz4 ?_;refine uCo (fun h13=> ?_) fun h14=> ?_
 refine gz4 ?_;refine uRp ?_
 try rw [hE]
 (refine congrArg _ (zA (e:=7) ?_ hg ?_ ?_)
  omega
  unfold zcV;exact uT
  first|decide|assumption)
 refine gz8 ?_;refine ⟨k+1,?_,?_,⟨rfl,trivial⟩,uK,Ac _⟩
 refine ⟨by omega,?_⟩
 rw [hg,zaN (by unfold zcV;(try clear hdx hg);(try simp only [Af]);focus first|(simp_all;done)|((repeat' split)<;>focus first|rfl|(exfalso;omega)|(simp_all;done)|(exfalso;rcases ‹_\/_› with q|q<;>simp_all;done)|(exfalso;simp_all;omega)))]
 dsimp only;omega
 have hnk:l.length<=k:=by omega
 obtain rfl:k=l.length:=by omega
 rw [zD (Ae _)] at hg;refine gz2 ?_;refine zn ?_;refine gz6 ?_;refine uRp ?_
 try rw [hE]
 (refine congrArg _ (zbG ?_ hg)
  omega)
theorem ziV [Tracks] {l:List FixS} (hl:l.length<=1000000):ConP prog 166 [zj8 l] (.int .i64 (zhZ l)):=by
 refine uOb func166 ntmps166 ?_;refine gz9 ?_;refine uCo (fun h1=> ?_) fun h2=> ?_
 refine gz4 ?_;refine uRp ?_
 (refine congrArg _ (zbW ?_)
  omega)
 refine gz9 ?_;refine uT1 [2,4,11,59] (fun k=>[(11,.int .i64 k)]) (fun k=>[]) (fun k=>k<=l.length/\(zaO zeu zi2 l 0 l=zaO zeu zi2 l k (l.drop k))) (fun k=>l.length-k) (0) ?_ ?_;exact ⟨Ad _,rfl⟩;rintro k ⟨hk,hg⟩;refine gz4 ?_;refine uCo (fun h3=> ?_) fun h4=> ?_
 obtain ⟨x,hx⟩: ∃x,l[k]? =some x:=⟨_,Aa h3⟩
 have hdx:=zg hx;rw [hdx] at hg;refine gz8 ?_;refine de rfl (zi zaw rfl fun b4=> ?_)
 refine gz1 ?_;refine de0 (zo zaw rfl rfl rfl rfl rfl ?_)
 refine gz1 ?_;refine zf (zp 4 rfl) ?_;refine gz5 ?_;refine dq (uCl zmB rfl zdk) ?_;refine gz4 ?_;refine uGr rfl (fun hc=>uCl zhT rfl za5) ?_;refine gz4 ?_;refine uCo (fun h5=> ?_) fun h6=> ?_
 refine gz4 ?_;refine uRp ?_
 (refine congrArg _ (zA (e:=1) ?_ hg ?_ ?_)
  omega
  unfold zeu;exact uT
  first|decide|assumption)
 refine gz3 ?_;refine dq (uCl zca rfl zac) ?_;refine gz4 ?_;refine uGr rfl (fun hc=>uCl zca rfl zac) ?_;refine gz4 ?_;refine uCo (fun h7=> ?_) fun h8=> ?_
 refine gz4 ?_;refine uRp ?_
 (refine congrArg _ (zA (e:=5) ?_ hg ?_ ?_)
  omega
  unfold zeu;exact uT
  first|decide|assumption)
 refine gz8 ?_;refine uCo (fun h9=> ?_) fun h10=> ?_
 refine gz4 ?_;refine uRp ?_
 (refine congrArg _ (zA (e:=6) ?_ hg ?_ ?_)
  omega
  unfold zeu;exact uT
  first|decide|assumption)
 refine gz8 ?_;refine uCo (fun h11=> ?_) fun h12=> ?_
 refine gz8 ?_;refine ⟨k+1,?_,?_,⟨rfl,trivial⟩,uK,Ac _⟩
 refine ⟨by omega,?_⟩
 rw [hg,zaN (by unfold zeu;(try clear hdx hg);(try simp only [Af]);focus first|(simp_all;done)|((repeat' split)<;>focus first|rfl|(exfalso;omega)|(simp_all;done)|(exfalso;rcases ‹_\/_› with q|q<;>simp_all;done)|(exfalso;simp_all;omega)))]
 dsimp only;omega
 refine gz6 ?_;refine dq (zC (j:=k-1) (a:=l.getD (k-1) zi2) zb3 zaw rfl rfl uO (getD_some uO)) ?_;refine gz1 ?_;refine de rfl (zi zaw rfl fun b5=> ?_)
 refine de0 (zo zaw rfl rfl rfl rfl rfl ?_)
 refine gz1 ?_;refine zf (zp 5 rfl) ?_;refine uDr mixed ?_;refine gz4 ?_;refine uB 4 rfl (uCl zch rfl zN) ?_;refine gz4 ?_;refine uB 9 rfl (uCl zch rfl zN) ?_;refine gz4 ?_;refine uB 14 rfl (uCl zcT rfl zG) ?_;refine uB 15 rfl (za (hs:=[_,_,_]) zV ty3 rfl rfl (by decide) (by decide) rfl) ?_;refine uB 16 rfl (uCl zeM rfl (zaW (l:=[_,_,_]) (by simp))) ?_;refine gz2 ?_;refine uCo (fun h13=> ?_) fun h14=> ?_
 refine gz4 ?_;refine uRp ?_
 (refine congrArg _ (zA (e:=7) ?_ hg ?_ ?_)
  omega
  unfold zeu;exact uT
  first|decide|assumption)
 refine gz7 ?_;refine ⟨k+1,?_,?_,⟨rfl,trivial⟩,uK,Ac _⟩
 refine ⟨by omega,?_⟩
 rw [hg,zaN (by unfold zeu;(try clear hdx hg);(try simp only [Af]);focus first|(simp_all;done)|((repeat' split)<;>focus first|rfl|(exfalso;omega)|(simp_all;done)|(exfalso;rcases ‹_\/_› with q|q<;>simp_all;done)|(exfalso;simp_all;omega)))]
 dsimp only;omega
 have hnk:l.length<=k:=by omega
 obtain rfl:k=l.length:=by omega
 rw [zD (Ae _)] at hg;refine gz2 ?_;refine zn ?_;refine gz6 ?_;refine uRp ?_
 (refine congrArg _ (zbG ?_ hg)
  omega)
theorem zj0 [Tracks] {L:List PlayerS} {l:List HealthS} (hT:Tracks.on=false) (hL:L.length<=1000000) (hn: ∀p∈L,p.Name∈zb8) (hp: ∀p∈L,p.Positions.length<=1000000) (hl:l.length<=1000000) (hw: ∀x∈l,-1000000000000000<=x.To/\x.To<=1000000000000000):ConP prog 108 [zaT L,zbN l] (.int .i64 (zoa L l)):=by
 refine uOb func108 ntmps108 ?_;refine gz6 ?_;refine dq (uCl zvr rfl (zfx (l:=L) hT hL hn hp)) ?_;refine gz6 ?_;refine uCo (fun h1=> ?_) fun h2=> ?_
 refine gz5 ?_;refine uRp ?_
 try rw [hE]
 (rw [zoa,if_pos (by assumption)])
 refine gz3 ?_;have hz:zce L=0:=by first|assumption|simp_all
 have hE:zoa L l=zob L l:=by rw [zoa,if_neg (by simp [hz])]
 refine gz5 ?_;refine uCo (fun h3=> ?_) fun h4=> ?_
 refine gz4 ?_;refine uRp ?_
 try rw [hE]
 (refine congrArg _ (zbW ?_)
  omega)
 refine gz9 ?_;refine uT1 [4,1,6,3,19,60] (fun k=>[(19,.int .i64 k)]) (fun k=>[]) (fun k=>k<=l.length/\(zaO (zbn L) zeS l 0 l=zaO (zbn L) zeS l k (l.drop k))) (fun k=>l.length-k) (0) ?_ ?_;exact ⟨Ad _,rfl⟩;rintro k ⟨hk,hg⟩;refine gz4 ?_;refine uCo (fun h5=> ?_) fun h6=> ?_
 obtain ⟨x,hx⟩: ∃x,l[k]? =some x:=⟨_,Aa h5⟩
 have hdx:=zg hx;rw [hdx] at hg;refine gz8 ?_;refine de rfl (zi zbJ rfl fun b7=> ?_)
 refine gz1 ?_;refine de0 (zo zbJ rfl rfl rfl rfl rfl ?_)
 refine gz1 ?_;refine zf (zp 7 rfl) ?_;refine gz2 ?_;have hfn:zj9 (L.map (·.Key)) x.Player<0↔zeR L x.Player=false:=zoG;have hwx:=hw x (Ab hx);refine gz4 ?_;refine dq (uCl zvs rfl (zky (l:=L) hL (znx hz))) ?_;refine gz3 ?_;refine uCo (fun h7=> ?_) fun h8=> ?_
 refine gz4 ?_;refine uRp ?_
 try rw [hE]
 (refine congrArg _ (zA (e:=8) ?_ hg ?_ ?_)
  omega
  unfold zbn;exact uT
  first|decide|assumption)
 refine gz3 ?_;refine dq (uCl zbm rfl z7) ?_;refine gz6 ?_;refine uGr rfl (fun hc=>uCl zbm rfl z7) ?_;refine gz3 ?_;refine uCo (fun h9=> ?_) fun h10=> ?_
 refine gz4 ?_;refine uRp ?_
 try rw [hE]
 (refine congrArg _ (zA (e:=1) ?_ hg ?_ ?_)
  omega
  unfold zbn;exact uT
  first|decide|assumption)
 refine gz3 ?_;refine dq (uCl zbm rfl z7) ?_;refine gz2 ?_;refine uCo (fun h11=> ?_) fun h12=> ?_
 refine gz4 ?_;refine uRp ?_
 try rw [hE]
 (refine congrArg _ (zA (e:=4) ?_ hg ?_ ?_)
  omega
  unfold zbn;exact uT
  first|decide|assumption)
 refine gz8 ?_;refine uCo (fun h13=> ?_) fun h14=> ?_
 refine gz8 ?_;refine ⟨k+1,?_,?_,⟨rfl,trivial⟩,uK,Ac _⟩
 refine ⟨by omega,?_⟩
 rw [hg,zaN (by unfold zbn;(try clear hdx hg);(try simp only [Af]);focus first|(simp_all;done)|((repeat' split)<;>focus first|rfl|(exfalso;omega)|(simp_all;done)|(exfalso;rcases ‹_\/_› with q|q<;>simp_all;done)|(exfalso;simp_all;omega)))]
 dsimp only;omega
 refine gz2 ?_;have hk0:0<k:=by omega
 have hpl:zeR L x.Player=true:=by
  cases hq:zeR L x.Player with
  |true=>rfl
  |false=>have:=hfn.2 hq;omega
 refine gz4 ?_;refine dq (zC (j:=k-1) (a:=l.getD (k-1) zeS) zg9 zbJ rfl rfl uO (getD_some uO)) ?_;refine gz1 ?_;refine de rfl (zi zbJ rfl fun b8=> ?_)
 refine de0 (zo zbJ rfl rfl rfl rfl rfl ?_)
 refine gz1 ?_;refine zf (zp 8 rfl) ?_;refine gz1 ?_;refine uDr mixed ?_;refine gz4 ?_;refine uB 4 rfl (uCl zcT rfl zG) ?_;refine gz4 ?_;refine uB 9 rfl (uCl zch rfl zN) ?_;refine uB 10 rfl (za (hs:=[_,_]) zV ty3 rfl rfl (by decide) (by decide) rfl) ?_;refine uB 11 rfl (uCl zeM rfl (zaW (l:=[_,_]) (by simp))) ?_;refine gz2 ?_;refine uCo (fun h15=> ?_) fun h16=> ?_
 refine gz4 ?_;refine uRp ?_
 try rw [hE]
 (refine congrArg _ (zA (e:=7) ?_ hg ?_ ?_)
  omega
  unfold zbn;exact uT
  first|decide|assumption)
 refine zn9 ?_;refine uCo (fun h17=> ?_) fun h18=> ?_
 refine gz4 ?_;refine uRp ?_
 try rw [hE]
 (refine congrArg _ (zA (e:=13) ?_ hg ?_ ?_)
  omega
  unfold zbn;exact uT
  first|decide|assumption)
 refine gz7 ?_;refine ⟨k+1,?_,?_,⟨rfl,trivial⟩,uK,Ac _⟩
 refine ⟨by omega,?_⟩
 rw [hg,zaN (by unfold zbn;(try clear hdx hg);(try simp only [Af]);focus first|(simp_all;done)|((repeat' split)<;>focus first|rfl|(exfalso;omega)|(simp_all;done)|(exfalso;rcases ‹_\/_› with q|q<;>simp_all;done)|(exfalso;simp_all;omega)))]
 dsimp only;omega
 have hnk:l.length<=k:=by omega
 obtain rfl:k=l.length:=by omega
 rw [zD (Ae _)] at hg;refine gz2 ?_;refine zn ?_;refine gz6 ?_;refine uRp ?_
 try rw [hE]
 (refine congrArg _ (zbG ?_ hg)
  omega)
theorem zk8 [Tracks] {l:List RuleS} (hl:l.length<=1000000) (hb: ∀x∈l,((-1000000000<=x.Num/\x.Num<=1000000000)/\ -1000000000<=x.Den/\x.Den<=1000000000)):ConP prog 167 [zhW l] (.int .i64 (zh8 l)):=by
 refine uOb func167 ntmps167 ?_;refine gz9 ?_;refine uCo (fun h1=> ?_) fun h2=> ?_
 refine gz4 ?_;refine uRp ?_
 (refine congrArg _ (zbW ?_)
  omega)
 refine gz9 ?_;refine uT1 [2,5,12,75] (fun k=>[(12,.int .i64 k)]) (fun k=>[]) (fun k=>k<=l.length/\(zaO zdd ziG l 0 l=zaO zdd ziG l k (l.drop k))) (fun k=>l.length-k) (0) ?_ ?_;exact ⟨Ad _,rfl⟩;rintro k ⟨hk,hg⟩;refine gz4 ?_;refine uCo (fun h3=> ?_) fun h4=> ?_
 obtain ⟨x,hx⟩: ∃x,l[k]? =some x:=⟨_,Aa h3⟩
 have hdx:=zg hx;rw [hdx] at hg;refine gz8 ?_;refine de rfl (zi zgC rfl fun b4=> ?_)
 refine gz1 ?_;refine de0 (zo zgC rfl rfl rfl rfl rfl ?_)
 refine gz1 ?_;refine zf (zp 4 rfl) ?_;refine gz5 ?_;refine dq (uCl zca rfl zac) ?_;refine gz4 ?_;refine uGr rfl (fun hc=>uCl zca rfl zac) ?_;refine gz9 ?_;refine uGr rfl (fun hc=>uCl zca rfl zac) ?_;refine gz5 ?_;refine uCo (fun h5=> ?_) fun h6=> ?_
 refine gz4 ?_;refine uRp ?_
 (refine congrArg _ (zA (e:=5) ?_ hg ?_ ?_)
  omega
  unfold zdd;exact uT
  first|decide|assumption)
 refine uDr mixed ?_;refine gz8 ?_;refine uGy 8 rfl rfl (fun hc=>by have hq:=hc;(try simp at hq);exact zC (j:=k-1) (a:=l.getD (k-1) ziG) zqV zgC rfl rfl uO (getD_some uO)) ?_;refine gz6 ?_;refine uCo (fun h7=> ?_) fun h8=> ?_
 refine gz4 ?_;refine uRp ?_
 (refine congrArg _ (zA (e:=7) ?_ hg ?_ ?_)
  omega
  unfold zdd;exact uT
  first|decide|assumption)
 refine gz3 ?_;refine dq (uCl zbm rfl z7) ?_;refine gz2 ?_;refine uCo (fun h9=> ?_) fun h10=> ?_
 refine gz4 ?_;refine uRp ?_
 (refine congrArg _ (zA (e:=4) ?_ hg ?_ ?_)
  omega
  unfold zdd;exact uT
  first|decide|assumption)
 refine zdz ?_;refine dq (zau (h':= .bool (zpK x.Kind)) (zhq rfl) rfl) ?_;refine gz7 ?_;refine uGr rfl (fun hc=>uCl zbm rfl z7) ?_;refine zct ?_;refine uCo (fun h11=> ?_) fun h12=> ?_
 refine gz4 ?_;refine uRp ?_
 (refine congrArg _ (zA (e:=1) ?_ hg ?_ ?_)
  omega
  unfold zdd;exact uT
  first|decide|assumption)
 refine gz4 ?_;refine dq (zau (h':= .agg [.int .i64 x.Num,.int .i64 x.Den]) (zaV za4 rfl rfl (An rfl)) rfl) ?_;refine dq (uCl zr9 rfl (zg1 (n:=x.Num) (d:=x.Den) (most:=10000) (hb x (Ab hx)).1 (hb x (Ab hx)).2 uO)) ?_;refine gz6 ?_;refine uCo (fun h13=> ?_) fun h14=> ?_
 refine gz5 ?_;refine uRp ?_
 (refine congrArg _ (zA (e:=(zcj x.Num x.Den 10000)) ?_ hg ?_ ?_)
  omega
  unfold zdd;exact uT
  first|decide|assumption)
 refine gz7 ?_;refine ⟨k+1,?_,?_,⟨rfl,trivial⟩,uK,Ac _⟩
 refine ⟨by omega,?_⟩
 rw [hg,zaN (by unfold zdd;(try clear hdx hg);(try simp only [Af]);focus first|(simp_all;done)|((repeat' split)<;>focus first|rfl|(exfalso;omega)|(simp_all;done)|(exfalso;rcases ‹_\/_› with q|q<;>simp_all;done)|(exfalso;simp_all;omega)))]
 dsimp only;omega
 have hnk:l.length<=k:=by omega
 obtain rfl:k=l.length:=by omega
 rw [zD (Ae _)] at hg;refine gz2 ?_;refine zn ?_;refine gz6 ?_;refine uRp ?_
 (refine congrArg _ (zbG ?_ hg)
  omega)
theorem zeo [Tracks] {l:List SlotS} {fid:FuncId} {caps:List HVal} {p:SlotS->Bool} (hca:Callable prog fid) (hp: ∀x,ConP prog fid ([zbs x]++caps) (.bool (p x))) (hl:l.length<=1000000):ConP prog 213 [.slice 2 (l.map zbs),.fn (.func fid) [] caps] (.int .i64 (zaf p l 0)):=by
 refine uOb func213 ntmps213 ?_;refine zat ?_;refine uT1 [4,2,8,11] (fun k=>[(8,.int .i64 k)]) (fun k=>[]) (fun k=>k<=l.length/\(zaf p l 0=zaf p (l.drop k) k)) (fun k=>l.length-k) (0) ?_ ?_;exact ⟨Ad _,rfl⟩;rintro k ⟨hk,hg⟩;refine gz4 ?_;refine uCo (fun h1=> ?_) fun h2=> ?_
 obtain ⟨x,hx⟩: ∃x,l[k]? =some x:=⟨_,Aa h1⟩
 have hdx:=zg hx;rw [hdx] at hg;refine zdN ?_;refine dq (zan hca rfl rfl (WeakL.refl _) (hp _)) ?_;refine gz1 ?_;refine uCo (fun h3=> ?_) fun h4=> ?_
 refine gz5 ?_;refine uRp ?_
 (rw [hg];simp_all [zaf])
 refine gz7 ?_;refine ⟨k+1,?_,?_,⟨rfl,trivial⟩,uK,Ac _⟩
 refine ⟨by omega,?_⟩
 rw [hg,zaf,if_neg uSa];rfl
 dsimp only;omega
 have hnk:l.length<=k:=by omega
 obtain rfl:k=l.length:=by omega
 rw [zD (Ae _)] at hg;refine gz2 ?_;refine zn ?_;refine gz6 ?_;refine uRp ?_
 (rw [hg];rfl)
theorem zbX [Tracks] {l:List SlotS} {fid:FuncId} {caps:List HVal} {p:SlotS->Bool} (hca:Callable prog fid) (hp: ∀x,ConP prog fid ([zbs x]++caps) (.bool (p x))) (hl:l.length<=1000000):ConP prog 152 [.slice 2 (l.map zbs),.fn (.func fid) [] caps] (.bool (l.any p)):=by
 refine uOb func152 ntmps152 ?_;refine gz6 ?_;refine dq (uCl zyp rfl (zeo hca hp hl)) ?_;refine gz4 ?_;refine zB rfl ?_
 congr 1;exact zcH p l 0 uO
theorem zj3 [Tracks] {y x:SlotS}:ConP prog 224 [zbs y,.vptr (zb (zbs x)) 0] (.bool (y.Key==x.Key)):=by
 refine uOb func224 ntmps224 ?_;refine zeZ ?_;refine zB rfl ?_
 rfl
theorem zk9 [Tracks] {l:List SlotS} (hl:l.length<=1000000) (hp: ∀x∈l,x.Positions.length<=1000000):ConP prog 168 [zgP l] (.int .i64 (zdR l)):=by
 refine uOb func168 ntmps168 ?_;refine zct ?_;refine uCo (fun h1=> ?_) fun h2=> ?_
 ·refine gz4 ?_;refine uRp ?_
  (unfold zdR;simp_all;done)
 ·refine gz6 ?_;refine uCo (fun h3=> ?_) fun h4=> ?_
  ·refine gz4 ?_;refine uRp ?_
   (rw [zdR,if_neg (by first|omega|simp_all),if_pos uO];done)
  ·refine zat ?_;refine uT1 [2,4,16,23] (fun k=>[(16,.int .i64 k)]) (fun k=>[]) (fun k=>k<=l.length/\(zbU l 0 l=zbU l k (l.drop k))) (fun k=>l.length-k) (0) ?_ ?_
   ·exact ⟨Ad _,rfl⟩
   ·rintro k ⟨hk,hg⟩;refine gz4 ?_;refine uCo (fun h5=> ?_) fun h6=> ?_
    ·obtain ⟨x,hx⟩: ∃x,l[k]? =some x:=⟨_,Aa h5⟩
     have hdx:=zg hx;rw [hdx] at hg;refine gz8 ?_;refine de rfl (zi ze3 rfl fun b4=> ?_)
     refine gz1 ?_;refine de0 (zo ze3 rfl rfl rfl rfl rfl ?_)
     refine gz1 ?_;refine zf (zp 4 rfl) ?_;refine gz5 ?_;refine dq (uCl zca rfl zac) ?_;refine gz3 ?_;refine uCo (fun h7=> ?_) fun h8=> ?_
     ·refine gz4 ?_;refine uRp ?_
      (refine congrArg _ (zgp (e:=5) ?_ ?_ hg ?_)
       ·first|omega|simp_all
       ·omega
       ·rw [zbU]
        simp_all
        done)
     ·refine gz3 ?_;refine dq (zaI zf3 ze3 rfl rfl ⟨_,_,rfl,rfl⟩ uO uO) ?_;refine gz1 ?_;refine dq (uCl zvj rfl (zbX (l:=l.take k) (p:=fun y=>y.Key==x.Key) zyx (fun _=>zj3) (by rw [AD];omega))) ?_;refine gz2 ?_;refine uCo (fun h9=> ?_) fun h10=> ?_
      ·refine gz4 ?_;refine uRp ?_
       (refine congrArg _ (zgp (e:=6) ?_ ?_ hg ?_)
        ·first|omega|simp_all
        ·omega
        ·rw [zbU]
         simp_all
         done)
      ·refine gz6 ?_;refine dq (uCl zvy rfl (zhH (hp x (Ab hx)))) ?_;refine gz6 ?_;refine uCo (fun h11=> ?_) fun h12=> ?_
       ·refine gz5 ?_;refine uRp ?_
        (refine congrArg _ (zgp (e:=(zgl x.Positions)) ?_ ?_ hg ?_)
         ·first|omega|simp_all
         ·omega
         ·rw [zbU]
          simp_all
          done)
       ·refine gz7 ?_;refine ⟨k+1,?_,?_,⟨rfl,trivial⟩,uK,Ac _⟩
        ·refine ⟨by omega,?_⟩
         rw [hg,zbU,if_neg uSa,if_neg uSa,if_neg uSa]
        ·dsimp only;omega
    ·have hnk:l.length<=k:=by omega
     obtain rfl:k=l.length:=by omega
     rw [zD (Ae _)] at hg;refine gz2 ?_;refine zn ?_;refine gz6 ?_;refine uRp ?_
     (refine congrArg _ (zqP ?_ ?_ hg)<;>first|omega|simp_all)
theorem zfI [Tracks] {b:BoundS}:ConP prog 111 [zdy b] (.int .i64 (zbL b)):=by
 refine uOb func111 ntmps111 ?_;refine gz8 ?_;refine dq (uCl zbm rfl z7) ?_;refine gz3 ?_;refine uGr rfl (fun hc=>uCl zbm rfl z7) ?_;refine gz4 ?_;refine uGr rfl (fun hc=>uCl zbm rfl z7) ?_;refine gz4 ?_;refine uGr rfl (fun hc=>uCl zbm rfl z7) ?_;refine gz2 ?_;refine uCo (fun h1=> ?_) fun h2=> ?_
 refine gz4 ?_;refine uRp ?_;unfold zbL
 (rw [if_pos uSa])
 refine gz6 ?_;refine uRp ?_;unfold zbL
 (rw [if_neg uSa])
theorem zmb [Tracks] {a b:MoveS}:ConP prog 172 [zci a,zci b] (.int .i64 (zfb a b)):=by
 refine uOb func172 ntmps172 ?_;refine gz5 ?_;refine uDr mixed ?_;refine gz4 ?_;refine uB 4 rfl (uCl zch rfl zN) ?_;refine gz4 ?_;refine uB 9 rfl (uCl zcT rfl zG) ?_;refine gz4 ?_;refine uB 14 rfl (uCl zcT rfl zG) ?_;refine gz4 ?_;refine uB 19 rfl (uCl zch rfl zN) ?_;refine uB 20 rfl (za (hs:=[_,_,_,_]) zV ty3 rfl rfl (by decide) (by decide) rfl) ?_;refine uB 21 rfl (uCl zeM rfl (zaW (l:=[_,_,_,_]) (by simp))) ?_;refine gz3 ?_;refine zB rfl ?_
 rfl
theorem zf8 [Tracks] {l:List MoveS} (hl:l.length<=1000000):ConP prog 106 [zbz l] (.int .i64 (zcw l)):=by
 refine uOb func106 ntmps106 ?_;refine gz9 ?_;refine uCo (fun h1=> ?_) fun h2=> ?_
 refine gz4 ?_;refine uRp ?_
 (refine congrArg _ (zbW ?_)
  omega)
 refine gz9 ?_;refine uT1 [2,3,10,39] (fun k=>[(10,.int .i64 k)]) (fun k=>[]) (fun k=>k<=l.length/\(zaO zdt zhn l 0 l=zaO zdt zhn l k (l.drop k))) (fun k=>l.length-k) (0) ?_ ?_;exact ⟨Ad _,rfl⟩;rintro k ⟨hk,hg⟩;refine gz4 ?_;refine uCo (fun h3=> ?_) fun h4=> ?_
 obtain ⟨x,hx⟩: ∃x,l[k]? =some x:=⟨_,Aa h3⟩
 have hdx:=zg hx;rw [hdx] at hg;refine gz8 ?_;refine de rfl (zi zu rfl fun b4=> ?_)
 refine gz1 ?_;refine de0 (zo zu rfl rfl rfl rfl rfl ?_)
 refine gz1 ?_;refine zf (zp 4 rfl) ?_;refine gz4 ?_;refine dq (uCl zhT rfl za5) ?_;refine gz3 ?_;refine uCo (fun h5=> ?_) fun h6=> ?_
 refine gz4 ?_;refine uRp ?_
 (refine congrArg _ (zA (e:=1) ?_ hg ?_ ?_)
  omega
  unfold zdt;exact uT
  first|decide|assumption)
 refine gz3 ?_;refine dq (uCl zbm rfl z7) ?_;refine gz2 ?_;refine uCo (fun h7=> ?_) fun h8=> ?_
 refine gz4 ?_;refine uRp ?_
 (refine congrArg _ (zA (e:=4) ?_ hg ?_ ?_)
  omega
  unfold zdt;exact uT
  first|decide|assumption)
 refine gz3 ?_;refine dq (uCl zca rfl zac) ?_;refine gz4 ?_;refine uGr rfl (fun hc=>uCl zca rfl zac) ?_;refine gz4 ?_;refine uCo (fun h9=> ?_) fun h10=> ?_
 refine gz4 ?_;refine uRp ?_
 (refine congrArg _ (zA (e:=5) ?_ hg ?_ ?_)
  omega
  unfold zdt;exact uT
  first|decide|assumption)
 refine uDr mixed ?_;refine gz7 ?_;refine uGy 7 rfl rfl (fun hc=>by have hq:=hc;(try simp at hq);exact zC (j:=k-1) (a:=l.getD (k-1) zhn) zbA zu rfl rfl uO (getD_some uO)) ?_;refine gz1 ?_;refine uGy 9 rfl rfl (fun hc=>uCl zx5 rfl zmb) ?_;refine gz4 ?_;refine uCo (fun h11=> ?_) fun h12=> ?_
 refine gz4 ?_;refine uRp ?_
 (refine congrArg _ (zA (e:=7) ?_ hg ?_ ?_)
  omega
  unfold zdt;exact uT
  first|decide|assumption)
 refine gz8 ?_;refine ⟨k+1,?_,?_,⟨rfl,trivial⟩,uK,Ac _⟩
 refine ⟨by omega,?_⟩
 rw [hg,zaN (by unfold zdt;(try clear hdx hg);(try simp only [Af]);focus first|(simp_all;done)|((repeat' split)<;>focus first|rfl|(exfalso;omega)|(simp_all;done)|(exfalso;rcases ‹_\/_› with q|q<;>simp_all;done)|(exfalso;simp_all;omega)))]
 dsimp only;omega
 have hnk:l.length<=k:=by omega
 obtain rfl:k=l.length:=by omega
 rw [zD (Ae _)] at hg;refine gz2 ?_;refine zn ?_;refine gz6 ?_;refine uRp ?_
 (refine congrArg _ (zbG ?_ hg)
  omega)
theorem zk6 [Tracks] {l:List Str} (hl:l.length<=1000000):ConP prog 226 [eSs l] (.int .i64 (zcY l)):=by
 refine uOb func226 ntmps226 ?_;refine zct ?_;refine uCo (fun h1=> ?_) fun h2=> ?_
 refine gz4 ?_;refine uRp ?_
 (rw [zcY,if_pos uO])
 refine gz6 ?_;refine uCo (fun h3=> ?_) fun h4=> ?_
 refine gz4 ?_;refine uRp ?_
 (rw [zcY,if_neg uO,if_pos uO])
 refine gz5 ?_;refine dq (uCl zsa rfl (zg2 (by assumption))) ?_;refine gz3 ?_;refine uRp ?_
 (rw [zcY,if_neg uO,if_neg uO])
theorem znZ [Tracks] {a b:GameS}:ConP prog 228 [zaG a,zaG b] (.int .i64 (zeI a b)):=by
 refine uOb func228 ntmps228 ?_;refine gz5 ?_;refine uDr mixed ?_;refine gz4 ?_;refine uB 4 rfl (uCl zch rfl zN) ?_;refine gz4 ?_;refine uB 9 rfl (uCl zcT rfl zG) ?_;refine gz4 ?_;refine uB 14 rfl (uCl zcT rfl zG) ?_;refine uB 15 rfl (za (hs:=[_,_,_]) zV ty3 rfl rfl (by decide) (by decide) rfl) ?_;refine uB 16 rfl (uCl zeM rfl (zaW (l:=[_,_,_]) (by simp))) ?_;refine gz3 ?_;refine zB rfl ?_
 rfl
theorem zkI [Tracks] {x:GameS} (hb:((-1000000000<=x.FNum/\x.FNum<=1000000000)/\ -1000000000<=x.FDen/\x.FDen<=1000000000)/\((-1000000000<=x.ONum/\x.ONum<=1000000000)/\ -1000000000<=x.ODen/\x.ODen<=1000000000)):ConP prog 227 [zaG x] (.int .i64 (zfQ x)):=by
 refine uOb func227 ntmps227 ?_;refine zat ?_;refine uCo (fun h1=> ?_) fun h2=> ?_
 refine gz3 ?_;refine dq (zau (h':= .agg [.int .i64 x.FNum,.int .i64 x.FDen]) (zaV za4 rfl rfl (An rfl)) rfl) ?_;refine dq (zH (cs:=[_,_]) za4 zkh rfl) ?_;refine dq (zgV za4 zpH rfl rfl ⟨rfl,⟨_,_,_,_,ty3,rfl⟩,⟨rfl,⟨_,_,_,_,ty3,rfl⟩,trivial⟩⟩) ?_;refine gz2 ?_;refine uGr rfl (fun hc=>zau (h':= .agg [.int .i64 x.ONum,.int .i64 x.ODen]) (zaV za4 rfl rfl (An rfl)) rfl) ?_;refine uGr rfl (fun hc=>zH (cs:=[_,_]) za4 zkh rfl) ?_;refine uGr rfl (fun hc=>zgV za4 zpH rfl rfl ⟨rfl,⟨_,_,_,_,ty3,rfl⟩,⟨rfl,⟨_,_,_,_,ty3,rfl⟩,trivial⟩⟩) ?_;refine gz2 ?_;refine uCo (fun h3=> ?_) fun h4=> ?_
 simp [zaM,zfm,eqH] at h3
 refine gz4 ?_;refine uRp ?_;unfold zfQ
 (try clear hdx hg);(try simp only [Af]);focus first|rfl|(simp_all;done)|((repeat' split)<;>focus first|rfl|(exfalso;omega)|(simp_all;done)|(exfalso;rcases ‹_\/_› with q|q<;>simp_all;done)|(exfalso;simp_all;omega))
 refine gz2 ?_
 simp [zaM,zfm,eqH] at h4
 refine gz4 ?_;refine uRp ?_;unfold zfQ
 (try clear hdx hg);(try simp only [Af]);focus first|rfl|(simp_all;done)|((repeat' split)<;>focus first|rfl|(exfalso;omega)|(simp_all;done)|(exfalso;rcases ‹_\/_› with q|q<;>simp_all;done)|(exfalso;simp_all;omega))
 refine gz2 ?_;refine uDr mixed ?_;refine gz1 ?_;refine uB 1 rfl (zau (h':= .agg [.int .i64 x.FNum,.int .i64 x.FDen]) (zaV za4 rfl rfl (An rfl)) rfl) ?_;refine uB 2 rfl (uCl zr9 rfl (zg1 (n:=x.FNum) (d:=x.FDen) (most:=1000000) hb.1.1 hb.1.2 uO)) ?_;refine gz1 ?_;refine uB 4 rfl (zau (h':= .agg [.int .i64 x.ONum,.int .i64 x.ODen]) (zaV za4 rfl rfl (An rfl)) rfl) ?_;refine uB 5 rfl (uCl zr9 rfl (zg1 (n:=x.ONum) (d:=x.ODen) (most:=1000000) hb.2.1 hb.2.2 uO)) ?_;refine zdz ?_;refine uCo (fun h5=> ?_) fun h6=> ?_
 refine gz4 ?_;refine uRp ?_;unfold zfQ
 (try clear hdx hg);(try simp only [Af]);focus first|rfl|(simp_all;done)|((repeat' split)<;>focus first|rfl|(exfalso;omega)|(simp_all;done)|(exfalso;rcases ‹_\/_› with q|q<;>simp_all;done)|(exfalso;simp_all;omega))
 refine gz5 ?_;refine dq (za (hs:=[_,_]) zef zgv rfl rfl (by decide) (by decide) rfl) ?_;refine dq (uCl zmA rfl (zcQ (l:=[_,_]) (by simp))) ?_;refine gz3 ?_;refine uRp ?_;unfold zfQ
 (try clear hdx hg);(try simp only [Af]);focus first|rfl|(simp_all;done)|((repeat' split)<;>focus first|rfl|(exfalso;omega)|(simp_all;done)|(exfalso;rcases ‹_\/_› with q|q<;>simp_all;done)|(exfalso;simp_all;omega))
end
end Go.Proofs.YtaihpegdcgdcgaaGreatDoor
namespace Go.HL
section
open Go Go.Proofs Go.Shelf
variable {P:Program} {ρ:Ren}
theorem zc6 (b:Nat) (el:TypeId) (fr:Nat×Nat): ∀(vs:List Value) (o:Nat) (w:World) (rc:Array Value),w.heap[b]? =some (.cells rc el fr)->o+vs.length<=rc.size->
 ∃rc',(w.setCells b o vs).heap[b]? =some (.cells rc' el fr)/\rc'.size=rc.size/\(∀x,rc'[x]? =if o<=x/\x<o+vs.length then vs[x-o]? else rc[x]?)/\(∀k,k≠b->(w.setCells b o vs).heap[k]? =w.heap[k]?)/\
  (w.setCells b o vs).heap.size=w.heap.size/\(w.setCells b o vs).os=w.os/\(w.setCells b o vs).output=w.output/\(w.setCells b o vs).tape=w.tape/\(w.setCells b o vs).drawn=w.drawn
 |[],o,w,rc,hw,_=>⟨rc,hw,rfl,fun x=>by rw [if_neg (by simp)],fun _ _=>rfl,rfl,rfl,rfl,rfl,rfl⟩
 |v::vs,o,w,rc,hw,hle=>by
   simp only [Ak] at hle;have zsp:(w.setCell ⟨b,o,none⟩ v).heap[b]? =some (.cells (rc.setIfInBounds o v) el fr):=by simp [World.setCell,AH,hw]
   obtain ⟨rc',h1,h2,h3,h4,h5,h6,h7,h8,h9⟩:=zc6 b el fr vs (o+1) (w.setCell ⟨b,o,none⟩ v) (rc.setIfInBounds o v) zsp (by simp;omega);refine ⟨rc',h1,by rw [h2];simp,fun x=> ?_,fun k hk=> ?_,by rw [World.setCells,h5];simp [World.setCell],by rw [World.setCells,h6];rfl,by rw [World.setCells,h7];rfl,by rw [World.setCells,h8];rfl,by rw [World.setCells,h9];rfl⟩
   rw [h3 x];simp only [Ak]
   by_cases e1:x=o
   subst e1;rw [if_neg (by omega),if_pos (by omega),Array.getElem?_setIfInBounds,if_pos rfl,if_pos (by omega)]
   simp
   by_cases e2:o+1<=x/\x<o+1+vs.length
   rw [if_pos e2,if_pos (by omega),show x-o=(x-(o+1))+1 by omega,AO];rw [if_neg e2,if_neg (by omega),Array.getElem?_setIfInBounds,if_neg (fun h=>e1 h.symm)];rw [World.setCells,h4 k hk];simp only [World.setCell,AH];rw [if_neg (fun h=>hk h.symm)]
theorem zok {w:World} {o:Obj}:(w.heap.push o)[w.heap.size]? =some o:=by simp
theorem zol {w:World} {o:Obj} {k:Nat} (hk:k<w.heap.size):(w.heap.push o)[k]? =w.heap[k]?:=by rw [AM,if_neg (by omega)]
def za7 (s:Str):Value:= .string ⟨s.toArray⟩
def zed (l:List Str) (i:Nat) (s:Str):List Str:=l.take i++s::l.drop i
theorem zlC {l:List Str} {i:Nat} (hi:i<=l.length) (s:Str) (p:Nat):(zed l i s)[p]? =if p<i then l[p]? else if p=i then some s else l[p-1]?:=by
 unfold zed;have ht:(l.take i).length=i:=by simp;omega
 split
 rename_i h;rw [Aq (by omega),AC h]
 rename_i h
 rw [Ao (by omega),ht]
 split
 rename_i e;subst e;simp
 rename_i e
 rw [show p-i=(p-i-1)+1 by omega,AO,AI,show i+(p-i-1)=p-1 by omega]
theorem ztH {l:List Str} {i:Nat} (hi:i<=l.length) (s:Str):(zed l i s).length=l.length+1:=by unfold zed;simp;omega
theorem zoX {I:Imm} {w:World} {b off n cap:Nat} {rc:Array Value} {el:TypeId} {fr:Nat×Nat} {l:List Str} (hn:n=l.length) (hw:w.heap[b]? =some (.cells rc el fr)) (hf:Free fr rc.size) (hc:n<=cap/\cap<=9223372036854775807) (ho:off+cap<=rc.size)
 (hv: ∀(p:Nat) (x:Str),l[p]? =some x->rc[off+p]? =some (za7 x)):MSat I w (.arr (.slice (some ⟨b,off,none⟩) n cap) 1 (l.map .str)):=by
 refine .inr ⟨b,off,cap,rc,el,fr,by simp [hn],hw,hf,fun e he=> ?_,by simp only [Ah];omega,by omega,fun i j e c v a1 a2 a3=> ?_⟩
 obtain ⟨a,_,rfl⟩:=List.mem_map.1 he;rfl;rw [Ag] at a1
 cases hq:l[i]? with
 |none=>rw [hq] at a1;cases a1
 |some s=>
   rw [hq] at a1;obtain rfl:HVal.str s=e:=Aw a1;have hj:j=0:=by have:=zl a2;simp [zb] at this;omega
   subst hj;obtain rfl:HVal.str s=c:=Aw a2;rw [show off+i*1+0=off+i by omega,hv i s hq] at a3;rw [<-Aw a3];exact .str s
theorem zsh [Tracks] (L:Lays2.n22 P ρ) {v:Value} {l:List Str} {s:Str} {i ub:Nat} {el2:TypeId} (hi:i<=l.length) (hl:l.length<=1000000):
 Con P (ρ.f 22) [.raw v,.int .i64 i,.raw (.slice (some ⟨ub,0,none⟩) 1 1)] [.arr v 1 (l.map .str),.obj ub (.cells #[za7 s] el2 (0,0))]
  fun x M'=> ∃v',x= .raw v'/\M'=[.arr v' 1 ((zed l i s).map .str),.obj ub (.cells #[za7 s] el2 (0,0))]:=by
 intro I F w args hA hS
 obtain ⟨v1,r1,rfl,hv1,hr1⟩: ∃v1 r1,args=v1::r1/\V I (.raw v) v1/\VL I [.int .i64 i,.raw (.slice (some ⟨ub,0,none⟩) 1 1)] r1:=by
  cases args with
  |nil=>have:=hA.1;simp at this
  |cons a r=>exact ⟨a,r,rfl,hA.head,hA.tail⟩
 obtain ⟨v2,r2,rfl,hv2,hr2⟩: ∃v2 r2,r1=v2::r2/\V I (.int .i64 i) v2/\VL I [.raw (.slice (some ⟨ub,0,none⟩) 1 1)] r2:=by
  cases r1 with
  |nil=>have:=hr1.1;simp at this
  |cons a r=>exact ⟨a,r,rfl,hr1.head,hr1.tail⟩
 obtain ⟨v3,rfl,hv3⟩: ∃v3,r2=[v3]/\V I (.raw (.slice (some ⟨ub,0,none⟩) 1 1)) v3:=by
  cases r2 with
  |nil=>have:=hr2.1;simp at this
  |cons a r=>cases r with
    |nil=>exact ⟨a,rfl,hr2.head⟩
    |cons b r=>have:=hr2.1;simp at this
 have hv1:=hv1.raw_inv;have hv2:=hv2.int_inv;have hv3:=hv3.raw_inv;subst hv1 hv2 hv3;have hu:w.heap[ub]? =some (.cells #[za7 s] el2 (0,0)):=hS.obj (.obj ub _) (by simp);have hvs: ∀(j:Nat) (u:Value),[za7 s][j]? =some u->w.cell? ⟨ub,0+j,none⟩=some u:=fun j u hj=>by
  rw [zbu hu,A9];simpa using hj
 have h1v: ∀u∈[za7 s],u.oneCell'=true:=fun u h=>by simp at h;subst h;rfl
 have h1c: ∀u∈l.map za7,u.oneCell'=true:=fun u h=>by obtain ⟨a,_,rfl⟩:=List.mem_map.1 h;rfl
 have hcl:(l.map za7).length=l.length:=by simp
 have hplen:=ztH hi s
 
 have fresh: ∀(w':World) (rc:Array Value) (el:TypeId) (cap:Nat),w'.heap[w.heap.size]? =some (.cells rc el (0,0))->(l.length+1<=cap/\cap<=9223372036854775807)->cap<=rc.size->
  (∀(p:Nat) (x:Str),(zed l i s)[p]? =some x->rc[p]? =some (za7 x))->(∀k,k<w.heap.size->w'.heap[k]? =w.heap[k]?)->w'.os=w.os->w'.output=w.output->w'.tape=w.tape->w.drawn<=w'.drawn->
  Sat P I ([.arr (.slice (some ⟨w.heap.size,0,none⟩) (l.length+1) cap) 1 ((zed l i s).map .str),.obj ub (.cells #[za7 s] el2 (0,0))]++F) w':=fun w' rc el cap g1 g2 g3 g4 g5 g6 g7 g8 g9=>
  hS.change (m':= .arr (.slice (some ⟨w.heap.size,0,none⟩) (l.length+1) cap) 1 ((zed l i s).map .str)) (fun k hk _=>g5 k hk) (fun k hk=>by simp [MObj.blocks] at hk;exact .inr (by omega)) (by simp [MObj.blocks])
   (zoX hplen.symm g1 (Free.zero _) g2 (by omega) fun p x hx=>by rw [A9];exact g4 p x hx) g6 g7 g8 (fun _=>g9)
 rcases hS.obj _ (Am) with ⟨rfl,hnil⟩|⟨b,off,cap,rc,el,fr,rfl,h2,h3,h4,h5,h6,h7⟩
 
 obtain rfl:l=[]:=List.map_eq_nil_iff.1 hnil;obtain rfl:i=0:=by simpa using hi
 refine (Any2.slices_Insert_string_end_grow L none 0 0 ub 0 1 1 [] [za7 s] w (by omega) (by omega) (by omega) (by omega) rfl rfl (fun _=>rfl) (fun a h=>by cases h) hvs h1v).mono ?_;rintro e w' ⟨rfl,rfl⟩;have hge:=grownCap_ge w (0+1) 0 (ρ.t 9);have hle:=grownCap_le_maxLen w (0+1) 0 (ρ.t 9) (by unfold maxLen;omega);refine ⟨_,.raw _,_,I,rfl,.refl I,⟨_,rfl,rfl⟩,.raw _ rfl,fresh _ _ _ _ zok ⟨by simpa using hge,by unfold maxLen at hle;exact hle⟩ ?_ ?_ ?_ rfl rfl rfl (Br _)⟩
 simp [Builtin.zeroCells,Value.cells];omega
 intro p x hx
 have hp:=zl hx;rw [hplen] at hp;obtain rfl:p=0:=by simpa using hp
 simp [zed] at hx;subst hx
 rw [AE (by simp)];simp
 intro k hk;exact zol hk
 simp only [Ah] at h5 h6⊢;have hlt:b<w.heap.size:=by
  rcases Az b w.heap.size with h|h
  exact h
  simp [Aj h] at h2
 have hrow: ∀(j:Nat) (x:Str),l[j]? =some x->rc[off+j]? =some (za7 x):=fun j x hx=>by
  have hj:=zl hx;have hr:off+j<rc.size:=by omega
  have:=h7 j 0 (.str x) (.str x) rc[off+j] (by rw [Ag,hx];rfl) rfl (by simp [Ai hr]);rw [Ai hr,this.str_inv];rfl
 have hcs: ∀(j:Nat) (u:Value),(l.map za7)[j]? =some u->w.cell? ⟨b,off+j,none⟩=some u:=fun j u hj=>by
  rw [Ag] at hj
  cases hq:l[j]? with
  |none=>rw [hq] at hj;cases hj
  |some x=>rw [hq] at hj;rw [zbu h2,hrow j x hq];exact hj
 have hfz: ∀j,off+j<rc.size->w.frozen? ⟨b,off+j,none⟩=false:=fun j hj=>by
  have:=h3 (off+j) hj;simp only [World.frozen?,h2]
  simpa using this
 have hsome: ∀j,off+j<rc.size->(w.cell? ⟨b,off+j,none⟩).isSome=true:=fun j hj=>by rw [zbu h2,Ai hj];rfl
 have hne:ub≠b:=fun e=>by
  have:=hS.nodup;subst e
  simp [blocks,MObj.blocks] at this
 have inplace: ∀(w':World) (rc':Array Value),w'.heap[b]? =some (.cells rc' el fr)->rc'.size=rc.size->l.length+1<=cap->
  (∀(p:Nat) (x:Str),(zed l i s)[p]? =some x->rc'[off+p]? =some (za7 x))->(∀k,k≠b->w'.heap[k]? =w.heap[k]?)->w'.os=w.os->w'.output=w.output->w'.tape=w.tape->w.drawn<=w'.drawn->
  Sat P I ([.arr (.slice (some ⟨b,off,none⟩) (l.length+1) cap) 1 ((zed l i s).map .str),.obj ub (.cells #[za7 s] el2 (0,0))]++F) w':=fun w' rc' g1 g2 g3 g4 g5 g6 g7 g8 g9=>
  hS.change (m':= .arr (.slice (some ⟨b,off,none⟩) (l.length+1) cap) 1 ((zed l i s).map .str)) (fun k _ hk=>g5 k (by simpa [MObj.blocks] using hk)) (fun k hk=> .inl (by simpa [MObj.blocks] using hk)) (by simp [MObj.blocks])
   (zoX hplen.symm g1 (by rw [g2];exact h3) ⟨g3,h5.2⟩ (by omega) g4) g6 g7 g8 (fun _=>g9)
 rcases Az i l.length with hin|hin
 rcases Az cap (l.length+1) with hroom|hroom
 
 refine (Any2.slices_Insert_string_grow L b off l.length cap i ub 0 1 1 (l.map za7) [za7 s] w hin (by omega) h5.1 hroom (by omega) hcl rfl hcs hvs h1c h1v).mono ?_;rintro e w' ⟨rfl,rfl⟩;have hge:=grownCap_ge w (l.length+1) cap (ρ.t 9);have hle:=grownCap_le_maxLen w (l.length+1) cap (ρ.t 9) (by unfold maxLen;omega)
 generalize hG:grownCap w (l.length+1) cap (ρ.t 9)=G at*
 let r0:Array Value:=((l.map za7).take i).toArray++Builtin.zeroCells (Value.string ⟨#[]⟩).cells (l.length+1-i)++Builtin.zeroCells (Value.string ⟨#[]⟩).cells (G-(l.length+1))
 have hz: ∀k,(Builtin.zeroCells (Value.string ⟨#[]⟩).cells k).size=k:=fun k=>by simp [Builtin.zeroCells,Value.cells]
 have hr0:r0.size=G:=by simp only [r0,Array.size_append,hz];simp;omega
 have ha:(w.alloc (.cells r0 (ρ.t 9))).drew.heap[w.heap.size]? =some (.cells r0 (ρ.t 9) (0,0)):=zok;obtain ⟨r1,a1,a2,a3,a4,a5,a6,a7,a8,a9⟩:=zc6 w.heap.size (ρ.t 9) (0,0) [za7 s] i (w.alloc (.cells r0 (ρ.t 9))).drew r0 ha (by simp only [Ak,AL];omega);obtain ⟨r2,b1,b2,b3,b4,b5,b6,b7,b8,b9⟩:=zc6 w.heap.size (ρ.t 9) (0,0) ((l.map za7).drop i) (i+1) ((w.alloc (.cells r0 (ρ.t 9))).drew.setCells w.heap.size i [za7 s]).drew r1 a1 (by simp;omega);refine ⟨_,.raw _,_,I,rfl,.refl I,⟨_,rfl,rfl⟩,.raw _ rfl,fresh _ r2 _ _ b1 ⟨hge,by unfold maxLen at hle;exact hle⟩ (by omega) (fun p x hx=> ?_) (fun k hk=> ?_) (b6.trans a6) (b7.trans a7) (b8.trans a8) (by rw [b9];exact Ay (Ca a9.symm|>fun h=>Ay (Br _) h) (Br _))⟩
 rw [b3,a3];rw [zlC hi] at hx;simp only [Bb,Ah,Ak,AL]
 split at hx
 rename_i q
 rw [if_neg (by omega),if_neg (by omega)];have hq:p<((l.map za7).take i).toArray.size:=by simp;omega
 simp only [r0];rw [Array.append_assoc,AE hq]
 simp [q,hx]
 split at hx
 rename_i q;subst q
 rw [if_neg (by omega),if_pos (by omega)]
 cases hx;simp
 rename_i q1 q2
 have hp:=zl hx;rw [if_pos (by omega),AI,show i+(p-(i+1))=p-1 by omega,Ag,hx];rfl;rw [b4 k (by omega)];exact (a4 k (by omega)).trans (zol hk)
 
 refine (Any2.slices_Insert_string_shift L b off l.length cap i ub 0 1 1 (l.map za7) [za7 s] w hin (by omega) hroom h5.2 hne hcl rfl hcs (fun j hj=>hsome j (by omega)) (fun j hj=>hfz j (by omega)) hvs h1c h1v el2 el 1 rc.size (by simp [World.shape?,hu]) (by simp [World.shape?,h2]) (by omega) (by simp [World.frozen?,hu]) (by simp [World.frozen?,hu])).mono ?_;rintro e w' ⟨rfl,rfl⟩;obtain ⟨r1,a1,a2,a3,a4,a5,a6,a7,a8,a9⟩:=zc6 b el fr ((l.map za7).drop i) (off+(i+1)) w.drew rc h2 (by simp;omega);obtain ⟨r2,b1,b2,b3,b4,b5,b6,b7,b8,b9⟩:=zc6 b el fr [za7 s] (off+i) _ r1 a1 (by simp;omega);refine ⟨_,.raw _,_,I,rfl,.refl I,⟨_,rfl,rfl⟩,.raw _ rfl,inplace _ r2 b1 (b2.trans a2) hroom (fun p x hx=> ?_) (fun k hk=>(b4 k hk).trans (a4 k hk)) (b6.trans a6) (b7.trans a7) (b8.trans a8) (by rw [b9,a9];exact Br _)⟩
 rw [b3,a3];rw [zlC hi] at hx;simp only [Bb,Ah,Ak,AL]
 split at hx
 rw [if_neg (by omega),if_neg (by omega)];exact hrow p x hx
 split at hx
 rename_i q;subst q
 rw [if_pos (by omega)]
 cases hx;simp
 have hp:=zl hx;rw [if_neg (by omega),if_pos (by omega),AI,show i+(off+p-(off+(i+1)))=p-1 by omega,Ag,hx];rfl;obtain rfl:i=l.length:=by omega
 have hput: ∀(p:Nat) (x:Str),(zed l l.length s)[p]? =some x->(p<l.length/\l[p]? =some x)\/p=l.length/\x=s:=fun p x hx=>by
  rw [zlC hi] at hx
  split at hx
  rename_i q;exact .inl ⟨q,hx⟩
  split at hx
  rename_i q;exact .inr ⟨q,(Aw hx).symm⟩
  have:=zl hx;omega
 rcases Az cap (l.length+1) with hroom|hroom
 
 refine (Any2.slices_Insert_string_end_grow L (some ⟨b,off,none⟩) l.length cap ub 0 1 1 (l.map za7) [za7 s] w (by omega) h5.1 hroom (by omega) hcl rfl (fun h=>by cases h) (fun a h j u hj=>by cases h;rw [Addr.add_lit];exact hcs j u hj) hvs h1v).mono ?_;rintro e w' ⟨rfl,rfl⟩;have hge:=grownCap_ge w (l.length+1) cap (ρ.t 9);have hle:=grownCap_le_maxLen w (l.length+1) cap (ρ.t 9) (by unfold maxLen;omega);have hz: ∀k,(Builtin.zeroCells (Value.string ⟨#[]⟩).cells k).size=k:=fun k=>by simp [Builtin.zeroCells,Value.cells]
 refine ⟨_,.raw _,_,I,rfl,.refl I,⟨_,rfl,rfl⟩,.raw _ rfl,fresh _ _ _ _ zok ⟨hge,by unfold maxLen at hle;exact hle⟩ ?_ ?_ ?_ rfl rfl rfl (Br _)⟩
 rw [Array.size_append,hz];simp;omega
 intro p x hx
 rw [AE (by simp;rcases hput p x hx with ⟨q,_⟩|⟨q,_⟩<;>omega)]
 rcases hput p x hx with ⟨q,hx⟩|⟨rfl,rfl⟩
 simp only [A4];rw [Aq (by simpa using q),Ag,hx];rfl;simp only [A4];rw [Ao (by simp)];simp
 intro k hk;exact zol hk
 
 refine (Any2.slices_Insert_string_end_room L b off l.length cap ub 0 1 1 [za7 s] w (by omega) hroom h5.2 rfl (fun j hj=>by rw [AZ];exact hsome _ (by omega)) (fun j hj=>by rw [AZ];exact hfz _ (by omega)) hvs h1v).mono ?_;rintro e w' ⟨rfl,rfl⟩;obtain ⟨r1,a1,a2,a3,a4,a5,a6,a7,a8,a9⟩:=zc6 b el fr [za7 s] (off+l.length) w rc h2 (by simp;omega);refine ⟨_,.raw _,_,I,rfl,.refl I,⟨_,rfl,rfl⟩,.raw _ rfl,inplace _ r1 a1 a2 hroom (fun p x hx=> ?_) a4 a6 a7 a8 (by rw [a9];exact Ae _)⟩
 rw [a3]
 rcases hput p x hx with ⟨q,hx⟩|⟨rfl,rfl⟩
 rw [if_neg (by omega)];exact hrow p x hx;rw [if_pos (by simp)];simp
end
section
variable {P:Program}
end
section
open Op
theorem zgR (x y:MoveS):zfm [.int .i64 x.At,.int .i64 x.Kind,.str x.Team,.str x.Player] [.int .i64 y.At,.int .i64 y.Kind,.str y.Team,.str y.Player]=true↔x=y:=by
 obtain ⟨a1,a2,a3,a4⟩:=x;obtain ⟨b1,b2,b3,b4⟩:=y
 show (_&&(_&&(_&&(_&&true))))=true↔_
 simp [eqH]
instance decMoveS:DecidableEq MoveS:=fun x y=>decidable_of_iff _ (zgR x y)
theorem zio:Cmp zfb fun _=>True:=by
 have h:=zc3 (zeO MoveS.At) (zc3 (zfz MoveS.Team) (zc3 (zfz MoveS.Player) (zeO MoveS.Kind)));have e:zfb=fun a b=>if zX a.At b.At≠0 then zX a.At b.At else if zS a.Team b.Team≠0 then zS a.Team b.Team else if zS a.Player b.Player≠0 then zS a.Player b.Player else zX a.Kind b.Kind:=by
  funext a b;unfold zfb;rw [zdP,zdP,zey]
 rw [e];exact h
theorem zoy:Cmp zim fun _=>True:=by
 have h:=zc3 (zfz ChoiceS.Team) (zc3 (zeO ChoiceS.Week) (zeO ChoiceS.At));have e:zim=fun a b=>if zS a.Team b.Team≠0 then zS a.Team b.Team else if zX a.Week b.Week≠0 then zX a.Week b.Week else zX a.At b.At:=by
  funext a b;unfold zim;rw [zdP,zey]
 rw [e];exact h
theorem zin:Cmp zeI fun _=>True:=by
 have h:=zc3 (zeO GameS.Week) (zc3 (zfz GameS.Home) (zfz GameS.Away));have e:zeI=fun a b=>if zX a.Week b.Week≠0 then zX a.Week b.Week else if zS a.Home b.Home≠0 then zS a.Home b.Home else zS a.Away b.Away:=by
  funext a b;unfold zeI;rw [zdP,zey]
 rw [e];exact h
end
section
open Op
def zfX (s l:Str):Bool:=s.all fun c=>decide (0<=Lib.indexByte l c)
theorem zs9 (c:UInt8):decide (0<=Lib.indexByte zfd c)=zff c:=by
 have:=zp4 (p:=fun c=>decide (0<=Lib.indexByte zfd c)==zff c) (by kernel_rfl) c
 simpa using this
theorem zuu (s:Str):key s=((!(out s.length 1 40)&&zfX (s.take 1) zhC)&&zfX s zfd):=by
 unfold zfX;have:(fun c=>decide (0<=Lib.indexByte zfd c))=zff:=funext zs9;rw [this];unfold key ziz
 cases s with
 |nil=>simp [out]
 |cons x r=>
   simp only [BP,List.take_zero,BN,List.all_nil,Bool.and_true,List.headD_cons];rw [znI];have h1:(!(out ((x::r).length:Int) 1 40))=decide ((x::r).length<=40):=by
    simp only [out,Ak];rw [AK];simp;omega
   rw [h1];have h2:((x::r) !=[])=true:=rfl;rw [h2];have hb: ∀a c d b:Bool,(true&&a&&c&&d&&b)=(a&&(c&&d)&&b):=by decide
   exact hb _ _ _ _
theorem zoi (l:List Str):zgl l=if l.length=0 then 8 else if 10<l.length then 2 else zdA l:=rfl
def zlU {α:Type} (f:α->Str) (d:α) (l:List α) (k:Nat):Str:=if k=0 then [] else f (l.getD (k-1) d)
theorem zrC {α:Type} {f:α->Str} {d:α} {l:List α} {k:Nat} {x:α} (hx:key (f x)=true):(leB (f x) (zlU f d l k)=true)↔(0<k/\leB (f x) (f (l.getD (k-1) d))=true):=by
 unfold zlU
 by_cases h:k=0
 subst h;rw [if_pos rfl,zwc hx];simp;rw [if_neg h]
 constructor
 intro q;exact ⟨by omega,q⟩
 intro q;exact q.2
theorem zoT {α:Type} {f:α->Str} {d:α} {l:List α} {k:Nat} {x:α} (hx:l[k]? =some x):zlU f d l (k+1)=f x:=by
 unfold zlU;rw [if_neg (by omega),Nat.add_sub_cancel,Af,hx];rfl
theorem zfq {a b:Int}:zko (a-b)=zX a b:=zuY
theorem zjR {a b:MoveS}:zfb a b=if a.At≠b.At then zX a.At b.At else if a.Team≠b.Team then zS a.Team b.Team else if a.Player≠b.Player then zS a.Player b.Player else zX a.Kind b.Kind:=by
 unfold zfb;rw [zdP,zdP,zey];have e1:zX a.At b.At≠0↔a.At≠b.At:=not_congr zcD;have e2:zS a.Team b.Team≠0↔a.Team≠b.Team:=not_congr zcb;have e3:zS a.Player b.Player≠0↔a.Player≠b.Player:=not_congr zcb;simp only [e1,e2,e3]
theorem zmt {a b:GameS}:zeI a b=if a.Week≠b.Week then zX a.Week b.Week else if a.Home≠b.Home then zS a.Home b.Home else zS a.Away b.Away:=by
 unfold zeI;rw [zdP,zey];have e1:zX a.Week b.Week≠0↔a.Week≠b.Week:=not_congr zcD;have e2:zS a.Home b.Home≠0↔a.Home≠b.Home:=not_congr zcb;simp only [e1,e2]
theorem zuB {x p:MoveS}:(0<=zfb p x)↔zfb x p<=0:=by
 have f1:=zio.flip p x trivial trivial;have f2:=zio.flip x p trivial trivial
 omega
theorem zuk {x p:GameS}:(0<=zeI p x)↔zeI x p<=0:=by
 have f1:=zin.flip p x trivial trivial;have f2:=zin.flip x p trivial trivial
 omega
theorem zub {x p:ChoiceS}:(0<=zim p x)↔zim x p<=0:=by
 have f1:=zoy.flip p x trivial trivial;have f2:=zoy.flip x p trivial trivial
 omega
def zlM (a b:Int):List Int->Int
 |[]=>0
 |e::r=>if a=e\/b=e then e else zlM a b r
def zu2 (a b:Int):Int:=zlM a b [3,1]
theorem zp5 {n d m:Int}:zcj n d m=0\/zcj n d m=1\/zcj n d m=3:=by
 unfold zcj;split
 omega
 split<;>omega
theorem zuj {x:GameS} (h:x.Played=true):zfQ x=zu2 (zcj x.FNum x.FDen 1000000) (zcj x.ONum x.ODen 1000000):=by
 unfold zfQ zu2;rw [if_neg (by rw [h];simp),zlM,zlM,zlM];have h1:=zp5 (n:=x.FNum) (d:=x.FDen) (m:=1000000);have h2:=zp5 (n:=x.ONum) (d:=x.ODen) (m:=1000000)
 split
 rfl
 rename_i h3
 rw [zey]
 (repeat' split)<;>omega
theorem zuZ {a b:Int}:Nat.gcd b.natAbs (a.tmod b).natAbs=Nat.gcd a.natAbs b.natAbs:=by
 rw [Int.natAbs_tmod];exact zoJ
theorem zqT {a b:Int} (hb:b≠0): -b.natAbs<a.tmod b/\a.tmod b<b.natAbs/\(a.tmod b).natAbs<b.natAbs:=by
 have h:=BM a.natAbs (show 0<b.natAbs by omega);rw [<-Int.natAbs_tmod] at h
 omega
theorem zxa {l:Str} {x:UInt8} {r:Str} (h:Lib.indexByte l x<0):zfX (x::r) l=false:=by
 unfold zfX;rw [BN];have:decide (0<=Lib.indexByte l x)=false:=by simpa using h
 rw [this];rfl
theorem zxb {l:Str} {x:UInt8} {r:Str} (h:0<=Lib.indexByte l x):zfX (x::r) l=zfX r l:=by
 unfold zfX;rw [BN];have:decide (0<=Lib.indexByte l x)=true:=by simpa using h
 rw [this];rfl
theorem pts3 {n d:Int} (h:d<1\/¬((Nat.gcd n.natAbs d.natAbs:Nat):Int)=1):d<1\/zmJ n d=false:=by
 rcases h with h|h
 exact .inl h;refine .inr ?_;unfold zmJ;rw [beq_eq_false_iff_ne]
 intro e;rw [e] at h;exact h rfl
theorem pts0 {n d:Int} (h:((Nat.gcd n.natAbs d.natAbs:Nat):Int)=1):zmJ n d=true:=by
 unfold zmJ;rw [beq_iff_eq];omega
theorem pts1 {n d m:Int} (h:(¬Int.tmod 100 d=0\/n< -m*d)\/m*d<n):Int.tmod 100 d≠0\/out n (-m*d) (m*d)=true:=by
 have e: -m*d= -(m*d):=Int.neg_mul _ _;rw [e] at h⊢
 rcases h with (h|h)|h
 exact .inl h;refine .inr ?_;simp [out];omega
 refine .inr ?_;simp [out];omega
theorem pts2 {n d m:Int} (h:(Int.tmod 100 d=0/\ -m*d<=n)/\n<=m*d): ¬(Int.tmod 100 d≠0\/out n (-m*d) (m*d)=true):=by
 have e: -m*d= -(m*d):=Int.neg_mul _ _;rw [e] at h⊢;obtain ⟨⟨h1,h2⟩,h3⟩:=h;rintro (q|q);exact q h1
 simp [out] at q;omega
theorem zup {f t:Int} (h:out f 1 (t-1)=true\/61<t):out t 2 61=true\/out f 1 (t-1)=true:=by
 rcases h with h|h
 exact .inr h;refine .inl ?_;simp [out];omega
theorem zuo {f t:Int} (h:out f 1 (t-1)=false/\t<=61): ¬(out t 2 61=true\/out f 1 (t-1)=true):=by
 rintro (q|q);have h1:=h.1
 simp [out] at q h1;omega
 rw [h.1] at q;cases q
theorem zw0 {k:Int} (h: ¬k=1/\¬k=2):out k 1 2=true:=by simp [out];omega
theorem zwZ {k:Int} (h: ¬k=1->k=2):out k 1 2=false:=by simp [out];omega
structure MovB (x:MoveS):Prop where
 at': -1000000000000000<=x.At/\x.At<=1000000000000000
 kind: -1000000000000000<=x.Kind/\x.Kind<=1000000000000000
structure GamB (x:GameS):Prop where
 week: -1000000000000000<=x.Week/\x.Week<=1000000000000000
 fr:(-1000000000<=x.FNum/\x.FNum<=1000000000)/\ -1000000000<=x.FDen/\x.FDen<=1000000000
 ot:(-1000000000<=x.ONum/\x.ONum<=1000000000)/\ -1000000000<=x.ODen/\x.ODen<=1000000000
end
section

end
section
def zmu (a b:Of2):Int:=orI [zS a.1 b.1,zS a.2 b.2]
theorem zvQ (a b:Of2):zmu a b=if zS a.1 b.1≠0 then zS a.1 b.1 else zS a.2 b.2:=by unfold zmu;rw [zey]
theorem zs1 (a b:Of2):zmu a b= -zmu b a:=by
 unfold zmu;rw [zer a.1,zer a.2,zqD]
theorem zt4:Cmp zmu (fun _=>True) where
 flip x y _ _:=by rw [zs1 x y];omega
 trans x y z _ _ _ h1 h2:=by
  rw [zvQ] at*;have k1:zS x.1 y.1<=0:=by split at h1<;>omega
  have k2:zS y.1 z.1<=0:=by split at h2<;>omega
  have k3:=zhi k1 k2
  split
  exact k3
  rename_i hz
  have hz':zS x.1 z.1=0:=by simpa using hz
  obtain ⟨e1,e2⟩:=zpr k1 k2 hz';rw [if_neg (by simp [e1])] at h1;rw [if_neg (by simp [e2])] at h2;exact zhi h1 h2
def OLt (a b:Of2):Prop:=zmu a b<0
structure DisS where
 S:List Str
 c:List ((Str×Of2)×Int)
def zqk (p:Play):Str×Of2:=(p.Source,(p.Player,p.Stat))
def zwQ (q:DisS) (p:Play):List ((Str×Of2)×Int):=zv (zqk p) ((alk (zqk p) q.c).getD 0+p.Count) q.c
end
section
section
variable {κ:Type}
abbrev GrM (κ:Type):=List (Str×(Nat×List (κ×Int)))
end
end
section
theorem zjM {α:Type} {s:Str} {v:α}: ∀{G:List (Str×α)},(zv s v G).map (·.1)=zcf s (G.map (·.1))
 |[]=>by simp [zv,zcf]
 |p::r=>by
   have ih:=zjM (s:=s) (v:=v) (G:=r);simp only [zv]
   by_cases h:s=p.1
   rw [if_pos h];unfold zcf;rw [if_pos (by simp [h])]
   simp [h]
   rw [if_neg h,Ar,ih];unfold zcf
   by_cases hc:(r.map (·.1)).contains s=true
   rw [if_pos hc,if_pos (by simp at hc⊢;exact .inr hc)];rfl;rw [if_neg hc,if_neg (by simp at hc⊢;exact ⟨h,hc⟩)];rfl
theorem zkT {α:Type} {s:Str} {v:α} {p:Str×α}: ∀{G:List (Str×α)},ANodup G->p∈zv s v G->p=(s,v)\/(p∈G/\p.1≠s)
 |[],_,h=>by simp [zv] at h;exact .inl h
 |q::r,hn,h=>by
   have h1:=List.nodup_cons.1 hn;simp only [zv] at h
   by_cases hs:s=q.1
   rw [if_pos hs] at h
   rcases List.mem_cons.1 h with h|h
   exact .inl h;refine .inr ⟨Av _ h,fun e=>h1.1 ?_⟩
   show q.1∈r.map (·.1)
   rw [<-hs,<-e];exact BA h;rw [if_neg hs] at h
   rcases List.mem_cons.1 h with h|h
   subst h;exact .inr ⟨by simp,fun e=>hs e.symm⟩
   rcases zkT h1.2 h with e|e
   exact .inl e;exact .inr ⟨Av _ e.1,e.2⟩
section
variable {κ:Type}
structure GrOk (S:List Str) (c:List ((Str×κ)×Int)) (G:GrM κ):Prop where
 keys:G.map (·.1)=S
 nodup:S.Nodup
 val: ∀p∈G,p.2.2=zb6 c p.1
 inS: ∀e∈c,e.1.1∈S
theorem GrOk.anodup {S:List Str} {c:List ((Str×κ)×Int)} {G:GrM κ} (h:GrOk S c G):ANodup G:=by unfold ANodup;rw [h.keys];exact h.nodup
theorem GrOk.nil:GrOk ([]:List Str) ([]:List ((Str×κ)×Int)) []:=⟨rfl,Bt,(fun p h=>by cases h),(fun e h=>by cases h)⟩
theorem GrOk.get {S:List Str} {c:List ((Str×κ)×Int)} {G:GrM κ} (h:GrOk S c G) {s:Str} {b:Nat} {L:List (κ×Int)} (hq:alk s G=some (b,L)):L=zb6 c s:=h.val _ (zbl hq)
theorem GrOk.none {S:List Str} {c:List ((Str×κ)×Int)} {G:GrM κ} (h:GrOk S c G) {s:Str}:alk s G=none↔s∉S:=by rw [zeh,h.keys]
theorem zto {S:List Str} {c:List ((Str×κ)×Int)} {s:Str} (h: ∀e∈c,e.1.1∈S) (hs:s∉S):zb6 c s=[]:=by
 unfold zb6;rw [List.map_eq_nil_iff,List.filter_eq_nil_iff]
 intro e he hq
 exact hs ((eq_of_beq hq)▸h e he)
theorem GrOk.add {S:List Str} {c:List ((Str×κ)×Int)} {G:GrM κ} (h:GrOk S c G) {s:Str} (b:Nat) (hs:alk s G=Option.none):GrOk (zcf s S) c (zv s (b,[]) G):=by
 have hn:=h.none.1 hs;refine ⟨by rw [zjM,h.keys],zht h.nodup,fun p hp=> ?_,fun e he=>zkg.2 (.inr (h.inS e he))⟩
 rcases zkT h.anodup hp with rfl|⟨hp,_⟩
 exact (zto h.inS hn).symm;exact h.val p hp
variable [DecidableEq κ]
theorem GrOk.put {S:List Str} {c:List ((Str×κ)×Int)} {G:GrM κ} (h:GrOk S c G) {s:Str} {b:Nat} {L:List (κ×Int)} (hq:alk s G=some (b,L)) (k:κ) (v:Int):GrOk S (zv (s,k) v c) (zv s (b,zv k v L) G):=by
 have hs:s∈S:=by
  refine Decidable.not_not.1 fun hn=> ?_
  have:=h.none.2 hn;rw [this] at hq;cases hq
 refine ⟨?_,h.nodup,fun p hp=> ?_,fun e he=> ?_⟩
 rw [zjM,h.keys];unfold zcf;rw [if_pos (by simpa using hs)];rw [zoP]
 rcases zkT h.anodup hp with rfl|⟨hp,hne⟩
 rw [if_pos rfl,<-h.get hq];rw [if_neg hne];exact h.val p hp
 rcases zco he with rfl|he
 exact hs;exact h.inS e he
end
end
section

end
section
def zdS (p:Option Of2):List Of2->List Of2
 |[]=>[]
 |x::r=>if p=some x then zdS (some x) r else x::zdS (some x) r
theorem OLt.trans {a b c:Of2} (h1:OLt a b) (h2:OLt b c):OLt a c:=zt4.lt_trans trivial trivial trivial h1 h2
end
section
def zyT (l:List Play) (trust:List Str) (n:Int) (x:Play):Bool:=decide (zlZ l trust n x.Match=some x.Source)
def kept (l:List Play) (trust:List Str) (n:Int):List Play:=l.filter (zyT l trust n)
end
section
structure ChkIs (q:ChkS) (l:List Play):Prop where
 sn:q.S.Nodup
 s: ∀s,s∈q.S↔∃x∈l,x.Source=s
 wn:ANodup q.W
 w: ∀m,m∈q.W.map (·.1)↔∃x∈l,x.Match=m
 wv: ∀m v,alk m q.W=some v->∃x∈l,x.Match=m/\x.Week=v
 c:q.c=false↔∀x∈l,∀y∈l,x.Match=y.Match->x.Week=y.Week
theorem ChkIs.step {q:ChkS} {l:List Play} (h:ChkIs q l) (p:Play):ChkIs (zgf q p) (l++[p]) where
 sn:=zht h.sn
 s s:=by
  show s∈zcf p.Source q.S↔_
  rw [zkg,h.s]
  constructor
  rintro (rfl|⟨x,hx,e⟩);exact ⟨p,by simp,rfl⟩;exact ⟨x,Al _ hx,e⟩;rintro ⟨x,hx,e⟩
  rcases List.mem_append.1 hx with hx|hx
  exact .inr ⟨x,hx,e⟩;rw [List.mem_singleton.1 hx] at e;exact .inl e.symm
 wn:=h.wn.put
 w m:=by
  show m∈(zv p.Match p.Week q.W).map (·.1)↔_
  rw [zkS,h.w]
  constructor
  rintro (rfl|⟨x,hx,e⟩);exact ⟨p,by simp,rfl⟩;exact ⟨x,Al _ hx,e⟩;rintro ⟨x,hx,e⟩
  rcases List.mem_append.1 hx with hx|hx
  exact .inr ⟨x,hx,e⟩;rw [List.mem_singleton.1 hx] at e;exact .inl e.symm
 wv m v hv:=by
  have hv':alk m (zv p.Match p.Week q.W)=some v:=hv;rw [zcI] at hv'
  by_cases e:m=p.Match
  rw [if_pos e] at hv';cases hv';exact ⟨p,by simp,e.symm,rfl⟩;rw [if_neg e] at hv';obtain ⟨x,hx,e1⟩:=h.wv m v hv';exact ⟨x,Al _ hx,e1⟩
 c:=by
  show (q.c||((alk p.Match q.W).isSome&&((alk p.Match q.W).getD 0 !=p.Week)))=false↔_
  rw [BK,h.c]
  constructor
  rintro ⟨h1,h2⟩;have hp: ∀x∈l,x.Match=p.Match->x.Week=p.Week:=fun x hx e=>by
   have hk:p.Match∈q.W.map (·.1):=(h.w _).2 ⟨x,hx,e⟩;have hne: ¬alk p.Match q.W=none:=by rw [zeh];exact fun z=>z hk
   obtain ⟨v,hv⟩:=Option.ne_none_iff_exists'.1 hne;rw [hv] at h2
   simp at h2
   obtain ⟨y,hy,e1,e2⟩:=h.wv _ _ hv;rw [h1 x hx y hy (by rw [e,e1]),e2,h2]
  intro x hx y hy e
  rcases List.mem_append.1 hx with hx|hx<;>rcases List.mem_append.1 hy with hy|hy
  exact h1 x hx y hy e;rw [List.mem_singleton.1 hy] at e⊢;exact hp x hx e;rw [List.mem_singleton.1 hx] at e⊢;exact (hp y hy e.symm).symm;rw [List.mem_singleton.1 hx,List.mem_singleton.1 hy]
  intro hall
  refine ⟨fun x hx y hy e=>hall x (Al _ hx) y (Al _ hy) e,?_⟩
  cases hv:alk p.Match q.W with
  |none=>rfl
  |some v=>
    obtain ⟨y,hy,e1,e2⟩:=h.wv _ _ hv;have:=hall y (Al _ hy) p (by simp) e1
    simp
    rw [<-e2,this]
theorem zwO (l:List Play):ChkIs (za1 l) l:=by
 have key: ∀k,k<=l.length->ChkIs (za1 (l.take k)) (l.take k):=by
  intro k
  induction k with
  |zero=>
    intro _
    refine ⟨Bt,fun s=> ?_,ANodup.nil,fun m=> ?_,fun m v hv=> ?_,?_⟩
    simp [za1]
    simp [za1]
    simp [za1,alk] at hv
    simp [za1]
  |succ k ih=>
    intro hk
    have hx:=Aa (l:=l) (i:=k) (by omega);rw [zdM hx,zaj hx];exact (ih (by omega)).step _
 have:=key l.length (Ae _)
 rwa [Ap] at this
end
section
theorem zxj {p:Play} (h:playFault p=0):1<=p.Week:=by
 have h1:=(zez h).2.2.2.1;unfold zcA at h1;have:=zeT (n:=p.Week) (lo:=1) (hi:=60) (by simpa using h1)
 omega
theorem zvS {l:List Play} (hok: ∀y∈l,playFault y=0) {m:Str} {v:Int} (h:alk m (za1 l).W=some v):1<=v:=by
 obtain ⟨x,hx,_,rfl⟩:=(zwO l).wv m v h;exact zxj (hok x hx)
theorem zvT {l:List Play} (hok: ∀y∈l,playFault y=0) (p:Play):
 ((za1 l).c||((alk p.Match (za1 l).W).getD 0 !=0&&(alk p.Match (za1 l).W).getD 0 !=p.Week))=(zgf (za1 l) p).c:=by
 unfold zgf
 dsimp only
 cases h:alk p.Match (za1 l).W with
 |none=>simp
 |some v=>
   have:=zvS hok h;have h0:(v !=0)=true:=by simp;omega
   simp [h0]
/-! statistics-/
def zon (E:List (Str×Int)):List StatS:=(E.filter fun e=>e.2 !=0).map fun e=>⟨e.1,e.2⟩
end
section
def zcg (x:Play):Prop:=Sh x.Source/\Sh x.Match/\Sh x.Player/\Sh x.Stat
structure GoodPl (k:List Play):Prop where
 len:k.length<=15
 all: ∀x∈k,zcg x
structure GoodTr (t:List Str):Prop where
 len:t.length<=4
 all: ∀s∈t,Sh s
def ze1:List Str:=[[102,97],[102,98],[102,99]]
theorem zjG: ∀s∈ze1,Sh s:=fun s hs=>by simp [ze1] at hs;rcases hs with rfl|rfl|rfl<;>(unfold Sh;simp)
def zkw:List Int:=[1,1,2]
def zdW:List Str:=[[109,97],[109,98],[109,99]]
theorem ziB (k:Nat):Sh (zdW.getD k []):=by
 match k with
 |0=>unfold Sh;simp [zdW]
 |1=>unfold Sh;simp [zdW]
 |2=>unfold Sh;simp [zdW]
 |n+3=>unfold Sh;simp [zdW]
theorem zpu {l:List Int} {z:Int}:l.contains z=l.any (· ==z):=by
 rw [AK,B6,B3]
 constructor
 intro h;exact ⟨z,h,by simp⟩
 rintro ⟨y,hy,e⟩;rw [beq_iff_eq] at e;exact e▸hy
end
section
section
variable {κ:Type} [DecidableEq κ] {β:Type}
end
section
variable {P:Program} {e:Env} {κ:Type} [DecidableEq κ] {β:Type} {eb:β->HVal}
end
end
section
/-! lines by their places,with mends-/
abbrev GrS:=List (Plc×List StatS)
def zss (x:MendS) (l:List StatS):List StatS:=l.filter fun s=> !(s.Name==x.Stat)
def ziC (x:MendS) (l:List StatS):List StatS:=zss x l++if x.Count≠0 then [⟨x.Stat,x.Count⟩] else []
def zgU (n:Int) (G:GrS) (x:MendS):GrS:=if n<x.At then G else zv (x.Player,x.Week) (ziC x ((alk (x.Player,x.Week) G).getD [])) G
def GLen (b:Nat) (G:GrS):Prop:= ∀q∈G,q.2.length<=b
theorem GLen.put {b:Nat} {G:GrS} {p:Plc} {l:List StatS} (h:GLen b G) (hl:l.length<=b):GLen b (zv p l G):=fun q hq=>by
 rcases zco hq with rfl|hq
 exact hl;exact h q hq
theorem GLen.get {b:Nat} {G:GrS} (h:GLen b G) (p:Plc):((alk p G).getD []).length<=b:=by
 cases hq:alk p G with
 |none=>simp
 |some l=>exact h _ (zbl hq)
theorem GLen.up {b c:Nat} {G:GrS} (h:GLen b G) (hb:b<=c):GLen c G:=fun q hq=>Ay (h q hq) hb
theorem ztw (x:MendS) (l:List StatS):(zss x l).length<=l.length:=AW _ _
theorem ztx (x:MendS) (l:List StatS):(ziC x l).length<=l.length+1:=by
 have:=ztw x l;unfold ziC;rw [AA];split;simp only [Ak,AL];omega;simp only [AL];omega
theorem GLen.step {b:Nat} {n:Int} {G:GrS} {x:MendS} (h:GLen b G):GLen (b+1) (zgU n G x):=by
 unfold zgU;split;exact h.up (by omega);refine (h.up (by omega)).put ?_;have h1:=ztx x ((alk (x.Player,x.Week) G).getD []);have h2:=h.get (x.Player,x.Week)
 omega
def GNm (G:GrS):Prop:= ∀q∈G,(q.2.map (·.Name)).Nodup
theorem GNm.put {G:GrS} {p:Plc} {l:List StatS} (h:GNm G) (hl:(l.map (·.Name)).Nodup):GNm (zv p l G):=fun q hq=>by
 rcases zco hq with rfl|hq
 exact hl;exact h q hq
theorem GNm.get {G:GrS} (h:GNm G) (p:Plc):(((alk p G).getD []).map (·.Name)).Nodup:=by
 cases hq:alk p G with
 |none=>exact Bt
 |some l=>exact h _ (zbl hq)
theorem zmh {x:MendS} {l:List StatS} (h:(l.map (·.Name)).Nodup):((ziC x l).map (·.Name)).Nodup:=by
 have h1:((zss x l).map (·.Name)).Nodup:=h.sublist ((List.filter_sublist).map _);unfold ziC
 split
 rw [AB];refine List.nodup_append.2 ⟨h1,by simp,fun a ha b hb=> ?_⟩
 simp at hb;subst hb
 obtain ⟨s,hs,rfl⟩:=List.mem_map.1 ha;have:=(List.mem_filter.1 hs).2
 simpa using this
 rw [A7];exact h1
theorem GNm.step {n:Int} {G:GrS} {x:MendS} (h:GNm G):GNm (zgU n G x):=by
 unfold zgU;split;exact h;exact h.put (zmh (h.get _))
theorem zwh {l:List StatS} (h:(l.map (·.Name)).Nodup) {x y:StatS} (hx:x∈l) (hy:y∈l) (e:x.Name=y.Name):x=y:=by
 obtain ⟨i,hi⟩:=Be hx;obtain ⟨j,hj⟩:=Be hy;have:=zmK h (a:=x.Name) (i:=i) (j:=j) (by rw [Ag,hi];rfl) (by rw [Ag,hj,e];rfl);rw [this,hj] at hi;exact (Aw hi).symm
theorem or2z {a b:Int} (h:orI [a,b]=0):a=0/\b=0:=by rw [zey] at h;exact zwm h
def zog {κ α:Type} [DecidableEq κ] (D S:List (κ×α)):List (κ×α):=S.foldl (fun C p=>zv p.1 p.2 C) D
theorem zno {κ α:Type} [DecidableEq κ]: ∀{S D:List (κ×α)},ANodup D->ANodup (zog D S)
 |[],_,h=>h
 |p::r,D,h=>zno (S:=r) (D:=zv p.1 p.2 D) h.put
end
section
/-! one list of statistics by name-/
abbrev stA (l:List StatS):List (Str×Int):=l.map fun s=>(s.Name,s.Count)
def sv (l:List StatS) (s:Str):Int:=(alk s (stA l)).getD 0
structure StOk (l:List StatS):Prop where
 nd:(l.map (·.Name)).Nodup
 nz: ∀x∈l,x.Count≠0
theorem zpa {l:List StatS} (h:(l.map (·.Name)).Nodup):ANodup (stA l):=by
 unfold ANodup;rw [AX];exact h
theorem StOk.nodup {l:List StatS} (h:StOk l):l.Nodup:=(List.pairwise_map.1 h.nd).imp fun h e=>h (congrArg _ e)
theorem zwJ {l l':List StatS} (h:(l'.map (·.Name)).Nodup) (hp:l.Perm l') (s:Str):sv l s=sv l' s:=by
 unfold sv;rw [zp3 (hp.map _) (zpa h)]
theorem StOk.sort {l:List StatS} (h:StOk l):StOk (zag zei l) where
 nd:=((zbC zei l).map _).nodup_iff.2 h.nd
 nz x hx:=h.nz x ((zlu _).1 hx)
theorem StOk.put {x:MendS} {l:List StatS} (h:StOk l):StOk (ziC x l) where
 nd:=zmh h.nd
 nz y hy:=by
  unfold ziC at hy
  rcases List.mem_append.1 hy with hy|hy
  exact h.nz y (List.mem_filter.1 hy).1
  split at hy
  rename_i hc;rw [List.mem_singleton.1 hy];exact hc
  cases hy
theorem StOk.nil:StOk []:=⟨Bt,fun x h=>by cases h⟩
/-! all lists by place-/
structure GSOk (G:GrS):Prop where
 nd:ANodup G
 ok: ∀q∈G,StOk q.2
theorem GSOk.get {G:GrS} (h:GSOk G) (p:Plc):StOk ((alk p G).getD []):=by
 cases hq:alk p G with
 |none=>exact StOk.nil
 |some l=>exact h.ok _ (zbl hq)
theorem GSOk.step {n:Int} {G:GrS} {x:MendS} (h:GSOk G):GSOk (zgU n G x):=by
 unfold zgU;split;exact h;refine ⟨h.nd.put,fun q hq=> ?_⟩
 rcases zco hq with rfl|hq
 exact (h.get _).put;exact h.ok q hq
structure GVal (G:GrS):Prop where
 pl: ∀q∈G,key q.1.1=true/\zcA q.1.2=true
 st: ∀q∈G,∀s∈q.2,key s.Name=true/\(-100000<=s.Count/\s.Count<=100000)
theorem GVal.step {n:Int} {G:GrS} {x:MendS} (h:GVal G) (hx:zaD x=0):GVal (zgU n G x):=by
 obtain ⟨k1,k2,k3,k4,_⟩:=zqy hx;unfold zgU;split;exact h;refine ⟨fun q hq=> ?_,fun q hq s hs=> ?_⟩
 rcases zco hq with rfl|hq
 exact ⟨k1,k3⟩;exact h.pl q hq
 rcases zco hq with rfl|hq
 unfold ziC at hs
 rcases List.mem_append.1 hs with hs|hs
 have h1:=(List.mem_filter.1 hs).1
 cases ha:alk (x.Player,x.Week) G with
 |none=>rw [ha] at h1;cases h1
 |some l=>rw [ha] at h1;exact h.st _ (zbl ha) s h1
 split at hs
 rw [List.mem_singleton.1 hs];exact ⟨k2,k4⟩
 cases hs
 exact h.st q hq s hs
end
section
/-! mends as they are made up-/
def zfE (x:MendS):Prop:=Sh x.Player/\Sh x.Stat/\Sh x.By
structure GoodMds (k:List MendS):Prop where
 len:k.length<=24
 all: ∀x∈k,zfE x
def mp3:List Str:=[[97,110,110],[98,101,97],[122,111,101]]
def ms2:List Str:=[[103,111,97,108],[112,97,115,115]]
theorem zw5: ∀s∈mp3,Sh s:=fun s hs=>by
 simp [mp3] at hs;rcases hs with rfl|rfl|rfl<;>(unfold Sh;simp)
theorem zw6: ∀s∈ms2,Sh s:=fun s hs=>by
 simp [ms2] at hs;rcases hs with rfl|rfl<;>(unfold Sh;simp)
theorem GLok.mono {α:Type} {P:α->Prop} {n n' m m':Nat} {q:GL α} (h:GLok P n m q) (hn:n<=n') (hm:m<=m'):GLok P n' m' q:=⟨Ay h.len hn,h.all,Ay h.a hm⟩
/-! the lines of plays,with mends-/
end
section
open Op
structure BookC (b:BookS):Prop where
 bb:BookB b
 gw: ∀x∈b.League.Games,GamB x
 mb: ∀x∈b.Moves,MovB x
 hw: ∀x∈b.Health,-1000000000000000<=x.To/\x.To<=1000000000000000
 tr: ∀s∈b.League.Trust,Sh s
 pg: ∀x∈b.Plays,zcg x
 mg: ∀x∈b.Mends,zfE x
 cs: ∀x∈b.Choices,(∀s∈x.Players,Sh s)/\Sh x.Captain
 l1:b.Moves.length<=100
 l2:b.Plays.length<=50
 l3:b.Mends.length<=50
 l4:b.Health.length<=10
 l5:b.Choices.length<=100
 tt:HasAB b.League.Teams
theorem ztB {s:Str}:(!(zbo s))=(s !=[]&& !(key s)):=by
 unfold zbo
 cases s with
 |nil=>rfl
 |cons x r=>cases key (x::r)<;>rfl
theorem ztC {l:List Str} {s:Str}:((l++[s]).all zbo)= !((l.any fun x=> !(zbo x))|| !(zbo s)):=by
 rw [List.all_append,BN,List.all_nil,Bool.and_true,Bool.not_or,Bool.not_not,List.all_eq_not_any_not]
theorem zrc {l:List Str} {c:Str} (h:(∃s,s∈l/\zbo s=false)\/zbo c=false):((l++[c]).all zbo)=false:=by
 rcases h with ⟨s,hs,e⟩|e
 exact List.all_eq_false.2 ⟨s,Al _ hs,by rw [e];simp⟩;exact List.all_eq_false.2 ⟨c,Bm _ (List.mem_singleton.2 rfl),by rw [e];simp⟩
end
section
open Op
theorem zr0:Cmp (fun x y:{m:MoveS//MovB m}=>zfb x.1 y.1) fun _=>True where
 flip x y _ _:=zio.flip x.1 y.1 trivial trivial
 trans x y z _ _ _ h1 h2:=zio.trans x.1 y.1 z.1 trivial trivial trivial h1 h2
theorem zrZ:Cmp (fun x y:{m:GameS//GamB m}=>zeI x.1 y.1) fun _=>True where
 flip x y _ _:=zin.flip x.1 y.1 trivial trivial
 trans x y z _ _ _ h1 h2:=zin.trans x.1 y.1 z.1 trivial trivial trivial h1 h2
theorem zjO {α:Type} {p:α->Prop} {l:List α} (h: ∀x∈l,p x):(l.attachWith p h).map Subtype.val=l:=by simp
theorem zmW {α β:Type} {p:α->Prop} {l:List α} (h: ∀x∈l,p x) (f:α->β):(l.attachWith p h).map (fun x=>f x.1)=l.map f:=by
 have e:(l.attachWith p h).map (fun x=>f x.1)=((l.attachWith p h).map Subtype.val).map f:=by rw [AX];rfl
 rw [e,zjO]
end
section
open Go
structure RosS where
 P:List (Str×List Str)
 H:List (Str×List Str)
 O:List (Str×Str)
 D:List (Str×Int)
 A:List ((Str×Int)×Int)
def zop:RosS:=⟨[],[],[],[],[]⟩
def zev (l:List Str) (s:Str):List Str:=l.take (ze0 l s)++s::l.drop (ze0 l s)
def zgk (l:List Str) (s:Str):List Str:=l.filter fun x=> !(x==s)
def rPl (k:RosS) (t:Str):List Str:=(alk t k.P).getD []
def rHu (k:RosS) (t:Str):List Str:=(alk t k.H).getD []
def zaH (k:RosS) (p:Str):Str:=(alk p k.O).getD []
def ziF (b:BoundS) (k:RosS) (p:Str) (n:Int):Bool:=match alk p k.D with|some d=>decide (n-d<b.Hold)|none=>false
def zaS (k:RosS) (w:Str×Int):Int:=(alk w k.A).getD 0
def zc2 (b:BoundS) (k:RosS) (x:MoveS):Int:=
 if x.Kind=1 then
  if zaH k x.Player=x.Team then 6 else if zaH k x.Player≠[] then 13 else if ziF b k x.Player x.At=true then 11
  else if b.Adds<=zaS k (x.Team,Int.tdiv x.At 604800000) then 16 else if b.Most<=((rPl k x.Team).length:Int) then 12 else 0
 else if x.Kind=2 then if zaH k x.Player≠x.Team then 8 else 0
 else if x.Kind=3 then if (rPl k x.Team).contains x.Player=false then 8 else if b.Hurt<=((rHu k x.Team).length:Int) then 12 else 0
 else if x.Kind=4 then if (rHu k x.Team).contains x.Player=false then 8 else if b.Most<=((rPl k x.Team).length:Int) then 12 else 0
 else 0
def zgn (b:BoundS) (k:RosS) (x:MoveS):RosS:=
 if zc2 b k x≠0 then ⟨zv x.Team (rPl k x.Team) k.P,zv x.Team (rHu k x.Team) k.H,k.O,k.D,k.A⟩
 else if x.Kind=1 then ⟨zv x.Team (zev (rPl k x.Team) x.Player) k.P,zv x.Team (rHu k x.Team) k.H,zv x.Player x.Team k.O,k.D,zv (x.Team,Int.tdiv x.At 604800000) (zaS k (x.Team,Int.tdiv x.At 604800000)+1) k.A⟩
 else if x.Kind=2 then ⟨zv x.Team (zgk (rPl k x.Team) x.Player) k.P,zv x.Team (zgk (rHu k x.Team) x.Player) k.H,zbY x.Player k.O,zv x.Player x.At k.D,k.A⟩
 else if x.Kind=3 then ⟨zv x.Team (zgk (rPl k x.Team) x.Player) k.P,zv x.Team (zev (rHu k x.Team) x.Player) k.H,k.O,k.D,k.A⟩
 else ⟨zv x.Team (zev (rPl k x.Team) x.Player) k.P,zv x.Team (zgk (rHu k x.Team) x.Player) k.H,k.O,k.D,k.A⟩
def zgm (b:BoundS) (n:Int) (k:RosS):List MoveS->RosS
 |[]=>k
 |x::r=>zgm b n (if x.At<=n then zgn b k x else k) r
def zeU (b:BoundS) (l:List MoveS) (n:Int):RosS:=zgm b n zop l
/-! lists that rise-/
theorem SortedS.nodup {l:List Str} (h:SortedS l):l.Nodup:=h.imp fun {a b} h e=>by subst e;rw [zaB] at h;cases h
theorem zcm {l:List Str} {s x:Str}:x∈zgk l s↔x∈l/\x≠s:=by simp [zgk]
theorem zgA {l:List Str} (h:SortedS l) (s:Str):SortedS (zgk l s):=h.sublist List.filter_sublist
theorem zkf (l:List Str) (s:Str):(zgk l s).length<=l.length:=AW _ _
theorem zfn {l:List Str} {s x:Str}:x∈zev l s↔x=s\/x∈l:=by
 have e:x∈l↔x∈l.take (ze0 l s)\/x∈l.drop (ze0 l s):=by rw [<-List.mem_append,Bd]
 unfold zev;rw [e];simp;constructor<;>(rintro (h|h|h)<;>simp [h])
theorem zmG (l:List Str) (s:Str):(zev l s).length=l.length+1:=by
 have h:=congrArg List.length (Bd (ze0 l s) l);unfold zev;simp only [AA,Ak] at*;omega
theorem zgz {s:Str}: ∀{l:List Str},SortedS l->s∉l->SortedS (zev l s)
 |[],_,_=>List.pairwise_singleton _ _
 |a::r,h,hn=>by
   have hr:=List.pairwise_cons.1 h
   cases ha:Op.bytesLess a s with
   |true=>
     have e:ze0 (a::r) s=ze0 r s+1:=by unfold ze0;simp [List.countP_cons,ha]
     have e2:zev (a::r) s=a::zev r s:=by unfold zev;rw [e];rfl
     rw [e2];refine List.pairwise_cons.2 ⟨fun x hx=> ?_,zgz hr.2 fun q=>hn (Av _ q)⟩
     rcases zfn.1 hx with rfl|q
     exact ha;exact hr.1 x q
   |false=>
     have e:ze0 (a::r) s=0:=zoj (Ad _) (fun k x hk=>absurd hk (Nat.not_lt_zero _)) (zrX h (m:=0) rfl ha);have e2:zev (a::r) s=s::a::r:=by unfold zev;rw [e];rfl
     have hs:Op.bytesLess s a=true:=by
      rcases zb7 s a with q|q|q
      exact q;exact absurd (by rw [q];exact Am) hn;rw [ha] at q;cases q
     rw [e2];refine List.pairwise_cons.2 ⟨fun x hx=> ?_,h⟩
     rcases List.mem_cons.1 hx with rfl|q
     exact hs;exact zdg hs (hr.1 x q)
/-! what holds of a book-/
theorem zrl {α:Type} {p q:Str} (h:q≠p): ∀l:List (Str×α),alk q (zbY p l)=alk q l
 |[]=>rfl
 |x::r=>by
   by_cases e:p=x.1
   have h1:zbY p (x::r)=r:=by rw [zbY,if_pos e]
   have h2:alk q (x::r)=alk q r:=by rw [alk,if_neg (by rw [<-e];exact h)]
   rw [h1,h2];have h1:zbY p (x::r)=x::zbY p r:=by rw [zbY,if_neg e]
   rw [h1]
   show (if q=x.1 then some x.2 else alk q (zbY p r))=(if q=x.1 then some x.2 else alk q r)
   rw [zrl h r]
theorem zrp {α:Type} {p:Str}: ∀{l:List (Str×α)} {x:Str×α},x∈zbY p l->x∈l
 |y::r,x,h=>by
   unfold zbY at h
   by_cases e:p=y.1
   rw [if_pos e] at h;exact Av _ h;rw [if_neg e] at h
   rcases List.mem_cons.1 h with rfl|q
   exact Am;exact Av _ (zrp q)
theorem zom {κ α:Type} [DecidableEq κ] {k:κ} {v:α}: ∀{l:List (κ×α)} {x:κ×α},x∈zv k v l->x=(k,v)\/x∈l
 |[],x,h=> .inl (by simpa [zv] using h)
 |y::r,x,h=>by
   unfold zv at h
   by_cases e:k=y.1
   rw [if_pos e] at h
   rcases List.mem_cons.1 h with rfl|q
   exact .inl rfl;exact .inr (Av _ q);rw [if_neg e] at h
   rcases List.mem_cons.1 h with rfl|q
   exact .inr Am
   rcases zom q with q|q
   exact .inl q;exact .inr (Av _ q)
structure RosOk (n:Nat) (k:RosS):Prop where
 sp: ∀t,SortedS (rPl k t)/\(rPl k t).length<=n/\∀p∈rPl k t,alk p k.O=some t
 sh: ∀t,SortedS (rHu k t)/\(rHu k t).length<=n/\∀p∈rHu k t,alk p k.O=some t
 dj: ∀t p,p∈rPl k t->p∉rHu k t
 ad: ∀w,0<=zaS k w/\zaS k w<=n
 dr: ∀q∈k.D,0<=q.2/\q.2<=345686399999
 ow: ∀q∈k.O,q.2≠[]
theorem zwE:RosOk 0 zop:=⟨fun t=>⟨List.Pairwise.nil,Ae _,fun p h=>(by cases h)⟩,fun t=>⟨List.Pairwise.nil,Ae _,fun p h=>(by cases h)⟩,fun t p h=>(by cases h),fun w=>⟨Int.le_refl _,Int.le_refl _⟩,fun q h=>(by cases h),fun q h=>(by cases h)⟩
theorem RosOk.mono {n m:Nat} {k:RosS} (h:RosOk n k) (hm:n<=m):RosOk m k:=
 ⟨fun t=>⟨(h.sp t).1,by have:=(h.sp t).2.1;omega,(h.sp t).2.2⟩,fun t=>⟨(h.sh t).1,by have:=(h.sh t).2.1;omega,(h.sh t).2.2⟩,h.dj,fun w=>⟨(h.ad w).1,by have:=(h.ad w).2;omega⟩,h.dr,h.ow⟩
theorem zrK {T t:Str} {v:List Str} {P H:List (Str×List Str)} {O:List (Str×Str)} {D:List (Str×Int)} {A:List ((Str×Int)×Int)}:rPl ⟨zv T v P,H,O,D,A⟩ t=if t=T then v else (alk t P).getD []:=by
 unfold rPl;rw [zcI];split<;>rfl
theorem zrJ {T t:Str} {v:List Str} {P H:List (Str×List Str)} {O:List (Str×Str)} {D:List (Str×Int)} {A:List ((Str×Int)×Int)}:rHu ⟨P,zv T v H,O,D,A⟩ t=if t=T then v else (alk t H).getD []:=by
 unfold rHu;rw [zcI];split<;>rfl
theorem RosOk.team {n:Nat} {k:RosS} (h:RosOk n k) {T:Str} {p h':List Str} {O:List (Str×Str)} {D:List (Str×Int)} {A:List ((Str×Int)×Int)}
 (hp:SortedS p/\p.length<=n+1/\∀x∈p,alk x O=some T) (hh:SortedS h'/\h'.length<=n+1/\∀x∈h',alk x O=some T) (hd: ∀x∈p,x∉h')
 (hO: ∀t x,t≠T->alk x k.O=some t->alk x O=some t) (hA: ∀w,0<=(alk w A).getD 0/\(alk w A).getD 0<=n+1) (hD: ∀q∈D,0<=q.2/\q.2<=345686399999) (hw: ∀q∈O,q.2≠[]):
 RosOk (n+1) ⟨zv T p k.P,zv T h' k.H,O,D,A⟩:=by
 refine ⟨fun t=> ?_,fun t=> ?_,fun t x=> ?_,fun w=>by have:=hA w;unfold zaS;simp only at*;omega,hD,hw⟩
 rw [zrK]
 split
 rename_i e;subst e;exact hp
 rename_i e;have:=h.sp t;unfold rPl at this;exact ⟨this.1,by omega,fun x hx=>hO t x e (this.2.2 x hx)⟩
 rw [zrJ]
 split
 rename_i e;subst e;exact hh
 rename_i e;have:=h.sh t;unfold rHu at this;exact ⟨this.1,by omega,fun x hx=>hO t x e (this.2.2 x hx)⟩
 rw [zrK,zrJ]
 split
 exact fun q=>hd x q
 have:=h.dj t x;unfold rPl rHu at this;exact this
theorem zuE {n:Nat} {k:RosS} (h:RosOk n k) {p:Str} (he:zaH k p=[]):alk p k.O=none:=by
 cases hq:alk p k.O with
 |none=>rfl
 |some t=>unfold zaH at he;rw [hq] at he;exact absurd he (h.ow _ (zbl hq))
theorem zuF {k:RosS} {p t:Str} (he:zaH k p=t) (ht:t≠[]):alk p k.O=some t:=by
 unfold zaH at he
 cases hq:alk p k.O with
 |none=>rw [hq] at he;exact absurd he.symm ht
 |some u=>rw [hq] at he;exact congrArg some he
theorem zwA {n:Nat} {b:BoundS} {k:RosS} {x:MoveS} (h:RosOk n k) (ha:0<=x.At/\x.At<=345686399999) (hk:1<=x.Kind/\x.Kind<=4) (hT:x.Team≠[]):RosOk (n+1) (zgn b k x):=by
 have hp:=h.sp x.Team;have hh:=h.sh x.Team;have hd:=h.dj x.Team;have hA: ∀w,0<=(alk w k.A).getD 0/\(alk w k.A).getD 0<=(n:Int)+1:=fun w=>by have:=h.ad w;unfold zaS at this;omega
 unfold zgn
 by_cases hw:zc2 b k x≠0
 rw [if_pos hw];exact h.team ⟨hp.1,by omega,hp.2.2⟩ ⟨hh.1,by omega,hh.2.2⟩ hd (fun _ _ _ e=>e) hA h.dr h.ow;rw [if_neg hw];have h0:zc2 b k x=0:=Decidable.not_not.1 hw
 by_cases k1:x.Kind=1
 rw [if_pos k1];rw [zc2,if_pos k1] at h0;have ho:zaH k x.Player=[]:=by
  by_cases q:zaH k x.Player=x.Team
  rw [if_pos q] at h0;omega;rw [if_neg q] at h0
  by_cases q2:zaH k x.Player≠[]
  rw [if_pos q2] at h0;omega;exact Decidable.not_not.1 q2
 have hn:=zuE h ho;have hne: ∀y t,alk y k.O=some t->y≠x.Player:=fun y t e q=>by rw [q,hn] at e;cases e
 have hO: ∀y t,alk y k.O=some t->alk y (zv x.Player x.Team k.O)=some t:=fun y t e=>by rw [zcI,if_neg (hne y t e)];exact e
 refine h.team ⟨zgz hp.1 fun q=>hne _ _ (hp.2.2 _ q) rfl,by rw [zmG];omega,fun y hy=> ?_⟩ ⟨hh.1,by omega,fun y hy=>hO y _ (hh.2.2 y hy)⟩ (fun y hy q=> ?_) (fun t y _ e=>hO y t e) (fun w=> ?_) h.dr (fun q hq=> ?_)
 rcases zfn.1 hy with rfl|q
 rw [zcI,if_pos rfl];exact hO y _ (hp.2.2 y q)
 rcases zfn.1 hy with rfl|q2
 exact hne _ _ (hh.2.2 _ q) rfl;exact hd y q2 q;rw [zcI]
 split
 have:=h.ad (x.Team,Int.tdiv x.At 604800000);simp only [B5];omega;exact hA w
 rcases zom hq with rfl|q2
 exact hT;exact h.ow q q2;rw [if_neg k1];rw [zc2,if_neg k1] at h0
 by_cases k2:x.Kind=2
 rw [if_pos k2];rw [if_pos k2] at h0;have ho:alk x.Player k.O=some x.Team:=zuF (by
  by_cases q:zaH k x.Player≠x.Team
  rw [if_pos q] at h0;omega;exact Decidable.not_not.1 q) hT
 have hO: ∀y t,y≠x.Player->alk y k.O=some t->alk y (zbY x.Player k.O)=some t:=fun y t e q=>by rw [zrl e];exact q
 refine h.team ⟨zgA hp.1 _,by have:=zkf (rPl k x.Team) x.Player;omega,fun y hy=> ?_⟩ ⟨zgA hh.1 _,by have:=zkf (rHu k x.Team) x.Player;omega,fun y hy=> ?_⟩ (fun y hy q=>hd y (zcm.1 hy).1 (zcm.1 q).1) (fun t y ht e=>hO y t (fun q=> ?_) e) hA (fun q hq=> ?_) (fun q hq=>h.ow q (zrp hq))
 exact hO y _ (zcm.1 hy).2 (hp.2.2 y (zcm.1 hy).1);exact hO y _ (zcm.1 hy).2 (hh.2.2 y (zcm.1 hy).1);rw [q,ho] at e;exact ht (Aw e).symm
 rcases zom hq with rfl|q2
 exact ha;exact h.dr q q2;rw [if_neg k2];rw [if_neg k2] at h0
 by_cases k3:x.Kind=3
 rw [if_pos k3];rw [if_pos k3] at h0;have hc:x.Player∈rPl k x.Team:=by
  by_cases q:(rPl k x.Team).contains x.Player=false
  rw [if_pos q] at h0;omega
  simpa using q
 exact h.team ⟨zgA hp.1 _,by have:=zkf (rPl k x.Team) x.Player;omega,fun y hy=>hp.2.2 y (zcm.1 hy).1⟩ ⟨zgz hh.1 (hd _ hc),by rw [zmG];omega,fun y hy=>by
  rcases zfn.1 hy with rfl|q
  exact hp.2.2 _ hc;exact hh.2.2 y q⟩ (fun y hy q=>by
  rcases zfn.1 q with rfl|q
  exact (zcm.1 hy).2 rfl;exact hd y (zcm.1 hy).1 q) (fun _ _ _ e=>e) hA h.dr h.ow
 rw [if_neg k3];rw [if_neg k3,if_pos (by omega)] at h0;have hc:x.Player∈rHu k x.Team:=by
  by_cases q:(rHu k x.Team).contains x.Player=false
  rw [if_pos q] at h0;omega
  simpa using q
 exact h.team ⟨zgz hp.1 (fun q=>hd _ q hc),by rw [zmG];omega,fun y hy=>by
  rcases zfn.1 hy with rfl|q
  exact hh.2.2 _ hc;exact hp.2.2 y q⟩ ⟨zgA hh.1 _,by have:=zkf (rHu k x.Team) x.Player;omega,fun y hy=>hh.2.2 y (zcm.1 hy).1⟩ (fun y hy q=>by
  rcases zfn.1 hy with rfl|q2
  exact (zcm.1 q).2 rfl;exact hd y q2 (zcm.1 q).1) (fun _ _ _ e=>e) hA h.dr h.ow
theorem zrI {b:BoundS} {m:Int}: ∀{l:List MoveS} {n:Nat} {k:RosS},RosOk n k->(∀x∈l,(0<=x.At/\x.At<=345686399999)/\(1<=x.Kind/\x.Kind<=4)/\x.Team≠[])->RosOk (n+l.length) (zgm b m k l)
 |[],n,k,h,_=>h
 |x::r,n,k,h,hl=>by
   obtain ⟨h1,h2,h3⟩:=hl x Am;unfold zgm;have:RosOk (n+1) (if x.At<=m then zgn b k x else k):=by
    split
    exact zwA h h1 h2 h3;exact h.mono (Br n)
   have:=zrI (b:=b) (m:=m) this (l:=r) fun y hy=>hl y (Av _ hy)
   rw [Ak,show n+(r.length+1)=n+1+r.length by omega];exact this
def zfO (b:BoundS) (k:RosS) (n:Int) (l:List Str):List Str:=l.filter fun s=>decide (zaH k s=[])&& !ziF b k s n
theorem ztA {l:List MoveS} (h:zcw l=0):l.length<=2000/\∀x∈l,(0<=x.At/\x.At<=345686399999)/\(1<=x.Kind/\x.Kind<=4)/\(key x.Team=true/\key x.Player=true):=by
 obtain ⟨h1,h2⟩:=zof h;refine ⟨h1,fun x hx=> ?_⟩
 obtain ⟨i,hi,rfl⟩:=Bh hx;have:=h2 i l[i] (Aa hi)
 generalize l[i]=x at this
 unfold zdt at this
 by_cases q1:zY x.At=false
 rw [if_pos q1] at this;omega;rw [if_neg q1] at this
 by_cases q2:out x.Kind 1 4=true
 rw [if_pos q2] at this;omega;rw [if_neg q2] at this
 by_cases q3:key x.Team=false\/key x.Player=false
 rw [if_pos q3] at this;omega;refine ⟨?_,?_,?_⟩
 simp [zY,out] at q1;omega
 simp [out] at q2;omega
 rw [not_or] at q3;simpa using q3
end
section
open Go
variable {P:Program}
theorem znd [Tracks] {e:Env} {dst:Option Tmp} {ty:TypeId} {pos:String} {af:Array Edge} {g:Option (Nat×Bool)} {M:List MObj} {K:HVal->List MObj->Prop} {t el:TypeId} {size bytes b2:Nat} {zero z2:Value} {d:TD} {x:Operand} {s:Str}
 (hf:Fits P t (.slice el) size bytes zero) (hel:Fits P el d 1 b2 z2) (hz:z2.cells.size=1) (hx:ze e x=some (.str s))
 (hk: ∀ub,K (.raw (.slice (some ⟨ub,0,none⟩) 1 1)) (.obj ub (.cells #[za7 s] el (0,0))::M)):EOp P e M ⟨dst,.buildSlice t 1 #[(0,x)],ty,pos,af,g⟩ K:=
 EOp.of_run fun I F a w ho hs'=>by
  have h1:=(ho.one (x:=x) (by simp [Op.operands]) hx).str_inv;refine ⟨.slice (some ⟨w.heap.size,0,none⟩) 1 1,.raw (.slice (some ⟨w.heap.size,0,none⟩) 1 1),_,push w (.cells #[za7 s] el (0,0)),I,?_,.refl I,hk _,.raw _ rfl,?_⟩
  simp only [execOp,Instr.buildSlice,Sem.run_bind,run_underlying hf.slice,Result.andThen_ok,hel.run_sizeOf];rw [if_neg (by decide)];simp only [Sem.run_pure,Result.andThen_ok];rw [if_neg (by decide)];simp only [Sem.run_bind,hel.run_zero,Result.andThen_ok,Sem.run_pure];obtain ⟨z,hzz⟩: ∃z,z2.cells= #[z]:=by
   rcases hq:z2.cells with ⟨l⟩
   rw [hq] at hz
   match l,hz with
   |[z],_=>exact ⟨z,rfl⟩
  rw [hzz];have hr:Array.range 1= #[0]:=by first|decide|simp [Array.range_succ]
  simp [Instr.fill,h1,newRow,Value.cells,za7,push,hr]
  try rfl
  exact hs'.new_own (.cells #[za7 s] el (0,0)) (.obj w.heap.size (.cells #[za7 s] el (0,0))) rfl (by simp [MSat,push])
abbrev eWk (p:Str×Int):HVal:= .agg [.str p.1,.int .i64 p.2]
abbrev kBk (b:BoundS) (pb hb ob db ab:Nat):List HVal:=[.int .i64 b.Most,.int .i64 b.Hurt,.int .i64 b.Adds,.int .i64 b.Hold,.raw (.map (some pb)),.raw (.map (some hb)),.raw (.map (some ob)),.raw (.map (some db)),.raw (.map (some ab))]
abbrev zcx (kb pb hb ob db ab:Nat) (b:BoundS) (k:RosS):List MObj:=[.cells kb (kBk b pb hb ob db ab),.map pb (sk (em eSs k.P)),.map hb (sk (em eSs k.H)),.map ob (sk (em .str k.O)),.map db (sk (em (.int .i64) k.D)),.map ab (kk eWk (em (.int .i64) k.A))]
end
section
section
variable {P:Program} {e:Env} {dst:Option Tmp} {ty:TypeId} {pos:String} {af:Array Edge} {g:Option (Nat×Bool)} {M:List MObj} {K:HVal->List MObj->Prop}
end
end
section
section
variable {P:Program} {e:Env} {dst:Option Tmp} {ty:TypeId} {pos:String} {af:Array Edge} {g:Option (Nat×Bool)}
end
section
variable {P:Program} {n:Nat} {e e':Env} {M M':List MObj} {Q Q':Exit->Env->List MObj->Prop} {c c':Code}
def zsU {α β γ δ:Type} (e:Env) (ks:List Nat) (W:α->β->γ->δ->List (Nat×HVal)) (MM:α->β->γ->δ->List MObj) (Iv:α->β->γ->δ->Prop) (μ:α->β->γ->δ->Nat) (x:α) (y:β) (u:γ) (v:δ) (Q:Exit->Env->List MObj->Prop):Exit->Env->List MObj->Prop
 | .normal,e',M=> ∃j k l m,Iv j k l m/\μ j k l m<μ x y u v/\zbE e' (W j k l m)/\zeG ks e e'/\M.Perm (MM j k l m)
 |z,e',M=>Q z e' M
theorem zuy {α β γ δ:Type} {e0:Env} {ks:List Nat} {W:α->β->γ->δ->List (Nat×HVal)} {MM:α->β->γ->δ->List MObj} {Iv:α->β->γ->δ->Prop} {μ:α->β->γ->δ->Nat} {x:α} {y:β} {u:γ} {v:δ} {id:Nat} (h:Q (.exit id) e M):
 zsU e0 ks W MM Iv μ x y u v Q (.exit id) e M:=h
theorem ztm [Tracks] {α β γ δ:Type} (ks:List Nat) (W:α->β->γ->δ->List (Nat×HVal)) (MM:α->β->γ->δ->List MObj) (Iv:α->β->γ->δ->Prop) (μ:α->β->γ->δ->Nat) (x:α) (y:β) (u:γ) (v:δ) (h0:Iv x y u v) (hW:zbE e (W x y u v)) (hM:M.Perm (MM x y u v))
 (hb: ∀x y u v,Iv x y u v->HWp P n c (loopE e ks (W x y u v)) (MM x y u v) (zsU e ks W MM Iv μ x y u v Q)):HWp P n (.loop c) e M Q:=by
 refine zgj (ι:=α×β×γ×δ) ks (fun p=>W p.1 p.2.1 p.2.2.1 p.2.2.2) (fun p=>MM p.1 p.2.1 p.2.2.1 p.2.2.2) (fun p=>Iv p.1 p.2.1 p.2.2.1 p.2.2.2) (fun p=>μ p.1 p.2.1 p.2.2.1 p.2.2.2) (x,y,u,v) h0 hW hM fun p hp=>zjA (hb p.1 p.2.1 p.2.2.1 p.2.2.2 hp) ?_
 intro z e1 M1 hq
 cases z with
 |normal=>obtain ⟨j,k,l,m,h⟩:=hq;exact ⟨(j,k,l,m),h⟩
 |_=>exact hq
end
end
section
variable {P:Program}
end
section
open Go
variable {P:Program}
theorem ztr {kt:TypeId} {s1 b1:Nat} {z1:Value} (hf:Fits P kt .str s1 b1 z1):KeyOk P kt HVal.str:=by
 haveI:Tracks:=⟨true⟩
 have hk: ∀x y:Str,zdQ .str (.str x) (.str y)=true:=fun x y=>rfl
 refine ⟨fun I x v b w hv=>zh9 hf (hk x x) hv b 9999 w,fun I x y u v w hu hv=> ?_,fun I x v es w hv hes=> ?_,fun I x u v hu hv=> ?_⟩
 have:=zfo hf (hk x y) hu hv 9999 w
 show (Op.equalIn (9999+1) kt u v).run P w=_
 rw [this]
 show Result.ok (x==y) w=_
 congr 1
 rw [AK];simp;obtain rfl:=hv.str_inv;have key: ∀(es:List MapEntry) (i:Nat),(∀m∈es,∃y,V I (.str y) m.key)->∃r,Instr.findNow .string (.string ⟨x.toArray⟩) es i=some r/\(Instr.findAsking kt (.string ⟨x.toArray⟩) es i).run P w= .ok r w:=by
  intro es
  induction es with
  |nil=>intro i _;exact ⟨none,rfl,by simp [Instr.findAsking]⟩
  |cons m es ih=>
    intro i h
    obtain ⟨y,hy⟩:=h m Am;have hq:=zfo hf (hk x y) (V.str x) hy 9999 w;have hq':(Op.equal kt (.string ⟨x.toArray⟩) m.key).run P w= .ok (x==y) w:=hq;have hy':=hy.str_inv;have hb:((⟨x.toArray⟩:ByteArray)==⟨y.toArray⟩)=(x==y):=by rw [zgF,AK];simp
    by_cases e:x=y
    have e1:(x==y)=true:=by simpa using e
    refine ⟨some (i,m.val),?_,?_⟩
    simp only [Instr.findNow,Instr.sameNow,hy',hb,e1];simp only [Instr.findAsking,Sem.run_bind,hq',Result.andThen_ok,e1]
    simp
    obtain ⟨r,r1,r2⟩:=ih (i+1) fun m' hm'=>h m' (Av _ hm')
    have:(x==y)=false:=by simpa using e
    refine ⟨r,?_,?_⟩
    simp only [Instr.findNow,Instr.sameNow,hy',hb,this];exact r1;simp only [Instr.findAsking,Sem.run_bind,hq',Result.andThen_ok,this];exact r2
 obtain ⟨r,r1,r2⟩:=key es 0 hes;simp only [Instr.findKey,Sem.run_bind,run_underlying hf.strD,Result.andThen_ok,r1,Sem.run_pure,r2];obtain rfl:=hu.str_inv;obtain rfl:=hv.str_inv
 show Instr.sameBits (9999+1) _ _=true
 simp only [Instr.sameBits];rw [zgF];simp
section
variable {α:Type} {e:Env} {dst:Option Tmp} {ty:TypeId} {pos:String} {af:Array Edge} {g:Option (Nat×Bool)} {M:List MObj} {K:HVal->List MObj->Prop}
theorem zrS [Tracks] {o:Oper} {K K':HVal->List MObj->Prop} (hk: ∀h M',K h M'->∃h2,Weak h h2/\K' h2 M') (h:EOp P e M o K):EOp P e M o K':=
 fun I F a w ho hs=>zaZ (fun _ _ ⟨v,x,M',J,h1,h2,h3,h4,h5⟩=>by
  obtain ⟨y,g1,g2⟩:=hk _ _ h3;exact ⟨v,y,M',J,h1,h2,g2,g1 _ _ h4,h5⟩) (h I F a w ho hs)
theorem zgy [Tracks] {x y:Operand} {t kt et:TypeId} {size bytes s2 b2 s3 b3:Nat} {zero z2 z3:Value} {d:TD} {i b:Nat} {f:α->HVal} {L:List (Str×α)} {s:Str} {z0:α}
 (hf:Fits P t (.map kt et) size bytes zero) (hkt:Fits P kt .str s2 b2 z2) (het:Fits P et d s3 b3 z3) (hx:ze e x=some (.raw (.map (some b)))) (hy:ze e y=some (.str s)) (hm:M[i]? =some (.map b (sk (em f L)))) (hz:Weak (zap z3) (f z0))
 (hk:K (f ((alk s L).getD z0)) M):EOp P e M ⟨dst,.lookup t x y false,ty,pos,af,g⟩ K:=by
 refine zrS (K:=fun h M'=>Weak h (f ((alk s L).getD z0))/\M'=M) (fun h M' ⟨h1,h2⟩=>⟨_,h1,by rw [h2];exact hk⟩) ?_;refine znf hf hkt het hx hy hm ?_;have h1:=zkn f s L
 cases h:zQ s (em f L) with
 |none=>
   rw [h] at h1;have:alk s L=none:=by cases q:alk s L with|none=>rfl|some _=>rw [q] at h1;cases h1
   rw [this];exact ⟨hz,rfl⟩
 |some p=>
   rw [h] at h1;obtain ⟨q,hq,hp⟩: ∃q,alk s L=some q/\p.2=f q:=by
    cases q:alk s L with
    |none=>rw [q] at h1;cases h1
    |some r=>rw [q] at h1;exact ⟨r,rfl,Aw h1⟩
   rw [hq];refine ⟨?_,rfl⟩
   show Weak p.2 (f q)
   rw [hp];exact Weak.refl _
theorem zkB [Tracks] {x y:Operand} {t kt et:TypeId} {size bytes s2 b2 s3 b3:Nat} {zero z2 z3:Value} {d:TD} {i b:Nat} {f:α->HVal} {L:List (Str×α)} {s:Str}
 (hf:Fits P t (.map kt et) size bytes zero) (hkt:Fits P kt .str s2 b2 z2) (het:Fits P et d s3 b3 z3) (hx:ze e x=some (.raw (.map (some b)))) (hy:ze e y=some (.str s)) (hm:M[i]? =some (.map b (sk (em f L))))
 (hk: ∀(j st:Nat),za8 s (zcl s (zap z3) (em f L))=some j->K (.tup [(klk s (em f L)).getD (zap z3),.int .i64 (st:Int)]) (M.set i (.mape b (kk HVal.str (zcl s (zap z3) (em f L))) j st))):EOp P e M ⟨dst,.mapEntry t x y,ty,pos,af,g⟩ K:=
 zlj (ek:=HVal.str) hf (ztr hkt) het hx hy hm hk
theorem ziv [Tracks] {x y z:Operand} {t:TypeId} {i b j st:Nat} {f:α->HVal} {L:List (Str×α)} {s:Str} {h0:HVal} {v:α}
 (hx:ze e x=some (.raw (.map (some b)))) (hy:ze e y=some (.int .i64 (st:Int))) (hz:ze e z=some (f v)) (hm:M[i]? =some (.mape b (kk HVal.str (zcl s h0 (em f L))) j st)) (hj:za8 s (zcl s h0 (em f L))=some j)
 (hk:K .junk (M.set i (.map b (sk (em f (zv s v L)))))):EOp P e M ⟨dst,.entryStore t x y z,ty,pos,af,g⟩ K:=by
 refine zjx (ek:=HVal.str) hx hy hz hm hj ?_;rw [zoR,zlT];exact hk
end
end
end Go.HL
namespace Go.Proofs
section
open Go.Shelf
def Tryz.lays222_ren:Go.Shelf.Ren:=⟨fun|22=>233|29=>272|30=>273|36=>302|17=>123|n=>n,fun|24=>33|9=>9|3=>3|4=>4|0=>0|n=>n,fun|n=>n⟩
theorem zp1:Go.Proofs.Lays2.n22 Tryz.prog Tryz.lays222_ren:={
 mixed:=by kernel_rfl
 f17:=Tryz.func123.trans (congrArg some (by kernel_rfl))
 f22:=Tryz.func233.trans (congrArg some (by kernel_rfl))
 f29:=Tryz.func272.trans (congrArg some (by kernel_rfl))
 f30:=Tryz.func273.trans (congrArg some (by kernel_rfl))
 f36:=Tryz.func302.trans (congrArg some (by kernel_rfl))
 t0:=Tryz.underlying0
 a0:=Tryz.isAgg0
 z0:=Tryz.sizeOf0
 v0:=Tryz.zeroValue0
 t3:=Tryz.underlying3
 a3:=Tryz.isAgg3
 z3:=Tryz.sizeOf3
 v3:=Tryz.zeroValue3
 t4:=Tryz.underlying4
 a4:=Tryz.isAgg4
 z4:=Tryz.sizeOf4
 v4:=Tryz.zeroValue4
 t9:=Tryz.underlying9
 a9:=Tryz.isAgg9
 z9:=Tryz.sizeOf9
 v9:=Tryz.zeroValue9
 t24:=Tryz.underlying33
 a24:=Tryz.isAgg33
 z24:=Tryz.sizeOf33
 v24:=Tryz.zeroValue33
 i9:=by kernel_rfl}
end
end Go.Proofs
namespace Go.Proofs.YtaihpegdcgdcgaaGreatDoor
set_option maxRecDepth 100000
set_option linter.unusedVariables false
set_option linter.unusedSimpArgs false
section
open Go.Proofs.Tryz
open Go.HL
theorem zcS [Tracks] {l:List Str} {fid:FuncId} {caps:List HVal} {p:Str->Bool} (hca:Callable prog fid) (hp: ∀x,ConP prog fid ([HVal.str x]++caps) (.bool (p x))) (hl:l.length<=1000000):ConP prog 112 [.slice 1 (l.map HVal.str),.fn (.func fid) [] caps] (.int .i64 (zaf p l 0)):=by
 refine uOb func112 ntmps112 ?_;refine zat ?_;refine uT1 [4,2,8,11] (fun k=>[(8,.int .i64 k)]) (fun k=>[]) (fun k=>k<=l.length/\(zaf p l 0=zaf p (l.drop k) k)) (fun k=>l.length-k) (0) ?_ ?_;exact ⟨Ad _,rfl⟩;rintro k ⟨hk,hg⟩;refine gz4 ?_;refine uCo (fun h1=> ?_) fun h2=> ?_
 obtain ⟨x,hx⟩: ∃x,l[k]? =some x:=⟨_,Aa h1⟩
 have hdx:=zg hx;rw [hdx] at hg;refine zdN ?_;refine dq (zan hca rfl rfl (WeakL.refl _) (hp _)) ?_;refine gz1 ?_;refine uCo (fun h3=> ?_) fun h4=> ?_
 refine gz5 ?_;refine uRp ?_
 (rw [hg];simp_all [zaf])
 refine gz7 ?_;refine ⟨k+1,?_,?_,⟨rfl,trivial⟩,uK,Ac _⟩
 refine ⟨by omega,?_⟩
 rw [hg,zaf,if_neg uSa];rfl
 dsimp only;omega
 have hnk:l.length<=k:=by omega
 obtain rfl:k=l.length:=by omega
 rw [zD (Ae _)] at hg;refine gz2 ?_;refine zn ?_;refine gz6 ?_;refine uRp ?_
 (rw [hg];rfl)
theorem zeK [Tracks] {l:List Str} {fid:FuncId} {caps:List HVal} {p:Str->Bool} (hca:Callable prog fid) (hp: ∀x,ConP prog fid ([HVal.str x]++caps) (.bool (p x))) (hl:l.length<=1000000):ConP prog 45 [.slice 1 (l.map HVal.str),.fn (.func fid) [] caps] (.bool (l.any p)):=by
 refine uOb func45 ntmps45 ?_;refine gz6 ?_;refine dq (uCl zr3 rfl (zcS hca hp hl)) ?_;refine gz4 ?_;refine zB rfl ?_
 congr 1;exact zcH p l 0 uO
theorem za0 [Tracks] {l:List Str} {fid:FuncId} {caps:List HVal} {p:Str->Bool} {v:Value} (hca:Callable prog fid) (hp: ∀x,ConP prog fid ([HVal.str x]++caps) (.bool (p x))) (hl:l.length<=1000000):Con prog 234 [.raw v,.fn (.func fid) [] caps] [.arr v 1 (l.map HVal.str)] (fun x M'=> ∃u,x= .raw u/\M'=[.arr u 1 ((l.filter (fun x=> !p x)).map HVal.str)]):=by
 refine uOb func234 ntmps234 ?_;refine gz6 ?_;refine de rfl (zlh (hs':=[.slice 1 (l.map HVal.str),.fn (.func fid) [] caps]) zr3 rfl ⟨.arr (i:=0) rfl,.weak (Weak.refl _),trivial⟩ (zcS (p:=p) hca hp hl) rfl ?_)
 refine gz7 ?_;refine uCo (fun h1=> ?_) fun h2=> ?_
 ·refine gz5 ?_
  (refine zW rfl ⟨_,rfl,?_⟩
   rw [ziw p l 0 uO h1]
   done)
 ·refine gz3 ?_;obtain ⟨i0,hi0,hil,⟨x0,hx0,hp0⟩,hb0⟩:=zhl p l 0 uO h2;rw [Int.zero_add] at hi0;obtain ⟨hD0,hn0⟩:=DelInv.start (p:=p) hil hx0 hp0 hb0;refine zcJ (i:=0) rfl (fun h0 he=> ?_) (fun b off cap hv hcap=> ?_)
  ·exfalso;have:=congrArg List.length he;simp at this;subst this;simp at hil
  rw [Ah] at hv hcap;subst hv;refine gz2 ?_;refine dq (zau (zbb rfl rfl (by rw [hi0];omega) (by rw [hi0];omega)) (congrArg _ (by rw [hi0]))) ?_;refine gz3 ?_;refine uV2 [5,3,16,20] (fun (j:Nat) (D:List Str)=>[(6,.int .i64 (j:Int)),(5,.int .i64 (((l.take j).filter (fun x=> !p x)).length:Int))]) (fun (j:Nat) (D:List Str)=>[.arr (.slice (some ⟨b,off,none⟩) l.length cap) 1 (D.map HVal.str)]) (fun (j:Nat) (D:List Str)=>DelInv p l j D) (fun (j:Nat) (D:List Str)=>l.length-j) (i0+1) (l) ?_ ?_ ?_ ?_
  ·exact hD0
  ·exact ⟨rfl,zL (by rw [hn0,hi0]),trivial⟩
  ·exact Ac _
  ·intro j D hD
   have hlt0:=hD.lt;have hle0:=hD.len;refine gz4 ?_;refine de rfl (za2 (i:=0) zj rfl rfl ?_)
   refine gz2 ?_;refine uCo (fun h3=> ?_) fun h4=> ?_
   ·obtain ⟨x,hx⟩: ∃x,l[j]? =some x:=⟨_,Aa uO⟩
    refine gz7 ?_;refine dq (zt (j:=j) zj ty9 rfl rfl rfl uO) ?_;refine de rfl (zak (i:=0) (j:=j) 0 ty9 rfl rfl rfl (hD.get hx) rfl rfl ?_)
    refine gz5 ?_;refine dq (zan hca rfl rfl (WeakL.refl _) (hp _)) ?_;refine gz2 ?_;refine uCo (fun h5=> ?_) fun h6=> ?_
    ·refine gz4 ?_;refine dq (zt (j:=((l.take j).filter (fun x=> !p x)).length) zj ty9 rfl rfl rfl (by have:=hD.lt;omega)) ?_;refine de0 (zaP (i:=0) (j:=((l.take j).filter (fun x=> !p x)).length) (y:=D[((l.take j).filter (fun x=> !p x)).length]'(by have:=hD.lt;have:=hD.len;omega)) (y':=x) ty9 rfl rfl rfl rfl (Aa _) rfl rfl rfl ?_)
     refine gz3 ?_;refine dq (zbb rfl rfl uO (by have:=hD.lt;omega)) ?_;refine gz9 ?_;exact ⟨j+1,_,(hD.keep hx uSa).1,uD,⟨rfl,zL (by rw [(hD.keep hx uSa).2];rfl),trivial⟩,uK,Ac _⟩
    ·refine gz8 ?_;exact ⟨j+1,_,(hD.skip hx uSa).1,uD,⟨rfl,zL (by rw [(hD.skip hx uSa).2]),trivial⟩,uK,Ac _⟩
   ·obtain rfl:j=l.length:=by have:=hD.jle;omega
    have hend:=hD.done;refine gz2 ?_;refine zJ ?_;refine gz5 ?_;refine dq (zeB (l:=((l.take l.length).filter (fun x=> !p x)).length) zj ty9 rfl ⟨_,_,rfl,rfl⟩ rfl uO uO hcap) ?_;refine de0 (zes (i:=0) (m:=((l.take l.length).filter (fun x=> !p x)).length) (((l.take l.length).filter (fun x=> !p x)).length) zj ty9 rfl rfl rfl (zia uO hcap) rfl uO (Ae _) (by rw [Ah,hD.len];omega) ?_)
    refine gz4 ?_;refine dq (zfZ (h:=((l.take l.length).filter (fun x=> !p x)).length) zj ty9 rfl ⟨_,_,rfl,rfl⟩ uO) ?_;refine gz3 ?_
    (refine zW rfl ⟨_,rfl,?_⟩
     rw [Ap,<-BO,hend];rfl)
theorem zpM [Tracks]:KeyOk prog 243 eWk:=zfS (cs:=fun x:Str×Int=>zb (eWk x)) zsO zyQ (fun x y=>⟨rfl,⟨_,_,_,_,ty9,rfl⟩,⟨rfl,⟨_,_,_,_,ty3,rfl⟩,trivial⟩⟩)
 (fun x y=>by obtain ⟨a,b⟩:=x;obtain ⟨c,d⟩:=y;show (_&&(_&&true))=_;rw [AK];simp [eqH,Prod.mk.injEq]) (fun x=>rfl)
theorem zm3 [Tracks] {v:Value} {l:List Str} {s:Str} {i ub:Nat} {el2:TypeId} (hi:i<=l.length) (hl:l.length<=1000000):
 Con prog 233 [.raw v,.int .i64 i,.raw (.slice (some ⟨ub,0,none⟩) 1 1)] [.arr v 1 (l.map .str),.obj ub (.cells #[za7 s] el2 (0,0))]
  fun x M'=> ∃v',x= .raw v'/\M'=[.arr v' 1 ((zed l i s).map .str),.obj ub (.cells #[za7 s] el2 (0,0))]:=zsh zp1 hi hl
theorem zwz [Tracks] (l:List Str) (s:Str):ze0 l s<=l.length:=List.countP_le_length
theorem zd9 [Tracks] {x s:Str}:ConP prog 235 [.str x,.vptr [.str s] 0] (.bool (x==s)):=by
 refine uOb func235 ntmps235 ?_;refine zat ?_;refine zB rfl ?_
 rfl
theorem zfc [Tracks] {l:List Str} {s:Str} (hl:l.length<=1000000):ConP prog 179 [eSs l,.str s] (eSs (zgk l s)):=by
 refine uOb func179 ntmps179 ?_;refine gz6 ?_;refine de rfl (uCa zmz rfl (zar uS) fun v6=> ?_)
 refine gz1 ?_
 focus first
 |refine de rfl (uCx 0 zpC rfl rfl (za0 (l:=l) (p:=fun x=>x==s) zpD (fun _=>zd9) hl) ?_)
 |refine de rfl (uCx 1 zpC rfl rfl (za0 (l:=l) (p:=fun x=>x==s) zpD (fun _=>zd9) hl) ?_)
 |refine de rfl (uCx 2 zpC rfl rfl (za0 (l:=l) (p:=fun x=>x==s) zpD (fun _=>zd9) hl) ?_)
 |refine de rfl (uCx 3 zpC rfl rfl (za0 (l:=l) (p:=fun x=>x==s) zpD (fun _=>zd9) hl) ?_)
 rintro _ _ ⟨u8,rfl,rfl⟩;refine gz3 ?_;refine zaa (zkP 4 rfl) rfl ⟨?_,rfl⟩
 rfl
theorem zhR [Tracks] {l:List Str} {s:Str} (hl:l.length<=1000000) (hs:SortedS l):ConP prog 178 [eSs l,.str s] (eSs (zev l s)):=by
 refine uOb func178 ntmps178 ?_;refine gz6 ?_;refine dq (uCl zyE rfl (zeJ uS uS)) ?_;refine gz8 ?_;refine de rfl (uCa zmz rfl (zar uS) fun v14=> ?_)
 refine gz2 ?_;refine de rfl (znd zj ty9 rfl rfl fun ub=> ?_)
 refine de rfl (zaR (M1:=[.arr v14 1 (l.map .str),.obj ub (.cells #[za7 s] _ (0,0))]) (R:=[]) zyF rfl (WeakL.refl _) (List.Perm.swap _ _ _) (zm3 (i:=ze0 l s) (zwz l s) hl) ?_)
 rintro _ _ ⟨v18,rfl,rfl⟩;refine gz3 ?_;refine zaa ((zaC 4 (i:=0) rfl rfl).trans Ghost.clear) rfl ⟨?_,rfl⟩
 rfl
theorem zgM [Tracks] {kb pb hb ob db ab:Nat} {b:BoundS} {k:RosS} {p:Str} {n:Int} (hn:0<=n/\n<=345686399999) (hD: ∀q∈k.D,0<=q.2/\q.2<=345686399999):Con prog 48 [.raw (.pointer (some ⟨kb,0,none⟩)),.str p,.int .i64 n] (zcx kb pb hb ob db ab b k) (fun x M'=>x= .bool (ziF b k p n)/\M'=(zcx kb pb hb ob db ab b k)):=by
 have hq0:0<=(alk p k.D).getD 0/\(alk p k.D).getD 0<=345686399999:=by
  cases hq:alk p k.D with
  |none=>simp
  |some d=>exact hD (p,d) (zbl hq)
 refine uOb func48 ntmps48 ?_;refine gz5 ?_;refine dq ((by first|exact z8 rfl|exact zK rfl)) ?_;refine gz1 ?_;refine de rfl (uZ 0 ?_)
 refine gz1 ?_;refine de rfl (zhX (i:=4) (f:=HVal.int .i64) (z0:=(0:Int)) ze4 ty9 ty3 rfl rfl rfl rfl ?_)
 refine zeZ ?_;refine uGr rfl (fun hc=>(by first|exact z8 rfl|exact zK rfl)) ?_;refine gz2 ?_;refine dgl rfl rfl (fun hc=>⟨_,OpenTo.upd (t:=26) rfl uC (OpenTo.refl _),zab (i:=0) ty3 rfl rfl (.inl ⟨rfl,rfl⟩) ⟨rfl,rfl⟩⟩) ?_;refine gz5 ?_;refine zW rfl ⟨?_,rfl⟩
 show HVal.bool _=_
 unfold ziF
 cases alk p k.D with
 |none=>rfl
 |some d=>simp
theorem zma [Tracks] {kb pb hb ob db ab:Nat} {b:BoundS} {k:RosS} {x:MoveS} (hx:0<=x.At/\x.At<=345686399999) (hD: ∀q∈k.D,0<=q.2/\q.2<=345686399999) (hP: ∀t,(rPl k t).length<=1000000) (hH: ∀t,(rHu k t).length<=1000000):Con prog 177 [.raw (.pointer (some ⟨kb,0,none⟩)),zci x] (zcx kb pb hb ob db ab b k) (fun x1 M'=>x1= .int .i64 (zc2 b k x)/\M'=(zcx kb pb hb ob db ab b k)):=by
 refine uOb func177 ntmps177 ?_;refine gz4 ?_;refine zbw (fun M=>M=(zcx kb pb hb ob db ab b k)) [3,6,10,13,17,20] mixed ?_;refine gz1 ?_;refine uB 1 rfl ((by first|exact z8 rfl|exact zK rfl)) ?_;refine gz1 ?_;refine uM 3 rfl rfl (fun M hM=>by subst hM;exact zab (i:=0) zha rfl rfl (.inl ⟨rfl,rfl⟩) ⟨rfl,rfl⟩) ?_;refine uB 4 rfl ((by first|exact zx zu rfl ty9 (by decide) rfl|exact zk zu rfl ty9 (by decide) rfl)) ?_;refine gz1 ?_;refine uM 6 rfl rfl (fun M hM=>by subst hM;exact zcE (i:=3) (f:=HVal.str) (z0:=([]:Str)) zha ty9 ty9 rfl rfl rfl rfl ⟨rfl,rfl⟩) ?_;refine gz1 ?_;refine uB 8 rfl ((by first|exact z8 rfl|exact zK rfl)) ?_;refine gz1 ?_;refine uM 10 rfl rfl (fun M hM=>by subst hM;exact zab (i:=0) zfs rfl rfl (.inl ⟨rfl,rfl⟩) ⟨rfl,rfl⟩) ?_;refine uB 11 rfl ((by first|exact zx zu rfl ty9 (by decide) rfl|exact zk zu rfl ty9 (by decide) rfl)) ?_;refine gz1 ?_;refine uM 13 rfl rfl (fun M hM=>by subst hM;exact zgy (i:=1) (f:=eSs) (z0:=([]:List Str)) zfs ty9 zj rfl rfl rfl (zZ 1) ⟨rfl,rfl⟩) ?_;refine gz1 ?_;refine uB 15 rfl ((by first|exact z8 rfl|exact zK rfl)) ?_;refine gz1 ?_;refine uM 17 rfl rfl (fun M hM=>by subst hM;exact zab (i:=0) zfs rfl rfl (.inl ⟨rfl,rfl⟩) ⟨rfl,rfl⟩) ?_;refine uB 18 rfl ((by first|exact zx zu rfl ty9 (by decide) rfl|exact zk zu rfl ty9 (by decide) rfl)) ?_;refine gz1 ?_;refine uM 20 rfl rfl (fun M hM=>by subst hM;exact zgy (i:=2) (f:=eSs) (z0:=([]:List Str)) zfs ty9 zj rfl rfl rfl (zZ 1) ⟨rfl,rfl⟩) ?_;refine gz6 ?_;refine dq ((by first|exact zx zu rfl ty3 (by decide) rfl|exact zk zu rfl ty3 (by decide) rfl)) ?_;refine gz7 ?_;refine uCo (fun h1=> ?_) fun h2=> ?_
 refine gz3 ?_;refine dq ((by first|exact zx zu rfl ty9 (by decide) rfl|exact zk zu rfl ty9 (by decide) rfl)) ?_;refine gz4 ?_;refine uCo (fun h3=> ?_) fun h4=> ?_
 refine gz4 ?_;refine zW rfl ⟨?_,rfl⟩
 show HVal.int .i64 _=_
 refine congrArg _ ?_;unfold zc2
 focus first
 |(simp_all [zaH,zaS,rPl,rHu];done)
 |(simp_all [zaH,zaS,rPl,rHu];(repeat' split)<;>first|rfl|(exfalso;omega)|omega)
 refine gz5 ?_;refine uCo (fun h5=> ?_) fun h6=> ?_
 refine gz4 ?_;refine zW rfl ⟨?_,rfl⟩
 show HVal.int .i64 _=_
 refine congrArg _ ?_;unfold zc2
 focus first
 |(simp_all [zaH,zaS,rPl,rHu];done)
 |(simp_all [zaH,zaS,rPl,rHu];(repeat' split)<;>first|rfl|(exfalso;omega)|omega)
 refine gz2 ?_;refine dq ((by first|exact zx zu rfl ty9 (by decide) rfl|exact zk zu rfl ty9 (by decide) rfl)) ?_;refine gz1 ?_;refine dq ((by first|exact zx zu rfl ty3 (by decide) rfl|exact zk zu rfl ty3 (by decide) rfl)) ?_;refine gz1 ?_;refine de rfl (zaR (M1:=(zcx kb pb hb ob db ab b k)) (R:=[]) ca48 rfl (WeakL.refl _) (by rw [A7]) (zgM hx hD) ?_)
 rintro _ _ ⟨rfl,rfl⟩;refine gz2 ?_;refine uCo (fun h7=> ?_) fun h8=> ?_
 refine gz4 ?_;refine zW rfl ⟨?_,rfl⟩
 show HVal.int .i64 _=_
 refine congrArg _ ?_;unfold zc2
 focus first
 |(simp_all [zaH,zaS,rPl,rHu];done)
 |(simp_all [zaH,zaS,rPl,rHu];(repeat' split)<;>first|rfl|(exfalso;omega)|omega)
 refine zbw (fun M=>M=(zcx kb pb hb ob db ab b k)) [3,10,15] mixed ?_;refine gz1 ?_;refine uB 1 rfl ((by first|exact z8 rfl|exact zK rfl)) ?_;refine gz1 ?_;refine uM 3 rfl rfl (fun M hM=>by subst hM;exact zab (i:=0) zku rfl rfl (.inl ⟨rfl,rfl⟩) ⟨rfl,rfl⟩) ?_;refine uB 4 rfl ((by first|exact zx zu rfl ty9 (by decide) rfl|exact zk zu rfl ty9 (by decide) rfl)) ?_;refine gz1 ?_;refine uB 6 rfl ((by first|exact zx zu rfl ty3 (by decide) rfl|exact zk zu rfl ty3 (by decide) rfl)) ?_;refine gz1 ?_;refine uB 8 rfl (zfC rfl rfl uO uO uO) ?_;refine uB 9 rfl (zH (cs:=[_,_]) zsO zvI rfl) ?_;refine uM 10 rfl rfl (fun M hM=>by subst hM;exact zet (i:=5) (s:=(x.Team,Int.tdiv x.At 604800000)) (f:=HVal.int .i64) (z0:=(0:Int)) zku zpM ty3 rfl rfl rfl rfl ⟨rfl,rfl⟩) ?_;refine gz1 ?_;refine uB 12 rfl ((by first|exact z8 rfl|exact zK rfl)) ?_;refine gz2 ?_;refine uM 15 rfl rfl (fun M hM=>by subst hM;exact zab (i:=0) ty3 rfl rfl (.inl ⟨rfl,rfl⟩) ⟨rfl,rfl⟩) ?_;refine gz3 ?_;refine uCo (fun h9=> ?_) fun h10=> ?_
 refine gz4 ?_;refine zW rfl ⟨?_,rfl⟩
 show HVal.int .i64 _=_
 refine congrArg _ ?_;unfold zc2
 focus first
 |(simp_all [zaH,zaS,rPl,rHu];done)
 |(simp_all [zaH,zaS,rPl,rHu];(repeat' split)<;>first|rfl|(exfalso;omega)|omega)
 refine gz2 ?_;refine dq (zax (f:=HVal.str) (l:=rPl k x.Team) zj rfl) ?_;refine gz1 ?_;refine dq ((by first|exact z8 rfl|exact zK rfl)) ?_;refine gz2 ?_;refine de rfl (uZ 0 ?_)
 refine gz3 ?_;refine uCo (fun h11=> ?_) fun h12=> ?_
 refine gz4 ?_;refine zW rfl ⟨?_,rfl⟩
 show HVal.int .i64 _=_
 refine congrArg _ ?_;unfold zc2
 focus first
 |(simp_all [zaH,zaS,rPl,rHu];done)
 |(simp_all [zaH,zaS,rPl,rHu];(repeat' split)<;>first|rfl|(exfalso;omega)|omega)
 refine gz8 ?_;refine zW rfl ⟨?_,rfl⟩
 show HVal.int .i64 _=_
 refine congrArg _ ?_;unfold zc2
 focus first
 |(simp_all [zaH,zaS,rPl,rHu];done)
 |(simp_all [zaH,zaS,rPl,rHu];(repeat' split)<;>first|rfl|(exfalso;omega)|omega)
 refine gz4 ?_;refine uCo (fun h13=> ?_) fun h14=> ?_
 refine gz2 ?_;refine dq ((by first|exact zx zu rfl ty9 (by decide) rfl|exact zk zu rfl ty9 (by decide) rfl)) ?_;refine gz3 ?_;refine uCo (fun h15=> ?_) fun h16=> ?_
 refine gz4 ?_;refine zW rfl ⟨?_,rfl⟩
 show HVal.int .i64 _=_
 refine congrArg _ ?_;unfold zc2
 focus first
 |(simp_all [zaH,zaS,rPl,rHu];done)
 |(simp_all [zaH,zaS,rPl,rHu];(repeat' split)<;>first|rfl|(exfalso;omega)|omega)
 refine gz7 ?_;refine zW rfl ⟨?_,rfl⟩
 show HVal.int .i64 _=_
 refine congrArg _ ?_;unfold zc2
 focus first
 |(simp_all [zaH,zaS,rPl,rHu];done)
 |(simp_all [zaH,zaS,rPl,rHu];(repeat' split)<;>first|rfl|(exfalso;omega)|omega)
 refine gz4 ?_;refine uCo (fun h17=> ?_) fun h18=> ?_
 refine gz3 ?_;refine dq ((by first|exact zx zu rfl ty9 (by decide) rfl|exact zk zu rfl ty9 (by decide) rfl)) ?_;refine gz1 ?_;refine dq (uCl zeL rfl (zF (l:=rPl k x.Team) (by have:=hP x.Team;omega))) ?_;refine gz3 ?_;refine uCo (fun h19=> ?_) fun h20=> ?_
 refine gz4 ?_;refine zW rfl ⟨?_,rfl⟩
 show HVal.int .i64 _=_
 refine congrArg _ ?_;unfold zc2
 focus first
 |(simp_all [zaH,zaS,rPl,rHu];done)
 |(simp_all [zaH,zaS,rPl,rHu];(repeat' split)<;>first|rfl|(exfalso;omega)|omega)
 refine gz2 ?_;refine dq (zax (f:=HVal.str) (l:=rHu k x.Team) zj rfl) ?_;refine gz1 ?_;refine dq ((by first|exact z8 rfl|exact zK rfl)) ?_;refine gz2 ?_;refine de rfl (uZ 0 ?_)
 refine gz3 ?_;refine uCo (fun h21=> ?_) fun h22=> ?_
 refine gz4 ?_;refine zW rfl ⟨?_,rfl⟩
 show HVal.int .i64 _=_
 refine congrArg _ ?_;unfold zc2
 focus first
 |(simp_all [zaH,zaS,rPl,rHu];done)
 |(simp_all [zaH,zaS,rPl,rHu];(repeat' split)<;>first|rfl|(exfalso;omega)|omega)
 refine gz8 ?_;refine zW rfl ⟨?_,rfl⟩
 show HVal.int .i64 _=_
 refine congrArg _ ?_;unfold zc2
 focus first
 |(simp_all [zaH,zaS,rPl,rHu];done)
 |(simp_all [zaH,zaS,rPl,rHu];(repeat' split)<;>first|rfl|(exfalso;omega)|omega)
 refine gz4 ?_;refine uCo (fun h23=> ?_) fun h24=> ?_
 refine gz3 ?_;refine dq ((by first|exact zx zu rfl ty9 (by decide) rfl|exact zk zu rfl ty9 (by decide) rfl)) ?_;refine gz1 ?_;refine dq (uCl zeL rfl (zF (l:=rHu k x.Team) (by have:=hH x.Team;omega))) ?_;refine gz3 ?_;refine uCo (fun h25=> ?_) fun h26=> ?_
 refine gz4 ?_;refine zW rfl ⟨?_,rfl⟩
 show HVal.int .i64 _=_
 refine congrArg _ ?_;unfold zc2
 focus first
 |(simp_all [zaH,zaS,rPl,rHu];done)
 |(simp_all [zaH,zaS,rPl,rHu];(repeat' split)<;>first|rfl|(exfalso;omega)|omega)
 refine gz2 ?_;refine dq (zax (f:=HVal.str) (l:=rPl k x.Team) zj rfl) ?_;refine gz1 ?_;refine dq ((by first|exact z8 rfl|exact zK rfl)) ?_;refine gz2 ?_;refine de rfl (uZ 0 ?_)
 refine gz3 ?_;refine uCo (fun h27=> ?_) fun h28=> ?_
 refine gz4 ?_;refine zW rfl ⟨?_,rfl⟩
 show HVal.int .i64 _=_
 refine congrArg _ ?_;unfold zc2
 focus first
 |(simp_all [zaH,zaS,rPl,rHu];done)
 |(simp_all [zaH,zaS,rPl,rHu];(repeat' split)<;>first|rfl|(exfalso;omega)|omega)
 refine gz8 ?_;refine zW rfl ⟨?_,rfl⟩
 show HVal.int .i64 _=_
 refine congrArg _ ?_;unfold zc2
 focus first
 |(simp_all [zaH,zaS,rPl,rHu];done)
 |(simp_all [zaH,zaS,rPl,rHu];(repeat' split)<;>first|rfl|(exfalso;omega)|omega)
 refine gz7 ?_;refine zW rfl ⟨?_,rfl⟩
 show HVal.int .i64 _=_
 refine congrArg _ ?_;unfold zc2
 focus first
 |(simp_all [zaH,zaS,rPl,rHu];done)
 |(simp_all [zaH,zaS,rPl,rHu];(repeat' split)<;>first|rfl|(exfalso;omega)|omega)
end
end Go.Proofs.YtaihpegdcgdcgaaGreatDoor
namespace Go.HL
section
open Go
theorem zlD {b:BoundS} {n:Int} {x:MoveS}: ∀{l:List MoveS} {i:Nat} {k:RosS},l[i]? =some x->zgm b n k (l.take (i+1))=if x.At<=n then zgn b (zgm b n k (l.take i)) x else zgm b n k (l.take i)
 |[],i,k,h=>by cases i<;>cases h
 |y::r,0,k,h=>by
   obtain rfl:=Aw h
   rfl
 |y::r,i+1,k,h=>by
   show zgm b n _ (r.take (i+1))=if x.At<=n then zgn b (zgm b n _ (r.take i)) x else zgm b n _ (r.take i)
   exact zlD (l:=r) h
structure RosW (k:RosS):Prop where
 p: ∀t,SortedS (rPl k t)/\(rPl k t).length<=100000
 h: ∀t,SortedS (rHu k t)/\(rHu k t).length<=100000
 a: ∀w,0<=zaS k w/\zaS k w<=100000
 dr: ∀q∈k.D,0<=q.2/\q.2<=345686399999
 dj: ∀t p,p∈rPl k t->p∉rHu k t
theorem RosOk.w {n:Nat} {k:RosS} (h:RosOk n k) (hn:n<=100000):RosW k:=
 ⟨fun t=>⟨(h.sp t).1,by have:=(h.sp t).2.1;omega⟩,fun t=>⟨(h.sh t).1,by have:=(h.sh t).2.1;omega⟩,fun w=>by have:=h.ad w;omega,h.dr,h.dj⟩
theorem ztM {b:BoundS} {l:List MoveS} {n:Int} (hl: ∀x∈l,(0<=x.At/\x.At<=345686399999)/\(1<=x.Kind/\x.Kind<=4)/\x.Team≠[]) (hn:l.length<=2000) (i:Nat):RosW (zgm b n zop (l.take i)):=
 (zrI (b:=b) (m:=n) zwE (l:=l.take i) fun x hx=>hl x (AR hx)).w (by rw [AD];omega)
def zgZ (b:BoundS) (l:List MoveS) (p:Str) (n:Int):Int:=if orI [zbL b,zcw l]≠0 then orI [zbL b,zcw l] else if key p=false then 5 else if zY n=false then 1 else 0
def frE (b:BoundS) (l:List MoveS) (ps:List Str) (n:Int):Int:=
 if orI [zbL b,zcw l]≠0 then orI [zbL b,zcw l] else if 500<ps.length then 2 else if (ps.any fun s=> !key s)=true then 5 else if zY n=false then 1 else 0
theorem zwM {b:BoundS} {l:List MoveS} {p:Str} {n:Int} (h:zgZ b l p n=0):zcw l=0/\key p=true/\zY n=true:=by
 unfold zgZ at h
 by_cases h1:orI [zbL b,zcw l]≠0
 rw [if_pos h1] at h;exact absurd h h1;rw [if_neg h1] at h
 by_cases h2:key p=false
 rw [if_pos h2] at h;cases h;rw [if_neg h2] at h
 by_cases h3:zY n=false
 rw [if_pos h3] at h;cases h;exact ⟨(or2z (Decidable.not_not.1 h1)).2,by simpa using h2,by simpa using h3⟩
theorem zyS {b:BoundS} {l:List MoveS} {ps:List Str} {n:Int} (h:frE b l ps n=0):zcw l=0/\zY n=true:=by
 unfold frE at h
 by_cases h1:orI [zbL b,zcw l]≠0
 rw [if_pos h1] at h;exact absurd h h1;rw [if_neg h1] at h
 by_cases h2:500<ps.length
 rw [if_pos h2] at h;cases h;rw [if_neg h2] at h
 by_cases h4:(ps.any fun s=> !key s)=true
 rw [if_pos h4] at h;cases h;rw [if_neg h4] at h
 by_cases h3:zY n=false
 rw [if_pos h3] at h;cases h;exact ⟨(or2z (Decidable.not_not.1 h1)).2,by simpa using h3⟩
theorem zrs {b:BoundS} {l:List MoveS} {ps:List Str} {n:Int} (h1:orI [zbL b,zcw l]=0) (h2: ¬500<ps.length) (h3:(ps.any fun s=> !key s)=false) (h4:zY n=true):frE b l ps n=0:=by
 unfold frE;rw [if_neg (fun q=>q h1),if_neg h2,if_neg (by rw [h3];simp),if_neg (by rw [h4];simp)]
theorem fr1 {b:BoundS} {l:List MoveS} {ps:List Str} {n:Int} (h1: ¬orI [zbL b,zcw l]=0):frE b l ps n=orI [zbL b,zcw l]:=by unfold frE;rw [if_pos h1]
theorem fr2 {b:BoundS} {l:List MoveS} {ps:List Str} {n:Int} (h1:orI [zbL b,zcw l]=0) (h2:500<ps.length):frE b l ps n=2:=by unfold frE;rw [if_neg (fun q=>q h1),if_pos h2]
theorem fr3 {b:BoundS} {l:List MoveS} {ps:List Str} {n:Int} (h1:orI [zbL b,zcw l]=0) (h2: ¬500<ps.length) (h3:(ps.any fun s=> !key s)=true):frE b l ps n=5:=by unfold frE;rw [if_neg (fun q=>q h1),if_neg h2,if_pos h3]
theorem fr4 {b:BoundS} {l:List MoveS} {ps:List Str} {n:Int} (h1:orI [zbL b,zcw l]=0) (h2: ¬500<ps.length) (h3:(ps.any fun s=> !key s)=false) (h4:zY n=false):frE b l ps n=1:=by unfold frE;rw [if_neg (fun q=>q h1),if_neg h2,if_neg (by rw [h3];simp),if_pos h4]
theorem zwF {b:BoundS} {l:List MoveS} {n:Int} (hm:zcw l=0):RosW (zeU b l n):=by
 obtain ⟨hl,hml⟩:=ztA hm;have:=ztM (b:=b) (n:=n) (l:=l) (fun x hx=>⟨(hml x hx).1,(hml x hx).2.1,fun e=>by have:=(hml x hx).2.2.1;rw [e] at this;cases this⟩) hl l.length;rw [Ap] at this;exact this
theorem ztz {n:Int} (h:zY n=true):0<=n/\n<=345686399999:=by
 simp [zY,out] at h;omega
theorem zoI (b:BoundS) (k:RosS) (n:Int) (l:List Str):(zfO b k n l).length<=l.length:=AW _ _
theorem znj {b:BoundS} {k:RosS} {n:Int} {l:List Str} {i:Nat} {x:Str} (hx:l[i]? =some x):
 zfO b k n (l.take (i+1))=if (decide (zaH k x=[])&& !ziF b k x n)=true then zfO b k n (l.take i)++[x] else zfO b k n (l.take i):=by
 unfold zfO;rw [zaj hx,BE]
 split
 rename_i h;rw [List.filter_cons_of_pos (p:=fun s=>decide (zaH k s=[])&& !ziF b k s n) h];rfl
 rename_i h;rw [List.filter_cons_of_neg (p:=fun s=>decide (zaH k s=[])&& !ziF b k s n) h];simp
end
end Go.HL
namespace Go.Proofs.YtaihpegdcgdcgaaGreatDoor
set_option maxRecDepth 100000
set_option linter.unusedVariables false
set_option linter.unusedSimpArgs false
section
open Go.Proofs.Tryz
open Go.HL
theorem zj2 [Tracks] {kb pb hb ob db ab:Nat} {b:BoundS} {k:RosS} {x:MoveS} (hx:0<=x.At/\x.At<=345686399999) (hk:1<=x.Kind/\x.Kind<=4) (hP: ∀t,SortedS (rPl k t)/\(rPl k t).length<=100000) (hH: ∀t,SortedS (rHu k t)/\(rHu k t).length<=100000) (hA: ∀w,0<=zaS k w/\zaS k w<=100000) (hD: ∀q∈k.D,0<=q.2/\q.2<=345686399999) (hd: ∀t p,p∈rPl k t->p∉rHu k t):Con prog 113 [.raw (.pointer (some ⟨kb,0,none⟩)),zci x] (zcx kb pb hb ob db ab b k) (fun x1 M'=>x1= .int .i64 (zc2 b k x)/\M'=(zcx kb pb hb ob db ab b (zgn b k x))):=by
 refine uOb func113 ntmps113 ?_;refine gz7 ?_;refine de rfl (zaR (M1:=(zcx kb pb hb ob db ab b k)) (R:=[]) zx8 rfl (WeakL.refl _) (by rw [A7]) (zma hx hD (fun t=>by have:=(hP t).2;omega) (fun t=>by have:=(hH t).2;omega)) ?_)
 rintro _ _ ⟨rfl,rfl⟩;refine gz2 ?_;refine zbw (fun M=>M=(zcx kb pb hb ob db ab b k)) [3,6,10,13] mixed ?_;refine gz1 ?_;refine uB 1 rfl ((by first|exact z8 rfl|exact zK rfl)) ?_;refine gz1 ?_;refine uM 3 rfl rfl (fun M hM=>by subst hM;exact zab (i:=0) zfs rfl rfl (.inl ⟨rfl,rfl⟩) ⟨rfl,rfl⟩) ?_;refine uB 4 rfl ((by first|exact zx zu rfl ty9 (by decide) rfl|exact zk zu rfl ty9 (by decide) rfl)) ?_;refine gz1 ?_;refine uM 6 rfl rfl (fun M hM=>by subst hM;exact zgy (i:=1) (f:=eSs) (z0:=([]:List Str)) zfs ty9 zj rfl rfl rfl (zZ 1) ⟨rfl,rfl⟩) ?_;refine gz1 ?_;refine uB 8 rfl ((by first|exact z8 rfl|exact zK rfl)) ?_;refine gz1 ?_;refine uM 10 rfl rfl (fun M hM=>by subst hM;exact zab (i:=0) zfs rfl rfl (.inl ⟨rfl,rfl⟩) ⟨rfl,rfl⟩) ?_;refine uB 11 rfl ((by first|exact zx zu rfl ty9 (by decide) rfl|exact zk zu rfl ty9 (by decide) rfl)) ?_;refine gz1 ?_;refine uM 13 rfl rfl (fun M hM=>by subst hM;exact zgy (i:=2) (f:=eSs) (z0:=([]:List Str)) zfs ty9 zj rfl rfl rfl (zZ 1) ⟨rfl,rfl⟩) ?_;refine gz3 ?_;refine uVj [6,2,25,76] (fun (q:RosS×List Str×List Str)=>[(6,eSs q.2.1),(7,eSs q.2.2)]) (fun (q:RosS×List Str×List Str)=>(zcx kb pb hb ob db ab b q.1)) (fun (q:RosS×List Str×List Str)=>zgn b k x=⟨zv x.Team q.2.1 q.1.P,zv x.Team q.2.2 q.1.H,q.1.O,q.1.D,q.1.A⟩) ?_ ?_
 skip
 refine gz4 ?_;refine uCo (fun h1=> ?_) fun h2=> ?_
 refine gz1 ?_;refine dq ((by first|exact zx zu rfl ty3 (by decide) rfl|exact zk zu rfl ty3 (by decide) rfl)) ?_;refine gz7 ?_;refine zaF rfl (fun h3=> ?_) (fun h4=> ?_)
 try simp at h3
 refine gz2 ?_;refine dq ((by first|exact zx zu rfl ty9 (by decide) rfl|exact zk zu rfl ty9 (by decide) rfl)) ?_;refine gz1 ?_;refine dq (uCl zr8 rfl (zhR (l:=(rPl k x.Team)) (by have:=(hP x.Team).2;omega) (hP x.Team).1)) ?_;refine gz2 ?_;refine zbw (fun M=>M=(zcx kb pb hb ob db ab b k)) [3] mixed ?_;refine gz1 ?_;refine uB 1 rfl ((by first|exact z8 rfl|exact zK rfl)) ?_;refine gz1 ?_;refine uM 3 rfl rfl (fun M hM=>by subst hM;exact zab (i:=0) zha rfl rfl (.inl ⟨rfl,rfl⟩) ⟨rfl,rfl⟩) ?_;refine uB 4 rfl ((by first|exact zx zu rfl ty9 (by decide) rfl|exact zk zu rfl ty9 (by decide) rfl)) ?_;refine gz1 ?_;refine uB 6 rfl ((by first|exact zx zu rfl ty9 (by decide) rfl|exact zk zu rfl ty9 (by decide) rfl)) ?_;refine gz1 ?_;refine uF 8 ?_;refine zI (zcF (i:=3) (f:=HVal.str) (L:=k.O) (v:=x.Team) zha ty9 rfl rfl rfl rfl ?_)
 refine ⟨uE,?_⟩
 refine gz1 ?_;refine zaX (fun M=>M=(zcx kb pb hb ob db ab b (⟨k.P,k.H,zv x.Player x.Team k.O,k.D,k.A⟩:RosS))\/∃j st,za8 (x.Team,Int.tdiv x.At 604800000) (zcl (x.Team,Int.tdiv x.At 604800000) (HVal.int .i64 0) (em (HVal.int .i64) k.A))=some j/\M=[MObj.cells kb (kBk b pb hb ob db ab),MObj.map pb (sk (em eSs k.P)),MObj.map hb (sk (em eSs k.H)),MObj.map ob (sk (em HVal.str (zv x.Player x.Team k.O))),MObj.map db (sk (em (HVal.int .i64) k.D)),MObj.mape ab (kk eWk (zcl (x.Team,Int.tdiv x.At 604800000) (HVal.int .i64 0) (em (HVal.int .i64) k.A))) j st]) [3,10] mixed ?_;refine gz1 ?_;refine uB 1 rfl ((by first|exact z8 rfl|exact zK rfl)) ?_;refine gz1 ?_;refine uM 3 rfl (.inl rfl) (fun M hM=>by
 rcases hM with rfl|⟨j,st,hj,rfl⟩
 exact zab (i:=0) zku rfl rfl (.inl ⟨rfl,rfl⟩) ⟨rfl,rfl⟩;exact zab (i:=0) zku rfl rfl (.inl ⟨rfl,rfl⟩) ⟨rfl,rfl⟩) ?_
 refine uB 4 rfl ((by first|exact zx zu rfl ty9 (by decide) rfl|exact zk zu rfl ty9 (by decide) rfl)) ?_;refine gz1 ?_;refine uB 6 rfl ((by first|exact zx zu rfl ty3 (by decide) rfl|exact zk zu rfl ty3 (by decide) rfl)) ?_;refine gz1 ?_;refine uB 8 rfl (zfC rfl rfl uO uO uO) ?_;refine uB 9 rfl (zH (cs:=[_,_]) zsO zvI rfl) ?_;refine uM 10 rfl (.inl rfl) (fun M hM=>by
 rcases hM with rfl|⟨j,st,hj,rfl⟩
 exact zet (i:=5) (s:=(x.Team,Int.tdiv x.At 604800000)) (z0:=(0:Int)) (f:=HVal.int .i64) zku zpM ty3 rfl rfl rfl rfl ⟨rfl,rfl⟩;exact zli (i:=5) (s:=(x.Team,Int.tdiv x.At 604800000)) (z0:=(0:Int)) (f:=HVal.int .i64) zku zpM ty3 rfl rfl rfl rfl ⟨rfl,rfl⟩) ?_
 refine uB 11 rfl (zbb rfl rfl (by have:=hA (x.Team,Int.tdiv x.At 604800000);unfold zaS at this;dsimp only;omega) (by have:=hA (x.Team,Int.tdiv x.At 604800000);unfold zaS at this;dsimp only;omega)) ?_;refine uF 12 ?_;refine zm rfl (zkA (i:=5) (s:=(x.Team,Int.tdiv x.At 604800000)) (z0:=(0:Int)) (f:=HVal.int .i64) zku zpM ty3 rfl rfl rfl rfl fun j55 st55 hj55=> ?_)
 refine ⟨fun _=> .inl (.inr ⟨j55,st55,hj55,rfl⟩),?_⟩
 refine gz1 ?_;refine uF 14 ?_;refine zI (ziu (i:=5) (s:=(x.Team,Int.tdiv x.At 604800000)) (f:=HVal.int .i64) (z0:=(0:Int)) (v:=zaS k (x.Team,Int.tdiv x.At 604800000)+1) rfl rfl rfl rfl hj55 ?_)
 refine ⟨uE,?_⟩
 refine gz2 ?_;exact ⟨((⟨k.P,k.H,zv x.Player x.Team k.O,k.D,zv (x.Team,Int.tdiv x.At 604800000) (zaS k (x.Team,Int.tdiv x.At 604800000)+1) k.A⟩:RosS),zev (rPl k x.Team) x.Player,(rHu k x.Team)),by rw [zgn,if_neg (by simpa using h1),if_pos (by assumption)],⟨rfl,rfl,trivial⟩,uK,Ac _⟩
 try simp at h4
 refine gz4 ?_;refine uCo (fun h5=> ?_) fun h6=> ?_
 refine uDr mixed ?_;refine gz1 ?_;refine uB 1 rfl ((by first|exact zx zu rfl ty9 (by decide) rfl|exact zk zu rfl ty9 (by decide) rfl)) ?_;refine gz1 ?_;refine uB 3 rfl (uCl zpB rfl (zfc (l:=(rPl k x.Team)) (by have:=(fun t=>(hP t).2) x.Team;omega))) ?_;refine gz1 ?_;refine uB 5 rfl ((by first|exact zx zu rfl ty9 (by decide) rfl|exact zk zu rfl ty9 (by decide) rfl)) ?_;refine gz1 ?_;refine uB 7 rfl (uCl zpB rfl (zfc (l:=(rHu k x.Team)) (by have:=(fun t=>(hH t).2) x.Team;omega))) ?_;refine gz3 ?_;refine zbw (fun M=>M=(zcx kb pb hb ob db ab b k)) [3] mixed ?_;refine gz1 ?_;refine uB 1 rfl ((by first|exact z8 rfl|exact zK rfl)) ?_;refine gz1 ?_;refine uM 3 rfl rfl (fun M hM=>by subst hM;exact zab (i:=0) zha rfl rfl (.inl ⟨rfl,rfl⟩) ⟨rfl,rfl⟩) ?_;refine uB 4 rfl ((by first|exact zx zu rfl ty9 (by decide) rfl|exact zk zu rfl ty9 (by decide) rfl)) ?_;refine gz1 ?_;refine uF 6 ?_;refine zI (zsj (i:=3) (f:=HVal.str) (L:=k.O) (s:=x.Player) zha ty9 rfl rfl rfl ?_)
 refine ⟨uE,?_⟩
 refine gz1 ?_;refine zaX (fun M=>M=(zcx kb pb hb ob db ab b (⟨k.P,k.H,zbY x.Player k.O,k.D,k.A⟩:RosS))) [3] mixed ?_;refine gz1 ?_;refine uB 1 rfl ((by first|exact z8 rfl|exact zK rfl)) ?_;refine gz1 ?_;refine uM 3 rfl rfl (fun M hM=>by subst hM;exact zab (i:=0) ze4 rfl rfl (.inl ⟨rfl,rfl⟩) ⟨rfl,rfl⟩) ?_;refine uB 4 rfl ((by first|exact zx zu rfl ty9 (by decide) rfl|exact zk zu rfl ty9 (by decide) rfl)) ?_;refine gz1 ?_;refine uB 6 rfl ((by first|exact zx zu rfl ty3 (by decide) rfl|exact zk zu rfl ty3 (by decide) rfl)) ?_;refine gz1 ?_;refine uF 8 ?_;refine zI (zcF (i:=4) (f:=HVal.int .i64) (L:=k.D) (v:=x.At) ze4 ty9 rfl rfl rfl rfl ?_)
 refine ⟨uE,?_⟩
 refine gz2 ?_;exact ⟨((⟨k.P,k.H,zbY x.Player k.O,zv x.Player x.At k.D,k.A⟩:RosS),zgk (rPl k x.Team) x.Player,zgk (rHu k x.Team) x.Player),by rw [zgn,if_neg (by simpa using h1),if_neg (by assumption),if_pos (by assumption)],⟨rfl,rfl,trivial⟩,uK,Ac _⟩;refine gz4 ?_;refine uCo (fun h7=> ?_) fun h8=> ?_
 refine zkv mixed ?_;refine gz1 ?_;refine uB 1 rfl ((by first|exact zx zu rfl ty9 (by decide) rfl|exact zk zu rfl ty9 (by decide) rfl)) ?_;refine gz1 ?_;refine uB 3 rfl (uCl zpB rfl (zfc (l:=(rPl k x.Team)) (by have:=(fun t=>(hP t).2) x.Team;omega))) ?_;refine gz1 ?_;refine uB 5 rfl ((by first|exact zx zu rfl ty9 (by decide) rfl|exact zk zu rfl ty9 (by decide) rfl)) ?_;refine gz1 ?_;refine uB 7 rfl (uCl zr8 rfl (zhR (l:=(rHu k x.Team)) (by have:=(hH x.Team).2;omega) (hH x.Team).1)) ?_;refine gz4 ?_;exact ⟨(k,zgk (rPl k x.Team) x.Player,zev (rHu k x.Team) x.Player),by rw [zgn,if_neg (by simpa using h1),if_neg (by assumption),if_neg (by assumption),if_pos (by assumption)],⟨rfl,rfl,trivial⟩,uK,Ac _⟩;refine gz4 ?_;refine zaF rfl (fun h9=> ?_) (fun h9=> ?_)
 try simp at h9
 refine zkv mixed ?_;refine gz1 ?_;refine uB 1 rfl ((by first|exact zx zu rfl ty9 (by decide) rfl|exact zk zu rfl ty9 (by decide) rfl)) ?_;refine gz1 ?_;refine uB 3 rfl (uCl zr8 rfl (zhR (l:=(rPl k x.Team)) (by have:=(hP x.Team).2;omega) (hP x.Team).1)) ?_;refine gz1 ?_;refine uB 5 rfl ((by first|exact zx zu rfl ty9 (by decide) rfl|exact zk zu rfl ty9 (by decide) rfl)) ?_;refine gz1 ?_;refine uB 7 rfl (uCl zpB rfl (zfc (l:=(rHu k x.Team)) (by have:=(fun t=>(hH t).2) x.Team;omega))) ?_;refine gz4 ?_;exact ⟨(k,zev (rPl k x.Team) x.Player,zgk (rHu k x.Team) x.Player),by rw [zgn,if_neg (by simpa using h1),if_neg (by assumption),if_neg (by assumption),if_neg (by assumption)],⟨rfl,rfl,trivial⟩,uK,Ac _⟩
 exfalso
 try simp at h9
 omega
 refine gz1 ?_;exact ⟨(k,(rPl k x.Team),(rHu k x.Team)),by rw [zgn,if_pos (by simpa using h2)],⟨rfl,rfl,trivial⟩,uK,Ac _⟩
 intro q hq
 refine zbw (fun M=>M=(zcx kb pb hb ob db ab b q.1)) [3,9] mixed ?_;refine gz1 ?_;refine uB 1 rfl ((by first|exact z8 rfl|exact zK rfl)) ?_;refine gz1 ?_;refine uM 3 rfl rfl (fun M hM=>by subst hM;exact zab (i:=0) zfs rfl rfl (.inl ⟨rfl,rfl⟩) ⟨rfl,rfl⟩) ?_;refine uB 4 rfl ((by first|exact zx zu rfl ty9 (by decide) rfl|exact zk zu rfl ty9 (by decide) rfl)) ?_;refine gz2 ?_;refine uB 7 rfl ((by first|exact z8 rfl|exact zK rfl)) ?_;refine gz1 ?_;refine uM 9 rfl rfl (fun M hM=>by subst hM;exact zab (i:=0) zfs rfl rfl (.inl ⟨rfl,rfl⟩) ⟨rfl,rfl⟩) ?_;refine uB 10 rfl ((by first|exact zx zu rfl ty9 (by decide) rfl|exact zk zu rfl ty9 (by decide) rfl)) ?_;refine gz3 ?_;refine uF 14 ?_;refine zm rfl (zkB (i:=1) (s:=x.Team) (f:=eSs) (L:=q.1.P) zfs ty9 zj rfl rfl rfl fun j115 st115 hj115=> ?_)
 refine ⟨uE,?_⟩
 refine gz1 ?_;refine uF 16 ?_;refine zI (ziv (i:=1) (s:=x.Team) (f:=eSs) (L:=q.1.P) (v:=q.2.1) rfl rfl rfl rfl hj115 ?_)
 refine ⟨uE,?_⟩
 refine uF 17 ?_;refine zm rfl (zkB (i:=2) (s:=x.Team) (f:=eSs) (L:=q.1.H) zfs ty9 zj rfl rfl rfl fun j117 st117 hj117=> ?_)
 refine ⟨uE,?_⟩
 refine gz1 ?_;refine uF 19 ?_;refine zI (ziv (i:=2) (s:=x.Team) (f:=eSs) (L:=q.1.H) (v:=q.2.2) rfl rfl rfl rfl hj117 ?_)
 refine ⟨uE,?_⟩
 refine gz6 ?_;refine zW rfl ⟨rfl,?_⟩
 rw [hq];rfl
theorem zpp [Tracks] {i e:Int}:ConP prog 50 [.int .i64 i,.int .i64 e] (.tup []):=by
 refine uOb func50 ntmps50 ?_;refine gz1 ?_;refine zsE rfl ?_
 rfl
theorem zm2 [Tracks] {b:BoundS} {l:List MoveS} {n:Int} {fid:FuncId} (hm:zcw l=0) (hca:Callable prog fid) (hp: ∀i e:Int,ConP prog fid [.int .i64 i,.int .i64 e] (.tup [])):Con prog 49 [zdy b,zbz l,.int .i64 n,.fn (.func fid) [] []] [] (fun x M'=> ∃kb pb hb ob db ab:Nat,x= .raw (.pointer (some ⟨kb,0,none⟩))/\M'=(zcx kb pb hb ob db ab b (zeU b l n))):=by
 obtain ⟨hl,hml⟩:=ztA hm;have hmk: ∀x∈l,(0<=x.At/\x.At<=345686399999)/\(1<=x.Kind/\x.Kind<=4)/\x.Team≠[]:=fun x hx=>⟨(hml x hx).1,(hml x hx).2.1,fun e=>by have:=(hml x hx).2.2.1;rw [e] at this;cases this⟩
 refine uOb func49 ntmps49 ?_;refine gz6 ?_;refine de rfl (zaJ fun m13=> ?_)
 refine de rfl (zaJ fun m14=> ?_)
 refine de rfl (zaJ fun m15=> ?_)
 refine de rfl (zaJ fun m16=> ?_)
 refine de rfl (zaJ fun m17=> ?_)
 refine dq (zH (cs:=[_,_,_,_,_,_,_,_,_]) ty70 pl70 rfl) ?_;refine de rfl (zrq rfl rfl fun kb=> ?_)
 refine gz2 ?_;refine zf (Ghost.perm (M':=zcx kb m13 m14 m15 m16 m17 b zop) uQ) ?_;refine gz7 ?_;refine uT1 [10,2,22,16] (fun i=>[(22,.int .i64 i)]) (fun i=>zcx kb m13 m14 m15 m16 m17 b (zgm b n zop (l.take i))) (fun i=>i<=l.length/\(True)) (fun i=>l.length-i) (0) ?_ ?_;exact ⟨Ad _,trivial⟩;rintro i ⟨hi,-⟩;refine gz4 ?_;refine uCo (fun h1=> ?_) fun h2=> ?_
 obtain ⟨x,hx⟩: ∃x,l[i]? =some x:=⟨_,Aa h1⟩
 have hdx:=zg hx;obtain ⟨hx1,hx2,_⟩:=hmk x (Ab hx);have hok:=ztM (b:=b) (n:=n) hmk hl i;refine gz8 ?_;refine de rfl (zi zu rfl fun b11=> ?_)
 refine gz1 ?_;refine de0 (zo zu rfl rfl rfl rfl rfl ?_)
 refine gz1 ?_;refine zf (zp 11 rfl) ?_;refine gz6 ?_;refine uCo (fun h3=> ?_) fun h4=> ?_
 refine gz5 ?_;refine de rfl (zaR (M1:=zcx kb m13 m14 m15 m16 m17 b (zgm b n zop (l.take i))) (R:=[]) zxu rfl (WeakL.refl _) (by rw [A7]) (zj2 hx1 hx2 hok.p hok.h hok.a hok.dr hok.dj) ?_)
 rintro _ _ ⟨rfl,rfl⟩;refine dq (zan hca rfl rfl (WeakL.refl _) (hp _ _)) ?_;refine gz7 ?_;exact ⟨i+1,⟨by omega,trivial⟩,uD,⟨rfl,trivial⟩,uK,zq (by dsimp only;rw [zlD hx,if_pos (by assumption)];try rfl)⟩;refine gz7 ?_;exact ⟨i+1,⟨by omega,trivial⟩,uD,⟨rfl,trivial⟩,uK,zq (by dsimp only;rw [zlD hx,if_neg uO];try rfl)⟩;have hni:l.length<=i:=by omega
 obtain rfl:i=l.length:=by omega
 rw [Ap];refine gz2 ?_;refine zn ?_;refine gz7 ?_;exact zW rfl ⟨_,_,_,_,_,_,rfl,rfl⟩
theorem zmf [Tracks] {b:BoundS} {l:List MoveS} {n:Int} (hm:zcw l=0):Con prog 17 [zdy b,zbz l,.int .i64 n] [] (fun x M'=> ∃kb pb hb ob db ab:Nat,x= .raw (.pointer (some ⟨kb,0,none⟩))/\M'=(zcx kb pb hb ob db ab b (zeU b l n))):=by
 refine uOb func17 ntmps17 ?_;refine gz8 ?_;refine de rfl (zaR (M1:=[]) (R:=[]) ca49 rfl (WeakL.refl _) (Ac _) (zm2 hm ca50 (fun _ _=>zpp)) ?_)
 rintro _ _ ⟨kb,pb,hb,ob,db,ab,rfl,rfl⟩;refine gz3 ?_;exact zW rfl ⟨_,_,_,_,_,_,rfl,rfl⟩
theorem zjs [Tracks] {b:BoundS} {l:List MoveS} (hl:l.length<=1000000):ConP prog 44 [zdy b,zbz l] (.int .i64 (orI [zbL b,zcw l])):=by
 refine uOb func44 ntmps44 ?_;refine gz6 ?_;refine dq (uCl zvc rfl zfI) ?_;refine gz1 ?_;refine dq (uCl zvb rfl (zf8 uS)) ?_;refine dq (za (hs:=[_,_]) zef zgv rfl rfl (by decide) (by decide) rfl) ?_;refine dq (uCl zmA rfl (zcQ (l:=[_,_]) (by simp))) ?_;refine gz3 ?_;refine zB rfl ?_
 rfl
theorem zkJ [Tracks] {b:BoundS} {l:List MoveS} {p:Str} {n:Int} (hl:l.length<=1000000):ConP prog 16 [zdy b,zbz l,.str p,.int .i64 n] (.int .i64 (zgZ b l p n)):=by
 refine uOb func16 ntmps16 ?_;refine gz8 ?_;refine dq (uCl ca44 rfl (zjs uS)) ?_;refine gz6 ?_;refine uCo (fun h1=> ?_) fun h2=> ?_
 refine gz5 ?_;refine uRp ?_;unfold zgZ
 simp_all
 refine gz6 ?_;refine dq (uCl zca rfl zac) ?_;refine gz3 ?_;refine uCo (fun h3=> ?_) fun h4=> ?_
 refine gz4 ?_;refine uRp ?_;unfold zgZ
 simp_all
 refine gz2 ?_;refine dq (uCl zhT rfl za5) ?_;refine gz3 ?_;refine uCo (fun h5=> ?_) fun h6=> ?_
 refine gz4 ?_;refine uRp ?_;unfold zgZ
 simp_all
 refine gz7 ?_;refine uRp ?_;unfold zgZ
 simp_all
theorem zn0 [Tracks] {b:BoundS} {l:List MoveS} {p:Str} {n:Int} (hl:l.length<=1000000):ConP prog 7 [zdy b,zbz l,.str p,.int .i64 n] (.tup [.str (if zgZ b l p n≠0 then [] else zaH (zeU b l n) p),.int .i64 (zgZ b l p n)]):=by
 refine uOb func7 ntmps7 ?_;refine zct ?_;refine dq (uCl ca16 rfl (zkJ uS)) ?_;refine gz6 ?_;refine uCo (fun h1=> ?_) fun h2=> ?_
 refine gz6 ?_
 focus first
 | (refine zaa Ghost.clear rfl ⟨?_,rfl⟩
    show HVal.tup _=_
    rw [if_pos (by simpa using h1)];rfl)
 | (refine zaa Ghost.clear rfl ⟨?_,rfl⟩
    show HVal.tup _=_
    rw [if_neg (fun q=>q hz0),hz0];rfl)
 refine gz2 ?_;have hz0:zgZ b l p n=0:=by simpa using h2
 obtain ⟨hm0,hk0,hn0⟩:=zwM hz0;refine gz4 ?_;refine de rfl (zaR (M1:=[]) (R:=[]) ca17 rfl (WeakL.refl _) (Ac _) (zmf (b:=b) (l:=l) (n:=n) hm0) ?_)
 rintro _ _ ⟨kb,pb,hb,ob,db,ab,rfl,rfl⟩;refine dq ((by first|exact z8 rfl|exact zK rfl)) ?_;refine gz1 ?_;refine de rfl (uZ 0 ?_)
 refine gz1 ?_;refine de rfl (zcE (i:=3) (f:=HVal.str) (z0:=([]:Str)) zha ty9 ty9 rfl rfl rfl rfl ?_)
 refine gz4 ?_
 focus first
 | (refine zaa Ghost.clear rfl ⟨?_,rfl⟩
    show HVal.tup _=_
    rw [if_pos (by simpa using h1)];rfl)
 | (refine zaa Ghost.clear rfl ⟨?_,rfl⟩
    show HVal.tup _=_
    rw [if_neg (fun q=>q hz0),hz0];rfl)
theorem zm1 [Tracks] {s:Str}:ConP prog 46 [.str s] (.bool (!key s)):=by
 refine uOb func46 ntmps46 ?_;refine gz5 ?_;refine dq (uCl zca rfl zac) ?_;refine gz4 ?_;refine zB rfl ?_
 rfl
theorem zpo [Tracks] {b:BoundS} {l:List MoveS} {ps:List Str} {n:Int} (hl:l.length<=1000000) (hps:ps.length<=1000000):ConP prog 15 [zdy b,zbz l,eSs ps,.int .i64 n] (.tup [eSs (if frE b l ps n≠0 then [] else zfO b (zeU b l n) n ps),.int .i64 (frE b l ps n)]):=by
 refine uOb func15 ntmps15 ?_;refine gz9 ?_;refine dq (uCl ca44 rfl (zjs uS)) ?_;refine gz6 ?_;refine uCo (fun h1=> ?_) fun h2=> ?_
 refine gz6 ?_
 focus first
 |exact zbt rfl (zai (by rw [if_pos (by rw [fr1 h1];first|exact h1|decide)];exact zZ 1) (by rw [fr1 h1];exact Weak.refl _))
 |exact zbt rfl (zai (by rw [if_pos (by rw [fr2 (by simpa using h2) uO];first|exact h1|decide)];exact zZ 1) (by rw [fr2 (by simpa using h2) uO];exact Weak.refl _))
 |exact zbt rfl (zai (by rw [if_pos (by rw [fr3 (by simpa using h2) uO (by simpa using h5)];first|exact h1|decide)];exact zZ 1) (by rw [fr3 (by simpa using h2) uO (by simpa using h5)];exact Weak.refl _))
 |exact zbt rfl (zai (by rw [if_pos (by rw [fr4 (by simpa using h2) uO (by simpa using h6) (by simpa using h7)];first|exact h1|decide)];exact zZ 1) (by rw [fr4 (by simpa using h2) uO (by simpa using h6) (by simpa using h7)];exact Weak.refl _))
 | (refine zaa ((zaC 8 (i:=6) rfl rfl).trans Ghost.clear) rfl ⟨?_,rfl⟩
    show HVal.tup _=_
    rw [if_neg (fun q=>q hz0),hz0];rfl)
 refine zat ?_;refine uCo (fun h3=> ?_) fun h4=> ?_
 refine gz5 ?_
 focus first
 |exact zbt rfl (zai (by rw [if_pos (by rw [fr1 h1];first|exact h1|decide)];exact zZ 1) (by rw [fr1 h1];exact Weak.refl _))
 |exact zbt rfl (zai (by rw [if_pos (by rw [fr2 (by simpa using h2) uO];first|exact h1|decide)];exact zZ 1) (by rw [fr2 (by simpa using h2) uO];exact Weak.refl _))
 |exact zbt rfl (zai (by rw [if_pos (by rw [fr3 (by simpa using h2) uO (by simpa using h5)];first|exact h1|decide)];exact zZ 1) (by rw [fr3 (by simpa using h2) uO (by simpa using h5)];exact Weak.refl _))
 |exact zbt rfl (zai (by rw [if_pos (by rw [fr4 (by simpa using h2) uO (by simpa using h6) (by simpa using h7)];first|exact h1|decide)];exact zZ 1) (by rw [fr4 (by simpa using h2) uO (by simpa using h6) (by simpa using h7)];exact Weak.refl _))
 | (refine zaa ((zaC 8 (i:=6) rfl rfl).trans Ghost.clear) rfl ⟨?_,rfl⟩
    show HVal.tup _=_
    rw [if_neg (fun q=>q hz0),hz0];rfl)
 refine gz2 ?_;refine dq (uCl ca45 rfl (zeK (l:=ps) (p:=fun s=> !key s) ca46 (fun _=>zm1) hps)) ?_;refine gz2 ?_;refine uCo (fun h5=> ?_) fun h6=> ?_
 refine gz5 ?_
 focus first
 |exact zbt rfl (zai (by rw [if_pos (by rw [fr1 h1];first|exact h1|decide)];exact zZ 1) (by rw [fr1 h1];exact Weak.refl _))
 |exact zbt rfl (zai (by rw [if_pos (by rw [fr2 (by simpa using h2) uO];first|exact h1|decide)];exact zZ 1) (by rw [fr2 (by simpa using h2) uO];exact Weak.refl _))
 |exact zbt rfl (zai (by rw [if_pos (by rw [fr3 (by simpa using h2) uO (by simpa using h5)];first|exact h1|decide)];exact zZ 1) (by rw [fr3 (by simpa using h2) uO (by simpa using h5)];exact Weak.refl _))
 |exact zbt rfl (zai (by rw [if_pos (by rw [fr4 (by simpa using h2) uO (by simpa using h6) (by simpa using h7)];first|exact h1|decide)];exact zZ 1) (by rw [fr4 (by simpa using h2) uO (by simpa using h6) (by simpa using h7)];exact Weak.refl _))
 | (refine zaa ((zaC 8 (i:=6) rfl rfl).trans Ghost.clear) rfl ⟨?_,rfl⟩
    show HVal.tup _=_
    rw [if_neg (fun q=>q hz0),hz0];rfl)
 refine gz2 ?_;refine dq (uCl zhT rfl za5) ?_;refine gz3 ?_;refine uCo (fun h7=> ?_) fun h8=> ?_
 refine gz5 ?_
 focus first
 |exact zbt rfl (zai (by rw [if_pos (by rw [fr1 h1];first|exact h1|decide)];exact zZ 1) (by rw [fr1 h1];exact Weak.refl _))
 |exact zbt rfl (zai (by rw [if_pos (by rw [fr2 (by simpa using h2) uO];first|exact h1|decide)];exact zZ 1) (by rw [fr2 (by simpa using h2) uO];exact Weak.refl _))
 |exact zbt rfl (zai (by rw [if_pos (by rw [fr3 (by simpa using h2) uO (by simpa using h5)];first|exact h1|decide)];exact zZ 1) (by rw [fr3 (by simpa using h2) uO (by simpa using h5)];exact Weak.refl _))
 |exact zbt rfl (zai (by rw [if_pos (by rw [fr4 (by simpa using h2) uO (by simpa using h6) (by simpa using h7)];first|exact h1|decide)];exact zZ 1) (by rw [fr4 (by simpa using h2) uO (by simpa using h6) (by simpa using h7)];exact Weak.refl _))
 | (refine zaa ((zaC 8 (i:=6) rfl rfl).trans Ghost.clear) rfl ⟨?_,rfl⟩
    show HVal.tup _=_
    rw [if_neg (fun q=>q hz0),hz0];rfl)
 refine gz3 ?_;have hz0:frE b l ps n=0:=zrs (by simpa using h2) uO (by simpa using h6) (by simpa using h8);obtain ⟨hm0,hn0⟩:=zyS hz0;have hok:=zwF (b:=b) (n:=n) hm0;have hn1:=ztz hn0;refine gz4 ?_;refine de rfl (zaR (M1:=[]) (R:=[]) ca17 rfl (WeakL.refl _) (Ac _) (zmf (b:=b) (l:=l) (n:=n) hm0) ?_)
 rintro _ _ ⟨kb,pb,hb,ob,db,ab,rfl,rfl⟩;refine gz5 ?_;refine zf (zM 1) ?_;refine gz7 ?_;refine uV2 [12,1,14,1,38,23] (fun (i:Nat) (u:Value)=>[(38,.int .i64 i),(12,.raw u)]) (fun (i:Nat) (u:Value)=>(zcx kb pb hb ob db ab b (zeU b l n))++[.arr u 1 ((zfO b (zeU b l n) n (ps.take i)).map .str)]) (fun (i:Nat) (u:Value)=>i<=ps.length/\(True)) (fun (i:Nat) (u:Value)=>ps.length-i) (0) (.slice none 0 0) ?_ ?_ ?_ ?_;exact ⟨Ad _,trivial⟩;exact ⟨rfl,rfl,trivial⟩;exact uQ
 intro i u hinv
 obtain ⟨hi,-⟩:=hinv;refine gz4 ?_;refine uCo (fun h9=> ?_) fun h10=> ?_
 obtain ⟨x,hx⟩: ∃x,ps[i]? =some x:=⟨_,Aa h9⟩
 have hdx:=zg hx;refine zct ?_;refine dq ((by first|exact z8 rfl|exact zK rfl)) ?_;refine gz1 ?_;refine de rfl (uZ 0 ?_)
 refine gz1 ?_;refine de rfl (zcE (i:=3) (f:=HVal.str) (z0:=([]:Str)) zha ty9 ty9 rfl rfl rfl rfl ?_)
 refine gz5 ?_;refine dgl (h:= .bool (ziF b (zeU b l n) x n)) rfl rfl (fun hc=>⟨_,OpenTo.upd (t:=52) rfl uC (OpenTo.upd (t:=51) rfl uC (OpenTo.upd (t:=50) rfl uC (OpenTo.refl _))),zaR (M1:=(zcx kb pb hb ob db ab b (zeU b l n))) (R:=[_]) ca48 rfl (WeakL.refl _) (Ac _) (zgM hn1 hok.dr) (by rintro _ _ ⟨rfl,rfl⟩;exact ⟨rfl,rfl⟩)⟩) ?_;refine gz3 ?_;refine uCo (fun h11=> ?_) fun h12=> ?_
 refine gz3 ?_;refine dq (za (hs:=[_]) zj ty9 rfl rfl (by decide) (by decide) rfl) ?_;refine de rfl (zP (i:=6) zj ty9 rfl rfl rfl rfl rfl (by simp [zas,zb]) (by have:=zoI b (zeU b l n) n (ps.take i);simp only [Ah,Ak,AL,AD] at*;omega) fun v59=> ?_)
 refine gz8 ?_;exact ⟨i+1,v59,⟨by omega,trivial⟩,uD,⟨rfl,rfl,trivial⟩,uK,zq (by dsimp only;rw [znj hx,if_pos (by simp [zaH,h11.1,h11.2]),AB];rfl)⟩;refine gz7 ?_;exact ⟨i+1,u,⟨by omega,trivial⟩,uD,⟨rfl,rfl,trivial⟩,uK,zq (by dsimp only;rw [znj hx,if_neg (by intro q;simp [zaH] at q;have q1:=h12 (of_decide_eq_true q.1);rw [q.2] at q1;cases q1)])⟩;have hni:ps.length<=i:=by omega
 obtain rfl:i=ps.length:=by omega
 rw [Ap];refine gz2 ?_;refine zJ ?_;refine gz8 ?_
 focus first
 |exact zbt rfl (zai (by rw [if_pos (by rw [fr1 h1];first|exact h1|decide)];exact zZ 1) (by rw [fr1 h1];exact Weak.refl _))
 |exact zbt rfl (zai (by rw [if_pos (by rw [fr2 (by simpa using h2) uO];first|exact h1|decide)];exact zZ 1) (by rw [fr2 (by simpa using h2) uO];exact Weak.refl _))
 |exact zbt rfl (zai (by rw [if_pos (by rw [fr3 (by simpa using h2) uO (by simpa using h5)];first|exact h1|decide)];exact zZ 1) (by rw [fr3 (by simpa using h2) uO (by simpa using h5)];exact Weak.refl _))
 |exact zbt rfl (zai (by rw [if_pos (by rw [fr4 (by simpa using h2) uO (by simpa using h6) (by simpa using h7)];first|exact h1|decide)];exact zZ 1) (by rw [fr4 (by simpa using h2) uO (by simpa using h6) (by simpa using h7)];exact Weak.refl _))
 | (refine zaa ((zaC 8 (i:=6) rfl rfl).trans Ghost.clear) rfl ⟨?_,rfl⟩
    show HVal.tup _=_
    rw [if_neg (fun q=>q hz0),hz0];rfl)
end
end Go.Proofs.YtaihpegdcgdcgaaGreatDoor
namespace Go.Proofs
section
open Go.Shelf
def Tryz.g181_ren:Go.Shelf.Ren:=⟨fun|7=>181|10=>237|n=>n,fun|23=>173|26=>9|3=>4|28=>251|0=>0|27=>250|33=>119|4=>4|n=>n,fun|n=>n⟩
theorem zou:Go.Proofs.SlLaysZ.n7 Tryz.prog Tryz.g181_ren:={
 mixed:=by kernel_rfl
 f7:=⟨Tryz.f181.name,by decide,Tryz.func181.trans (congrArg some (by kernel_rfl))⟩
 f10:=⟨Tryz.f237.name,by decide,Tryz.func237.trans (congrArg some (by kernel_rfl))⟩
 t0:=Tryz.underlying0
 a0:=Tryz.isAgg0
 z0:=Tryz.sizeOf0
 v0:=Tryz.zeroValue0
 t4:=Tryz.underlying4
 a4:=Tryz.isAgg4
 z4:=Tryz.sizeOf4
 v4:=Tryz.zeroValue4
 t23:=Tryz.underlying173
 a23:=Tryz.isAgg173
 z23:=Tryz.sizeOf173
 v23:=Tryz.zeroValue173
 t26:=Tryz.underlying9
 a26:=Tryz.isAgg9
 z26:=Tryz.sizeOf9
 v26:=Tryz.zeroValue9
 t27:=Tryz.underlying250
 a27:=Tryz.isAgg250
 z27:=Tryz.sizeOf250
 v27:=Tryz.zeroValue250
 t28:=Tryz.underlying251
 a28:=Tryz.isAgg251
 z28:=Tryz.sizeOf251
 v28:=Tryz.zeroValue251
 t33:=Tryz.underlying119
 a33:=Tryz.isAgg119
 z33:=Tryz.sizeOf119
 v33:=Tryz.zeroValue119}
def Tryz.g180_ren:Go.Shelf.Ren:=⟨fun|6=>180|8=>236|9=>127|11=>274|13=>142|12=>189|23=>203|24=>204|14=>241|15=>242|16=>243|17=>244|18=>245|19=>246|20=>247|21=>248|22=>249|25=>291|26=>255|27=>256|28=>292|29=>293|30=>252|31=>309|n=>n,fun|26=>9|28=>251|24=>33|0=>0|3=>3|37=>223|48=>270|50=>272|4=>4|40=>264|39=>263|45=>183|5=>5|9=>9|51=>304|55=>308|57=>347|58=>348|33=>119|n=>n,fun|n=>n⟩
theorem zsV:Go.Proofs.SlLaysZ.n6 Tryz.prog Tryz.g180_ren:={
 mixed:=by kernel_rfl
 f6:=⟨Tryz.f180.name,by decide,Tryz.func180.trans (congrArg some (by kernel_rfl))⟩
 f8:=⟨Tryz.f236.name,by decide,Tryz.func236.trans (congrArg some (by kernel_rfl))⟩
 f11:=⟨Tryz.f274.name,by decide,Tryz.func274.trans (congrArg some (by kernel_rfl))⟩
 t0:=Tryz.underlying0
 a0:=Tryz.isAgg0
 z0:=Tryz.sizeOf0
 v0:=Tryz.zeroValue0
 t24:=Tryz.underlying33
 a24:=Tryz.isAgg33
 z24:=Tryz.sizeOf33
 v24:=Tryz.zeroValue33
 t26:=Tryz.underlying9
 a26:=Tryz.isAgg9
 z26:=Tryz.sizeOf9
 v26:=Tryz.zeroValue9
 t28:=Tryz.underlying251
 a28:=Tryz.isAgg251
 z28:=Tryz.sizeOf251
 v28:=Tryz.zeroValue251
 i26:=by kernel_rfl}
def Tryz.g127_ren:Go.Shelf.Ren:=⟨fun|6=>127|8=>142|9=>189|19=>203|20=>204|21=>241|22=>242|23=>243|24=>244|25=>245|26=>246|27=>247|28=>248|29=>249|36=>291|31=>255|32=>256|37=>292|38=>293|39=>252|41=>309|n=>n,fun|27=>33|29=>9|3=>3|32=>223|26=>33|0=>0|44=>270|46=>272|4=>4|36=>264|35=>263|41=>183|5=>5|9=>9|53=>304|57=>308|63=>347|64=>348|n=>n,fun|n=>n⟩
theorem zot:Go.Proofs.SlLaysM.n6 Tryz.prog Tryz.g127_ren:={
 mixed:=by kernel_rfl
 f6:=⟨Tryz.f127.name,by decide,Tryz.func127.trans (congrArg some (by kernel_rfl))⟩
 f8:=Tryz.func142.trans (congrArg some (by kernel_rfl))
 f9:=⟨Tryz.f189.name,by decide,Tryz.func189.trans (congrArg some (by kernel_rfl))⟩
 f19:=Tryz.func203.trans (congrArg some (by kernel_rfl))
 f20:=Tryz.func204.trans (congrArg some (by kernel_rfl))
 f21:=⟨Tryz.f241.name,by decide,Tryz.func241.trans (congrArg some (by kernel_rfl))⟩
 f22:=⟨Tryz.f242.name,by decide,Tryz.func242.trans (congrArg some (by kernel_rfl))⟩
 f23:=⟨Tryz.f243.name,by decide,Tryz.func243.trans (congrArg some (by kernel_rfl))⟩
 f24:=⟨Tryz.f244.name,by decide,Tryz.func244.trans (congrArg some (by kernel_rfl))⟩
 f25:=⟨Tryz.f245.name,by decide,Tryz.func245.trans (congrArg some (by kernel_rfl))⟩
 f26:=⟨Tryz.f246.name,by decide,Tryz.func246.trans (congrArg some (by kernel_rfl))⟩
 f27:=⟨Tryz.f247.name,by decide,Tryz.func247.trans (congrArg some (by kernel_rfl))⟩
 f28:=⟨Tryz.f248.name,by decide,Tryz.func248.trans (congrArg some (by kernel_rfl))⟩
 f29:=⟨Tryz.f249.name,by decide,Tryz.func249.trans (congrArg some (by kernel_rfl))⟩
 f31:=Tryz.func255.trans (congrArg some (by kernel_rfl))
 f32:=Tryz.func256.trans (congrArg some (by kernel_rfl))
 f36:=⟨Tryz.f291.name,by decide,Tryz.func291.trans (congrArg some (by kernel_rfl))⟩
 f37:=⟨Tryz.f292.name,by decide,Tryz.func292.trans (congrArg some (by kernel_rfl))⟩
 f38:=⟨Tryz.f293.name,by decide,Tryz.func293.trans (congrArg some (by kernel_rfl))⟩
 f39:=⟨Tryz.f252.name,by decide,Tryz.func252.trans (congrArg some (by kernel_rfl))⟩
 f41:=⟨Tryz.f309.name,by decide,Tryz.func309.trans (congrArg some (by kernel_rfl))⟩
 t0:=Tryz.underlying0
 a0:=Tryz.isAgg0
 z0:=Tryz.sizeOf0
 v0:=Tryz.zeroValue0
 t3:=Tryz.underlying3
 a3:=Tryz.isAgg3
 z3:=Tryz.sizeOf3
 v3:=Tryz.zeroValue3
 t4:=Tryz.underlying4
 a4:=Tryz.isAgg4
 z4:=Tryz.sizeOf4
 v4:=Tryz.zeroValue4
 t5:=Tryz.underlying5
 a5:=Tryz.isAgg5
 z5:=Tryz.sizeOf5
 v5:=Tryz.zeroValue5
 t9:=Tryz.underlying9
 a9:=Tryz.isAgg9
 z9:=Tryz.sizeOf9
 v9:=Tryz.zeroValue9
 t26:=Tryz.underlying33
 a26:=Tryz.isAgg33
 z26:=Tryz.sizeOf33
 v26:=Tryz.zeroValue33
 t27:=Tryz.underlying33
 a27:=Tryz.isAgg33
 z27:=Tryz.sizeOf33
 v27:=Tryz.zeroValue33
 t29:=Tryz.underlying9
 a29:=Tryz.isAgg9
 z29:=Tryz.sizeOf9
 v29:=Tryz.zeroValue9
 t32:=Tryz.underlying223
 a32:=Tryz.isAgg223
 z32:=Tryz.sizeOf223
 v32:=Tryz.zeroValue223
 t35:=Tryz.underlying263
 a35:=Tryz.isAgg263
 z35:=Tryz.sizeOf263
 v35:=Tryz.zeroValue263
 t36:=Tryz.underlying264
 a36:=Tryz.isAgg264
 z36:=Tryz.sizeOf264
 v36:=Tryz.zeroValue264
 t41:=Tryz.underlying183
 a41:=Tryz.isAgg183
 z41:=Tryz.sizeOf183
 v41:=Tryz.zeroValue183
 t44:=Tryz.underlying270
 a44:=Tryz.isAgg270
 z44:=Tryz.sizeOf270
 v44:=Tryz.zeroValue270
 t46:=Tryz.underlying272
 a46:=Tryz.isAgg272
 z46:=Tryz.sizeOf272
 v46:=Tryz.zeroValue272
 t53:=Tryz.underlying304
 a53:=Tryz.isAgg304
 z53:=Tryz.sizeOf304
 v53:=Tryz.zeroValue304
 t57:=Tryz.underlying308
 a57:=Tryz.isAgg308
 z57:=Tryz.sizeOf308
 v57:=Tryz.zeroValue308
 t63:=Tryz.underlying347
 a63:=Tryz.isAgg347
 z63:=Tryz.sizeOf347
 v63:=Tryz.zeroValue347
 t64:=Tryz.underlying348
 a64:=Tryz.isAgg348
 z64:=Tryz.sizeOf348
 v64:=Tryz.zeroValue348}
def Tryz.g70_ren:Go.Shelf.Ren:=⟨fun|6=>70|15=>142|14=>141|28=>203|29=>204|20=>195|21=>196|22=>197|23=>198|24=>199|25=>200|26=>201|27=>202|46=>254|47=>255|48=>256|49=>257|50=>258|57=>295|n=>n,fun|22=>34|24=>147|25=>149|3=>3|39=>223|0=>0|53=>270|55=>272|4=>4|46=>264|45=>263|50=>183|5=>5|9=>9|66=>304|70=>308|76=>347|77=>348|n=>n,fun|n=>n⟩
theorem ztZ:Go.Proofs.SlLaysF0.n6 Tryz.prog Tryz.g70_ren:={
 mixed:=by kernel_rfl
 f6:=⟨Tryz.f70.name,by decide,Tryz.func70.trans (congrArg some (by kernel_rfl))⟩
 f14:=⟨Tryz.f141.name,by decide,Tryz.func141.trans (congrArg some (by kernel_rfl))⟩
 f15:=Tryz.func142.trans (congrArg some (by kernel_rfl))
 f20:=⟨Tryz.f195.name,by decide,Tryz.func195.trans (congrArg some (by kernel_rfl))⟩
 f21:=⟨Tryz.f196.name,by decide,Tryz.func196.trans (congrArg some (by kernel_rfl))⟩
 f22:=⟨Tryz.f197.name,by decide,Tryz.func197.trans (congrArg some (by kernel_rfl))⟩
 f23:=⟨Tryz.f198.name,by decide,Tryz.func198.trans (congrArg some (by kernel_rfl))⟩
 f24:=⟨Tryz.f199.name,by decide,Tryz.func199.trans (congrArg some (by kernel_rfl))⟩
 f25:=⟨Tryz.f200.name,by decide,Tryz.func200.trans (congrArg some (by kernel_rfl))⟩
 f26:=⟨Tryz.f201.name,by decide,Tryz.func201.trans (congrArg some (by kernel_rfl))⟩
 f27:=⟨Tryz.f202.name,by decide,Tryz.func202.trans (congrArg some (by kernel_rfl))⟩
 f28:=Tryz.func203.trans (congrArg some (by kernel_rfl))
 f29:=Tryz.func204.trans (congrArg some (by kernel_rfl))
 f46:=⟨Tryz.f254.name,by decide,Tryz.func254.trans (congrArg some (by kernel_rfl))⟩
 f47:=Tryz.func255.trans (congrArg some (by kernel_rfl))
 f48:=Tryz.func256.trans (congrArg some (by kernel_rfl))
 f49:=⟨Tryz.f257.name,by decide,Tryz.func257.trans (congrArg some (by kernel_rfl))⟩
 f50:=⟨Tryz.f258.name,by decide,Tryz.func258.trans (congrArg some (by kernel_rfl))⟩
 f57:=⟨Tryz.f295.name,by decide,Tryz.func295.trans (congrArg some (by kernel_rfl))⟩
 t0:=Tryz.underlying0
 a0:=Tryz.isAgg0
 z0:=Tryz.sizeOf0
 v0:=Tryz.zeroValue0
 t3:=Tryz.underlying3
 a3:=Tryz.isAgg3
 z3:=Tryz.sizeOf3
 v3:=Tryz.zeroValue3
 t4:=Tryz.underlying4
 a4:=Tryz.isAgg4
 z4:=Tryz.sizeOf4
 v4:=Tryz.zeroValue4
 t5:=Tryz.underlying5
 a5:=Tryz.isAgg5
 z5:=Tryz.sizeOf5
 v5:=Tryz.zeroValue5
 t9:=Tryz.underlying9
 a9:=Tryz.isAgg9
 z9:=Tryz.sizeOf9
 v9:=Tryz.zeroValue9
 t22:=Tryz.underlying34
 a22:=Tryz.isAgg34
 z22:=Tryz.sizeOf34
 v22:=Tryz.zeroValue34
 t25:=Tryz.underlying149
 a25:=Tryz.isAgg149
 z25:=Tryz.sizeOf149
 v25:=Tryz.zeroValue149
 t39:=Tryz.underlying223
 a39:=Tryz.isAgg223
 z39:=Tryz.sizeOf223
 v39:=Tryz.zeroValue223
 t45:=Tryz.underlying263
 a45:=Tryz.isAgg263
 z45:=Tryz.sizeOf263
 v45:=Tryz.zeroValue263
 t46:=Tryz.underlying264
 a46:=Tryz.isAgg264
 z46:=Tryz.sizeOf264
 v46:=Tryz.zeroValue264
 t50:=Tryz.underlying183
 a50:=Tryz.isAgg183
 z50:=Tryz.sizeOf183
 v50:=Tryz.zeroValue183
 t53:=Tryz.underlying270
 a53:=Tryz.isAgg270
 z53:=Tryz.sizeOf270
 v53:=Tryz.zeroValue270
 t55:=Tryz.underlying272
 a55:=Tryz.isAgg272
 z55:=Tryz.sizeOf272
 v55:=Tryz.zeroValue272
 t66:=Tryz.underlying304
 a66:=Tryz.isAgg304
 z66:=Tryz.sizeOf304
 v66:=Tryz.zeroValue304
 t70:=Tryz.underlying308
 a70:=Tryz.isAgg308
 z70:=Tryz.sizeOf308
 v70:=Tryz.zeroValue308
 t76:=Tryz.underlying347
 a76:=Tryz.isAgg347
 z76:=Tryz.sizeOf347
 v76:=Tryz.zeroValue347
 t77:=Tryz.underlying348
 a77:=Tryz.isAgg348
 z77:=Tryz.sizeOf348
 v77:=Tryz.zeroValue348}
def Tryz.g182_ren:Go.Shelf.Ren:=⟨fun|6=>182|15=>142|14=>238|28=>203|29=>204|20=>275|21=>276|22=>277|23=>278|24=>279|25=>280|26=>281|27=>282|46=>303|47=>255|48=>256|49=>304|50=>305|57=>317|n=>n,fun|22=>90|24=>248|25=>254|3=>3|39=>223|0=>0|53=>270|55=>272|4=>4|46=>264|45=>263|50=>183|5=>5|9=>9|66=>304|70=>308|76=>347|77=>348|n=>n,fun|n=>n⟩
theorem zsW:Go.Proofs.SlLaysF0.n6 Tryz.prog Tryz.g182_ren:={
 mixed:=by kernel_rfl
 f6:=⟨Tryz.f182.name,by decide,Tryz.func182.trans (congrArg some (by kernel_rfl))⟩
 f14:=⟨Tryz.f238.name,by decide,Tryz.func238.trans (congrArg some (by kernel_rfl))⟩
 f15:=Tryz.func142.trans (congrArg some (by kernel_rfl))
 f20:=⟨Tryz.f275.name,by decide,Tryz.func275.trans (congrArg some (by kernel_rfl))⟩
 f21:=⟨Tryz.f276.name,by decide,Tryz.func276.trans (congrArg some (by kernel_rfl))⟩
 f22:=⟨Tryz.f277.name,by decide,Tryz.func277.trans (congrArg some (by kernel_rfl))⟩
 f23:=⟨Tryz.f278.name,by decide,Tryz.func278.trans (congrArg some (by kernel_rfl))⟩
 f24:=⟨Tryz.f279.name,by decide,Tryz.func279.trans (congrArg some (by kernel_rfl))⟩
 f25:=⟨Tryz.f280.name,by decide,Tryz.func280.trans (congrArg some (by kernel_rfl))⟩
 f26:=⟨Tryz.f281.name,by decide,Tryz.func281.trans (congrArg some (by kernel_rfl))⟩
 f27:=⟨Tryz.f282.name,by decide,Tryz.func282.trans (congrArg some (by kernel_rfl))⟩
 f28:=Tryz.func203.trans (congrArg some (by kernel_rfl))
 f29:=Tryz.func204.trans (congrArg some (by kernel_rfl))
 f46:=⟨Tryz.f303.name,by decide,Tryz.func303.trans (congrArg some (by kernel_rfl))⟩
 f47:=Tryz.func255.trans (congrArg some (by kernel_rfl))
 f48:=Tryz.func256.trans (congrArg some (by kernel_rfl))
 f49:=⟨Tryz.f304.name,by decide,Tryz.func304.trans (congrArg some (by kernel_rfl))⟩
 f50:=⟨Tryz.f305.name,by decide,Tryz.func305.trans (congrArg some (by kernel_rfl))⟩
 f57:=⟨Tryz.f317.name,by decide,Tryz.func317.trans (congrArg some (by kernel_rfl))⟩
 t0:=Tryz.underlying0
 a0:=Tryz.isAgg0
 z0:=Tryz.sizeOf0
 v0:=Tryz.zeroValue0
 t3:=Tryz.underlying3
 a3:=Tryz.isAgg3
 z3:=Tryz.sizeOf3
 v3:=Tryz.zeroValue3
 t4:=Tryz.underlying4
 a4:=Tryz.isAgg4
 z4:=Tryz.sizeOf4
 v4:=Tryz.zeroValue4
 t5:=Tryz.underlying5
 a5:=Tryz.isAgg5
 z5:=Tryz.sizeOf5
 v5:=Tryz.zeroValue5
 t9:=Tryz.underlying9
 a9:=Tryz.isAgg9
 z9:=Tryz.sizeOf9
 v9:=Tryz.zeroValue9
 t22:=Tryz.underlying90
 a22:=Tryz.isAgg90
 z22:=Tryz.sizeOf90
 v22:=Tryz.zeroValue90
 t25:=Tryz.underlying254
 a25:=Tryz.isAgg254
 z25:=Tryz.sizeOf254
 v25:=Tryz.zeroValue254
 t39:=Tryz.underlying223
 a39:=Tryz.isAgg223
 z39:=Tryz.sizeOf223
 v39:=Tryz.zeroValue223
 t45:=Tryz.underlying263
 a45:=Tryz.isAgg263
 z45:=Tryz.sizeOf263
 v45:=Tryz.zeroValue263
 t46:=Tryz.underlying264
 a46:=Tryz.isAgg264
 z46:=Tryz.sizeOf264
 v46:=Tryz.zeroValue264
 t50:=Tryz.underlying183
 a50:=Tryz.isAgg183
 z50:=Tryz.sizeOf183
 v50:=Tryz.zeroValue183
 t53:=Tryz.underlying270
 a53:=Tryz.isAgg270
 z53:=Tryz.sizeOf270
 v53:=Tryz.zeroValue270
 t55:=Tryz.underlying272
 a55:=Tryz.isAgg272
 z55:=Tryz.sizeOf272
 v55:=Tryz.zeroValue272
 t66:=Tryz.underlying304
 a66:=Tryz.isAgg304
 z66:=Tryz.sizeOf304
 v66:=Tryz.zeroValue304
 t70:=Tryz.underlying308
 a70:=Tryz.isAgg308
 z70:=Tryz.sizeOf308
 v70:=Tryz.zeroValue308
 t76:=Tryz.underlying347
 a76:=Tryz.isAgg347
 z76:=Tryz.sizeOf347
 v76:=Tryz.zeroValue347
 t77:=Tryz.underlying348
 a77:=Tryz.isAgg348
 z77:=Tryz.sizeOf348
 v77:=Tryz.zeroValue348}
end
end Go.Proofs
namespace Go.HL
section
variable {P:Program}
open Go.Sort Go.Proofs Go.Shelf Go.RowKit
theorem zqq [Tracks] {w w':World} {J:Imm} {M:List MObj} (hT:Tracks.on=true) (hl:Le (zbK w) J) (hs:Sat P J M w'): ∃q os,w'=grow (w.drewN q) os:=by
 have hb:=zkX hl hs;have hd:w.drawn<=w'.drawn:=Ay (hl.low hT) (hs.low hT);refine ⟨w'.drawn-w.drawn,w'.heap.extract w.heap.size w'.heap.size,?_⟩
 have hh:w'.heap=w.heap++w'.heap.extract w.heap.size w'.heap.size:=by
  apply Array.ext_getElem?
  intro i
  by_cases hi:i<w.heap.size
  rw [AE hi];exact hb.block i hi;rw [Array.getElem?_append_right (by omega),Array.getElem?_extract];have:=hb.size
  split
  congr 1;omega
  rw [Aj (by omega)]
 have h1:=hb.os;have h2:=hb.tape;have h3:=hb.output;obtain ⟨a1,a2,a3,a4,a5⟩:=w';obtain ⟨b1,b2,b3,b4,b5⟩:=w;simp only at h1 h2 h3 hd hh;subst h1 h2 h3;simp only [grow,World.drewN,World.mk.injEq];exact ⟨hh,trivial,by omega,trivial,trivial⟩
theorem ConP.calls [Tracks] {f:FuncId} {hargs:List HVal} {h:HVal} (hT:Tracks.on=true) (hc:ConP P f hargs h) {w:World} (ht:TabI P (zbK w)) {args:List Value} (ha:VL (zbK w) hargs args):
 Calls P f args.toArray w fun e w'=> ∃v,e= .returned v/\V (zbK w') h v/\∃q os,w'=grow (w.drewN q) os:=by
 refine (hc (zbK w) [] w args ha (zrN ht)).mono ?_;rintro e w' ⟨v,x,M',J,rfl,hle,⟨rfl,rfl⟩,hV,hs⟩;exact ⟨v,rfl,hV.mono hs.le_all,zqq hT hle hs⟩
@[reducible] def zjI:Tracks:=⟨true⟩
abbrev zd5 {A:Type} (I:Imm) (e:A->HVal) (k:Nat):Type:={p:A×List Value//p.2.length=k/\(∀v∈p.2,v.oneCell'=true)/\VL I (zb (e p.1)) p.2}
theorem zrL [Tracks] {A:Type} {I:Imm} {e:A->HVal} {k:Nat} (hk: ∀x,(zb (e x)).length=k) (hf: ∀x,zas (zb (e x))=true) {rc:Array Value}: ∀(l:List A) (off:Nat),off+l.length*k<=rc.size->
 (∀(i j:Nat) (x:A) (c:HVal) (v:Value),l[i]? =some x->(zb (e x))[j]? =some c->rc[off+i*k+j]? =some v->V I c v)->
 ∃d:List (zd5 I e k),d.map (·.1.1)=l/\∀(i j:Nat) (p:zd5 I e k),d[i]? =some p->j<k->rc[off+i*k+j]? =p.1.2[j]?
 |[],off,_,_=>⟨[],rfl,fun i j p h=>by simp at h⟩
 |x::l,off,hb,hV=>by
   have hb':off+k+l.length*k<=rc.size:=by simp [AP] at hb;omega
   obtain ⟨d,h1,h2⟩:=zrL hk hf l (off+k) hb' fun i j y c v a1 a2 a3=>hV (i+1) j y c v (by simpa using a1) a2 (by rw [AP,Nat.one_mul];rw [show off+(i*k+k)+j=off+k+i*k+j by omega];exact a3)
   have hlen:(rc.extract off (off+k)).toList.length=k:=by simp;omega
   have hg: ∀j,j<k->(rc.extract off (off+k)).toList[j]? =rc[off+j]?:=fun j hj=>by
    rw [AS,Array.getElem?_extract,if_pos (by omega)]
   have hvl:VL I (zb (e x)) (rc.extract off (off+k)).toList:=⟨by rw [hlen,hk],fun j c v a1 a2=>by
    have hj:j<k:=by have:=zl a1;rw [hk] at this;exact this
    rw [hg j hj] at a2;exact hV 0 j x c v rfl a1 (by simpa using a2)⟩
   refine ⟨⟨(x,(rc.extract off (off+k)).toList),hlen,zka hvl (hf x),hvl⟩::d,by simp [h1],fun i j p hp hj=> ?_⟩
   cases i with
   |zero=>
     simp only [AU,As] at hp;subst hp;simp only [Nat.zero_mul,Bw];exact (hg j hj).symm
   |succ i=>
     simp only [AO] at hp;rw [<-h2 i j p hp hj,AP,Nat.one_mul]
     congr 1;omega
section
variable {A:Type} {e:A->HVal} {k:Nat}
theorem zo9 {α:Type} [Inhabited α] {enc:α->List Value} {w:World} {b off m:Nat} {dk:Array α} {os:Array Obj} {c:Nat} (hc:c<w.heap.size) (hb:c≠b):(sortWorldK enc k w b off m dk os).heap[c]? =w.heap[c]?:=by
 simp only [sortWorldK,grow,putRowK,putRow,mapBlock,Sort.ahead];rw [AE (by simpa using hc),AH,if_neg (Ne.symm hb)]
theorem zlK {α:Type} [Inhabited α] {enc:α->List Value} {w:World} {b off m:Nat} {dk:Array α} {os:Array Obj} {rc:Array Value} {el:TypeId} {fr:Nat×Nat} (hb:w.heap[b]? =some (.cells rc el fr)):
 (sortWorldK enc k w b off m dk os).heap[b]? =some (.cells (putCells id off (flatK enc k dk) rc) el fr):=by
 have hlt:b<w.heap.size:=lt_of_get' hb;simp only [sortWorldK,grow,putRowK,putRow,mapBlock,Sort.ahead];rw [AE (by simpa using hlt),AH,if_pos rfl,hb]
 rfl
where
 lt_of_get' {α:Type} {a:Array α} {i:Nat} {x:α} (h:a[i]? =some x):i<a.size:=by
  rcases Az i a.size with h'|h'
  exact h'
  simp [Aj h'] at h
theorem zoH {α:Type} [Inhabited α] {enc:α->List Value} (hk: ∀x,(enc x).length=k) {dk:Array α} {i j:Nat} {x:α} (hx:dk[i]? =some x) (hj:j<k):some ((flatK enc k dk)[i*k+j]!)=(enc x)[j]?:=by
 have hi:i<dk.size:=by
  rcases Az i dk.size with h'|h'
  exact h'
  simp [Aj h'] at hx
 have hle:(i+1)*k<=dk.size*k:=Au _ hi;rw [AP,Nat.one_mul] at hle;rw [get_flatK enc k dk _ (by omega)];have e1:(i*k+j)/k=i:=by rw [Bx,Nat.mul_add_div (by omega),Nat.div_eq_of_lt hj];rfl
 have e2:(i*k+j)%k=j:=by rw [Bx,Nat.mul_add_mod,Nat.mod_eq_of_lt hj]
 rw [e1,e2];have e3:dk[i]! =x:=by rw [getElem!_pos dk i hi];rw [Ai hi] at hx;exact Aw hx
 rw [e3];have hjl:j<(enc x).length:=by rw [hk];exact hj
 rw [Aa hjl,getElem!_pos (enc x) j hjl]
theorem zoB [Tracks] {ρ:Ren} (L:SlLaysF0.n6 P ρ) (aE: ∀w,(isAgg (ρ.t 24)).run P w= .ok true w) (zE: ∀w,(Go.sizeOf (ρ.t 24)).run P w= .ok k w) (hk: ∀x,(zb (e x)).length=k) (ha: ∀x,e x= .agg (zb (e x))) (hf: ∀x,zas (zb (e x))=true)
 {c:A->A->Int} (hO:SWO (ltOf c)) {g:FuncId} (hg:Callable P g) {cap:List HVal} (hc: ∀x y, @ConP zjI P g (e x::e y::cap) (.int .i64 (c x y))) {l:List A} (hl:l.length<=1000000) {v:Value}:
 Con P (ρ.f 6) [.raw v,.fn (.func g) [] cap] [.arr v k (l.map e)] fun x M'=> ∃l':List A,x= .tup []/\l'.Perm l/\l'.Pairwise (fun a b=> ¬c b a<0)/\M'=[.arr v k (l'.map e)]:=by
 intro I F w args hargs hs
 obtain ⟨n1,n2⟩:=hargs
 match args,n1,n2 with
 |[u,fv],_,n2=>
   obtain rfl:u=v:=(n2 0 _ _ rfl rfl).raw_inv;obtain ⟨f1,cb,rfl,f2,f3⟩:=(n2 1 _ _ rfl rfl).fn_inv;have hf1:f1= #[]:=by have:=f2.1;simp at this;exact this
   subst hf1
   by_cases h0:l=[]
   subst h0;have hu: ∃p cp,u= .slice p 0 cp:=by
    rcases hs.obj (.arr u k (([]:List A).map e)) (by simp) with ⟨rfl,_⟩|⟨b,off,cp,rc,el,fr,rfl,_⟩
    exact ⟨_,_,rfl⟩;exact ⟨_,_,rfl⟩
   obtain ⟨p,cp,rfl⟩:=hu;refine (AnyF.slices_SortFunc_none L p cp _ w).mono ?_;rintro _ _ ⟨rfl,rfl⟩;exact ⟨_,.tup [],_,I,rfl,.refl I,⟨[],rfl,.refl _,.nil,rfl⟩,.tup (by simp) (fun j c v h _=>by simp at h),hs⟩
   rcases hs.obj (.arr u k (l.map e)) (by simp) with ⟨_,hn⟩|⟨b,off,cp,rc,el,fr,rfl,_⟩
   simp at hn;exact absurd hn h0
   rw [Ah] at hs⊢;obtain ⟨_,rc,el,fr,h2,h3,h4,h5,h6,h7⟩:=zhG hs;rw [Ah] at h5;have hblt:b<w.heap.size:=zlK.lt_of_get' h2;have hsz:off+l.length*k<=rc.size:=by
    have:l.length*k<=cp*k:=Au _ h5.1
    omega
   obtain ⟨d,d1,d2⟩:=zrL (I:=I) (e:=e) hk hf (rc:=rc) l off hsz fun i j x c v a1 a2 a3=>h7 i j (e x) c v (by simp [a1]) a2 a3
   have dl:d.length=l.length:=by rw [<-d1];simp
   obtain ⟨p0,hp0⟩: ∃p,d[0]? =some p:=⟨_,Aa (by have:=List.length_pos_iff.2 h0;omega)⟩
   haveI:Inhabited (zd5 I e k):=⟨p0⟩
   have hkr: ∀x:zd5 I e k,(x.1.2).length=k:=fun x=>x.2.1
   have hH:HoldsK (fun x:zd5 I e k=>x.1.2) k w b off d.toArray:=fun j hj=>by
    simp only [size_flatK,Bq,dl] at hj;have hk0:0<k:=by rcases A0 k with h|h;(subst h;simp at hj);exact h
    have hi:j/k<d.length:=by rw [dl];exact Nat.div_lt_of_lt_mul (by rw [Bx];exact hj)
    have hjk:=BM j hk0;have hdj:j/k*k+j%k=j:=by rw [Bx];exact Nat.div_add_mod j k
    have hg1:=d2 (j/k) (j%k) d[j/k] (Aa hi) hjk;have hg2:=zoH (enc:=fun x:zd5 I e k=>x.1.2) (k:=k) hkr (dk:=d.toArray) (i:=j/k) (j:=j%k) (x:=d[j/k]) (by simp [hi]) hjk;rw [hdj] at hg2
    constructor
    rw [zbu h2];rw [show off+j=off+j/k*k+j%k by omega,hg1,<-hg2];rfl;simp only [World.frozen?,h2];have:=h3 (off+j) (by omega)
    simpa using this
   have hle: ∀(m:Nat) (dk:Array (zd5 I e k)) (os:Array Obj),Le I (zbK (sortWorldK (fun x:zd5 I e k=>x.1.2) k w b off m dk os)):=fun m dk os=>
    ⟨fun c o ho=>by
     have hcb:c≠b:=fun hh=>by
      subst hh;have:=hs.apart c (by simp [blocks,MObj.blocks]);rw [this] at ho;cases ho
     have h9:=hs.imm c o ho
     show (sortWorldK _ k w b off m dk os).heap[c]? =some o
     rw [zo9 (zlK.lt_of_get' h9) hcb];exact h9,hs.os,hs.output,hs.tape,fun ht=>Ay (hs.low ht) (B4 _ _)⟩
   have hcmp:CmpLays P g cb (fun x:zd5 I e k=>x.1.2) k (fun x y=>c x.1.1 y.1.1) b off d.toArray.size w:=fun m os dk _ x y=>by
    have hI:=hle m dk os;have hxa: ∀z:zd5 I e k,V (zbK (sortWorldK (fun x:zd5 I e k=>x.1.2) k w b off m dk os)) (e z.1.1) (.agg z.1.2.toArray):=fun z=>by
     rw [ha];exact zjL (by simpa using z.2.2.2.mono hI)
    have e9:(#[Value.agg x.1.2.toArray,.agg y.1.2.toArray]++cb)=(Value.agg x.1.2.toArray:: .agg y.1.2.toArray::cb.toList).toArray:=by simp
    rw [e9];refine (@ConP.calls P zjI g _ _ rfl (hc x.1.1 y.1.1) _ (hs.tab.mono hI) _ (VL.cons (hxa x) (VL.cons (hxa y) (f3.mono hI)))).mono ?_;rintro _ w' ⟨u,rfl,hu,q,os',rfl⟩;exact ⟨by rw [hu.int_inv],q,os',rfl⟩
   have hO':SWO (ltOf fun x y:zd5 I e k=>c x.1.1 y.1.1):=⟨fun x=>hO.irrefl x.1.1,fun x y z=>hO.trans x.1.1 y.1.1 z.1.1,fun x y z=>hO.ntrans x.1.1 y.1.1 z.1.1⟩;have hrun:=AnyQ.slices_SortFunc L k aE zE (fun x:zd5 I e k=>x.1.2) hkr (fun x=>x.2.2.1) (fun x y=>c x.1.1 y.1.1) hO' g cb b off cp d.toArray w (zf1 hg) hcmp hH hblt (by simp;omega);rw [Bq,dl] at hrun;refine hrun.mono ?_;rintro _ w' ⟨rfl,d',m,os,⟨q1,_,q3⟩,q4,rfl⟩;simp only [Bq,dl] at q1;have q3':d'.toList.Perm d:=by
    have e1:(d'.extract 0 l.length)=d':=by rw [<-q1];exact Array.extract_size
    have e2:(d.toArray.extract 0 l.length)=d.toArray:=by have:=Array.extract_size (xs:=d.toArray);rw [Bq,dl] at this;exact this
    rw [e1,e2] at q3;simpa using q3
   refine ⟨_,.tup [],[.arr (.slice (some ⟨b,off,none⟩) l.length cp) k ((d'.toList.map (·.1.1)).map e)],I,rfl,.refl I,⟨d'.toList.map (·.1.1),rfl,by rw [<-d1];exact q3'.map _,?_,rfl⟩,.tup (by simp) (fun j c v h _=>by simp at h),?_⟩
   refine List.pairwise_iff_getElem.2 fun i j hi hj hij=> ?_
   simp only [Ah,AN] at hi hj;have:=q4 i j (Ad _) hij (by omega);rw [getElem!_pos d' i hi,getElem!_pos d' j hj] at this;simp only [ltOf,decide_eq_false_iff_not] at this
   simpa using this
   have hchg: ∀x,x<w.heap.size->x∉(MObj.arr (.slice (some ⟨b,off,none⟩) l.length cp) k (l.map e)).blocks->(sortWorldK (fun x:zd5 I e k=>x.1.2) k w b off m d' os).heap[x]? =w.heap[x]?:=fun x hx hnx=>zo9 hx fun hh=>hnx (by rw [hh];simp [MObj.blocks])
   refine hs.change (m':= .arr (.slice (some ⟨b,off,none⟩) l.length cp) k ((d'.toList.map (·.1.1)).map e)) hchg (fun x hx=> .inl hx) (by simp [MObj.blocks]) ?_ rfl rfl rfl (fun _=>B4 _ _)
   refine .inr ⟨b,off,cp,putCells id off (flatK (fun x:zd5 I e k=>x.1.2) k d') rc,el,fr,by simp [q1],zlK h2,by simpa [putCells] using h3,?_,by simp [q1];exact h5,by simpa [putCells] using h6,?_⟩
   intro y hy;obtain ⟨z,_,rfl⟩:=List.mem_map.1 hy;exact hk z
   intro i j y z v a1 a2 a3
   rw [AX,Ag] at a1
   cases hq:d'.toList[i]? with
   |none=>rw [hq] at a1;simp at a1
   |some r=>
     rw [hq] at a1;simp only [AG,Function.comp_apply,As] at a1;subst a1;have hj:j<k:=by have:=zl a2;rw [hk] at this;exact this
     have hi:i<l.length:=by have:=zl hq;simp at this;omega
     have hle:(i+1)*k<=l.length*k:=Au _ hi;rw [AP,Nat.one_mul] at hle;have hr:off+i*k+j<rc.size:=by omega
     rw [putCells,Array.getElem?_mapIdx,Ai hr,AG,if_pos ⟨by omega,by rw [size_flatK,q1];omega⟩] at a3;rw [show off+i*k+j-off=i*k+j by omega] at a3;have hg2:=zoH (enc:=fun x:zd5 I e k=>x.1.2) (k:=k) hkr (dk:=d') (i:=i) (j:=j) (x:=r) (by simpa using hq) hj;rw [show (id (flatK (fun x:zd5 I e k=>x.1.2) k d')[i*k+j]!)=(flatK (fun x:zd5 I e k=>x.1.2) k d')[i*k+j]! from rfl,hg2] at a3;exact r.2.2.2.2 j z v a2 a3
end
end
section
variable {P:Program}
theorem zjl [Tracks] {e:Env} {M N:List MObj} {o:Oper} {K:HVal->List MObj->Prop} {sz:Nat} {es:List HVal} (i:Nat) (h:EOp P e M o fun x M'=> ∃v,x= .raw v/\M'[i]? =some (.arr v sz es)/\M'.eraseIdx i=N) (hk:K (.slice sz es) N):EOp P e M o K:=fun I F a w ho hs=>
 zaZ (fun _ _ ⟨v,x,M',J,h1,h2,⟨u,h3,h4,h5⟩,h6,h7⟩=>by
  subst h3 h5;obtain ⟨J',g1,g2,g3⟩:=(h7.pull h4).freeze_arr;exact ⟨v,_,_,J',h1,h2.trans g1,hk,by rw [h6.raw_inv];exact g3,g2⟩) (h I F a w ho hs)
end
end Go.HL
namespace Go.Proofs.YtaihpegdcgdcgaaGreatDoor
set_option maxRecDepth 100000
set_option linter.unusedVariables false
set_option linter.unusedSimpArgs false
section
open Go.Proofs.Tryz
open Go.HL
theorem zpn [Tracks] {l:List Play} {n:Int} (hl:l.length<=1000000):Con prog 117 [zbq l,.int .i64 n] [] (fun x M'=> ∃b,x= .raw (.map (some b))/\M'=[.map b (kk zgh (em HVal.bool (zkb l n)))]):=by
 refine uOb func117 ntmps117 ?_;refine gz4 ?_;refine de rfl (zaJ fun m14=> ?_)
 refine gz9 ?_;refine uT1 [7,1,17,16] (fun k=>[(17,.int .i64 k)]) (fun k=>[.map m14 (kk zgh (em zad (zmL (l.take k) n)))]) (fun k=>k<=l.length/\(True)) (fun k=>l.length-k) (0) ?_ ?_;exact ⟨Ad _,trivial⟩;rintro k ⟨hk,-⟩;refine gz4 ?_;refine uCo (fun h1=> ?_) fun h2=> ?_
 obtain ⟨x,hx⟩: ∃x,l[k]? =some x:=⟨_,Aa h1⟩
 have hdx:=zg hx;refine gz7 ?_;refine de rfl (zi zbk rfl fun b7=> ?_)
 refine de0 (zo zbk rfl rfl rfl rfl rfl ?_)
 refine gz1 ?_;refine zf (zp 7 rfl) ?_;refine gz6 ?_;refine uCo (fun h3=> ?_) fun h4=> ?_
 refine gz6 ?_;refine dq (zH (cs:=[_,_]) zkr zsA rfl) ?_;refine gz1 ?_;refine de0 (zhY (i:=0) (s:=(x.Source,x.No)) (v:=x) zvN zpL rfl rfl rfl rfl ?_)
 refine gz7 ?_;exact ⟨k+1,⟨by omega,trivial⟩,uD,⟨rfl,trivial⟩,uK,zq (by dsimp only;rw [zoY hx,zlV,if_pos (by simpa using h3)];try rfl)⟩;refine gz7 ?_;exact ⟨k+1,⟨by omega,trivial⟩,uD,⟨rfl,trivial⟩,uK,zq (by dsimp only;rw [zoY hx,zlV,if_neg (by simpa using h4)];try rfl)⟩;have hnk:l.length<=k:=by omega
 obtain rfl:k=l.length:=by omega
 refine gz2 ?_;refine zn ?_;refine gz2 ?_;rw [Ap];refine gz1 ?_;refine de rfl (zaJ fun m33=> ?_)
 refine gz9 ?_;refine uT1 [10,4,36,54] (fun k=>[(36,.int .i64 k)]) (fun k=>[.map m33 (kk zgh (em HVal.bool (zlp (zmL l n) n (l.take k)))),.map m14 (kk zgh (em zad (zmL l n)))]) (fun k=>k<=l.length/\(True)) (fun k=>l.length-k) (0) ?_ ?_;exact ⟨Ad _,trivial⟩;rintro k ⟨hk,-⟩;refine gz4 ?_;refine uCo (fun h5=> ?_) fun h6=> ?_
 obtain ⟨x,hx⟩: ∃x,l[k]? =some x:=⟨_,Aa h5⟩
 have hdx:=zg hx;refine gz7 ?_;refine de rfl (zi zbk rfl fun b10=> ?_)
 refine de0 (zo zbk rfl rfl rfl rfl rfl ?_)
 refine gz1 ?_;refine zf (zp 10 rfl) ?_;refine zdz ?_;refine uCo (fun h7=> ?_) fun h8=> ?_
 refine gz8 ?_;exact ⟨k+1,⟨by omega,trivial⟩,uD,⟨rfl,trivial⟩,uK,zq (by dsimp only;rw [zi4 hx,zh0,if_pos (by simpa using h7)];try rfl)⟩;refine gz7 ?_;refine dq (zH (cs:=[_,_]) zkr zsA rfl) ?_;refine de rfl (zi zkr rfl fun b11=> ?_)
 refine de0 (zo zkr rfl rfl rfl rfl rfl ?_)
 refine gz1 ?_;refine zf (zp 11 rfl) ?_;refine gz3 ?_;refine de rfl (zpv (i:=1) (s:=(x.Source,x.Undo)) (z0:=zki) zvN zpL zbk rfl rfl rfl rfl ?_)
 refine gz3 ?_;refine de rfl (zi zbk rfl fun b12=> ?_)
 refine de0 (zo zbk rfl rfl rfl rfl rfl ?_)
 refine gz2 ?_;refine zf (zp 12 rfl) ?_;refine gz29 ?_;refine uCo (fun h9=> ?_) fun h10=> ?_
 refine gz3 ?_;refine de0 (zhY (i:=0) (s:=(x.Source,x.Undo)) (v:=true) zvM zpL rfl rfl rfl rfl ?_)
 refine gz7 ?_;exact ⟨k+1,⟨by omega,trivial⟩,uD,⟨rfl,trivial⟩,uK,zq (by dsimp only;rw [zi4 hx,zh0,if_neg (by simp_all;try omega),if_pos (by simp_all [zqX])];try rfl)⟩;refine gz7 ?_;exact ⟨k+1,⟨by omega,trivial⟩,uD,⟨rfl,trivial⟩,uK,zq (by dsimp only;rw [zi4 hx,zh0,if_neg (by simp_all;try omega),if_neg (by simp_all [zqX])];try rfl)⟩;have hnk:l.length<=k:=by omega
 obtain rfl:k=l.length:=by omega
 refine gz2 ?_;refine zn ?_;refine gz2 ?_;rw [Ap];refine zf (Ghost.only (i:=0) rfl) ?_;refine gz5 ?_;exact zW rfl ⟨_,rfl,rfl⟩
theorem zpm [Tracks] {a b:StatS}:ConP prog 183 [zdc a,zdc b] (.int .i64 (zei a b)):=by
 refine uOb func183 ntmps183 ?_;refine zat ?_;refine dq (uCl zcT rfl zG) ?_;refine gz3 ?_;refine zB rfl ?_
 rfl
theorem zq5 [Tracks] {c:StatS->StatS->Int} (hO:Go.Sort.SWO (Go.Proofs.ltOf c)) {g:FuncId} (hg:Callable prog g) {cap:List HVal} (hc: ∀x y, @ConP zjI prog g (zdc x::zdc y::cap) (.int .i64 (c x y))) {l:List StatS} (hl:l.length<=1000000) {v:Value}:
 Con prog 182 [.raw v,.fn (.func g) [] cap] [.arr v 2 (l.map zdc)] fun x M'=> ∃l':List StatS,x= .tup []/\l'.Perm l/\l'.Pairwise (fun a b=> ¬c b a<0)/\M'=[.arr v 2 (l'.map zdc)]:=
 zoB (e:=zdc) zsW (Tryz.isAgg248) (Tryz.sizeOf248) (fun _=>rfl) (fun _=>rfl) (fun _=>rfl) hO hg hc hl
theorem zwI [Tracks] (m:Nat):Go.Proofs.AnyZ.SortsIn prog Tryz.g180_ren Fence.wide m:=
 ⟨fun blk off cap ss W hH hblk hsz=>callsIn_wide.2 (AnyM.slices_Sort_string zot blk off cap ss W hH hblk hsz),fun p cap W=>callsIn_wide.2 (AnyM.slices_Sort_string_none zot p cap W)⟩
theorem zr1 [Tracks] {b:Nat}:Con prog 181 [.raw (.map (some b))] [] fun x M'=> ∃bx,x= .fn (.func 237) [] [.raw (.pointer (some ⟨bx,0,none⟩))]/\M'=[.cells bx [.raw (.map (some b))]]:=
 zue (ρ:=Tryz.g181_ren) zou
theorem zm4 [Tracks] (hT:Tracks.on=false) {S:List Str} (hn:S.Nodup) (hl: ∀s∈S,s.length<=1000000) (hs:S.length<=1000000) {b bx:Nat}:
 Con prog 180 [.fn (.func 237) [] [.raw (.pointer (some ⟨bx,0,none⟩))]] [.cells bx [.raw (.map (some b))],.map b (sk (zbe S))] fun x M'=> ∃v,x= .raw v/\M'=[.arr v 1 ((za3 S).map .str),.map b (sk (zbe S))]:=
 zps hT (ρ:=Tryz.g180_ren) (ρk:=Tryz.g181_ren) zsV zou zwI (enters_of func127 (by kernel_rfl) rfl) (enters_of func237 (by kernel_rfl) rfl) hn hl hs
theorem zjZ [Tracks] {b0 b1:Nat} {c:List (Of2×Int)} {S:List Str} {week:Int} (hT:Tracks.on=false) (hn:ANodup c) (hSn:S.Nodup) (hSk: ∀s∈S,s.length<=40) (hc:c.length<=1000000) (hSl:S.length<=1000000):Con prog 118 [.raw (.map (some b0)),.raw (.map (some b1)),.int .i64 week] [.map b0 (kk eOf (em (HVal.int .i64) c)),.map b1 (sk (zbe S))] (fun x M'=>x= .tup [zql (zhx c S week),.int .i64 (zhw c S)]/\M'=[]):=by
 refine uOb func118 ntmps118 ?_;refine gz5 ?_;refine de rfl (zaJ fun m15=> ?_)
 refine gz5 ?_;refine de rfl (zoD (i:=1) zpQ rfl rfl fun r=> ?_)
 refine gz2 ?_;refine uV3 [6,2,9,2,18,24] (fun (vis:List Nat) (E:List (Of2×Int)) (G:Grp StatS)=>[]) (fun (vis:List Nat) (E:List (Of2×Int)) (G:Grp StatS)=>[.map m15 (sk (em fG G)),.iter r b0 (kk eOf (em (HVal.int .i64) c)) vis,.map b1 (sk (zbe S))]++grp 2 zdc G) (fun (vis:List Nat) (E:List (Of2×Int)) (G:Grp StatS)=>VisOk (c) vis E/\(GOk E G/\∀y∈E,out y.2 (-100000) 100000=false)) (fun (vis:List Nat) (E:List (Of2×Int)) (G:Grp StatS)=>(c).length-vis.length) ([]) ([]) ([]) ?_ ?_ ?_ ?_;exact ⟨VisOk.nil _,GOk.nil,fun y h=>by cases h⟩;exact trivial;exact zq rfl
 intro vis E G hinv
 obtain ⟨hvis,hG,hO⟩:=hinv;refine gz1 ?_;refine de rfl (zoC (i:=1) (L:=c) (enc:=(fun p:Of2×Int=>(eOf p.1,HVal.int .i64 p.2))) rfl rfl (zvE _ _ _) hvis.nd hvis.lt fun cb R vis' hnx=> ?_)
 refine gz3 ?_;refine uCo (fun h1=> ?_) fun h2=> ?_
 obtain ⟨j,q,hq,hj,rfl⟩:=hnx.t h1;have hroom:=hvis.room hq hj;have hstep:=hvis.step hq hj;have hqm:=Ab hq;refine gz4 ?_;refine de rfl (zne (i:=1) (L:=c) (enc:=(fun p:Of2×Int=>(eOf p.1,HVal.int .i64 p.2))) rfl rfl (zvE _ _ _) hq ?_)
 refine gz2 ?_;refine de rfl (zi znM rfl fun b9=> ?_)
 refine de0 (zo znM rfl rfl rfl rfl rfl ?_)
 refine gz2 ?_;refine zf (zp 9 rfl) ?_;refine gz3 ?_;refine dq (uCl zbm rfl z7) ?_;refine gz2 ?_;refine uCo (fun h3=> ?_) fun h4=> ?_
 refine gz5 ?_;exact ⟨_,[],Ghost.clear,_,_,rfl,zai (zZ 3) (Weak.refl _),by have hf:=zsm (S:=S) hqm (by simpa using h3);rw [zhx,zhw,hf];rfl,rfl⟩;refine gz5 ?_;refine uCo (fun h5=> ?_) fun h6=> ?_
 refine zf (zbx (M':=[.map m15 (sk (em fG G)),.iter r b0 (kk eOf (em (HVal.int .i64) c)) (vis++[j]),.map b1 (sk (zbe S))]++grp 2 zdc G) rfl) ?_;refine zkv mixed ?_;refine gz6 ?_;refine uA 7 ?_;refine gz2 ?_;refine uB 10 rfl (zH (cs:=[_,_]) zpR zy8 rfl) ?_;refine uB 11 rfl (za (hs:=[_]) zmP zpR rfl rfl (by decide) (by decide) rfl) ?_;refine uF 6 ?_;refine zm rfl (zcE (i:=0) (z0:=gZ StatS) zsP ty9 zmP rfl rfl rfl rfl ?_)
 refine ⟨uE,?_⟩
 refine uF 12 ?_;refine zm rfl (zn8 (A:=[.map m15 (sk (em fG G)),.iter r b0 (kk eOf (em (HVal.int .i64) c)) (vis++[j]),.map b1 (sk (zbe S))]) (G:=G) (s:=q.1.1) (ys:=[⟨q.1.2,q.2⟩]) (eb:=zdc) zmP zpR rfl rfl rfl rfl (by simp [zas,zb]) (by have:=zmk E q.1.1;rw [<-hG.raw] at this;have:=hvis.len;simp only [Ak,AL];omega) fun v41=> ?_)
 refine ⟨uE,?_⟩
 refine uF 13 ?_;refine zI (zcF (i:=0) (f:=fG) (L:=G) (v:=(v41,gL q.1.1 G++[⟨q.1.2,q.2⟩])) zsP ty9 rfl rfl rfl rfl ?_)
 refine ⟨uE,?_⟩
 refine gz3 ?_;have hO': ∀y∈E++[q],out y.2 (-100000) 100000=false:=fun y hy=>by
  rcases List.mem_append.1 hy with hy|hy
  exact hO y hy;rw [List.mem_singleton.1 hy];simpa using h4
 exact ⟨_,E++[q],_,⟨hstep,hG.put (by simpa using h5) v41,hO'⟩,by dsimp only;rw [AA];simp only [Ak,AL];omega,trivial,uK,zq rfl⟩;refine gz3 ?_;have hO': ∀y∈E++[q],out y.2 (-100000) 100000=false:=fun y hy=>by
  rcases List.mem_append.1 hy with hy|hy
  exact hO y hy;rw [List.mem_singleton.1 hy];simpa using h4
 exact ⟨_,E++[q],G,⟨hstep,hG.skip (by simpa using h6),hO'⟩,by dsimp only;rw [AA];simp only [Ak,AL];omega,trivial,uK,zq rfl⟩;obtain ⟨rfl,hlen⟩:=hnx.f h2;have hEp:=hvis.done hlen;refine gz2 ?_;refine zcn ?_;refine gz2 ?_;refine zf (znR (i:=1) rfl) ?_;refine zf (zbx (M':=[.map m15 (sk (em fG G)),.map b0 (kk eOf (em (HVal.int .i64) c)),.map b1 (sk (zbe S))]++grp 2 zdc G) rfl) ?_;refine gz6 ?_;refine de rfl (zaR (M1:=[]) (R:=_) zya rfl (WeakL.refl _) (Ac _) zr1 ?_)
 rintro _ _ ⟨bx,rfl,rfl⟩;refine de rfl (zjl (N:=[.map b1 (sk (zbe S)),.map b0 (kk eOf (em (HVal.int .i64) c))]++([.map m15 (sk (em fG G))]++grp 2 zdc G)) (sz:=1) (es:=(za3 S).map .str) 0 (zaR (M1:=[.cells bx [.raw (.map (some b1))],.map b1 (sk (zbe S))]) (R:=[.map b0 (kk eOf (em (HVal.int .i64) c))]++([.map m15 (sk (em fG G))]++grp 2 zdc G)) zx9 rfl (WeakL.refl _) (by exact zyX) (zm4 hT hSn (fun s hs=>Ay (hSk s hs) (by decide)) hSl) (by rintro _ _ ⟨v,rfl,rfl⟩;exact ⟨v,rfl,rfl,rfl⟩)) ?_)
 refine gz3 ?_;refine zf (zkQ (R:=[_,_])) ?_;refine zf (zM 3) ?_;have hSSl:(za3 S).length<=1000000:=by rw [ziH];exact hSl
 have hSS:(za3 S).Nodup:=(zkp S).nodup_iff.2 hSn;refine gz1 ?_;refine uV2 [6,2,11,1,13,2,46,20] (fun (k:Nat) (u:Value)=>[(46,.int .i64 k),(11,.raw u)]) (fun (k:Nat) (u:Value)=>[.arr u 3 (((za3 S).take k).map fun s=>zpF ⟨s,week,zgq c s⟩),.map m15 (sk (em fG G))]++grp 2 zdc (zf0 G ((za3 S).take k))) (fun (k:Nat) (u:Value)=>k<=(za3 S).length/\(∀s∈(za3 S).take k,¬40<(zbj c s).length)) (fun (k:Nat) (u:Value)=>(za3 S).length-k) (0) (.slice none 0 0) ?_ ?_ ?_ ?_;exact ⟨Ad _,fun s h=>by simp at h⟩;exact ⟨rfl,rfl,trivial⟩;exact zq (by simp [zuV])
 intro k u hinv
 obtain ⟨hk,hg⟩:=hinv;refine gz4 ?_;refine uCo (fun h7=> ?_) fun h8=> ?_
 obtain ⟨x,hx⟩: ∃x,(za3 S)[k]? =some x:=⟨_,Aa h7⟩
 have hdx:=zg hx;refine zdz ?_;refine de rfl (zcE (i:=1) (z0:=gZ StatS) zsP ty9 zmP rfl rfl rfl rfl ?_)
 refine gz2 ?_;have hnx:=zsK hSS hx;have hxS:x∈S:=(zkp S).mem_iff.1 (Ab hx);refine zf (znQ (A:=[.arr u 3 (((za3 S).take k).map fun s=>zpF ⟨s,week,zgq c s⟩),.map m15 (sk (em fG G))]) (G:=zf0 G ((za3 S).take k)) (G':=G) (s:=x) (zsD hG.nd) (zuU hnx)) ?_;rw [ztK];refine gz3 ?_;refine de rfl (za2 (i:=0) (es:=gL x G) zmP rfl rfl ?_)
 refine gz2 ?_;refine uCo (fun h9=> ?_) fun h10=> ?_
 refine gz5 ?_;exact ⟨_,[],Ghost.clear,_,_,rfl,zai (zZ 3) (Weak.refl _),by have hf:=zsn (c:=c) hxS (by rw [<-zqp hEp hG];omega);rw [zhx,zhw,hf];rfl,rfl⟩;refine gz4 ?_;refine de rfl (zaR (M1:=[.arr (gV x G) 2 ((gL x G).map zdc)]) (R:=[.arr u 3 (((za3 S).take k).map fun s=>zpF ⟨s,week,zgq c s⟩),.map m15 (sk (em fG G))]++grp 2 zdc (zf0 G ((za3 S).take k++[x]))) zyb rfl (WeakL.refl _) (Ac _) (zq5 (c:=zei) (zrR zgb) zyc (fun _ _=> @zpm zjI _ _) (l:=gL x G) (by have:=zmk c x;rw [zqp hEp hG];omega)) ?_)
 rintro _ _ ⟨l',rfl,hp',hw',rfl⟩;obtain rfl:=zqQ hEp hn hG hp' hw';refine gz1 ?_;refine zf (zaC 14 (i:=0) rfl rfl) ?_;refine gz5 ?_;refine dq (zH (cs:=[_,_,_]) zqW pl92 rfl) ?_;refine dq (za (hs:=[_]) zsQ zqW rfl rfl (by decide) (by decide) rfl) ?_;refine de rfl (zP (i:=0) zsQ zqW rfl rfl rfl rfl rfl (by simp [zas,zb]) (by have:=ziH S;simp only [Ah,Ak,AL,AD];omega) fun v64=> ?_)
 refine gz8 ?_;refine ⟨k+1,v64,⟨by omega,fun s hs=> ?_⟩,uD,⟨rfl,rfl,trivial⟩,uK,zq (by dsimp only;rw [zaj hx,AB];rfl)⟩
 rw [zaj hx] at hs
 rcases List.mem_append.1 hs with hs|hs
 exact hg s hs;rw [List.mem_singleton.1 hs,<-zqp hEp hG];omega;have hnk:(za3 S).length<=k:=by omega
 obtain rfl:k=(za3 S).length:=by omega
 refine gz2 ?_;refine zJ ?_;refine gz2 ?_;rw [Ap] at hg⊢;refine zf (Ghost.only (i:=0) rfl) ?_;refine gz6 ?_
 (refine zlF (M:=[]) 6 rfl rfl ?_
  have hf:=zti (c:=c) (S:=S) (fun y hy=>hO y (hEp.mem_iff.2 hy)) (fun s hs=>hg s ((zkp S).mem_iff.2 hs));rw [zhx,zhw,hf];simp [Function.comp_def,zap,zaM])
end
section
open Go.Proofs.Tryz
open Go.HL
theorem zqc [Tracks] {l:List Play} {trust:List Str} {week n:Int} (hT:Tracks.on=false) (hl:l.length<=3000) (ht:trust.length<=1000000) (ok: ∀x∈l,playFault x=0):ConP prog 55 [zbq l,eSs trust,.int .i64 week,.int .i64 n] (.tup [zql (zqw l trust week n),.int .i64 (zqv l trust week n)]):=by
 refine uOb func55 ntmps55 ?_;refine gz8 ?_;refine de rfl (zaR (M1:=[]) (R:=[]) zxx rfl (WeakL.refl _) (Ac _) (zq4 (l:=l) (trust:=trust) (n:=n) uO ht) ?_)
 rintro _ _ ⟨b19,O19,rfl,hn19,hO19,rfl⟩;refine gz2 ?_;refine de rfl (zaR (M1:=[]) (R:=_) zxy rfl (WeakL.refl _) (Ac _) (zpn (l:=l) (n:=n) uO) ?_)
 rintro _ _ ⟨b22,rfl,rfl⟩;refine gz4 ?_;refine de rfl (zaJ fun m23=> ?_)
 refine de rfl (zaJ fun m24=> ?_)
 refine zat ?_;refine uV1 [15,1,27,53] (fun (k:Nat)=>[(27,.int .i64 k)]) (fun (k:Nat)=>[.map m24 (kk eOf (em (HVal.int .i64) (zew l trust week n (l.take k)).c)),.map m23 (sk (zbe (zew l trust week n (l.take k)).S)),.map b22 (kk zgh (em HVal.bool (zkb l n))),.map b19 (sk (em HVal.str O19))]) (fun (k:Nat)=>k<=l.length/\(True)) (fun (k:Nat)=>l.length-k) (0) ?_ ?_ ?_ ?_;exact ⟨Ad _,trivial⟩;exact ⟨rfl,trivial⟩;exact zq rfl
 intro k hinv
 obtain ⟨hk,-⟩:=hinv;refine gz4 ?_;refine uCo (fun h1=> ?_) fun h2=> ?_
 obtain ⟨x,hx⟩: ∃x,l[k]? =some x:=⟨_,Aa h1⟩
 have hdx:=zg hx;refine gz7 ?_;refine de rfl (zi zbk rfl fun b15=> ?_)
 refine de0 (zo zbk rfl rfl rfl rfl rfl ?_)
 refine gz1 ?_;refine zf (zp 15 rfl) ?_;refine gz23 ?_;refine uGr rfl (fun hc=>zH (cs:=[_,_]) zkr zsA rfl) ?_;refine dgl rfl rfl (fun hc=>⟨_,OpenTo.upd (t:=52) rfl (hc) (OpenTo.upd (t:=47) rfl (hc) (OpenTo.refl _)),zet (i:=2) (s:=(x.Source,x.No)) (z0:=false) zvM zpL ty4 rfl rfl rfl rfl ⟨rfl,rfl⟩⟩) ?_;refine gz5 ?_;refine dgl rfl rfl (fun hc=>⟨_,OpenTo.upd (t:=58) rfl (hc) (OpenTo.upd (t:=56) rfl (hc) (OpenTo.refl _)),zcE (i:=3) (z0:=([]:Str)) zha ty9 ty9 rfl rfl rfl rfl ⟨rfl,rfl⟩⟩) ?_;refine gz5 ?_;refine uCo (fun h3=> ?_) fun h4=> ?_
 refine gz8 ?_;exact ⟨k+1,⟨by omega,trivial⟩,uD,⟨rfl,trivial⟩,uK,zq (by dsimp only;rw [zoU hx,zh4,if_neg (by rw [zur hO19 h3];simp)])⟩;refine gz6 ?_;refine de0 (zgi (i:=1) znL ty9 rfl rfl rfl rfl ?_)
 refine gz1 ?_;have hpx:=ok x (Ab hx);obtain ⟨_,_,_,_,_,hcb,_⟩:=zez hpx;have hlk:=zvG (l:=l) (m:=l.take k) (trust:=trust) (week:=week) (n:=n) (fun y hy=>ok y (AR hy));have hvb:=hlk.val (x.Player,x.Stat);have hlt:((l.take k).length:Int)<=3000:=by rw [AD];omega
 refine zaX (fun M=>M=[MObj.map m24 (kk eOf (em (HVal.int .i64) (zew l trust week n (l.take k)).c)),MObj.map m23 (sk (zbe (zcf x.Player (zew l trust week n (l.take k)).S))),MObj.map b22 (kk zgh (em HVal.bool (zkb l n))),MObj.map b19 (sk (em HVal.str O19))]\/∃j st,za8 (x.Player,x.Stat) (zcl (x.Player,x.Stat) (HVal.int .i64 0) (em (HVal.int .i64) (zew l trust week n (l.take k)).c))=some j/\M=[MObj.mape m24 (kk eOf (zcl (x.Player,x.Stat) (HVal.int .i64 0) (em (HVal.int .i64) (zew l trust week n (l.take k)).c))) j st,MObj.map m23 (sk (zbe (zcf x.Player (zew l trust week n (l.take k)).S))),MObj.map b22 (kk zgh (em HVal.bool (zkb l n))),MObj.map b19 (sk (em HVal.str O19))]) [6] mixed ?_;refine gz5 ?_;refine uB 5 rfl (zH (cs:=[_,_]) znM zy4 rfl) ?_;refine uM 6 rfl (.inl rfl) (fun M hM=>by
 rcases hM with rfl|⟨j,st,hj,rfl⟩
 exact zet (i:=0) (s:=(x.Player,x.Stat)) (z0:=(0:Int)) zpQ zsy ty3 rfl rfl rfl rfl ⟨rfl,rfl⟩;exact zli (i:=0) (s:=(x.Player,x.Stat)) (z0:=(0:Int)) (f:=HVal.int .i64) zpQ zsy ty3 rfl rfl rfl rfl ⟨rfl,rfl⟩) ?_
 refine uA 7 ?_;refine gz2 ?_;refine uF 10 ?_;refine zm rfl (zkA (i:=0) (s:=(x.Player,x.Stat)) (z0:=(0:Int)) (f:=HVal.int .i64) zpQ zsy ty3 rfl rfl rfl rfl fun j77 st77 hj77=> ?_)
 refine ⟨fun _=> .inl (.inr ⟨j77,st77,hj77,rfl⟩),?_⟩
 refine gz1 ?_;refine uF 12 ?_;refine zI (ziu (i:=0) (s:=(x.Player,x.Stat)) (f:=HVal.int .i64) (z0:=(0:Int)) (v:=(alk (x.Player,x.Stat) (zew l trust week n (l.take k)).c).getD 0+x.Count) rfl rfl rfl rfl hj77 ?_)
 refine ⟨uE,?_⟩
 refine gz7 ?_;exact ⟨k+1,⟨by omega,trivial⟩,uD,⟨rfl,trivial⟩,uK,zq (by dsimp only;rw [zoU hx,zh4,if_pos (zus hO19 h4)];rfl)⟩;have hnk:l.length<=k:=by omega
 obtain rfl:k=l.length:=by omega
 refine gz2 ?_;refine zn ?_;refine gz2 ?_;rw [Ap];have hok:=zvG (l:=l) (m:=l) (trust:=trust) (week:=week) (n:=n) ok;refine gz4 ?_;refine de rfl (zaR (M1:=[_,_]) (R:=[_,_]) zxz rfl (WeakL.refl _) (Ac _) (zjZ hT hok.c hok.S hok.k (Ay hok.cl uO) (Ay hok.Sl uO)) ?_)
 rintro _ _ ⟨rfl,rfl⟩;refine gz6 ?_;exact zaa Ghost.clear rfl ⟨rfl,rfl⟩
theorem zqb [Tracks] {l:List Play} {trust:List Str} {week n:Int} (hT:Tracks.on=false) (hl:l.length<=1000000) (ht:trust.length<=1000000):ConP prog 19 [zbq l,eSs trust,.int .i64 week,.int .i64 n] (.tup [zql (zjo l trust week n),.int .i64 (zjn l trust week n)]):=by
 refine uOb func19 ntmps19 ?_;refine gz7 ?_;refine dq (uCl ca52 rfl (zhc (by assumption))) ?_;refine gz1 ?_;refine dq (uCl ca53 rfl (zhd (by assumption))) ?_;refine dq (za (hs:=[_,_]) zef zgv rfl rfl (by decide) (by decide) rfl) ?_;refine dq (uCl zmA rfl (zcQ (l:=[_,_]) (by simp))) ?_;refine gz6 ?_;refine uCo (fun h1=> ?_) fun h2=> ?_
 refine gz6 ?_;exact zbt rfl (zai (by rw [zjo,if_pos (by simpa using h1)];exact zZ 3) (by rw [zjn,if_pos (by simpa using h1)];exact Weak.refl _));refine gz5 ?_;refine dq (uCl zmB rfl zdk) ?_;refine gz3 ?_;refine uGr rfl (fun hc=>uCl zhT rfl za5) ?_;refine gz3 ?_;refine uCo (fun h3=> ?_) fun h4=> ?_
 refine gz5 ?_;exact zbt rfl (zai (by rw [zjo,if_neg (by simpa using h2),if_pos uSa];exact zZ 3) (by rw [zjn,if_neg (by simpa using h2),if_pos uSa];exact Weak.refl _));refine gz7 ?_;refine dq (uCl ca55 rfl (zqc hT (zo0 (okPT h2).1).1 ht (zre (okPT h2).1))) ?_;refine gz6 ?_
 (refine zB rfl ?_
  rw [zjo,zjn,if_neg (by simpa using h2),if_neg uSa,if_neg (by simpa using h2),if_neg uSa])
end
end Go.Proofs.YtaihpegdcgdcgaaGreatDoor
namespace Go.Proofs
section
open Go.Shelf
def Tryz.lays190_ren:Go.Shelf.Ren:=⟨fun|190=>127|125=>142|258=>189|128=>203|129=>204|302=>241|303=>242|304=>243|305=>244|306=>245|307=>246|308=>247|309=>248|310=>249|333=>291|329=>255|330=>256|334=>292|335=>293|336=>252|344=>309|n=>n,fun|31=>33|9=>9|3=>3|46=>223|0=>0|51=>270|53=>272|4=>4|183=>264|182=>263|131=>183|5=>5|218=>304|222=>308|228=>347|229=>348|n=>n,fun|n=>n⟩
theorem zpZ:Go.Proofs.Lays.n190 Tryz.prog Tryz.lays190_ren:={
 mixed:=by kernel_rfl
 f125:=Tryz.func142.trans (congrArg some (by kernel_rfl))
 f128:=Tryz.func203.trans (congrArg some (by kernel_rfl))
 f129:=Tryz.func204.trans (congrArg some (by kernel_rfl))
 f190:=Tryz.func127.trans (congrArg some (by kernel_rfl))
 f258:=Tryz.func189.trans (congrArg some (by kernel_rfl))
 f302:=Tryz.func241.trans (congrArg some (by kernel_rfl))
 f303:=Tryz.func242.trans (congrArg some (by kernel_rfl))
 f304:=Tryz.func243.trans (congrArg some (by kernel_rfl))
 f305:=Tryz.func244.trans (congrArg some (by kernel_rfl))
 f306:=Tryz.func245.trans (congrArg some (by kernel_rfl))
 f307:=Tryz.func246.trans (congrArg some (by kernel_rfl))
 f308:=Tryz.func247.trans (congrArg some (by kernel_rfl))
 f309:=Tryz.func248.trans (congrArg some (by kernel_rfl))
 f310:=Tryz.func249.trans (congrArg some (by kernel_rfl))
 f329:=Tryz.func255.trans (congrArg some (by kernel_rfl))
 f330:=Tryz.func256.trans (congrArg some (by kernel_rfl))
 f333:=Tryz.func291.trans (congrArg some (by kernel_rfl))
 f334:=Tryz.func292.trans (congrArg some (by kernel_rfl))
 f335:=Tryz.func293.trans (congrArg some (by kernel_rfl))
 f336:=Tryz.func252.trans (congrArg some (by kernel_rfl))
 f344:=Tryz.func309.trans (congrArg some (by kernel_rfl))
 t0:=Tryz.underlying0
 a0:=Tryz.isAgg0
 z0:=Tryz.sizeOf0
 v0:=Tryz.zeroValue0
 t3:=Tryz.underlying3
 a3:=Tryz.isAgg3
 z3:=Tryz.sizeOf3
 v3:=Tryz.zeroValue3
 t4:=Tryz.underlying4
 a4:=Tryz.isAgg4
 z4:=Tryz.sizeOf4
 v4:=Tryz.zeroValue4
 t5:=Tryz.underlying5
 a5:=Tryz.isAgg5
 z5:=Tryz.sizeOf5
 v5:=Tryz.zeroValue5
 t9:=Tryz.underlying9
 a9:=Tryz.isAgg9
 z9:=Tryz.sizeOf9
 v9:=Tryz.zeroValue9
 t31:=Tryz.underlying33
 a31:=Tryz.isAgg33
 z31:=Tryz.sizeOf33
 v31:=Tryz.zeroValue33
 t46:=Tryz.underlying223
 a46:=Tryz.isAgg223
 z46:=Tryz.sizeOf223
 v46:=Tryz.zeroValue223
 t51:=Tryz.underlying270
 a51:=Tryz.isAgg270
 z51:=Tryz.sizeOf270
 v51:=Tryz.zeroValue270
 t53:=Tryz.underlying272
 a53:=Tryz.isAgg272
 z53:=Tryz.sizeOf272
 v53:=Tryz.zeroValue272
 t131:=Tryz.underlying183
 a131:=Tryz.isAgg183
 z131:=Tryz.sizeOf183
 v131:=Tryz.zeroValue183
 t182:=Tryz.underlying263
 a182:=Tryz.isAgg263
 z182:=Tryz.sizeOf263
 v182:=Tryz.zeroValue263
 t183:=Tryz.underlying264
 a183:=Tryz.isAgg264
 z183:=Tryz.sizeOf264
 v183:=Tryz.zeroValue264
 t218:=Tryz.underlying304
 a218:=Tryz.isAgg304
 z218:=Tryz.sizeOf304
 v218:=Tryz.zeroValue304
 t222:=Tryz.underlying308
 a222:=Tryz.isAgg308
 z222:=Tryz.sizeOf308
 v222:=Tryz.zeroValue308
 t228:=Tryz.underlying347
 a228:=Tryz.isAgg347
 z228:=Tryz.sizeOf347
 v228:=Tryz.zeroValue347
 t229:=Tryz.underlying348
 a229:=Tryz.isAgg348
 z229:=Tryz.sizeOf348
 v229:=Tryz.zeroValue348}
end
end Go.Proofs
namespace Go.Proofs.YtaihpegdcgdcgaaGreatDoor
set_option maxRecDepth 100000
set_option linter.unusedVariables false
set_option linter.unusedSimpArgs false
section
open Go.Proofs.Tryz
open Go.HL
theorem zl7 [Tracks]:ConP prog 204 [.int .u64 0] (.int .i64 0):=by
 refine uOb func204 ntmps204 ?_;refine gz8 ?_;refine zcG rfl ?_;refine gz7 ?_;refine zcG rfl ?_;refine gz7 ?_;refine zcG rfl ?_;refine gz5 ?_;refine dq (zcp zpS ty5 rfl) ?_;refine dq (zaA (j:=0) (b:=0) ty9 rfl rfl rfl rfl) ?_;refine dq (zcp ty5 ty3 rfl) ?_;refine dq (zbb rfl rfl (by decide) (by decide)) ?_;refine gz3 ?_;refine zB rfl ?_
 rfl
theorem zmY [Tracks]:ConP prog 142 [.int .u64 0] (.int .i64 0):=by
 refine uOb func142 ntmps142 ?_;refine gz4 ?_;refine zcG rfl ?_;refine gz4 ?_;refine dq (uCl zvv rfl zl7) ?_;refine gz3 ?_;refine zB rfl ?_
 rfl
theorem zep [Tracks]:ConP prog 241 [eSs [],.int .i64 0,.int .i64 0] (.tup []):=by
 refine uOb func241 ntmps241 ?_;refine gz6 ?_;refine uU1 [6,2,10,39] (fun (u:Unit)=>[(6,.int .i64 1)]) (fun (u:Unit)=>[]) (fun (u:Unit)=>True) (fun (u:Unit)=>0) (()) ?_ ?_
 trivial
 intro u hu
 refine gz6 ?_;refine zcG rfl ?_;refine gz2 ?_;refine zn ?_;refine gz1 ?_;refine zsE rfl ?_
 rfl
theorem zfL [Tracks]:ConP prog 189 [eSs [],.int .i64 0,.int .i64 0,.int .i64 0] (.tup []):=by
 refine uOb func189 ntmps189 ?_;refine gz7 ?_;refine uU1 [1,3,8,126] (fun (u:Unit)=>[(1,.int .i64 0),(2,.int .i64 0)]) (fun (u:Unit)=>[]) (fun (u:Unit)=>True) (fun (u:Unit)=>0) (()) ?_ ?_
 trivial
 intro u hu
 refine zdz ?_;refine zoL rfl ?_;refine gz4 ?_;refine dq (uCl zyH rfl zep) ?_;refine gz2 ?_;refine zB rfl ?_
 rfl
theorem zmc [Tracks]:ConP prog 127 [eSs []] (.tup []):=by
 refine uOb func127 ntmps127 ?_;refine gz9 ?_;refine dq (zcp ty3 zl1 rfl) ?_;refine dq (uCl zvh rfl zmY) ?_;refine dq (uCl zyh rfl zfL) ?_;refine gz1 ?_;refine zsE rfl ?_
 rfl
theorem zpq [Tracks] {l:List Str} {v:Value} (hl:l.length<=1000000):Con prog 127 [.raw v] [.arr v 1 (l.map .str)] fun x M'=>x= .tup []/\M'=[.arr v 1 ((za3 l).map .str)]:=
 zvV (ziH l) (fun b off cap w h1 h2 _=>Any.slices_Sort_string zpZ b off cap l w h1 h2 uO) (fun _=>zmc)
end
section
open Go.Proofs.Tryz
open Go.HL
theorem zeW [Tracks] {x n:Int} (hn:n<=4000000000):ConP prog 41 [.int .i64 x,.int .i64 n] (.int .i64 (below x n)):=by
 refine uOb func41 ntmps41 ?_;refine gz8 ?_;refine uCo (fun h1=> ?_) fun h2=> ?_
 refine gz4 ?_;refine uRp ?_
 simp_all [below]
 try omega
 refine gz5 ?_;refine dq (zcL rfl rfl uO) ?_;refine gz7 ?_;refine uCo (fun h3=> ?_) fun h4=> ?_
 refine gz3 ?_;have hm:=BT x (show 0<n by omega);obtain ⟨y,hy1,hy2⟩:=zkW x n;have hb:below x n=x.tmod n+n:=by unfold below;rw [if_neg uO,if_pos uO]
 refine gz9 ?_;refine uRp ?_
 simp_all [below]
 try omega
 refine gz7 ?_;refine uRp ?_
 simp_all [below]
 try omega
theorem zU [Tracks] {b:Nat} {l:List Int} {a:Nat} {n:Int} (ha:a<=1000000) (hn:n<=4000000000):Con prog 13 [pAt b,.int .i64 n] [St b l a] (fun x M'=> ∃y:Nat,x= .int .i64 (y:Int)/\(y:Int)<max n 1/\M'=[St b l (a+1)]):=by
 refine uOb func13 ntmps13 ?_;refine gz7 ?_;refine de rfl (uZ 0 ?_)
 refine gz3 ?_;refine de0 (uY 0 ?_)
 refine gz6 ?_;refine de rfl (uZ 0 ?_)
 refine gz3 ?_;refine uCo (fun h1=> ?_) fun h2=> ?_
 refine gz4 ?_;refine de rfl (uZ 0 ?_)
 refine dq (zoh rfl rfl) ?_;refine gz1 ?_;refine dq (uCl zt6 rfl (zeW (by assumption))) ?_;refine gz3 ?_;refine zW rfl ?_;obtain ⟨y,h1,h2⟩:=zkW _ n;exact ⟨y,congrArg _ h1,h2,rfl⟩;refine gz2 ?_;have hl0:0<l.length:=List.length_pos_iff.2 (by simpa using h2);refine zbw (fun M=> ∃i:Nat,M[i]? =some (St b l (a+1))) [3,8] mixed ?_;refine gz3 ?_;refine uM 3 rfl (⟨0,rfl⟩) (fun M hM=>by obtain ⟨i,hi⟩:=hM;exact zab (i:=i) ty3 rfl hi (.inl ⟨rfl,rfl⟩) ⟨rfl,rfl⟩) ?_;refine gz4 ?_;refine uM 8 rfl (⟨0,rfl⟩) (fun M hM=>by obtain ⟨i,hi⟩:=hM;exact zab (i:=i) zV rfl hi (.inl ⟨rfl,rfl⟩) ⟨rfl,rfl⟩) ?_;refine gz1 ?_;refine uB 10 rfl (zau (h':= .int .i64 ((a%l.length:Nat):Int)) (zcL rfl rfl uO) (by show HVal.int .i64 (((a:Int)+1-1).tmod _)=_;rw [show ((a:Int)+1-1)=(a:Int) by omega];exact congrArg _ (zqU _ _))) ?_;refine gz2 ?_;refine zbw (fun M=> ∃i:Nat,M[i]? =some (St b l (a+1))) [3,8] mixed ?_;refine gz3 ?_;refine uM 3 rfl (⟨0,rfl⟩) (fun M hM=>by obtain ⟨i,hi⟩:=hM;exact zab (i:=i) ty3 rfl hi (.inl ⟨rfl,rfl⟩) ⟨rfl,rfl⟩) ?_;refine gz4 ?_;refine uM 8 rfl (⟨0,rfl⟩) (fun M hM=>by obtain ⟨i,hi⟩:=hM;exact zab (i:=i) zV rfl hi (.inl ⟨rfl,rfl⟩) ⟨rfl,rfl⟩) ?_;refine gz1 ?_;refine uB 10 rfl (zrG rfl rfl uO) ?_;refine gz6 ?_;refine de rfl (uZ 0 ?_)
 refine gz1 ?_;refine dq (zC (j:=a%l.length) (a:=l[a%l.length]'(BM _ uO)) zV ty3 rfl rfl rfl (Aa _)) ?_;refine gz1 ?_;refine dq (uCl zt6 rfl (zeW uO)) ?_;refine gz2 ?_;refine dq (zlX rfl rfl) ?_;refine dq (zoh rfl rfl) ?_;refine dq (zlX rfl rfl) ?_;refine gz1 ?_;refine dq (uCl zt6 rfl (zeW (by assumption))) ?_;refine gz3 ?_;refine zW rfl ?_;obtain ⟨y,h1,h2⟩:=zkW _ n;exact ⟨y,congrArg _ h1,h2,rfl⟩
theorem zz [Tracks] {b:Nat} {l:List Int} {a:Nat} {lo hi:Int} (ha:a<=1000000) (hlh:lo<=hi) (h0: -1000000000<=lo) (h1:hi<=1000000000):Con prog 5 [pAt b,.int .i64 lo,.int .i64 hi] [St b l a] (fun x M'=> ∃y:Int,x= .int .i64 y/\(lo<=y/\y<=hi)/\M'=[St b l (a+1)]):=by
 refine uOb func5 ntmps5 ?_;refine gz9 ?_;refine zaF rfl (fun h1=> ?_) (fun h1=> ?_)
 exfalso
 try simp at h1
 omega
 try simp at h1
 refine gz9 ?_;refine de rfl (uCx 0 zg3 rfl rfl (zU (by assumption) uO) ?_)
 rintro _ _ ⟨y17,rfl,hy17,rfl⟩;refine gz4 ?_;exact zW rfl ⟨_,rfl,by omega,rfl⟩
theorem zy [Tracks] {b:Nat} {l:List Int} {a:Nat} {n:Int} (ha:a<=1000000) (hn:n<=4000000000):Con prog 32 [pAt b,.int .i64 n] [St b l a] (fun x M'=> ∃y:Bool,x= .bool y/\M'=[St b l (a+1)]):=by
 refine uOb func32 ntmps32 ?_;refine gz6 ?_;refine de rfl (uCx 0 zg3 rfl rfl (zU (by assumption) (by assumption)) ?_)
 rintro _ _ ⟨y7,rfl,hy7,rfl⟩;refine gz4 ?_;exact zW rfl ⟨_,rfl,rfl⟩
theorem zd [Tracks] {b:Nat} {l:List Int} {a:Nat} {L:List Int} (ha:a<=1000000) (h0:0<L.length) (h1:L.length<=1000000):Con prog 26 [pAt b,.slice 1 (L.map (.int .i64))] [St b l a] (fun x M'=> ∃y:Int,x= .int .i64 y/\y∈L/\M'=[St b l (a+1)]):=by
 refine uOb func26 ntmps26 ?_;refine gz8 ?_;refine de rfl (uCx 0 zg3 rfl rfl (zU (by assumption) uO) ?_)
 rintro _ _ ⟨y9,rfl,hy9,rfl⟩;obtain ⟨z,hz,hm⟩:=getI hy9 h0;refine dq (zC (j:=y9) (a:=z) zV ty3 rfl rfl rfl hz) ?_;refine gz4 ?_;exact zW rfl ⟨_,rfl,hm,rfl⟩
theorem zh [Tracks] {b:Nat} {l:List Int} {a:Nat} {L:List Str} (ha:a<=1000000) (h0:0<L.length) (h1:L.length<=1000000):Con prog 27 [pAt b,eSs L] [St b l a] (fun x M'=> ∃y:Str,x= .str y/\y∈L/\M'=[St b l (a+1)]):=by
 refine uOb func27 ntmps27 ?_;refine gz8 ?_;refine de rfl (uCx 0 zg3 rfl rfl (zU (by assumption) uO) ?_)
 rintro _ _ ⟨y9,rfl,hy9,rfl⟩;obtain ⟨z,hz,hm⟩:=getS hy9 h0;refine dq (zC (j:=y9) (a:=z) zj ty9 rfl rfl rfl hz) ?_;refine gz4 ?_;exact zW rfl ⟨_,rfl,hm,rfl⟩
end
section
open Go.HL
set_option linter.unusedSimpArgs false
end
section
open Go.HL
set_option linter.unusedSimpArgs false
end
section
open Go.HL
set_option linter.unusedSimpArgs false
end
section
open Go.HL
set_option linter.unusedSimpArgs false
end
end Go.Proofs.YtaihpegdcgdcgaaGreatDoor
namespace Go.HL
section
open Op (bytesLess)
theorem ztI {α:Type} {R:α->α->Prop}: ∀{l:List α},l.Pairwise R->∀x∈l,∀y∈l,x=y\/R x y\/R y x
 |[],_,x,hx,_,_=>by simp at hx
 |a::l,h,x,hx,y,hy=>by
   obtain ⟨h1,h2⟩:=List.pairwise_cons.1 h
   rcases List.mem_cons.1 hx with e|hx'<;>rcases List.mem_cons.1 hy with e'|hy'
   exact .inl (e.trans e'.symm);exact .inr (.inl (e▸h1 y hy'));exact .inr (.inr (e'▸h1 x hx'));exact ztI h2 x hx' y hy'
/-! keeps that are right-/
def kLt (a b:Keep):Prop:=bytesLess a.Team b.Team=true\/(a.Team=b.Team/\a.Round<b.Round)
structure KeepsOk (r:Room) (k:List Keep):Prop where
 all: ∀x∈k,x.Team∈r.Teams/\x.Player∈r.Players/\1<=x.Round/\x.Round<=r.Rounds
 lt:k.Pairwise kLt
def zsl (t:Turn) (x:Keep):Bool:=decide (x.Team=t.of/\x.Round=t.round)
theorem KeepsOk.one {r:Room} {k:List Keep} (h:KeepsOk r k) {t:Turn} {x y:Keep} (hx:x∈k) (hy:y∈k) (fx:zsl t x=true) (fy:zsl t y=true):y=x:=by
 simp [zsl] at fx fy
 rcases ztI h.lt x hx y hy with e|e|e
 exact e.symm
 exfalso
 rcases e with e|⟨e1,e2⟩
 rw [fx.1,fy.1,zaB] at e;cases e
 omega
 exfalso
 rcases e with e|⟨e1,e2⟩
 rw [fx.1,fy.1,zaB] at e;cases e
 omega
def zpI (k:List Keep) (l:List Pick) (s:Str):Bool:=k.any (fun x=>x.Player==s)||l.any (fun p=>p.Player==s)
end
section
section
variable {r:Room} {k:List Keep} {fr l:List Pick} {p:Pick}
end
structure Wish where
 Team:Str
 Players:List Str
theorem zso (k:List Keep) (l:List Pick) (p:Pick) (s:Str):zpI k (l++[p]) s=(zpI k l s||p.Player==s):=by
 simp [zpI,B2]
/-! what a run holds-/
structure RunOk (r:Room) (k:List Keep) (s:List Swap) (l:List Pick) (S:List Str):Prop where
 gone: ∀x∈r.Players,S.contains x=zpI k l x
theorem RunOk.add {r:Room} {k:List Keep} {s:List Swap} {l:List Pick} {S:List Str} (ok:RunOk r k s l S) (p:Pick):RunOk r k s (l++[p]) (zcf p.Player S):=
 ⟨fun x hx=>by rw [zso,zkG,ok.gone x hx]⟩
end
section
section
variable {r:Room} {w:List Wish} {k:Nat} {x:Wish} {t:List Wish}
end
end
end Go.HL
namespace Go.Proofs.YtaihpegdcgdcgaaGreatDoor
set_option maxRecDepth 100000
set_option linter.unusedVariables false
set_option linter.unusedSimpArgs false
section
open Go.HL
set_option linter.unusedSimpArgs false
end
section
open Go.HL
set_option linter.unusedSimpArgs false
end
section
open Go.HL
set_option linter.unusedSimpArgs false
end
section
open Go.HL
set_option linter.unusedSimpArgs false
end
section
open Go.HL
set_option linter.unusedSimpArgs false
end
section
open Go.HL
set_option linter.unusedSimpArgs false
end
section
open Go.Proofs.Tryz
open Go.HL
theorem zej [Tracks] {b:Nat} {l:List Int} {a:Nat} {n:Nat} (ha:a<=800000) (hn1:1<=n) (hn2:n<=1000):Con prog 136 [pAt b,.int .i64 (n:Int)] [St b l a] (fun x M'=> ∃(L:List Int) (a':Nat),x= .slice 1 (L.map (.int .i64))/\(L.length=n/\∀i∈L,(0:Int)<=i/\i<n)/\a'<=a+n/\M'=[St b l a']):=by
 refine uOb func136 ntmps136 ?_;refine gz6 ?_;refine zf (zM 1) ?_;refine gz6 ?_;refine uV3 [5,2,10,8] (fun (k:Nat) (u:Value) (L:List Int)=>[(10,.int .i64 (k:Int)),(5,.raw u)]) (fun (k:Nat) (u:Value) (L:List Int)=>[.arr u 1 (L.map (HVal.int .i64)),St b l a]) (fun (k:Nat) (u:Value) (L:List Int)=>k<=n/\L.length=k/\∀i∈L,(0:Int)<=i/\i<n) (fun (k:Nat) (u:Value) (L:List Int)=>n-k) (0) (.slice none 0 0) ([]) ?_ ?_ ?_ ?_;exact ⟨by omega,rfl,by simp⟩;exact ⟨rfl,rfl,trivial⟩;exact zq rfl
 intro k u L hinv
 obtain ⟨hk,hL,hLb⟩:=hinv;refine gz4 ?_;refine uCo (fun h1=> ?_) fun h2=> ?_
 have hkn:k<n:=by omega
 refine zct ?_;refine dq (za (hs:=[_]) zV ty3 rfl rfl (by decide) (by decide) rfl) ?_;refine de rfl (zP (i:=0) zV ty3 rfl rfl rfl rfl rfl (by simp [zas,zb]) uSo fun v16=> ?_)
 refine gz8 ?_;exact ⟨k+1,v16,L++[(k:Int)],⟨by omega,by simp [hL],fun i hi=>by rcases List.mem_append.1 hi with h|h;exact hLb i h;(simp at h;omega)⟩,uD,⟨rfl,rfl,trivial⟩,uK,zq (by simp)⟩;obtain rfl:n=k:=by omega
 refine gz2 ?_;refine zcn ?_;refine gz3 ?_;refine zf (Ghost.perm (M':=[St b l a,.arr u 1 (L.map (.int .i64))]) uP) ?_;refine zcJ (i:=1) rfl (fun h0 he=> ?_) (fun ob off cap hv hcap=> ?_)
 exfalso;have:=congrArg List.length he;simp at this;subst this;simp at hL;omega
 rw [Ah,hL] at hv hcap;subst hv;refine gz6 ?_;refine uV3 [7,2,20,22] (fun (m:Nat) (L:List Int) (a2:Nat)=>[(7,.int .i64 (m:Int))]) (fun (m:Nat) (L:List Int) (a2:Nat)=>[St b l a2,.arr (.slice (some ⟨ob,off,none⟩) n cap) 1 (L.map (HVal.int .i64))]) (fun (m:Nat) (L:List Int) (a2:Nat)=>m<n/\(L.length=n/\∀i∈L,(0:Int)<=i/\i<n)/\a2+m<=a+n) (fun (m:Nat) (L:List Int) (a2:Nat)=>m) (n-1) (L) (a) ?_ ?_ ?_ ?_;exact ⟨by omega,⟨hL,hLb⟩,by omega⟩;exact ⟨zL uO,trivial⟩;exact Ac _
 intro m L a2 hinv
 obtain ⟨hm,⟨hL,hLb⟩,ha2⟩:=hinv;refine gz5 ?_;refine uCo (fun h3=> ?_) fun h4=> ?_
 have hm0:0<m:=by omega
 refine gz8 ?_;refine de rfl (uCx 0 zg3 rfl rfl (zU uO uO) ?_)
 rintro _ _ ⟨y27,rfl,hy27,rfl⟩;refine gz2 ?_;obtain ⟨z1,hz1⟩: ∃z,L[y27]? =some z:=⟨_,Aa uO⟩
 obtain ⟨z2,hz2⟩: ∃z,L[m]? =some z:=⟨_,Aa uO⟩
 obtain ⟨z3,hz3⟩: ∃z,(L.set m z1)[y27]? =some z:=⟨_,Aa uSo⟩
 refine zaX (fun M=> ∃i:Nat,M[i]? =some (.arr (.slice (some ⟨ob,off,none⟩) n cap) 1 (L.map (HVal.int .i64)))) [7,11] mixed ?_;refine gz6 ?_;refine uB 6 rfl (zt (j:=y27) zV ty3 rfl rfl rfl uO) ?_;refine uM 7 rfl (⟨1,rfl⟩) (fun M hM=>by obtain ⟨i,hi⟩:=hM;exact zak (i:=i) (j:=y27) 0 ty3 rfl uO hi hz1 rfl rfl ⟨rfl,rfl⟩) ?_;refine gz2 ?_;refine uB 10 rfl (zt (j:=m) zV ty3 rfl rfl rfl uO) ?_;refine uM 11 rfl (⟨1,rfl⟩) (fun M hM=>by obtain ⟨i,hi⟩:=hM;exact zak (i:=i) (j:=m) 0 ty3 rfl uO hi hz2 rfl rfl ⟨rfl,rfl⟩) ?_;refine uB 12 rfl (zt (j:=m) zV ty3 rfl rfl rfl uO) ?_;refine uF 13 ?_;refine zI (zaP (i:=1) (f:=HVal.int .i64) (es:=L) (j:=m) (y:=z2) (y':=z1) ty3 rfl rfl rfl rfl hz2 rfl rfl rfl ?_)
 refine ⟨uE,?_⟩
 refine uB 14 rfl (zt (j:=y27) zV ty3 rfl rfl rfl uO) ?_;refine uF 15 ?_;refine zI (zaP (i:=1) (f:=HVal.int .i64) (es:=L.set m z1) (j:=y27) (y:=z3) (y':=z2) ty3 rfl rfl rfl rfl hz3 rfl rfl rfl ?_)
 refine ⟨uE,?_⟩
 refine gz8 ?_;exact ⟨m-1,(L.set m z1).set y27 z2,a2+1,⟨by omega,⟨by simp [hL],zd0 (P:=fun i:Int=>0<=i/\i<n) (zd0 (P:=fun i:Int=>0<=i/\i<n) hLb (hLb z1 (Ab hz1))) (hLb z2 (Ab hz2))⟩,by omega⟩,uD,⟨zL uO,trivial⟩,uK,zq (by simp [List.map_set])⟩;refine gz2 ?_;refine zcn ?_;refine gz7 ?_;refine zaa (zaC 4 (i:=1) rfl rfl) rfl ⟨L,a2,rfl,⟨hL,hLb⟩,by omega,rfl⟩
end
section
open Go.HL
set_option linter.unusedSimpArgs false
end
end Go.Proofs.YtaihpegdcgdcgaaGreatDoor
namespace Go.HL
section
variable {P:Program}
open Go.Sort Go.Proofs
end
end Go.HL
namespace Go.Proofs.YtaihpegdcgdcgaaGreatDoor
set_option maxRecDepth 100000
set_option linter.unusedVariables false
set_option linter.unusedSimpArgs false
section
open Go.Proofs.Tryz
open Go.HL
theorem ziW [Tracks] {l:List Int} {z:Int} (hl:l.length<=1000000):ConP prog 214 [.slice 1 (l.map (.int .i64)),.int .i64 z] (.int .i64 (zaf (· ==z) l 0)):=by
 refine uOb func214 ntmps214 ?_;refine zat ?_;refine uT1 [4,2,8,11] (fun k=>[(8,.int .i64 k)]) (fun k=>[]) (fun k=>k<=l.length/\(zaf (· ==z) l 0=zaf (· ==z) (l.drop k) k)) (fun k=>l.length-k) (0) ?_ ?_;exact ⟨Ad _,rfl⟩;rintro k ⟨hk,hg⟩;refine gz4 ?_;refine uCo (fun h1=> ?_) fun h2=> ?_
 obtain ⟨x,hx⟩: ∃x,l[k]? =some x:=⟨_,Aa h1⟩
 have hdx:=zg hx;rw [hdx] at hg;refine zn9 ?_;refine uCo (fun h3=> ?_) fun h4=> ?_
 refine gz5 ?_;refine uRp ?_
 (rw [hg];simp_all [zaf])
 refine gz7 ?_;refine ⟨k+1,?_,?_,⟨rfl,trivial⟩,uK,Ac _⟩
 refine ⟨by omega,?_⟩
 rw [hg,zaf,if_neg (by simp_all;try omega)];rfl
 dsimp only;omega
 have hnk:l.length<=k:=by omega
 obtain rfl:k=l.length:=by omega
 rw [zD (Ae _)] at hg;refine gz2 ?_;refine zn ?_;refine gz6 ?_;refine uRp ?_
 (rw [hg];rfl)
theorem zea [Tracks] {l:List Int} {z:Int} (hl:l.length<=1000000):ConP prog 158 [.slice 1 (l.map (.int .i64)),.int .i64 z] (.bool (l.contains z)):=by
 refine uOb func158 ntmps158 ?_;refine gz6 ?_;refine dq (uCl zyq rfl (ziW (by assumption))) ?_;refine gz4 ?_;refine zB rfl ?_
 show HVal.bool _=_
 rw [zpu,<-zcH _ l 0 uO]
theorem zdw [Tracks] {n:Int}:ConP prog 98 [.int .i64 n] (.int .i64 (if zcA n then 0 else 1)):=by
 refine uOb func98 ntmps98 ?_;refine gz5 ?_;refine dq (uCl zvm rfl zft) ?_;refine gz3 ?_;refine uRp ?_;unfold zcA
 cases out n 1 60<;>rfl
theorem zjq [Tracks] {p:Play} (hgp:zcg p):ConP prog 95 [zad p] (.int .i64 (playFault p)):=by
 refine uOb func95 ntmps95 ?_;refine gz9 ?_;refine dq (uCl zj6 rfl (zbd hgp.1)) ?_;refine gz3 ?_;refine uCo (fun h1=> ?_) fun h2=> ?_
 refine gz4 ?_;refine uRp ?_
 simp_all [playFault]
 refine gz3 ?_;refine dq (uCl zmD rfl zb1) ?_;refine gz4 ?_;refine uGr rfl (fun hc=>uCl zsd rfl zbZ) ?_;refine gz5 ?_;refine uGr rfl (fun hc=>uCl zua rfl zdw) ?_;refine gz4 ?_;refine uCo (fun h3=> ?_) fun h4=> ?_
 refine gz4 ?_;refine uRp ?_
 simp_all [playFault]
 refine gz3 ?_;refine dq (uCl zj6 rfl (zbd hgp.2.1)) ?_;refine gz4 ?_;refine uGr rfl (fun hc=>uCl zj6 rfl (zbd hgp.2.2.1)) ?_;refine gz5 ?_;refine uGr rfl (fun hc=>uCl zj6 rfl (zbd hgp.2.2.2)) ?_;refine gz4 ?_;refine uCo (fun h5=> ?_) fun h6=> ?_
 refine gz4 ?_;refine uRp ?_
 simp_all [playFault]
 refine gz3 ?_;refine dq (uCl zmD rfl zb1) ?_;refine gz6 ?_;have hN:=zeT (n:=p.No) (lo:=1) (hi:=3000) uSa;refine gz1 ?_;refine uGr rfl (fun hc=>uCl zmD rfl zb1) ?_;refine gz4 ?_;refine uCo (fun h7=> ?_) fun h8=> ?_
 refine gz4 ?_;refine uRp ?_
 simp_all [playFault]
 refine zct ?_;refine uCo (fun h9=> ?_) fun h10=> ?_
 refine gz4 ?_;refine uRp ?_
 simp_all [playFault]
 refine gz7 ?_;refine uRp ?_
 simp_all [playFault]
theorem zkZ [Tracks] {a b:Play}:ConP prog 96 [zad a,zad b] (.int .i64 (byNo a b)):=by
 refine uOb func96 ntmps96 ?_;refine gz5 ?_;refine uDr mixed ?_;refine gz4 ?_;refine uB 4 rfl (uCl zcT rfl zG) ?_;refine gz4 ?_;refine uB 9 rfl (uCl zch rfl zN) ?_;refine uB 10 rfl (za (hs:=[_,_]) zV ty3 rfl rfl (by decide) (by decide) rfl) ?_;refine uB 11 rfl (uCl zeM rfl (zaW (l:=[_,_]) (by simp))) ?_;refine gz3 ?_;refine zB rfl ?_
 rfl
theorem ziM [Tracks] {l:List Play} (hl:l.length<=1000000) (hgl: ∀x∈l,zcg x):ConP prog 37 [zbq l] (.int .i64 (zbT l)):=by
 refine uOb func37 ntmps37 ?_;refine gz9 ?_;refine uCo (fun h1=> ?_) fun h2=> ?_
 refine gz4 ?_;refine zaa Ghost.clear rfl ⟨?_,rfl⟩
 show HVal.int .i64 _=_
 (rw [zbT,if_pos uO])
 refine gz3 ?_;refine de rfl (zaJ fun m12=> ?_)
 refine de rfl (zaJ fun m13=> ?_)
 refine zeZ ?_;refine uT1 [2,1,5,4,16,48] (fun k=>[(16,.int .i64 k),(5,.bool (za1 (l.take k)).c)]) (fun k=>[.map m13 (sk (em (.int .i64) (za1 (l.take k)).W)),.map m12 (sk (zbe (za1 (l.take k)).S))]) (fun k=>k<=l.length/\(zbp l 0 l=zbp l k (l.drop k)/\∀y∈l.take k,playFault y=0)) (fun k=>l.length-k) (0) ?_ ?_;exact ⟨Ad _,rfl,by simp⟩;rintro k ⟨hk,hg,hok⟩;refine gz4 ?_;refine uCo (fun h3=> ?_) fun h4=> ?_
 obtain ⟨x,hx⟩: ∃x,l[k]? =some x:=⟨_,Aa h3⟩
 have hdx:=zg hx;rw [hdx] at hg;refine gz8 ?_;refine de rfl (zi zbk rfl fun b7=> ?_)
 refine gz1 ?_;refine de0 (zo zbk rfl rfl rfl rfl rfl ?_)
 refine gz1 ?_;refine zf (zp 7 rfl) ?_;refine gz3 ?_;refine dq (uCl ca95 rfl (zjq (hgl x (Ab hx)))) ?_;refine gz6 ?_;refine uCo (fun h5=> ?_) fun h6=> ?_
 refine gz5 ?_;refine zaa Ghost.clear rfl ⟨?_,rfl⟩
 show HVal.int .i64 _=_
 (rw [ziE uO (by rw [hg,zbp,if_pos (by simpa using h5)]) (by simpa using h5)])
 refine gz3 ?_;refine uDr mixed ?_;refine gz6 ?_;refine uGy 6 rfl rfl (fun hc=>by have hq:=hc;(try simp at hq);exact zC (j:=k-1) (a:=l.getD (k-1) zki) zg8 zbk rfl rfl uO (getD_some uO)) ?_;refine gz2 ?_;refine uGy 9 rfl rfl (fun hc=>uCl ca96 rfl zkZ) ?_;refine gz3 ?_;refine uCo (fun h7=> ?_) fun h8=> ?_
 refine gz4 ?_;refine zaa Ghost.clear rfl ⟨?_,rfl⟩
 show HVal.int .i64 _=_
 (rw [ziE (c:=7) uO (by rw [hg,zbp,if_neg (by simpa using h6),if_pos (by obtain ⟨qa,qb⟩:=h7;have qb':0<=byNo (l.getD (k-1) zki) x:=(by simpa using qb);rw [zoz];exact ⟨by omega,by omega⟩)]) (by decide)])
 refine gz6 ?_;refine de0 (zgi (i:=1) znL ty9 rfl rfl rfl rfl ?_)
 refine gz7 ?_;refine dgl rfl rfl (fun hc=>⟨_,OpenTo.upd (t:=45) rfl (hc) (OpenTo.upd (t:=43) rfl (hc) (OpenTo.refl _)),zcE (i:=0) (z0:=(0:Int)) ze4 ty9 ty3 rfl rfl rfl rfl ⟨rfl,rfl⟩⟩) ?_;refine gz5 ?_;refine dgl rfl rfl (fun hc=>⟨_,OpenTo.upd (t:=51) rfl (hc) (OpenTo.upd (t:=49) rfl (hc) (OpenTo.refl _)),zcE (i:=0) (z0:=(0:Int)) ze4 ty9 ty3 rfl rfl rfl rfl ⟨rfl,rfl⟩⟩) ?_;refine zeZ ?_;refine de0 (zcF (i:=0) ze4 ty9 rfl rfl rfl rfl ?_)
 refine gz7 ?_;refine ⟨k+1,⟨by omega,?_,?_⟩,uD,⟨rfl,?_,trivial⟩,uK,?_⟩
 rw [hg,zkj (by simpa using h6) (fun hk0=>by have hz:=h8;rw [zoz] at hz;simp_all;try omega)]
 intro y hy
 rw [zaj hx] at hy
 rcases List.mem_append.1 hy with hy|hy
 exact hok y hy;rw [List.mem_singleton.1 hy];simpa using h6;rw [zdM hx,<-zvT hok];exact congrArg (fun b=>some (HVal.bool b)) (by cases (za1 (l.take k)).c<;>simp);exact zq (by dsimp only;rw [zdM hx];rfl);have hnk:l.length<=k:=by omega
 obtain rfl:k=l.length:=by omega
 rw [zD (Ae _)] at hg;rw [Ap];refine gz2 ?_;refine zn ?_;refine gz4 ?_;have e1:(sk (zbe (za1 l).S)).length=(za1 l).S.length:=by simp [sk,zbe]
 have e2:(sk (em (HVal.int .i64) (za1 l).W)).length=(za1 l).W.length:=by simp [sk]
 refine gz2 ?_;refine de rfl (zhj (i:=1) znL rfl rfl ?_)
 refine gz3 ?_;refine dgl rfl rfl (fun hc=>⟨_,OpenTo.upd (t:=69) rfl (hc) (OpenTo.refl _),zhj (i:=0) ze4 rfl rfl ⟨rfl,rfl⟩⟩) ?_;refine gz4 ?_;refine uCo (fun h9=> ?_) fun h10=> ?_
 refine gz4 ?_;refine zaa Ghost.clear rfl ⟨?_,rfl⟩
 show HVal.int .i64 _=_
 (rw [zd3 uO hg,zdH,if_pos uO])
 refine gz4 ?_;refine uCo (fun h11=> ?_) fun h12=> ?_
 refine gz4 ?_;refine zaa Ghost.clear rfl ⟨?_,rfl⟩
 show HVal.int .i64 _=_
 (rw [zd3 uO hg,zdH,if_neg uO,if_pos (by assumption)])
 refine gz7 ?_;refine zaa Ghost.clear rfl ⟨?_,rfl⟩
 show HVal.int .i64 _=_
 (rw [zd3 uO hg,zdH,if_neg uO,if_neg uSa])
theorem ziN [Tracks] {l:List Str} (hl:l.length<=1000000) (hs: ∀s∈l,Sh s):ConP prog 90 [eSs l] (.int .i64 (zb0 l)):=by
 refine uOb func90 ntmps90 ?_;refine gz9 ?_;refine uCo (fun h1=> ?_) fun h2=> ?_
 refine gz4 ?_;refine uRp ?_
 (rw [zb0,if_pos uO])
 refine gz9 ?_;refine uT1 [2,3,10,16] (fun k=>[(10,.int .i64 k)]) (fun k=>[]) (fun k=>k<=l.length/\(zb0 l=zc8 l k (l.drop k))) (fun k=>l.length-k) (0) ?_ ?_;refine ⟨Ad _,?_⟩
 rw [zb0,if_neg uO];rfl;rintro k ⟨hk,hg⟩;refine gz4 ?_;refine uCo (fun h3=> ?_) fun h4=> ?_
 obtain ⟨x,hx⟩: ∃x,l[k]? =some x:=⟨_,Aa h3⟩
 have hdx:=zg hx;rw [hdx] at hg;refine zdN ?_;refine dq (uCl zj6 rfl (zbd (hs x (Ab hx)))) ?_;refine gz3 ?_;refine uCo (fun h5=> ?_) fun h6=> ?_
 refine gz4 ?_;refine uRp ?_
 (rw [hg];simp_all [zc8])
 refine gz3 ?_;refine dq (zaI zj ty9 rfl rfl ⟨_,_,rfl,rfl⟩ uO uO) ?_;refine gz1 ?_;refine dq (uCl zeL rfl (zF uSo)) ?_;refine gz2 ?_;refine uCo (fun h7=> ?_) fun h8=> ?_
 refine gz4 ?_;refine uRp ?_
 (rw [hg];simp_all [zc8])
 refine gz8 ?_;refine ⟨k+1,?_,?_,⟨rfl,trivial⟩,uK,Ac _⟩
 refine ⟨by omega,?_⟩
 rw [hg];simp_all [zc8]
 dsimp only;omega
 have hnk:l.length<=k:=by omega
 obtain rfl:k=l.length:=by omega
 rw [zD (Ae _)] at hg;refine gz2 ?_;refine zn ?_;refine gz6 ?_;refine uRp ?_
 (rw [hg];simp_all [zc8])
end
end Go.Proofs.YtaihpegdcgdcgaaGreatDoor
namespace Go.HL
section
open Go.Proofs Go.Shelf
variable {P:Program}
end
section

end
section
section
variable {P:Program}
end
section
variable {P:Program} {e:Env} {dst:Option Tmp} {ty:TypeId} {pos:String} {af:Array Edge} {g:Option (Nat×Bool)}
end
end
section
section
variable {P:Program}
end
end
end Go.HL
namespace Go.Proofs.YtaihpegdcgdcgaaGreatDoor
set_option maxRecDepth 100000
set_option linter.unusedVariables false
set_option linter.unusedSimpArgs false
section
open Go.Proofs.Tryz
open Go.HL
theorem znY [Tracks] {x:Nat} (hx:x<16):Con prog 204 [.int .u64 (x:Int)] [] (fun y M'=> ∃n:Int,y= .int .i64 n/\M'=[]):=by
 refine uOb func204 ntmps204 ?_;refine gz8 ?_;refine zaF rfl (fun h1=> ?_) (fun h1=> ?_)
 exfalso
 try simp at h1
 omega
 try simp at h1
 refine gz7 ?_;refine zaF rfl (fun h2=> ?_) (fun h2=> ?_)
 exfalso
 try simp at h2
 omega
 try simp at h2
 refine gz7 ?_;refine zaF rfl (fun h3=> ?_) (fun h3=> ?_)
 exfalso
 try simp at h3
 omega
 try simp at h3
 refine gz5 ?_;refine dq (zcp zpS ty5 rfl) ?_;refine dq (zaA (j:=x) ty9 rfl rfl (zze hx) (Aa (Nat.lt_of_lt_of_le hx (An (by kernel_rfl))))) ?_;refine dq (zcp ty5 ty3 rfl) ?_;refine dq (zlX rfl rfl) ?_;refine gz3 ?_;exact zW rfl ⟨_,rfl,rfl⟩
theorem zqa [Tracks] {x:Nat} (hx:x<16):Con prog 142 [.int .u64 (x:Int)] [] (fun y M'=> ∃n:Int,y= .int .i64 n/\M'=[]):=by
 refine uOb func142 ntmps142 ?_;refine gz4 ?_;refine zcG rfl ?_;refine gz4 ?_;refine de rfl (zaR (M1:=[]) (R:=[]) zvv rfl (WeakL.refl _) (Ac _) (znY hx) ?_)
 rintro _ _ ⟨n7,rfl,rfl⟩;refine gz3 ?_;exact zW rfl ⟨_,rfl,rfl⟩
theorem zdV [Tracks] {l:List Asset} {v:Value} {fid:FuncId} {caps:List HVal} {c:Asset->Asset->Int} {n:Int} (hca:Callable prog fid) (hp: ∀x y,ConP prog fid ([zbh x,zbh y]++caps) (.int .i64 (c x y))) (hn:n=l.length) (hl:l.length<=1000000):Con prog 283 [.raw v,.int .i64 0,.int .i64 n,.fn (.func fid) [] caps] [.arr v 3 (l.map zbh)] (fun x M'=>x= .tup []/\M'=[.arr v 3 ((zag c l).map zbh)]):=by
 subst hn;refine uOb func283 ntmps283 ?_;refine gz6 ?_;refine uV1 [8,2,12,41] (fun (k:Nat)=>[(8,.int .i64 (k:Int))]) (fun (k:Nat)=>[.arr v 3 ((zag c (l.take k)++l.drop k).map zbh)]) (fun (k:Nat)=>1<=k) (fun (k:Nat)=>l.length-k) (1) ?_ ?_ ?_ ?_;exact Ae _;exact ⟨rfl,trivial⟩;exact zq (by rw [zi8])
 intro k hk
 refine gz6 ?_;refine uCo (fun h1=> ?_) fun h2=> ?_
 obtain ⟨x,hx⟩: ∃x,l[k]? =some x:=⟨_,Aa uO⟩
 refine zcJ (i:=0) rfl (fun h0 he=> ?_) (fun b off cap hv hcap=> ?_)
 exfalso;have:=congrArg List.length he;simp [zbi] at this;omega
 rw [show ((zag c (l.take k)++l.drop k).map zbh).length=l.length by simp [zbi];omega] at hv;subst hv;refine gz9 ?_;refine uV2 [9,1,18,35] (fun (A:List Asset) (B:List Asset)=>[(9,.int .i64 (A.length:Int))]) (fun (A:List Asset) (B:List Asset)=>[.arr (.slice (some ⟨b,off,none⟩) l.length cap) 3 ((A++x::(B++l.drop (k+1))).map zbh)]) (fun (A:List Asset) (B:List Asset)=>A.length+B.length=k/\zcv c x (zag c (l.take k))=zcv c x A++B) (fun (A:List Asset) (B:List Asset)=>A.length) (zag c (l.take k)) ([]) ?_ ?_ ?_ ?_;exact ⟨by simp [zbi];omega,by simp⟩;exact ⟨zL (by simp [zbi];omega),trivial⟩;exact zq (by rw [zg hx];rfl)
 intro A B hinv
 obtain ⟨hA,hB⟩:=hinv;have hlA:A.length<l.length:=by omega
 have hll:((A++x::(B++l.drop (k+1)))).length=l.length:=by simp;omega
 refine gz1 ?_;refine zbw (fun M=>M=[.arr (.slice (some ⟨b,off,none⟩) l.length cap) 3 ((A++x::(B++l.drop (k+1))).map zbh)]) [8,13] mixed ?_;refine gz7 ?_;refine ahg 7 rfl rfl (by kernel_rfl) (by kernel_rfl) rfl (fun hc=>by
  have hq:0<A.length:=by simpa using hc
  exact ⟨_,OpenTo.upd (t:=24) rfl (hc) (OpenTo.upd (t:=23) rfl (hc) (OpenTo.refl _)),zt (j:=A.length) zgw zcr rfl rfl (by rfl) uO⟩) ?_
 refine znS 8 rfl rfl (by kernel_rfl) (by kernel_rfl) (by simp) rfl rfl (fun hc=>⟨_,OpenTo.upd (t:=25) rfl (hc) (OpenTo.refl _),fun M hM=>by
  subst hM;exact zR (i:=0) (j:=A.length) zcr rfl rfl rfl zeQ rfl rfl rfl ⟨rfl,rfl⟩
  ⟩) ?_
 refine gz2 ?_;refine ahg 11 rfl rfl (by kernel_rfl) (by kernel_rfl) rfl (fun hc=>by
  have hq:0<A.length:=by simpa using hc
  exact ⟨_,OpenTo.upd (t:=28) rfl (hc) (OpenTo.refl _),zeC rfl rfl uO uO⟩) ?_
 refine ahg 12 rfl rfl (by kernel_rfl) (by kernel_rfl) rfl (fun hc=>by
  have hq:0<A.length:=by simpa using hc
  exact ⟨_,OpenTo.upd (t:=29) rfl (hc) (OpenTo.upd (t:=27) rfl (hc) (OpenTo.refl _)),zt (j:=A.length-1) zgw zcr rfl rfl uO uO⟩) ?_
 refine znS 13 rfl rfl (by kernel_rfl) (by kernel_rfl) (by simp) rfl rfl (fun hc=>⟨_,OpenTo.upd (t:=30) rfl (hc) (OpenTo.refl _),fun M hM=>by
  have hq:0<A.length:=by simpa using hc
  subst hM;exact zR (i:=0) (j:=A.length-1) zcr rfl rfl rfl (zfR hq) rfl rfl rfl ⟨rfl,rfl⟩
  ⟩) ?_
 refine uGy 14 rfl rfl (fun hc=>zan hca rfl rfl (WeakL.refl _) (hp _ _)) ?_;refine gz3 ?_;refine uCo (fun h3=> ?_) fun h4=> ?_
 obtain ⟨hA0,hcx⟩:=h3;obtain ⟨A1,y,rfl⟩:=zlY hA0;rw [zgT] at hcx;refine gz4 ?_;refine zaX (fun M=>M=[.arr (.slice (some ⟨b,off,none⟩) l.length cap) 3 (((A1++[y])++x::(B++l.drop (k+1))).map zbh)]) [9,13] mixed ?_;refine gz8 ?_;refine uB 8 rfl (zt (j:=(A1++[y]).length-1) zgw zcr rfl rfl uO uO) ?_;refine uM 9 rfl rfl (uW (zR (i:=0) (j:=(A1++[y]).length-1) zcr rfl rfl rfl ((zfR hA0).trans (by rw [zgT])) rfl rfl rfl ⟨rfl,rfl⟩)) ?_;refine gz2 ?_;refine uB 12 rfl (zt (j:=(A1++[y]).length) zgw zcr rfl rfl rfl uO) ?_;refine uM 13 rfl rfl (uW (zR (i:=0) (j:=(A1++[y]).length) zcr rfl rfl rfl zeQ rfl rfl rfl ⟨rfl,rfl⟩)) ?_;refine uB 14 rfl (zt (j:=(A1++[y]).length) zgw zcr rfl rfl rfl uO) ?_;refine uF 15 ?_;refine zI (zaP (i:=0) (j:=(A1++[y]).length) (y:=x) (y':=y) zcr rfl rfl rfl rfl zeQ rfl rfl rfl ?_)
 refine ⟨uE,?_⟩
 refine uB 16 rfl (zt (j:=(A1++[y]).length-1) zgw zcr rfl rfl uO uO) ?_;refine uF 17 ?_;refine zI (zaP (i:=0) (j:=(A1++[y]).length-1) (y:=y) (y':=x) zcr rfl rfl rfl rfl (by rw [A2 (by simp)];exact (zfR hA0).trans (by rw [zgT])) rfl rfl rfl ?_)
 refine ⟨uE,?_⟩
 refine gz8 ?_;exact ⟨A1,y::B,⟨by simp at hA⊢;omega,zmI hB hcx⟩,by dsimp only;simp,⟨zL (by simp),trivial⟩,uK,zq (by rw [zmO];rfl)⟩;have hins:=zmH (l:=l) (k:=k) hx hB (by intro h0;have:=h4 h0;omega);refine gz2 ?_;refine zJ ?_;refine gz8 ?_;refine ⟨k+1,?_,?_,⟨rfl,trivial⟩,uK,zq (by rw [hins])⟩
 omega
 dsimp only;omega
 have hend:zag c (l.take k)++l.drop k=zag c l:=by rw [Bl uO,zD uO];simp
 refine gz2 ?_;refine zn ?_;refine gz1 ?_;exact ⟨_,_,Ghost.sub (Sub.refl _),_,_,rfl,Weak.refl _,rfl,by rw [hend]⟩
theorem ze8 [Tracks] {l:List Asset} {v:Value} {fid:FuncId} {caps:List HVal} {c:Asset->Asset->Int} {lim:Int} (hca:Callable prog fid) (hp: ∀x y,ConP prog fid ([zbh x,zbh y]++caps) (.int .i64 (c x y))) (hl:l.length<=12):Con prog 240 [.raw v,.int .i64 0,.int .i64 (l.length:Int),.int .i64 lim,.fn (.func fid) [] caps] [.arr v 3 (l.map zbh)] (fun x M'=>x= .tup []/\M'=[.arr v 3 ((zag c l).map zbh)]):=by
 refine uOb func240 ntmps240 ?_;refine gz7 ?_;refine uU1 [1,3,10,138] (fun (u:Unit)=>[(1,.int .i64 0),(2,.int .i64 (l.length:Int))]) (fun (u:Unit)=>[.arr v 3 (l.map zbh)]) (fun (u:Unit)=>True) (fun (u:Unit)=>0) (()) ?_ ?_
 trivial
 intro u hu
 refine zdz ?_;refine zaF rfl (fun h1=> ?_) (fun h1=> ?_)
 try simp at h1
 refine gz5 ?_;refine de rfl (uCx 0 zyM rfl rfl (zdV (l:=l) hca hp uO uO) ?_)
 rintro _ _ ⟨rfl,rfl⟩;refine gz2 ?_;exact zW rfl ⟨rfl,rfl⟩
 exfalso
 try simp at h1
 omega
theorem zeg [Tracks] {l:List Asset} {v:Value} {fid:FuncId} {caps:List HVal} {c:Asset->Asset->Int} (hca:Callable prog fid) (hp: ∀x y,ConP prog fid ([zbh x,zbh y]++caps) (.int .i64 (c x y))) (hl:l.length<=12):Con prog 187 [.raw v,.fn (.func fid) [] caps] [.arr v 3 (l.map zbh)] (fun x M'=>x= .tup []/\M'=[.arr v 3 ((zag c l).map zbh)]):=by
 refine uOb func187 ntmps187 ?_;refine gz2 ?_;refine de rfl (za2 (i:=0) zgw rfl rfl ?_)
 refine gz6 ?_;refine dq (zau (zcp ty3 zl1 rfl) (congrArg _ (zwK uO))) ?_;refine de rfl (zaR (M1:=[]) (R:=[_]) zvh rfl (WeakL.refl _) (Ac _) (zqa (x:=l.length) uO) ?_)
 rintro _ _ ⟨n11,rfl,rfl⟩;refine gz1 ?_;refine de rfl (uCx 0 zyG rfl rfl (ze8 hca hp hl) ?_)
 rintro _ _ ⟨rfl,rfl⟩;refine gz1 ?_;exact ⟨_,_,Ghost.sub (Sub.refl _),_,_,rfl,Weak.refl _,rfl,rfl⟩
end
section
open Go.HL
set_option linter.unusedSimpArgs false
end
section
open Go.Proofs.Tryz
open Go.HL
theorem zld [Tracks] {x:Asset}:ConP prog 125 [zbh x] (.int .i64 (assetFault x)):=by
 refine uOb func125 ntmps125 ?_;refine gz9 ?_;refine dq (uCl zca rfl zac) ?_;refine gz4 ?_;refine uGr rfl (fun hc=>uCl zca rfl zac) ?_;refine gz4 ?_;refine uCo (fun h1=> ?_) fun h2=> ?_
 refine gz4 ?_;refine uRp ?_
 simp_all [assetFault]
 refine gz3 ?_;refine dq (uCl zbm rfl z7) ?_;refine gz2 ?_;refine uCo (fun h3=> ?_) fun h4=> ?_
 refine gz4 ?_;refine uRp ?_
 simp_all [assetFault]
 refine gz7 ?_;refine uRp ?_
 simp_all [assetFault]
theorem zkN [Tracks] {l:List Asset} (hl:l.length<=1000000):ConP prog 58 [zhy l] (.int .i64 (zcB l)):=by
 refine uOb func58 ntmps58 ?_;refine gz9 ?_;refine uCo (fun h1=> ?_) fun h2=> ?_
 refine gz4 ?_;refine uRp ?_
 (rw [zcB,if_pos uO])
 refine gz9 ?_;refine uT1 [2,4,11,24] (fun k=>[(11,.int .i64 k)]) (fun k=>[]) (fun k=>k<=l.length/\(zcB l=zdI l k (l.drop k))) (fun k=>l.length-k) (0) ?_ ?_;refine ⟨Ad _,?_⟩
 rw [zcB,if_neg uO];rfl;rintro k ⟨hk,hg⟩;refine gz4 ?_;refine uCo (fun h3=> ?_) fun h4=> ?_
 obtain ⟨x,hx⟩: ∃x,l[k]? =some x:=⟨_,Aa h3⟩
 have hdx:=zg hx;rw [hdx] at hg;refine gz8 ?_;refine de rfl (zi zcr rfl fun b4=> ?_)
 refine gz1 ?_;refine de0 (zo zcr rfl rfl rfl rfl rfl ?_)
 refine gz1 ?_;refine zf (zp 4 rfl) ?_;refine gz3 ?_;refine dq (uCl zxE rfl zld) ?_;refine gz6 ?_;refine uCo (fun h5=> ?_) fun h6=> ?_
 refine gz5 ?_;refine uRp ?_
 (rw [hg];simp_all [zdI,leS])
 refine gz2 ?_;refine uDr mixed ?_;refine gz8 ?_;refine uGy 8 rfl rfl (fun hc=>by have hq:=hc;(try simp at hq);exact zC (j:=k-1) (a:=l.getD (k-1) zkV) zgw zcr rfl rfl uO (getD_some uO)) ?_;refine gz5 ?_;refine uCo (fun h7=> ?_) fun h8=> ?_
 refine gz4 ?_;refine uRp ?_
 (rw [hg];simp_all [zdI,leS])
 refine gz7 ?_;refine ⟨k+1,?_,?_,⟨rfl,trivial⟩,uK,Ac _⟩
 refine ⟨by omega,?_⟩
 rw [hg];simp_all [zdI,leS]
 dsimp only;omega
 have hnk:l.length<=k:=by omega
 obtain rfl:k=l.length:=by omega
 rw [zD (Ae _)] at hg;refine gz2 ?_;refine zn ?_;refine gz6 ?_;refine uRp ?_
 (rw [hg];simp_all [zdI,leS])
theorem zkO [Tracks] {l:List HL.Place} (hl:l.length<=1000000):ConP prog 59 [zlR l] (.int .i64 (zcC l)):=by
 refine uOb func59 ntmps59 ?_;refine gz9 ?_;refine uCo (fun h1=> ?_) fun h2=> ?_
 refine gz4 ?_;refine uRp ?_
 (rw [zcC,if_pos uO])
 refine gz9 ?_;refine uT1 [2,3,10,29] (fun k=>[(10,.int .i64 k)]) (fun k=>[]) (fun k=>k<=l.length/\(zcC l=zdn l k (l.drop k))) (fun k=>l.length-k) (0) ?_ ?_;refine ⟨Ad _,?_⟩
 rw [zcC,if_neg uO];rfl;rintro k ⟨hk,hg⟩;refine gz4 ?_;refine uCo (fun h3=> ?_) fun h4=> ?_
 obtain ⟨x,hx⟩: ∃x,l[k]? =some x:=⟨_,Aa h3⟩
 have hdx:=zg hx;rw [hdx] at hg;refine gz8 ?_;refine de rfl (zi zlN rfl fun b4=> ?_)
 refine gz1 ?_;refine de0 (zo zlN rfl rfl rfl rfl rfl ?_)
 refine gz1 ?_;refine zf (zp 4 rfl) ?_;refine gz4 ?_;refine dq (uCl zca rfl zac) ?_;refine gz3 ?_;refine uCo (fun h5=> ?_) fun h6=> ?_
 refine gz4 ?_;refine uRp ?_
 (rw [hg];simp_all [zdn,leS])
 refine gz3 ?_;refine dq (uCl zbm rfl z7) ?_;refine gz2 ?_;refine uCo (fun h7=> ?_) fun h8=> ?_
 refine gz4 ?_;refine uRp ?_
 (rw [hg];simp_all [zdn,leS])
 refine uDr mixed ?_;refine gz8 ?_;refine uGy 8 rfl rfl (fun hc=>by have hq:=hc;(try simp at hq);exact zC (j:=k-1) (a:=l.getD (k-1) zqG) zu3 zlN rfl rfl uO (getD_some uO)) ?_;refine gz6 ?_;refine uCo (fun h9=> ?_) fun h10=> ?_
 refine gz4 ?_;refine uRp ?_
 (rw [hg];simp_all [zdn,leS])
 refine gz8 ?_;refine ⟨k+1,?_,?_,⟨rfl,trivial⟩,uK,Ac _⟩
 refine ⟨by omega,?_⟩
 rw [hg];simp_all [zdn,leS]
 dsimp only;omega
 have hnk:l.length<=k:=by omega
 obtain rfl:k=l.length:=by omega
 rw [zD (Ae _)] at hg;refine gz2 ?_;refine zn ?_;refine gz6 ?_;refine uRp ?_
 (rw [hg];simp_all [zdn,leS])
theorem zm8 [Tracks] {x y:Asset}:ConP prog 188 [zbh x,zbh y] (.int .i64 (byValue x y)):=by
 refine uOb func188 ntmps188 ?_;refine gz5 ?_;refine uDr mixed ?_;refine gz4 ?_;refine uB 4 rfl (uCl zch rfl zN) ?_;refine gz4 ?_;refine uB 9 rfl (uCl zcT rfl zG) ?_;refine uB 10 rfl (za (hs:=[_,_]) zV ty3 rfl rfl (by decide) (by decide) rfl) ?_;refine uB 11 rfl (uCl zeM rfl (zaW (l:=[_,_]) (by simp))) ?_;refine gz3 ?_;refine zB rfl ?_
 rfl
theorem zr2 [Tracks] {l:List Asset} {pos:Str} (hl:l.length<=12):ConP prog 126 [zhy l,.str pos] (zhy (ofP l pos)):=by
 refine uOb func126 ntmps126 ?_;refine gz6 ?_;refine zf (zM 3) ?_;refine gz7 ?_;refine uV2 [5,1,7,1,10,13] (fun (k:Nat) (u:Value)=>[(10,.int .i64 k),(5,.raw u)]) (fun (k:Nat) (u:Value)=>[.arr u 3 ((zfH (l.take k) pos).map zbh)]) (fun (k:Nat) (u:Value)=>k<=l.length/\(True)) (fun (k:Nat) (u:Value)=>l.length-k) (0) (.slice none 0 0) ?_ ?_ ?_ ?_;exact ⟨Ad _,by simp_all⟩;exact ⟨rfl,rfl,trivial⟩;exact zq (by simp [zfH])
 intro k u hinv
 obtain ⟨hk,-⟩:=hinv;refine gz4 ?_;refine uCo (fun h1=> ?_) fun h2=> ?_
 obtain ⟨x,hx⟩: ∃x,l[k]? =some x:=⟨_,Aa h1⟩
 have hdx:=zg hx;refine gz7 ?_;refine de rfl (zi zcr rfl fun b7=> ?_)
 refine de0 (zo zcr rfl rfl rfl rfl rfl ?_)
 refine gz1 ?_;refine zf (zp 7 rfl) ?_;refine gz6 ?_;refine uCo (fun h3=> ?_) fun h4=> ?_
 refine gz3 ?_;refine dq (za (hs:=[_]) zgw zcr rfl rfl (by decide) (by decide) rfl) ?_;have hal:(zfH (l.take k) pos).length<=12:=Ay (zmr _ _) uSo;refine de rfl (zP (i:=0) zgw zcr rfl rfl rfl rfl rfl (by simp [zas,zb]) uSo fun v21=> ?_)
 refine gz8 ?_;exact ⟨k+1,_,⟨by omega,trivial⟩,uD,⟨rfl,rfl,trivial⟩,uK,zq (by dsimp only;rw [zmV hx,if_pos uSa];simp)⟩;refine gz7 ?_;exact ⟨k+1,_,⟨by omega,trivial⟩,uD,⟨rfl,rfl,trivial⟩,uK,zq (by dsimp only;rw [zmV hx,if_neg uSa];simp)⟩;have hnk:l.length<=k:=by omega
 obtain rfl:k=l.length:=by omega
 rw [Ap];refine gz2 ?_;refine zJ ?_;refine gz2 ?_;have hal:=zmr l pos;refine gz2 ?_;refine de rfl (uCx 0 zyf rfl rfl (zeg (l:=zfH l pos) (c:=byValue) (caps:=[]) zyg (fun x y=>zm8) uO) ?_)
 rintro _ _ ⟨rfl,rfl⟩;refine gz6 ?_;exact zlF (M:=[]) 4 rfl rfl rfl
theorem zm9 [Tracks] {l:List Asset} {p:List HL.Place} (hl:l.length<=12) (hp:p.length<=10) (hm: ∀x∈p,0<=x.Many) (hv: ∀x∈l,-1000000<=x.Value/\x.Value<=1000000):ConP prog 60 [zhy l,zlR p] (.tup [.int .i64 (zdC (zal (ofP l) p)),eSs (znr (zal (ofP l) p))]):=by
 have hon: ∀s,(ofP l s).length<=12:=fun s=>Ay (zwi l s) hl
 refine uOb func60 ntmps60 ?_;refine zat ?_;refine zf (zM 1) ?_;refine gz7 ?_;refine uV2 [6,2,9,2,12,1,15,34] (fun (i:Nat) (u:Value)=>[(15,.int .i64 i),(6,.int .i64 (zdC (zal (ofP l) (p.take i)))),(7,.raw u)]) (fun (i:Nat) (u:Value)=>[.arr u 1 (((zal (ofP l) (p.take i)).map (·.Player)).map .str)]) (fun (i:Nat) (u:Value)=>i<=p.length/\(True)) (fun (i:Nat) (u:Value)=>p.length-i) (0) (.slice none 0 0) ?_ ?_ ?_ ?_;exact ⟨Ad _,by simp_all⟩;exact ⟨rfl,zL (by simp [zal,zdC]),rfl,trivial⟩;exact zq (by simp [zal])
 intro i u hinv
 obtain ⟨hi,-⟩:=hinv;refine gz4 ?_;refine uCo (fun h1=> ?_) fun h2=> ?_
 obtain ⟨x,hx⟩: ∃x,p[i]? =some x:=⟨_,Aa h1⟩
 have hdx:=zg hx;refine gz7 ?_;refine de rfl (zi zlN rfl fun b9=> ?_)
 refine de0 (zo zlN rfl rfl rfl rfl rfl ?_)
 refine gz1 ?_;refine zf (zp 9 rfl) ?_;refine gz4 ?_;refine dq (uCl zxF rfl (zr2 (by assumption))) ?_;refine gz2 ?_;have hx0:=hm x (Ab hx);have hon1:=hon x.Position;obtain ⟨N,hN⟩: ∃N:Nat,(if ((ofP l x.Position).length:Int)<x.Many then ((ofP l x.Position).length:Int) else x.Many)=(N:Int):=⟨_,(Int.toNat_of_nonneg (by split<;>omega)).symm⟩
 have hNle:N<=(ofP l x.Position).length:=by split at hN<;>omega
 refine gz6 ?_;refine dq (zau (zwv rfl rfl) (congrArg _ hN)) ?_;refine dq (zaI (h:=N) zgw zcr rfl rfl ⟨_,_,rfl,rfl⟩ uO hNle) ?_;refine gz3 ?_;have hCl:((List.drop 0 (List.take N (ofP l x.Position)))).length<=12:=by simp;omega
 have hCm: ∀y∈(List.drop 0 (List.take N (ofP l x.Position))),y∈l:=fun y hy=>by
  have:=AR (List.mem_of_mem_drop hy);unfold ofP zfH at this;exact (List.mem_filter.1 ((zlu _).1 this)).1
 generalize hCd:List.drop 0 (List.take N (ofP l x.Position))=C at*
 refine gz1 ?_;refine uV2 [6,2,12,1,31,17] (fun (k:Nat) (w:Value)=>[(31,.int .i64 k),(6,.int .i64 (zdC ((zal (ofP l) (p.take i))++((C.take k).filter (fun y=>decide (0<y.Value)))))),(7,.raw w)]) (fun (k:Nat) (w:Value)=>[.arr w 1 ((((zal (ofP l) (p.take i))++((C.take k).filter (fun y=>decide (0<y.Value)))).map (·.Player)).map .str)]) (fun (k:Nat) (w:Value)=>k<=C.length/\(True)) (fun (k:Nat) (w:Value)=>C.length-k) (0) (u) ?_ ?_ ?_ ?_;exact ⟨Ad _,by simp_all⟩;exact ⟨rfl,zL (by simp),rfl,trivial⟩;exact zq (by simp)
 intro k w hinv
 obtain ⟨hk,-⟩:=hinv;refine gz4 ?_;refine uCo (fun h3=> ?_) fun h4=> ?_
 obtain ⟨y,hy⟩: ∃y,C[k]? =some y:=⟨_,Aa h3⟩
 have hdy:=zg hy;refine gz7 ?_;refine de rfl (zi zcr rfl fun b12=> ?_)
 refine de0 (zo zcr rfl rfl rfl rfl rfl ?_)
 refine gz1 ?_;refine zf (zp 12 rfl) ?_;refine gz5 ?_;refine uCo (fun h5=> ?_) fun h6=> ?_
 refine gz4 ?_;have hb1:=zqn (f:=ofP l) (p:=p) (i:=i) (fun s m y=>znn) hon hp hv;have hb2:=zxc (k:=k) hCm hCl hv;have hb3:=hv y (hCm y (Ab hy));have hb4:=zqR (zal (ofP l) (p.take i)) ((C.take k).filter (fun y=>decide (0<y.Value)));refine gz7 ?_;refine dq (za (hs:=[_]) zj ty9 rfl rfl (by decide) (by decide) rfl) ?_;refine de rfl (zP (i:=0) zj ty9 rfl rfl rfl rfl rfl (by simp [zas,zb]) (by simp only [Ah,AA,Ak,AL];omega) fun v46=> ?_)
 refine gz8 ?_;exact ⟨k+1,_,⟨by omega,trivial⟩,uD,⟨rfl,zL (by rw [zkl hy,if_pos uSa,<-AT,zqR _ [y]];simp [zdC]),rfl,trivial⟩,uK,zq (by dsimp only;rw [zkl hy,if_pos uSa];simp)⟩;refine gz7 ?_;exact ⟨k+1,_,⟨by omega,trivial⟩,uD,⟨rfl,zL (by rw [zkl hy,if_neg uO];simp),rfl,trivial⟩,uK,zq (by dsimp only;rw [zkl hy,if_neg uO];simp)⟩;have hnk:C.length<=k:=by omega
 obtain rfl:k=C.length:=by omega
 refine gz2 ?_;refine zJ ?_;refine gz7 ?_;exact ⟨i+1,_,⟨by omega,trivial⟩,uD,⟨rfl,zL (by rw [zkD _ hx,zoA hN,hCd,Ap]),rfl,trivial⟩,uK,zq (by dsimp only;rw [zkD _ hx,zoA hN,hCd,Ap])⟩;have hni:p.length<=i:=by omega
 obtain rfl:i=p.length:=by omega
 refine gz2 ?_;refine zJ ?_;refine gz2 ?_;rw [Ap];refine gz2 ?_;refine de rfl (uCx 0 zxG rfl rfl (zpq (l:=(zal (ofP l) p).map (·.Player)) (by have hb1:=zqn (f:=ofP l) (p:=p) (i:=p.length) (fun s m y=>znn) hon hp hv;rw [Ap] at hb1;simp;omega)) ?_)
 rintro _ _ ⟨rfl,rfl⟩;refine gz8 ?_;exact zlF (M:=[]) 5 rfl rfl rfl
end
section
open Go.Proofs.Tryz
open Go.HL
theorem zm7 [Tracks] {l:List Asset} {p:List HL.Place} (hl:l.length<=11) (hp:p.length<=1000000):ConP prog 21 [zhy l,zlR p] (.tup [.int .i64 (if zje l p !=0 then 0 else zsJ l p),eSs (if zje l p !=0 then [] else znr (zal (ofP l) p)),.int .i64 (zje l p)]):=by
 refine uOb func21 ntmps21 ?_;refine gz8 ?_;refine dq (uCl ca58 rfl (zkN uO)) ?_;refine gz1 ?_;refine dq (uCl ca59 rfl (zkO (by assumption))) ?_;refine dq (za (hs:=[_,_]) zef zgv rfl rfl (by decide) (by decide) rfl) ?_;refine dq (uCl zmA rfl (zcQ (l:=[_,_]) (by simp))) ?_;refine gz6 ?_;refine uCo (fun h1=> ?_) fun h2=> ?_
 refine gz7 ?_
 (refine zbt rfl (ztW ?_ ?_ (Weak.refl _))
  rw [if_pos (by simpa [zje] using h1)];exact Weak.refl _;rw [if_pos (by simpa [zje] using h1)];exact zZ 1)
 refine gz2 ?_;obtain ⟨hca0,hcp0⟩:=zwj (l:=l) (p:=p) (by simpa [zje] using h2);obtain ⟨hsr,haf⟩:=zn5 hca0;obtain ⟨hmm,hp10⟩:=zn6 hcp0;have hvv: ∀x∈l,-1000000<=x.Value/\x.Value<=1000000:=fun x hx=>(zkx (haf x hx)).2.2
 refine gz3 ?_;refine dq (uCl ca60 rfl (zm9 uO (by assumption) uSa (by assumption))) ?_;refine zdN ?_
 (refine zB rfl ?_
  have h0:zje l p=0:=by simpa [zje] using h2
  simp [h0,zsJ,zap,zaM])
end
section
open Go.Proofs.Tryz
open Go.HL
theorem zmx [Tracks] {a b:MendS}:ConP prog 173 [zbO a,zbO b] (.int .i64 (zdK a b)):=by
 refine uOb func173 ntmps173 ?_;refine gz5 ?_;refine uDr mixed ?_;refine gz4 ?_;refine uB 4 rfl (uCl zcT rfl zG) ?_;refine gz4 ?_;refine uB 9 rfl (uCl zch rfl zN) ?_;refine gz4 ?_;refine uB 14 rfl (uCl zcT rfl zG) ?_;refine gz4 ?_;refine uB 19 rfl (uCl zch rfl zN) ?_;refine uB 20 rfl (za (hs:=[_,_,_,_]) zV ty3 rfl rfl (by decide) (by decide) rfl) ?_;refine uB 21 rfl (uCl zeM rfl (zaW (l:=[_,_,_,_]) (by simp))) ?_;refine gz3 ?_;refine zB rfl ?_
 rfl
theorem zl9 [Tracks] {m:List MendS} (hl:m.length<=1000000):ConP prog 107 [zcc m] (.int .i64 (zdX m)):=by
 refine uOb func107 ntmps107 ?_;refine gz9 ?_;refine uCo (fun h1=> ?_) fun h2=> ?_
 ·refine gz4 ?_;refine uRp ?_
  (rw [zdX,if_pos uO];done)
 ·refine gz9 ?_;refine uT1 [2,3,10,57] (fun k=>[(10,.int .i64 k)]) (fun k=>[]) (fun k=>k<=m.length/\(zdb zaD zdK zdv m 0 m=zdb zaD zdK zdv m k (m.drop k))) (fun k=>m.length-k) (0) ?_ ?_
  ·exact ⟨Ad _,rfl⟩
  ·rintro k ⟨hk,hg⟩;refine gz4 ?_;refine uCo (fun h3=> ?_) fun h4=> ?_
   ·obtain ⟨x,hx⟩: ∃x,m[k]? =some x:=⟨_,Aa h3⟩
    have hdx:=zg hx;rw [hdx] at hg;refine gz8 ?_;refine de rfl (zi zf2 rfl fun b4=> ?_)
    refine gz1 ?_;refine de0 (zo zf2 rfl rfl rfl rfl rfl ?_)
    refine gz1 ?_;refine zf (zp 4 rfl) ?_;refine gz4 ?_;refine dq (uCl zca rfl zac) ?_;refine gz4 ?_;refine uGr rfl (fun hc=>uCl zca rfl zac) ?_;refine gz5 ?_;refine uGr rfl (fun hc=>uCl zca rfl zac) ?_;refine gz4 ?_;refine uCo (fun h5=> ?_) fun h6=> ?_
    ·refine gz4 ?_;refine uRp ?_
     (refine congrArg _ (ziD (c:=5) uO hg (by decide) ?_)
      rw [zaD,if_pos]
      simp_all
      done)
    ·refine gz3 ?_;refine dq (uCl zmB rfl zdk) ?_;refine gz4 ?_;refine uGr rfl (fun hc=>uCl zbm rfl z7) ?_;refine gz4 ?_;refine uGr rfl (fun hc=>uCl zhT rfl za5) ?_;refine gz5 ?_;refine uGr rfl (fun hc=>uCl zbm rfl z7) ?_;refine gz3 ?_;refine uCo (fun h7=> ?_) fun h8=> ?_
     ·refine gz4 ?_;refine uRp ?_
      (refine congrArg _ (ziD (c:=1) uO hg (by decide) ?_)
       rw [zaD,if_neg,if_pos]
       all_goals simp_all
       done)
     ·refine uDr mixed ?_;refine gz7 ?_;refine uGy 7 rfl rfl (fun hc=>by have hq:=hc;(try simp at hq);exact zC (j:=k-1) (a:=m.getD (k-1) zdv) zkt zf2 rfl rfl uO (getD_some uO)) ?_;refine gz1 ?_;refine uGy 9 rfl rfl (fun hc=>uCl zx6 rfl zmx) ?_;refine gz4 ?_;refine uCo (fun h9=> ?_) fun h10=> ?_
      ·refine gz4 ?_;refine uRp ?_
       (refine congrArg _ (zoW uO hg ?_ ?_ ?_)
        ·rw [zaD,if_neg,if_neg]<;>simp_all
        ·simp_all
        ·simp_all)
      ·refine gz8 ?_;refine ⟨k+1,?_,?_,⟨rfl,trivial⟩,uK,Ac _⟩
       ·refine ⟨by omega,?_⟩
        rw [hg,zqd (by rw [zaD,if_neg uSa,if_neg uSa]) (by intro hk0;simp_all;try omega)]
       ·dsimp only;omega
   ·have hnk:m.length<=k:=by omega
    obtain rfl:k=m.length:=by omega
    rw [zD (Ae _)] at hg;refine gz2 ?_;refine zn ?_;refine gz6 ?_;refine uRp ?_
    (rw [zdX,if_neg uO,hg];rfl)
end
section
open Go.Proofs.Tryz
open Go.HL
theorem zvH [Tracks]:KeyOk prog 288 zgh:=zfS (cs:=fun x:Num=>zb (zgh x)) znN zyR (fun x y=>⟨rfl,⟨_,_,_,_,ty9,rfl⟩,⟨rfl,⟨_,_,_,_,ty3,rfl⟩,trivial⟩⟩)
 (fun x y=>by obtain ⟨a,b⟩:=x;obtain ⟨c,d⟩:=y;show (_&&(_&&true))=_;rw [AK];simp [eqH,Prod.mk.injEq]) (fun x=>rfl)
theorem zk5 [Tracks] {T:List Str} {l:List GameS} (hT:T.length<=1000000) (hl:l.length<=1000000) (hb:(∀x∈l,((-1000000000<=x.FNum/\x.FNum<=1000000000)/\ -1000000000<=x.FDen/\x.FDen<=1000000000)/\((-1000000000<=x.ONum/\x.ONum<=1000000000)/\ -1000000000<=x.ODen/\x.ODen<=1000000000))):ConP prog 169 [eSs T,zjw l] (.int .i64 (zfP T l)):=by
 refine uOb func169 ntmps169 ?_;refine gz6 ?_;refine dq (uCl zyy rfl (zk6 hT)) ?_;refine gz6 ?_;refine uCo (fun h1=> ?_) fun h2=> ?_
 ·refine gz5 ?_;refine zaa Ghost.clear rfl ⟨?_,rfl⟩
  show HVal.int .i64 _=_
  try rw [hE]
  (rw [zfP,if_pos (by assumption)];done)
 ·refine gz3 ?_;have hz:zcY T=0:=by first|assumption|simp_all
  have hE:zfP T l=zdm T l:=by rw [zfP,if_neg (by simp [hz])]
  refine gz5 ?_;refine uCo (fun h3=> ?_) fun h4=> ?_
  ·refine gz4 ?_;refine zaa Ghost.clear rfl ⟨?_,rfl⟩
   show HVal.int .i64 _=_
   try rw [hE]
   (refine congrArg _ (zc5 (zbW ?_) (by decide))
    omega)
  ·refine gz3 ?_;refine de rfl (zaJ fun m22=> ?_)
   refine zat ?_;refine uV1 [4,1,7,4,12,2,25,70] (fun (k:Nat)=>[(25,.int .i64 k),(7,.bool (zhV l k))]) (fun (k:Nat)=>[.map m22 (kk zgh (em HVal.bool (zhu (l.take k))))]) (fun (k:Nat)=>k<=l.length/\(zaO (zbP T) zdu l 0 l=zaO (zbP T) zdu l k (l.drop k))) (fun (k:Nat)=>l.length-k) (0) ?_ ?_ ?_ ?_
   ·exact ⟨Ad _,rfl⟩
   ·exact ⟨rfl,rfl,trivial⟩
   ·exact zq rfl
   ·intro k hinv
    obtain ⟨hk,hg⟩:=hinv;refine gz4 ?_;refine uCo (fun h5=> ?_) fun h6=> ?_
    ·obtain ⟨x,hx⟩: ∃x,l[k]? =some x:=⟨_,Aa h5⟩
     have hdx:=zg hx;rw [hdx] at hg;refine gz6 ?_;refine dq (zC zeE zbD rfl rfl rfl (by assumption)) ?_;refine gz1 ?_;refine de rfl (zi zbD rfl fun b9=> ?_)
     refine gz1 ?_;refine de0 (zo zbD rfl rfl rfl rfl rfl ?_)
     refine gz1 ?_;refine zf (zp 9 rfl) ?_;refine gz5 ?_;refine dq (uCl zmB rfl zdk) ?_;refine gz3 ?_;refine uCo (fun h7=> ?_) fun h8=> ?_
     ·refine gz4 ?_;refine zaa Ghost.clear rfl ⟨?_,rfl⟩
      show HVal.int .i64 _=_
      try rw [hE]
      (refine congrArg _ (zc5 (e:=1) (zA ?_ hg ?_ ?_) ?_)
       ·omega
       ·unfold zbP
        simp_all
        done
       ·first|decide|assumption
       ·first|decide|assumption)
     ·refine gz4 ?_;refine dq (uCl zeL rfl (zF (l:=T) (s:=x.Home) uO)) ?_;refine gz5 ?_;refine uGr rfl (fun hc=>by have hq:=hc;(try simp at hq);exact uCl zeL rfl (zF (l:=T) (s:=x.Away) uO)) ?_;refine gz4 ?_;refine uCo (fun h9=> ?_) fun h10=> ?_
      ·refine gz4 ?_;refine zaa Ghost.clear rfl ⟨?_,rfl⟩
       show HVal.int .i64 _=_
       try rw [hE]
       (refine congrArg _ (zc5 (e:=8) (zA ?_ hg ?_ ?_) ?_)
        ·omega
        ·unfold zbP
         simp_all
         done
        ·first|decide|assumption
        ·first|decide|assumption)
      ·refine gz8 ?_;refine uCo (fun h11=> ?_) fun h12=> ?_
       ·refine gz4 ?_;refine zaa Ghost.clear rfl ⟨?_,rfl⟩
        show HVal.int .i64 _=_
        try rw [hE]
        (refine congrArg _ (zc5 (e:=6) (zA ?_ hg ?_ ?_) ?_)
         ·omega
         ·unfold zbP
          simp_all
          done
         ·first|decide|assumption
         ·first|decide|assumption)
       ·refine gz5 ?_;refine dq (zeA (h:=zaG x) zbD rfl rfl rfl rfl) ?_;refine dq (uCl zyz rfl (zkI (x:=x) (hb x (Ab hx)))) ?_;refine gz6 ?_;refine uCo (fun h13=> ?_) fun h14=> ?_
        ·refine gz5 ?_;refine zaa Ghost.clear rfl ⟨?_,rfl⟩
         show HVal.int .i64 _=_
         try rw [hE]
         (refine congrArg _ (zc5 (e:=(zfQ x)) (zA ?_ hg ?_ ?_) ?_)
          ·omega
          ·unfold zbP
           simp_all
           done
          ·first|decide|assumption
          ·first|decide|assumption)
        ·refine gz3 ?_;refine uDr mixed ?_;refine gz7 ?_;refine uGy 7 rfl rfl (fun hc=>by have hq:=hc;(try simp at hq);exact zC (j:=k-1) (a:=l.getD (k-1) zdu) zeE zbD rfl rfl uO (getD_some uO)) ?_;refine gz1 ?_;refine uGy 9 rfl rfl (fun hc=>uCl zyA rfl znZ) ?_;refine gz3 ?_;refine uCo (fun h15=> ?_) fun h16=> ?_
         ·refine gz4 ?_;refine zaa Ghost.clear rfl ⟨?_,rfl⟩
          show HVal.int .i64 _=_
          try rw [hE]
          (refine congrArg _ (zc5 (e:=7) (zA ?_ hg ?_ ?_) ?_)
           ·omega
           ·unfold zbP
            simp_all
            done
           ·first|decide|assumption
           ·first|decide|assumption)
         ·refine gz2 ?_;have hne:x.Home≠x.Away:=by first|assumption|simp_all
          have hg0:zbP T k x (l.getD (k-1) zdu)=0:=by unfold zbP;simp_all
          refine gz5 ?_;refine dq (za (hs:=[_,_]) zj ty9 rfl rfl (by decide) (by decide) rfl) ?_;refine dq (zax (f:=HVal.str) (l:=[x.Home,x.Away]) zj rfl) ?_;refine gz3 ?_;refine uV1 [7,1,12,2,77,17] (fun (j:Nat)=>[(77,.int .i64 j),(7,.bool (inC l x k j))]) (fun (j:Nat)=>[.map m22 (kk zgh (em HVal.bool (inM l x k j)))]) (fun (j:Nat)=>j<=[x.Home,x.Away].length/\(True)) (fun (j:Nat)=>[x.Home,x.Away].length-j) (0) ?_ ?_ ?_ ?_
          ·exact ⟨Ad _,trivial⟩
          ·exact ⟨rfl,congrArg (fun q=>some (HVal.bool q)) zrz.1.symm,trivial⟩
          ·exact zq (by rw [zrz.2])
          ·intro j hinv
           obtain ⟨hj,-⟩:=hinv;refine gz4 ?_;refine uCo (fun h17=> ?_) fun h18=> ?_
           ·obtain ⟨s,hs⟩: ∃s,[x.Home,x.Away][j]? =some s:=⟨_,Aa (by show j<2;omega)⟩
            have hds:=zg hs;refine gz5 ?_;refine dq (zC zj ty9 rfl rfl rfl (by assumption)) ?_;refine gz3 ?_;obtain ⟨st1,st2⟩:=zv4 (l:=l) (k:=k) hne hs;refine gz4 ?_;refine dq (zH (cs:=[_,_]) znN zy9 rfl) ?_;refine de rfl (zi znN rfl fun b13=> ?_)
            refine de0 (zo znN rfl rfl rfl rfl rfl ?_)
            refine gz1 ?_;refine zf (zp 13 rfl) ?_;refine gz5 ?_;refine dgl rfl rfl (fun hc=>⟨_,OpenTo.upd (t:=88) rfl (hc) (OpenTo.upd (t:=87) rfl (hc) (OpenTo.refl _)),zet (i:=0) (f:=HVal.bool) (L:=inM l x k j) (s:=(s,x.Week)) (z0:=false) zvO zvH ty4 rfl rfl rfl rfl ⟨rfl,rfl⟩⟩) ?_;refine gz6 ?_;refine de0 (zhY (i:=0) (f:=HVal.bool) (v:=true) (s:=(s,x.Week)) (L:=inM l x k j) zvO zvH rfl rfl rfl rfl ?_)
            refine gz7 ?_;exact ⟨j+1,⟨by show j+1<=2;omega,trivial⟩,by show 2-(j+1)<2-j;omega,⟨rfl,congrArg (fun q=>some (HVal.bool q)) (by rw [<-st1];cases inC l x k j<;>rfl),trivial⟩,uK,zq (by dsimp only;rw [<-st2];rfl)⟩
           ·refine gz2 ?_;refine zn ?_;refine gz7 ?_;have e2:j=2:=by (have q:[x.Home,x.Away].length=2:=rfl;omega)
            subst e2;obtain ⟨t1,t2⟩:=zwY hx;exact ⟨k+1,⟨by omega,by rw [hg,zaN hg0]⟩,uD,⟨rfl,congrArg (fun q=>some (HVal.bool q)) t1,trivial⟩,uK,zq (by dsimp only;rw [t2])⟩
    ·have hnk:l.length<=k:=by omega
     obtain rfl:k=l.length:=by omega
     rw [zD (Ae _)] at hg;refine gz2 ?_;refine zn ?_;refine gz6 ?_;refine uCo (fun h19=> ?_) fun h20=> ?_
     ·refine gz4 ?_;refine zaa Ghost.clear rfl ⟨?_,rfl⟩
      show HVal.int .i64 _=_
      try rw [hE]
      (rw [zrv ?_ hg,if_pos (by assumption)]
       omega)
     ·refine gz6 ?_;refine zaa Ghost.clear rfl ⟨?_,rfl⟩
      show HVal.int .i64 _=_
      try rw [hE]
      (rw [zrv ?_ hg,if_neg uSa]
       omega)
theorem zjX [Tracks] {l:List Int} (hl:l.length<=1000000):ConP prog 171 [.slice 1 (l.map (HVal.int .i64))] (.int .i64 (zg0 l)):=by
 refine uOb func171 ntmps171 ?_;refine gz9 ?_;refine uCo (fun h1=> ?_) fun h2=> ?_
 ·refine gz4 ?_;refine uRp ?_
  (rw [zg0,if_pos uO];done)
 ·refine gz9 ?_;refine uT1 [2,3,10,13] (fun k=>[(10,.int .i64 k)]) (fun k=>[]) (fun k=>k<=l.length/\(zc9 l 0 l=zc9 l k (l.drop k))) (fun k=>l.length-k) (0) ?_ ?_
  ·exact ⟨Ad _,rfl⟩
  ·rintro k ⟨hk,hg⟩;refine gz4 ?_;refine uCo (fun h3=> ?_) fun h4=> ?_
   ·obtain ⟨x,hx⟩: ∃x,l[k]? =some x:=⟨_,Aa h3⟩
    have hdx:=zg hx;rw [hdx] at hg;refine zdN ?_;refine dq (uCl zbm rfl z7) ?_;refine gz1 ?_;refine uCo (fun h5=> ?_) fun h6=> ?_
    ·refine gz4 ?_;refine uRp ?_
     (refine congrArg _ (zlP (e:=4) ?_ hg ?_)
      ·omega
      ·rw [zc9]
       simp_all
       done)
    ·refine gz5 ?_;refine dq (zaI zV ty3 rfl rfl ⟨_,_,rfl,rfl⟩ uO uO) ?_;refine gz1 ?_;refine dq (uCl zvl rfl (zea (l:=l.take k) (z:=x) (by rw [AD];omega))) ?_;refine gz1 ?_;refine uCo (fun h7=> ?_) fun h8=> ?_
     ·refine gz4 ?_;refine uRp ?_
      (refine congrArg _ (zlP (e:=6) ?_ hg ?_)
       ·omega
       ·rw [zc9]
        simp_all
        done)
     ·refine gz7 ?_;refine ⟨k+1,?_,?_,⟨rfl,trivial⟩,uK,Ac _⟩
      ·refine ⟨by omega,?_⟩
       rw [hg,zc9,if_neg uSa,if_neg uSa]
      ·dsimp only;omega
   ·have hnk:l.length<=k:=by omega
    obtain rfl:k=l.length:=by omega
    rw [zD (Ae _)] at hg;refine gz2 ?_;refine zn ?_;refine gz6 ?_;refine uRp ?_
    (refine congrArg _ (zrn ?_ hg)
     omega)
theorem zen [Tracks] {l:List GameS} {fid:FuncId} {caps:List HVal} {p:GameS->Bool} (hca:Callable prog fid) (hp: ∀x,ConP prog fid ([zaG x]++caps) (.bool (p x))) (hl:l.length<=1000000):ConP prog 157 [.slice 8 (l.map zaG),.fn (.func fid) [] caps] (.int .i64 (zaf p l 0)):=by
 refine uOb func157 ntmps157 ?_;refine zat ?_;refine uT1 [4,2,8,11] (fun k=>[(8,.int .i64 k)]) (fun k=>[]) (fun k=>k<=l.length/\(zaf p l 0=zaf p (l.drop k) k)) (fun k=>l.length-k) (0) ?_ ?_;exact ⟨Ad _,rfl⟩;rintro k ⟨hk,hg⟩;refine gz4 ?_;refine uCo (fun h1=> ?_) fun h2=> ?_
 obtain ⟨x,hx⟩: ∃x,l[k]? =some x:=⟨_,Aa h1⟩
 have hdx:=zg hx;rw [hdx] at hg;refine zdN ?_;refine dq (zan hca rfl rfl (WeakL.refl _) (hp _)) ?_;refine gz1 ?_;refine uCo (fun h3=> ?_) fun h4=> ?_
 refine gz5 ?_;refine uRp ?_
 (rw [hg];simp_all [zaf])
 refine gz7 ?_;refine ⟨k+1,?_,?_,⟨rfl,trivial⟩,uK,Ac _⟩
 refine ⟨by omega,?_⟩
 rw [hg,zaf,if_neg uSa];rfl
 dsimp only;omega
 have hnk:l.length<=k:=by omega
 obtain rfl:k=l.length:=by omega
 rw [zD (Ae _)] at hg;refine gz2 ?_;refine zn ?_;refine gz6 ?_;refine uRp ?_
 (rw [hg];rfl)
theorem za6 [Tracks] {l:List GameS} {fid:FuncId} {caps:List HVal} {p:GameS->Bool} (hca:Callable prog fid) (hp: ∀x,ConP prog fid ([zaG x]++caps) (.bool (p x))) (hl:l.length<=1000000):ConP prog 87 [.slice 8 (l.map zaG),.fn (.func fid) [] caps] (.bool (l.any p)):=by
 refine uOb func87 ntmps87 ?_;refine gz6 ?_;refine dq (uCl zxW rfl (zen hca hp hl)) ?_;refine gz4 ?_;refine zB rfl ?_
 congr 1;exact zcH p l 0 uO
theorem ziU [Tracks] {x:GameS}:ConP prog 170 [zaG x] (.bool x.Played):=by
 refine uOb func170 ntmps170 ?_;refine zat ?_;refine zB rfl ?_
 rfl
theorem zjW [Tracks] {g:LeagueS} (hT:Tracks.on=false) (hb:LeaB g):ConP prog 105 [zd1 g] (.int .i64 (zbQ g)):=by
 have hst:=hb.sta;refine uOb func105 ntmps105 ?_;refine gz5 ?_;refine uDr mixed ?_;refine gz4 ?_;refine uB 4 rfl (uCl zxY rfl (zj1 (L:=g.Players) (l:=g.Stints) hT hb.pl hb.nm hb.po hb.st)) ?_;refine gz2 ?_;refine uB 7 rfl (uCl zxZ rfl (ziV (l:=g.Fixtures) hb.fx)) ?_;refine gz2 ?_;refine uB 10 rfl (uCl zx0 rfl (zk8 (l:=g.Rules) hb.ru hb.rw')) ?_;refine gz2 ?_;refine uB 13 rfl (uCl zx1 rfl (zk9 (l:=g.Slots) hb.sl hb.sp)) ?_;refine gz1 ?_;refine uB 15 rfl (zau (h':=zdy g.Bounds) (zaV zgt rfl rfl (An rfl)) rfl) ?_;refine uB 16 rfl (uCl zvc rfl (zfI (b:=g.Bounds))) ?_;refine gz4 ?_;refine uB 21 rfl (uCl zx2 rfl (zk5 (T:=g.Teams) (l:=g.Games) hb.tm hb.ga hb.gb)) ?_;refine uB 22 rfl (za (hs:=[_,_,_,_,_,_]) zef zgv rfl rfl (by decide) (by decide) rfl) ?_;refine uB 23 rfl (uCl zmA rfl (zcQ (l:=[_,_,_,_,_,_]) (by simp))) ?_;refine gz6 ?_;refine uCo (fun h1=> ?_) fun h2=> ?_
 refine gz5 ?_;refine uRp ?_;unfold zbQ zfT zja zcK
 (rw [if_pos (by assumption)])
 refine gz6 ?_;refine dq (uCl zt9 rfl (za6 (l:=g.Games) (p:=fun x=>x.Played) zx3 (fun _=>ziU) hb.ga)) ?_;refine gz1 ?_;refine uCo (fun h3=> ?_) fun h4=> ?_
 refine gz4 ?_;refine uRp ?_;unfold zbQ zfT zja zcK
 (rw [if_neg (fun q=>q h2),if_pos uSa])
 refine gz3 ?_;refine uDr mixed ?_;refine gz2 ?_;refine uB 2 rfl (uCl zx4 rfl (zjX (l:=g.Breaks) hb.br)) ?_;refine gz2 ?_;refine uB 5 rfl (uCl ca53 rfl (zhd (l:=g.Trust) hb.tr)) ?_;refine uB 6 rfl (za (hs:=[_,_]) zef zgv rfl rfl (by decide) (by decide) rfl) ?_;refine uB 7 rfl (uCl zmA rfl (zcQ (l:=[_,_]) (by simp))) ?_;refine gz6 ?_;refine uCo (fun h5=> ?_) fun h6=> ?_
 refine gz5 ?_;refine uRp ?_;unfold zbQ zfT zja zcK
 (rw [if_neg (fun q=>q h2),if_neg uSa,if_pos (by assumption)])
 refine gz6 ?_;refine dq (uCl zhT rfl za5) ?_;refine gz8 ?_;refine uCo (fun h7=> ?_) fun h8=> ?_
 refine gz4 ?_;refine uRp ?_;unfold zbQ zfT zja zcK
 (rw [if_neg (fun q=>q h2),if_neg uSa,if_neg (fun q=>q h6),if_pos uSa])
 refine gz6 ?_;refine uRp ?_;unfold zbQ zfT zja zcK
 (rw [if_neg (fun q=>q h2),if_neg uSa,if_neg (fun q=>q h6),if_neg uSa])
theorem zl6 [Tracks] {a b:ChoiceS}:ConP prog 176 [zao a,zao b] (.int .i64 (zim a b)):=by
 refine uOb func176 ntmps176 ?_;refine gz5 ?_;refine uDr mixed ?_;refine gz4 ?_;refine uB 4 rfl (uCl zcT rfl zG) ?_;refine gz4 ?_;refine uB 9 rfl (uCl zch rfl zN) ?_;refine gz4 ?_;refine uB 14 rfl (uCl zch rfl zN) ?_;refine uB 15 rfl (za (hs:=[_,_,_]) zV ty3 rfl rfl (by decide) (by decide) rfl) ?_;refine uB 16 rfl (uCl zeM rfl (zaW (l:=[_,_,_]) (by simp))) ?_;refine gz3 ?_;refine zB rfl ?_
 rfl
theorem zjr [Tracks] {b:BookS} {l:List ChoiceS} (hb:BookB b) (hl:l.length<=1000000) (hc: ∀x∈l,x.Players.length<=1000000):ConP prog 109 [.vptr (zu9 b) 0,zmE l] (.int .i64 (zse b.League.Teams b.League.Slots.length l)):=by
 have hsl:=hb.lea.sl;have htm:=hb.lea.tm;refine uOb func109 ntmps109 ?_;refine gz9 ?_;refine uCo (fun h1=> ?_) fun h2=> ?_
 refine gz4 ?_;refine uRp ?_
 (refine congrArg _ (zbW ?_)
  omega)
 refine gz9 ?_;refine uT1 [4,3,8,1,14,68] (fun k=>[(14,.int .i64 k)]) (fun k=>[]) (fun k=>k<=l.length/\(zaO (zbv b.League.Teams b.League.Slots.length) zeN l 0 l=zaO (zbv b.League.Teams b.League.Slots.length) zeN l k (l.drop k))) (fun k=>l.length-k) (0) ?_ ?_;exact ⟨Ad _,rfl⟩;rintro k ⟨hk,hg⟩;refine gz4 ?_;refine uCo (fun h3=> ?_) fun h4=> ?_
 obtain ⟨x,hx⟩: ∃x,l[k]? =some x:=⟨_,Aa h3⟩
 have hdx:=zg hx;rw [hdx] at hg;refine gz6 ?_;refine dq (zC zgu zee rfl rfl rfl (by assumption)) ?_;refine gz1 ?_;refine de rfl (zi zee rfl fun b6=> ?_)
 refine gz1 ?_;refine de0 (zo zee rfl rfl rfl rfl rfl ?_)
 refine gz1 ?_;refine zf (zp 6 rfl) ?_;refine gz2 ?_;refine uDr mixed ?_;refine gz6 ?_;refine uB 6 rfl (uCl zeL rfl (zF (l:=b.League.Teams) (s:=x.Team) uO)) ?_;refine gz3 ?_;refine uCo (fun h5=> ?_) fun h6=> ?_
 refine gz4 ?_;refine uRp ?_
 (refine congrArg _ (zA (e:=8) ?_ hg ?_ ?_)
  omega
  unfold zbv;exact uT
  first|decide|assumption)
 refine gz3 ?_;refine dq (uCl zmB rfl zdk) ?_;refine gz4 ?_;refine uGr rfl (fun hc=>uCl zhT rfl za5) ?_;refine gz4 ?_;refine uCo (fun h7=> ?_) fun h8=> ?_
 refine gz4 ?_;refine uRp ?_
 (refine congrArg _ (zA (e:=1) ?_ hg ?_ ?_)
  omega
  unfold zbv;exact uT
  first|decide|assumption)
 refine uDr mixed ?_;refine gz2 ?_;refine uB 2 rfl (zax (f:=HVal.str) (l:=x.Players) zj rfl) ?_;refine gz4 ?_;refine uB 7 rfl (zax (f:=zbs) (l:=b.League.Slots) zf3 rfl) ?_;refine gz3 ?_;refine uCo (fun h9=> ?_) fun h10=> ?_
 refine gz4 ?_;refine uRp ?_
 (refine congrArg _ (zA (e:=3) ?_ hg ?_ ?_)
  omega
  unfold zbv;exact uT
  first|decide|assumption)
 refine gz4 ?_;have hcx:=hc x (Ab hx);refine uDr mixed ?_;refine gz2 ?_;refine uA 3 ?_;refine gz1 ?_;refine uB 5 rfl (za (hs:=[_]) zj ty9 rfl rfl (by decide) (by decide) rfl) ?_;refine uA 8 ?_;refine uF 2 ?_;refine zm rfl (uCa zmz rfl (zar (l:=x.Players) hcx) fun v51=> ?_)
 refine ⟨uE,?_⟩
 refine uF 6 ?_;refine zm rfl (zjl (N:=[]) (sz:=1) (es:=(x.Players++[x.Captain]).map .str) 0 (zP (i:=0) (v:=v51) (es:=x.Players.map .str) (ys:=[.str x.Captain]) zj ty9 rfl rfl rfl rfl rfl (by simp [zas,zb]) uSo fun v55=>⟨v55,rfl,by rw [AB];rfl,rfl⟩) ?_)
 refine ⟨uE,?_⟩
 refine uB 7 rfl (zax (f:=HVal.str) (l:=x.Players++[x.Captain]) zj rfl) ?_;refine uAz ?_;refine gz1 ?_;refine uT1 [4,1,8,1,57,12] (fun j=>[(57,.int .i64 j)]) (fun j=>[]) (fun j=>j<=(x.Players++[x.Captain]).length/\(∀s∈(x.Players++[x.Captain]).take j,zbo s=true)) (fun j=>(x.Players++[x.Captain]).length-j) (0) ?_ ?_;exact ⟨Ad _,by simp⟩;rintro j ⟨hj,hnm⟩;have hlen:(x.Players++[x.Captain]).length=x.Players.length+1:=by simp
 refine gz4 ?_;refine uCo (fun h11=> ?_) fun h12=> ?_
 obtain ⟨s,hs⟩: ∃s,(x.Players++[x.Captain])[j]? =some s:=⟨_,Aa (by rw [AA];simp;omega)⟩
 have hds:=zg hs;refine gz5 ?_;refine dq (zC zj ty9 rfl rfl rfl (by assumption)) ?_;refine gz8 ?_;refine uGr rfl (fun hc=>uCl zca rfl zac) ?_;refine gz3 ?_;refine uCo (fun h13=> ?_) fun h14=> ?_
 refine gz4 ?_;refine uRp ?_
 (obtain ⟨q1,q2⟩: ¬s=[]/\key s=false:=by first|assumption|simp_all
  have g1:zbv b.League.Teams b.League.Slots.length k x (l.getD (k-1) zeN)=5:=by
   unfold zbv;rw [if_neg uSa,if_neg uSa,if_neg (fun q=>q uO),if_pos (ztD (Ab hs) (zwf q1 q2))]
  exact congrArg _ (zA (e:=5) uO hg g1 (by decide)))
 refine gz7 ?_;refine ⟨j+1,?_,?_,⟨rfl,trivial⟩,uK,Ac _⟩
 refine ⟨by omega,fun s' hs'=> ?_⟩
 rw [zaj hs] at hs'
 rcases List.mem_append.1 hs' with q|q
 exact hnm s' q;rw [List.mem_singleton.1 q];exact zwg (by intro q2;simp_all)
 dsimp only;omega
 have hnj:(x.Players++[x.Captain]).length<=j:=by omega
 obtain rfl:j=(x.Players++[x.Captain]).length:=by omega
 rw [Ap] at hnm;refine gz2 ?_;refine zn ?_;refine gz2 ?_;have hall:((x.Players++[x.Captain]).all zbo)=true:=by
  rw [List.all_eq_true]
  intro s hs
  exact hnm s hs
 refine uDr mixed ?_;refine gz7 ?_;refine uGy 7 rfl rfl (fun hc=>by have hq:=hc;(try simp at hq);exact zC (j:=k-1) (a:=l.getD (k-1) zeN) zgu zee rfl rfl uO (getD_some uO)) ?_;refine gz1 ?_;refine uGy 9 rfl rfl (fun hc=>uCl zx7 rfl zl6) ?_;refine gz3 ?_;refine uCo (fun h15=> ?_) fun h16=> ?_
 refine gz4 ?_;refine uRp ?_
 (refine congrArg _ (zA (e:=7) ?_ hg ?_ ?_)
  omega
  unfold zbv;exact uT
  first|decide|assumption)
 refine gz7 ?_;refine ⟨k+1,?_,?_,⟨rfl,trivial⟩,uK,Ac _⟩
 refine ⟨by omega,?_⟩
 rw [hg,zaN (by unfold zbv;(try clear hdx hg);(try simp only [Af]);focus first|(simp_all;done)|((repeat' split)<;>focus first|rfl|(exfalso;omega)|(simp_all;done)|(exfalso;rcases ‹_\/_› with q|q<;>simp_all;done)|(exfalso;simp_all;omega)))]
 dsimp only;omega
 have hnk:l.length<=k:=by omega
 obtain rfl:k=l.length:=by omega
 rw [zD (Ae _)] at hg;refine gz2 ?_;refine zn ?_;refine gz6 ?_;refine uRp ?_
 (refine congrArg _ (zbG ?_ hg)
  omega)
theorem zk4 [Tracks] {b:BookS} (hT:Tracks.on=false) (hb:BookB b) (hw: ∀x∈b.Health,-1000000000000000<=x.To/\x.To<=1000000000000000):ConP prog 42 [zeb b] (.int .i64 (zdJ b)):=by
 refine uOb func42 ntmps42 ?_;refine gz7 ?_;refine dq (zau (h':=zd1 b.League) (zaV za9 rfl rfl (An rfl)) rfl) ?_;refine dq (uCl zxq rfl (zjW (g:=b.League) hT hb.lea)) ?_;refine gz6 ?_;refine uCo (fun h1=> ?_) fun h2=> ?_
 refine gz5 ?_;refine uRp ?_;unfold zdJ
 (rw [if_pos (by assumption)])
 refine gz2 ?_;refine uDr mixed ?_;refine gz2 ?_;refine uB 2 rfl (uCl zvb rfl (zf8 (l:=b.Moves) hb.mv)) ?_;refine gz2 ?_;refine uB 5 rfl (uCl ca52 rfl (zhc (l:=b.Plays) hb.pl)) ?_;refine gz2 ?_;refine uB 8 rfl (uCl zxr rfl (zl9 (m:=b.Mends) hb.me)) ?_;refine gz5 ?_;refine uB 14 rfl (uCl zxs rfl (zj0 (L:=b.League.Players) (l:=b.Health) hT hb.lea.pl hb.lea.nm hb.lea.po hb.he hw)) ?_;refine gz3 ?_;refine uB 18 rfl (uCl zxt rfl (zjr (b:=b) (l:=b.Choices) hb hb.ch hb.cp)) ?_;refine uB 19 rfl (za (hs:=[_,_,_,_,_]) zef zgv rfl rfl (by decide) (by decide) rfl) ?_;refine uB 20 rfl (uCl zmA rfl (zcQ (l:=[_,_,_,_,_]) (by simp))) ?_;refine gz3 ?_;refine uRp ?_;unfold zdJ
 (rw [if_neg (fun q=>q h2),<-zwV (fun q=>q h2)])
end
end Go.Proofs.YtaihpegdcgdcgaaGreatDoor
