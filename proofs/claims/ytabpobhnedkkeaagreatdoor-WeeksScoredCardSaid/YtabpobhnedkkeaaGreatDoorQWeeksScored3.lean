/- Part 3 of the proof: a program logic, contracts of functions and plain facts; no conditions. -/
import Derived.Test.YtabpobhnedkkeaaGreatDoorQWeeksScored2
import Derived.Ground.GgzProg
import Derived.Ground.Names2Prog
import Derived.Ground.SlgmProg
import Derived.Ground.SlmcProg
import Derived.Ground.SlsfProg
import Derived.Lib.AppendStr
import Derived.Lib.UnsafeStr
import Derived.Shelf.SlIter.Collect
import Derived.Shelf.SlIter.Keys
import Derived.Shelf.SlIter.Sorted
import Derived.Shelf.SlMaps.Clone
import Derived.Shelf.SlSortCmp.NoneTotal
import Derived.Shelf.Slices.CompactS
import Derived.Shelf.Slices.Delete
import Derived.Shelf.Small.Wraps
import Derived.Shelf.Sort.Plain
import Derived.Shelf.SortM.Plain
import Derived.Shelf.SortM.SortNone
import Derived.Shelf.Spec.SlicesInsert
import Derived.Shelf.Spec.SlicesInsertGrow
import Derived.Shelf.Strconv.Atoi
import Derived.Shelf.Strconv.Itoa3
import Derived.Shelf.Strings.Builder1
import Derived.Shelf.Strings.Cut
import Derived.Shelf.Strings.FieldsFuncAny
import Derived.Shelf.Strings.OnBuilder
import Derived.Shelf.Strings.Prefix
import Derived.Shelf.Strings.Search3
import Derived.Shelf.Strings.Split
import Derived.Shelf.Unicode.ValidAny
import Derived.Test.YtabpobhnedkkeaaGreatDoorProg
set_option linter.unusedVariables false
set_option linter.unusedSimpArgs false
set_option maxHeartbeats 16000000
namespace Go.HL
section
open Go.Proofs Go.RowKit Go.Maps Go.Sort Go.Shelf
section
variable {P:Program}
def ztj (H:Type):Value->Option (DataW H×List MemPlace):=fun _=>some (.nil,[])
theorem zCz {I:Imm} {w:World} {b:Nat} {α:Type} {f:α->HVal} {L:List (Str×α)} (hm:MSat I w (.map b (sk (em f L)))):
 ∃es clk,w.heap[b]? =some (.map es clk)/\BornOk es clk/\es.size=L.length/\es.toList.map (·.key)=L.map fun p=>encStr p.1:=by
 obtain ⟨es,clk,h1,⟨h2,h4⟩,h3⟩:=hm;have hl:es.size=L.length:=by rw [h2];simp [sk]
 refine ⟨es,clk,h1,h4,hl,Cu fun i=> ?_⟩
 rw [Aj,Aj]
 rcases AC i L.length with h|h
 have a1:L[i]? =some L[i]:=Aa h;have a2:es[i]? =some es[i]:=Aq (by omega);have a3:(sk (em f L))[i]? =some (.str L[i].1,f L[i].2):=by simp [sk,a1]
 have a4:=(h3 i _ _ a3 a2).1.str_inv;rw [a1,AY,a2];simp only [AI,AA];rw [a4]
 try rfl
 rw [AH h,AH (by rw [AM];omega)];rfl
theorem zzP {es:Array MapEntry} {clk:Nat} (h:BornOk es clk):(es.toList.map (·.born)).Nodup:=by
 refine List.pairwise_iff_getElem.2 fun i j hi hj hij e=> ?_
 rw [List.getElem_map,List.getElem_map] at e;rw [Af,AM] at hi hj;have:=h.2 i j es[i] es[j] (Aq hi) (Aq hj) (by simpa using e)
 omega
theorem zxX {I:Imm} {w:World} {b:Nat} {α:Type} {f:α->HVal} {L:List (Str×α)} {k:TypeId} (hk:P.underlying k=some .string) (hm:MSat I w (.map b (sk (em f L)))) (hn:ANodup L)
 (hl: ∀p∈L,p.1.length<=1000000) (hs:L.length<=1000000): ∃D:DataW Unit,w.ownsMap P k (ztj Unit) b L.length D/\(strKeys D).Perm (L.map (·.1))/\Maps.size D=L.length:=by
 obtain ⟨es,clk,h1,h2,h3,h4⟩:=zCz hm;have hx: ∀x∈es.toList,∃p∈L,x.key=encStr p.1:=fun x hx=>by
  have:=Bw (f:=(·.key)) hx;rw [h4] at this;obtain ⟨p,hp,e⟩:=List.mem_map.1 this;exact ⟨p,hp,e.symm⟩
 have hrd: ∀x∈es.toList,∀p∈L,x.key=encStr p.1->WideElems.rd P k (ztj Unit) x=some (.string p.1,.nil):=fun x _ p hp e=>by
  have:=hl p hp;have hm:maxLen=9223372036854775807:=by rfl
  simp [WideElems.rd,keyOf,hk,e,mapKey,encStr,ztj,hm]
  rw [if_pos (by show p.1.toArray.size<=_;simp;omega)]
  rfl
 have hkeys:es.toList.map (fun x=>strOf (WideElems.rg P k (ztj Unit) x).1)=L.map (·.1):=by
  have e2:es.toList.map (fun x=>strOf (WideElems.rg P k (ztj Unit) x).1)=(es.toList.map (·.key)).map fun v=>match v with| .string s=>s.data.toList|_=>[]:=by
   rw [AW];refine BM fun x hx'=> ?_
   obtain ⟨p,hp,e⟩:=hx x hx';rw [WideElems.rg_of (hrd x hx' p hp e)]
   simp [e,encStr,strOf]
  rw [e2,h4,AW];refine BM fun p _=> ?_
  simp [encStr]
 have hml:maxLen=9223372036854775807:=by rfl
 refine ⟨_,⟨es,clk,h1,⟨by omega,⟨fun x hx'=> ?_,zzP h2,?_⟩,fun x hx'=> ?_⟩,by omega,rfl⟩,?_,?_⟩
 obtain ⟨i,hi⟩:=A5 hx';exact h2.1 i x (by simpa using hi);rw [h4];have:(L.map fun p=>encStr p.1)=(L.map (·.1)).map encStr:=by rw [AW];rfl
 rw [this];exact List.Pairwise.map encStr (fun a b hab e=>hab (encStr_inj e)) hn;obtain ⟨p,hp,e⟩:=hx x hx';exact ⟨_,hrd x hx' p hp e⟩
 show ((List.foldr DataW.insert [] _).map fun p=>strOf p.1).Perm _
 rw [<-hkeys];have:=(WideShapes.sorted_perm (es.toList.map (WideElems.rg P k (ztj Unit)))).map fun p=>strOf p.1
 rw [AW] at this;exact this
 show (List.foldr DataW.insert [] _).length=_
 rw [(WideShapes.sorted_perm _).length_eq,Af,AM,h3]
theorem zB4 [Tracks] {ρ:Ren} (L:SlLaysZ.n7 P ρ) {b:Nat}:Con P (ρ.f 7) [.raw (.map (some b))] [] fun x M'=> ∃bx,x= .fn (.func (ρ.f 10)) [] [.raw (.pointer (some ⟨bx,0,none⟩))]/\M'=[.cells bx [.raw (.map (some b))]]:=by
 intro I F w args ha hs
 obtain ⟨u,rfl,hu⟩:=ha.one;obtain rfl:=hu.raw_inv;refine ((callsIn_wide (n:=1)).1 (AnyZ.keys_in L Fence.wide 1 trivial rfl (some b) w)).mono ?_;rintro _ w' ⟨rfl,rfl⟩;refine ⟨_,_,_,I,rfl,.refl I,⟨w.heap.size,rfl,rfl⟩,.fn rfl rfl (fun j c v h _=>by simp at h) (fun j c v h1 h2=> ?_),?_⟩
 exact (VL.cons (.raw _ rfl) VL.nil:VL I [.raw (.pointer (some ⟨w.heap.size,0,none⟩))] [.pointer (some ⟨w.heap.size,0,none⟩)]).2 j c v h1 (by simpa using h2);exact hs.new_own _ _ rfl ⟨#[.map (some b)],ρ.t 23,(0,0),by simp,Free.zero _,VL.cons (.raw _ rfl) VL.nil⟩
theorem zzu [Tracks] (hT:Tracks.on=false) {ρ ρk:Ren} (L:SlLaysZ.n6 P ρ) (Lk:SlLaysZ.n7 P ρk) (hsort: ∀m,AnyZ.SortsIn P ρ Fence.wide m)
 (e9: ∀args w,(callFunc (ρ.f 9) args).run P w= .ok (.enter (ρ.f 9) args) w) (eg: ∀args w,(callFunc (ρk.f 10) args).run P w= .ok (.enter (ρk.f 10) args) w)
 {α:Type} {f:α->HVal} {l:List (Str×α)} (hn:ANodup l) (hl: ∀p∈l,p.1.length<=1000000) (hs:l.length<=1000000) {b bx:Nat}:
 Con P (ρ.f 6) [.fn (.func (ρk.f 10)) [] [.raw (.pointer (some ⟨bx,0,none⟩))]] [.cells bx [.raw (.map (some b))],.map b (sk (em f l))] fun x M'=> ∃v,x= .raw v/\M'=[.arr v 1 ((zaB (l.map (·.1))).map .str),.map b (sk (em f l))]:=by
 intro I F w args ha hsat
 obtain ⟨u,rfl,hu⟩:=ha.one;obtain ⟨v1,v2,rfl,hv1,hv2,hc⟩: ∃v1 v2,u= .func (.func (ρk.f 10)) v1 v2/\v1= #[]/\v2.size=1/\∀(j:Nat) (c:HVal) (v:Value),[HVal.raw (.pointer (some ⟨bx,0,none⟩))][j]? =some c->v2[j]? =some v->V I c v:=by
  cases hu with
  |fn h1 h2 h3 h4=>exact ⟨_,_,rfl,BH (by simpa using h1),by simpa using h2,h4⟩
 subst hv1;obtain rfl:v2= #[.pointer (some ⟨bx,0,none⟩)]:=by
  match v2,hv2 with
  |⟨[y]⟩,_=>have:=(hc 0 _ y rfl rfl).raw_inv;rw [this]
 obtain ⟨rc,el,fr,c1,c2,c3⟩:=hsat.obj (.cells bx [.raw (.map (some b))]) (by simp);have hmap:=hsat.obj (.map b (sk (em f l))) (by simp);obtain ⟨D,d1,d2,d3⟩:=zxX (k:=ρk.t 26) (by exact Lk.t26) hmap hn hl hs;have hbx:bx<w.heap.size:=(Array.getElem?_eq_some_iff.1 c1).1;have hcell:w.cell? ⟨bx,0,none⟩=some (.map (some b)):=by
  have:=c3.1
  match rc,this,c1,c3 with
  |⟨[y]⟩,_,c1,c3=>
    have hy:=c3.head.raw_inv;subst hy
    simp [World.cell?,c1]
 have hseq:=AnyZ.keys_gives (ρ:=ρk) {Lk with} Fence.wide 2 trivial rfl (by omega) bx b l.length D w hbx hcell d1;have cS:=AnyZ.sorted_in L Fence.wide 5 trivial trivial trivial trivial rfl (by omega) (hsort _) e9 (ρk.f 10) #[.pointer (some ⟨bx,0,none⟩)] trivial eg _ _ (by rw [d3];exact An hs (by decide)) (by rw [d3];omega) w hseq;refine ((callsIn_wide (n:=5)).1 cS).mono ?_;rintro e w' ⟨v,ss,rfl,hS,hrow,hnil,hb⟩;have hss:(ss.mergeSort fun x y=>decide (x<=y))=zaB (l.map (·.1)):=mergeSort_of_perm (hS.trans d2);rw [hss] at hrow;have hlen:ss.length=(zaB (l.map (·.1))).length:=by rw [ziw,(hS.trans d2).length_eq]
 have hmem:MSat I w' (.arr v 1 ((zaB (l.map (·.1))).map .str)):=by
  rcases hrow.2 with ⟨rfl,hz⟩|⟨gb,cap,cur,rfl,hbase,hgb,r1,r2,r3,r4⟩
  refine .inl ⟨rfl,?_⟩
  have:zaB (l.map (·.1))=[]:=List.length_eq_zero_iff.1 (by omega);rw [this];rfl;refine .inr ⟨gb,0,cap,cur,_,_,by rw [Af,<-hlen],hgb,Free.zero _,fun e he=> ?_,⟨by rw [Af];omega,An r2 (by decide)⟩,by omega,fun i j e c y h1 h2 h3=> ?_⟩
  obtain ⟨s,_,rfl⟩:=List.mem_map.1 he;rfl;rw [Aj] at h1
  cases hq:(zaB (l.map (·.1)))[i]? with
  |none=>rw [hq] at h1;cases h1
  |some s=>
    rw [hq] at h1;simp only [AI,AA] at h1;subst h1;have hj:j=0:=by
     cases j with
     |zero=>rfl
     |succ j=>simp [zb] at h2
    subst hj;simp only [zb,A3,AA] at h2;subst h2;have hi:=zn hq;have h4:(cur.toList.take (ss.length*1))[i]? =some (encStr s):=by rw [r4,Aj,hq];rfl
    rw [AD (by omega),AY] at h4;have e0:0+i*1+0=i:=by omega
    rw [e0,h4] at h3
    cases h3
    exact .str s
 have hown: ∀k,v.ownBlock=some k->w.heap.size<=k/\k<w'.heap.size:=hrow.lt
 refine ⟨v,.raw v,_,I,rfl,.refl I,⟨v,rfl,rfl⟩,?_,?_⟩
 rcases hrow.2 with ⟨rfl,_⟩|⟨gb,cap,cur,rfl,_⟩
 exact .raw _ rfl;exact .raw _ rfl;refine hsat.change (m':= .arr v 1 _) (fun k hk _=>hb.block k hk) (fun k hk=> .inr ?_) ?_ hmem hb.os hb.output hb.tape (fun ht=>by rw [hT] at ht;cases ht)
 rcases hrow.2 with ⟨rfl,_⟩|⟨gb,cap,cur,rfl,hbase,_⟩
 simp [MObj.blocks] at hk
 simp [MObj.blocks] at hk;omega
 rcases hrow.2 with ⟨rfl,_⟩|⟨gb,cap,cur,rfl,hbase,_⟩<;>simp [MObj.blocks]
theorem zvn [Tracks] (hT:Tracks.on=false) {ρ ρk:Ren} (L:SlLaysZ.n6 P ρ) (Lk:SlLaysZ.n7 P ρk) (hsort: ∀m,AnyZ.SortsIn P ρ Fence.wide m)
 (e9: ∀args w,(callFunc (ρ.f 9) args).run P w= .ok (.enter (ρ.f 9) args) w) (eg: ∀args w,(callFunc (ρk.f 10) args).run P w= .ok (.enter (ρk.f 10) args) w)
 {S:List Str} (hn:S.Nodup) (hl: ∀s∈S,s.length<=1000000) (hs:S.length<=1000000) {b bx:Nat}:
 Con P (ρ.f 6) [.fn (.func (ρk.f 10)) [] [.raw (.pointer (some ⟨bx,0,none⟩))]] [.cells bx [.raw (.map (some b))],.map b (sk (zbd S))] fun x M'=> ∃v,x= .raw v/\M'=[.arr v 1 ((zaB S).map .str),.map b (sk (zbd S))]:=by
 have e1:zbd S=em HVal.bool (S.map fun s=>(s,true)):=by simp [zbd]
 have e2:(S.map fun s=>(s,true)).map (·.1)=S:=by simp [Function.comp_def]
 have:=zzu hT L Lk hsort e9 eg (f:=HVal.bool) (l:=S.map fun s=>(s,true)) (by unfold ANodup;rw [e2];exact hn) (fun p hp=>by obtain ⟨s,hs,rfl⟩:=List.mem_map.1 hp;exact hl s hs) (by simpa using hs) (b:=b) (bx:=bx);rw [e2,<-e1] at this;exact this
end
end
section
open Go.Proofs Go.RowKit Go.Sort Go.Shelf
variable {P:Program}
theorem Sat.below [Tracks] (hT:Tracks.on=false) {I:Imm} {M:List MObj} {w w':World} (hs:Sat P I M w) (hb:Below w.heap.size w w'):Sat P I M w':=by
 obtain ⟨h1,h2⟩:=hs.lt;exact hs.of_same (fun b hb'=>hb.block b (h1 b hb')) (fun b hb'=>hb.block b (h2 b hb')) hb.os hb.output hb.tape (fun h=>by rw [hT] at h;cases h)
theorem zAH [Tracks] (hT:Tracks.on=false) {ρ:Ren} (L:Lays.n196 P ρ) (h3:P.globalNamed "unicode/utf8.first" =some (ρ.g 3)) (h4:P.globalNamed "unicode/utf8.acceptRanges" =some (ρ.g 4)) {s:Str} (hs:s.length<=1000000):
 ConP P (ρ.f 196) [.str s] (.bool (Lib.validD s)):=by
 intro I F w args ha hsat
 obtain ⟨u,rfl,hu⟩:=ha.one;obtain rfl:=hu.str_inv;refine (Any.utf8_ValidString L ⟨s.toArray⟩ w (by show s.toArray.size<=_;simp;omega) (hsat.utf8 h3 h4)).mono ?_;rintro e w' ⟨rfl,hb⟩;exact ⟨_,.bool _,[],I,rfl,.refl I,⟨by simp,rfl⟩,.bool _,hsat.below hT hb⟩
theorem zyX {I:Imm} {w':World} {B:Nat} {t:TypeId} {v:Value} {l:List Str} (hl:l.length<=1000000) (hrow:w'.ownsRow B t 1 v l.length (l.map encStr)):MSat I w' (.arr v 1 (l.map .str)):=by
 rcases hrow.2 with ⟨rfl,hz⟩|⟨gb,cap,cur,rfl,hbase,hgb,r1,r2,r3,r4⟩
 refine .inl ⟨rfl,?_⟩
 rw [List.length_eq_zero_iff.1 hz];rfl;refine .inr ⟨gb,0,cap,cur,_,_,by rw [Af],hgb,Free.zero _,fun e he=> ?_,⟨by rw [Af];omega,An r2 (by decide)⟩,by omega,fun i j e c y h1 h2 h3=> ?_⟩
 obtain ⟨s,_,rfl⟩:=List.mem_map.1 he;rfl;rw [Aj] at h1
 cases hq:l[i]? with
 |none=>rw [hq] at h1;cases h1
 |some s=>
   rw [hq] at h1;simp only [AI,AA] at h1;subst h1;have hj:j=0:=by
    cases j with
    |zero=>rfl
    |succ j=>simp [zb] at h2
   subst hj;simp only [zb,A3,AA] at h2;subst h2;have hi:=zn hq;have h4:(cur.toList.take (l.length*1))[i]? =some (encStr s):=by rw [r4,Aj,hq];rfl
   rw [AD (by omega),AY] at h4;have e0:0+i*1+0=i:=by omega
   rw [e0,h4] at h3
   cases h3
   exact .str s
theorem zzs [Tracks] (hT:Tracks.on=false) {ρ:Ren} (L:Lays.n229 P ρ) (g:Nat) (eg: ∀args w,(callFunc g args).run P w= .ok (.enter g args) w) (p:Nat->Bool) {s:Str} (hs:s.length<=1000000) (hp: ∀w,PredAt P g #[] encR p w)
 (hi154:(P.info? (ρ.t 154)).map (fun i=>(i.zero,i.size,i.bytes))=some (some (.agg #[.int .i64 0,.int .i64 0]),2,16))
 (hi9:(P.info? (ρ.t 9)).map (fun i=>(i.zero,i.size,i.bytes))=some (some (.string ⟨#[]⟩),1,16))
 {l:List Str} (hl:l.length<=1000000) (hf:Lib.goFieldsP p ⟨s.toArray⟩=l.map fun x=>⟨x.toArray⟩):
 Con P (ρ.f 229) [.str s,.fn (.func g) [] []] [] fun x M'=> ∃v,x= .raw v/\M'=[.arr v 1 (l.map .str)]:=by
 intro I F w args ha hsat
 obtain ⟨u1,u2,rfl,hu1,hu2⟩: ∃u1 u2,args=[u1,u2]/\V I (.str s) u1/\V I (.fn (.func g) [] []) u2:=by
  match args,ha with
  |[u1,u2],h=>exact ⟨u1,u2,rfl,h.2 0 _ _ rfl rfl,h.2 1 _ _ rfl rfl⟩
  |[],h=>exact absurd h.1 (by simp)
  |[_],h=>exact absurd h.1 (by simp)
  |_::_::_::_,h=>exact absurd h.1 (by simp)
 obtain rfl:=hu1.str_inv;obtain ⟨v1,v2,rfl,hv1,hv2⟩: ∃v1 v2,u2= .func (.func g) v1 v2/\v1= #[]/\v2= #[]:=by
  cases hu2 with
  |fn h1 h2 h3 h4=>exact ⟨_,_,rfl,BH (by simpa using h1),BH (by simpa using h2)⟩
 subst hv1 hv2;refine (Any.strings_FieldsFunc L g #[] eg p ⟨s.toArray⟩ w (by show s.toArray.size<=_;simp;omega) (hp w) hi154 hi9).mono ?_;rintro e w' ⟨A,rfl,hA,hrow,hb⟩;have e1:(Lib.goFieldsP p ⟨s.toArray⟩).length=l.length:=by rw [hf,Af]
 have e2:(Lib.goFieldsP p ⟨s.toArray⟩).map Value.string=l.map encStr:=by rw [hf,AW];rfl
 rw [e1,e2] at hrow;rw [e1];have hmem:=zyX (I:=I) hl hrow;refine ⟨_,.raw _,_,I,rfl,.refl I,⟨_,rfl,rfl⟩,.raw _ rfl,?_⟩
 refine (zra 1 hsat).change (m':= .arr _ 1 _) (fun k hk _=>hb.block k hk) (fun k hk=> .inr ?_) ?_ hmem hb.os hb.output hb.tape (fun ht=>by rw [hT] at ht;cases ht)
 simp [MObj.blocks] at hk;omega
 simp [MObj.blocks]
end
section
open Go.Proofs Go.RowKit Go.Sort Go.Shelf
variable {P:Program}
theorem zvo [Tracks] {ρ:Ren} (L:Lays.n144 P ρ) (hg:P.globalNamed "internal/bytealg.MaxLen" =some (ρ.g 1)) {s t:Str} (hs:s.length<4294967281):
 ConP P (ρ.f 144) [.str s,.str t] (.bool (Lib.contains s t)):=by
 intro I F w args ha hs0
 obtain ⟨u,v,rfl,hu,hv⟩: ∃u v,args=[u,v]/\V I (.str s) u/\V I (.str t) v:=by
  match args,ha with
  |[u,v],h=>exact ⟨u,v,rfl,h.2 0 _ _ rfl rfl,h.2 1 _ _ rfl rfl⟩
  |[],h=>exact absurd h.1 (by simp)
  |[_],h=>exact absurd h.1 (by simp)
  |_::_::_::_,h=>exact absurd h.1 (by simp)
 obtain rfl:=hu.str_inv;obtain rfl:=hv.str_inv;obtain ⟨m,hm⟩:=hs0.maxLen hg;refine (Any.strings_Contains L ⟨s.toArray⟩ ⟨t.toArray⟩ m w (by show s.toArray.size<_;simpa using hs) hm).mono ?_;rintro _ w' ⟨rfl,rfl⟩;exact ⟨_,.bool _,[],I,rfl,.refl I,⟨rfl,rfl⟩,.bool _,hs0⟩
theorem zxH [Tracks] (hT:Tracks.on=false) {ρ:Ren} (L:Lays.n229 P ρ) (g:Nat) (eg: ∀args w,(callFunc g args).run P w= .ok (.enter g args) w) (p:Nat->Bool) {s:Str} (hs:s.length<=1000000) (hp: ∀w,PredAt P g #[] encR p w)
 (hi154:(P.info? (ρ.t 154)).map (fun i=>(i.zero,i.size,i.bytes))=some (some (.agg #[.int .i64 0,.int .i64 0]),2,16))
 (hi9:(P.info? (ρ.t 9)).map (fun i=>(i.zero,i.size,i.bytes))=some (some (.string ⟨#[]⟩),1,16))
 {l:List Str} (hl:l.length<=1000000) (hf:Lib.goFieldsP p ⟨s.toArray⟩=l.map fun x=>⟨x.toArray⟩):
 ConP P (ρ.f 229) [.str s,.fn (.func g) [] []] (.slice 1 (l.map .str)):=by
 intro I F w args ha hsat
 refine (zzs hT L g eg p hs hp hi154 hi9 hl hf I F w args ha hsat).mono ?_;rintro e w' ⟨u,x,M',K,rfl,hk,⟨v,rfl,rfl⟩,h3,h4⟩;obtain ⟨J,hl',hs',hv⟩:=h4.freeze_arr;have:=h3.raw_inv;subst this;exact ⟨_,_,[],J,rfl,hk.trans hl',⟨rfl,rfl⟩,hv,hs'⟩
end
section
open Op
theorem zvS {x c:UInt8}:((x.toNat:Nat):Int)=((c.toNat:Nat):Int)↔x=c:=by
 constructor
 intro h;exact UInt8.toNat_inj.1 (by omega)
 intro h;rw [h]
theorem zsI {s:Str} (h:s∈zdF):s.length<=60:=by
 have:=zp0 h
 simp [out] at this
 omega
theorem zsH {s:Str} (h:s∈zdF) {c:UInt8} (hc:c∈s): ¬c.toNat<32/\c.toNat≠127:=by
 revert c;revert h;revert s;decide
theorem zq5 {s:Str} (h:s∈zdF):Lib.validD s=true:=by
 revert h;revert s
 have:(zdF.all fun s=>Lib.validD s)=true:=by kernel_rfl
 intro s h;exact List.all_eq_true.1 this s h
theorem zzO {s:Str} (h:s∈zdF):(zed (· ==32) s).dropWhile (· ==32)=s:=by
 have:(zdF.all fun s=>(zed (· ==32) s).dropWhile (· ==32)==s)=true:=by kernel_rfl
 simpa using List.all_eq_true.1 this s h
theorem zzN {s:Str} (h:s∈zdF):Lib.contains s [32,32]=false:=by
 have:(zdF.all fun s=> !Lib.contains s [32,32])=true:=by kernel_rfl
 simpa using List.all_eq_true.1 this s h
theorem zwV {s:Str} (h:s∈zdF):(spl 32 s).length<=60/\Lib.goFieldsP (fun r=>decide ((r:Int)=32)) ⟨s.toArray⟩=(spl 32 s).map (fun x=>⟨x.toArray⟩)/\jn 32 (spl 32 s)=s:=by
 have h1:(zdF.all fun s=>decide ((spl 32 s).length<=60))=true:=by kernel_rfl
 have h2:(zdF.all fun s=>(Lib.goFieldsP (fun r=>decide ((r:Int)=32)) ⟨s.toArray⟩).map (fun x=>x.data.toList)==spl 32 s)=true:=by kernel_rfl
 have h3:(zdF.all fun s=>jn 32 (spl 32 s)==s)=true:=by kernel_rfl
 refine ⟨by simpa using List.all_eq_true.1 h1 s h,?_,by simpa using List.all_eq_true.1 h3 s h⟩
 have h4:(Lib.goFieldsP (fun r=>decide ((r:Int)=32)) ⟨s.toArray⟩).map (fun x=>x.data.toList)=spl 32 s:=by simpa using List.all_eq_true.1 h2 s h
 rw [<-h4,AW]
 conv=>lhs;rw [<-List.map_id (Lib.goFieldsP (fun r=>decide ((r:Int)=32)) ⟨s.toArray⟩)]
 exact BM fun x _=>by cases x;simp
end
end Go.HL
namespace Go.Proofs
section
open Go.Shelf
def Tryz.lays144_ren:Go.Shelf.Ren:=⟨fun|144=>306|143=>353|219=>389|217=>305|225=>409|224=>408|267=>410|266=>352|314=>416|n=>n,fun|9=>9|4=>4|3=>3|5=>5|46=>271|146=>446|51=>339|n=>n,fun|1=>0|n=>n⟩
theorem zvY:Go.Proofs.Lays.n144 Tryz.prog Tryz.lays144_ren:={
 mixed:=by kernel_rfl
 f143:=Tryz.func353.trans (congrArg some (by kernel_rfl))
 f144:=Tryz.func306.trans (congrArg some (by kernel_rfl))
 f217:=Tryz.func305.trans (congrArg some (by kernel_rfl))
 f219:=Tryz.func389.trans (congrArg some (by kernel_rfl))
 f224:=Tryz.func408.trans (congrArg some (by kernel_rfl))
 f225:=Tryz.func409.trans (congrArg some (by kernel_rfl))
 f266:=Tryz.func352.trans (congrArg some (by kernel_rfl))
 f267:=Tryz.func410.trans (congrArg some (by kernel_rfl))
 f314:=Tryz.func416.trans (congrArg some (by kernel_rfl))
 t3:=Tryz.underlying3
 a3:=Tryz.isAgg3
 z3:=Tryz.sizeOf3
 v3:=Tryz.zeroValue3
 t4:=Tryz.underlying4
 a4:=Tryz.isAgg4
 z4:=Tryz.sizeOf4
 v4:=Tryz.zeroValue4
 t5:=Tryz.underlying5
 a5:=Tryz.isAgg5
 z5:=Tryz.sizeOf5
 v5:=Tryz.zeroValue5
 t9:=Tryz.underlying9
 a9:=Tryz.isAgg9
 z9:=Tryz.sizeOf9
 v9:=Tryz.zeroValue9
 t46:=Tryz.underlying271
 a46:=Tryz.isAgg271
 z46:=Tryz.sizeOf271
 v46:=Tryz.zeroValue271
 t51:=Tryz.underlying339
 a51:=Tryz.isAgg339
 z51:=Tryz.sizeOf339
 v51:=Tryz.zeroValue339
 t146:=Tryz.underlying446
 a146:=Tryz.isAgg446
 z146:=Tryz.sizeOf446
 v146:=Tryz.zeroValue446
 g1:=by kernel_rfl}
def Tryz.lays196_ren:Go.Shelf.Ren:=⟨fun|196=>293|259=>344|n=>n,fun|9=>9|4=>4|3=>3|5=>5|12=>12|119=>386|0=>0|46=>271|139=>389|138=>388|53=>341|n=>n,fun|3=>1|4=>2|n=>n⟩
theorem zv1:Go.Proofs.Lays.n196 Tryz.prog Tryz.lays196_ren:={
 mixed:=by kernel_rfl
 f196:=Tryz.func293.trans (congrArg some (by kernel_rfl))
 f259:=Tryz.func344.trans (congrArg some (by kernel_rfl))
 t0:=Tryz.underlying0
 a0:=Tryz.isAgg0
 z0:=Tryz.sizeOf0
 v0:=Tryz.zeroValue0
 t3:=Tryz.underlying3
 a3:=Tryz.isAgg3
 z3:=Tryz.sizeOf3
 v3:=Tryz.zeroValue3
 t4:=Tryz.underlying4
 a4:=Tryz.isAgg4
 z4:=Tryz.sizeOf4
 v4:=Tryz.zeroValue4
 t5:=Tryz.underlying5
 a5:=Tryz.isAgg5
 z5:=Tryz.sizeOf5
 v5:=Tryz.zeroValue5
 t9:=Tryz.underlying9
 a9:=Tryz.isAgg9
 z9:=Tryz.sizeOf9
 v9:=Tryz.zeroValue9
 t12:=Tryz.underlying12
 a12:=Tryz.isAgg12
 z12:=Tryz.sizeOf12
 v12:=Tryz.zeroValue12
 t46:=Tryz.underlying271
 a46:=Tryz.isAgg271
 z46:=Tryz.sizeOf271
 v46:=Tryz.zeroValue271
 t53:=Tryz.underlying341
 a53:=Tryz.isAgg341
 z53:=Tryz.sizeOf341
 v53:=Tryz.zeroValue341
 t119:=Tryz.underlying386
 a119:=Tryz.isAgg386
 z119:=Tryz.sizeOf386
 t138:=Tryz.underlying388
 a138:=Tryz.isAgg388
 z138:=Tryz.sizeOf388
 v138:=Tryz.zeroValue388
 t139:=Tryz.underlying389
 a139:=Tryz.isAgg389
 z139:=Tryz.sizeOf389
 v139:=Tryz.zeroValue389
 g3:=by kernel_rfl
 g4:=by kernel_rfl}
def Tryz.lays229_ren:Go.Shelf.Ren:=⟨fun|229=>295|n=>n,fun|9=>9|40=>345|31=>33|152=>400|3=>3|0=>0|4=>4|21=>21|154=>402|n=>n,fun|n=>n⟩
theorem zv3:Go.Proofs.Lays.n229 Tryz.prog Tryz.lays229_ren:={
 mixed:=by kernel_rfl
 f229:=Tryz.func295.trans (congrArg some (by kernel_rfl))
 t0:=Tryz.underlying0
 a0:=Tryz.isAgg0
 z0:=Tryz.sizeOf0
 v0:=Tryz.zeroValue0
 t3:=Tryz.underlying3
 a3:=Tryz.isAgg3
 z3:=Tryz.sizeOf3
 v3:=Tryz.zeroValue3
 t4:=Tryz.underlying4
 a4:=Tryz.isAgg4
 z4:=Tryz.sizeOf4
 v4:=Tryz.zeroValue4
 t9:=Tryz.underlying9
 a9:=Tryz.isAgg9
 z9:=Tryz.sizeOf9
 v9:=Tryz.zeroValue9
 t21:=Tryz.underlying21
 a21:=Tryz.isAgg21
 z21:=Tryz.sizeOf21
 v21:=Tryz.zeroValue21
 t31:=Tryz.underlying33
 a31:=Tryz.isAgg33
 z31:=Tryz.sizeOf33
 v31:=Tryz.zeroValue33
 t40:=Tryz.underlying345
 a40:=Tryz.isAgg345
 z40:=Tryz.sizeOf345
 v40:=Tryz.zeroValue345
 t152:=Tryz.underlying400
 a152:=Tryz.isAgg400
 z152:=Tryz.sizeOf400
 v152:=Tryz.zeroValue400
 t154:=Tryz.underlying402
 a154:=Tryz.isAgg402
 z154:=Tryz.sizeOf402
 v154:=Tryz.zeroValue402}
def Tryz.lays156_ren:Go.Shelf.Ren:=⟨fun|156=>294|165=>345|166=>346|169=>347|240=>384|241=>385|276=>405|277=>406|n=>n,fun|31=>33|9=>9|3=>3|4=>4|0=>0|20=>20|72=>393|76=>397|70=>390|37=>391|75=>396|127=>428|164=>440|5=>5|80=>399|n=>n,fun|n=>n⟩
theorem zvZ:Go.Proofs.Lays.n156 Tryz.prog Tryz.lays156_ren:={
 mixed:=by kernel_rfl
 f156:=Tryz.func294.trans (congrArg some (by kernel_rfl))
 f165:=Tryz.func345.trans (congrArg some (by kernel_rfl))
 f166:=Tryz.func346.trans (congrArg some (by kernel_rfl))
 f169:=Tryz.func347.trans (congrArg some (by kernel_rfl))
 f240:=Tryz.func384.trans (congrArg some (by kernel_rfl))
 f241:=Tryz.func385.trans (congrArg some (by kernel_rfl))
 f276:=Tryz.func405.trans (congrArg some (by kernel_rfl))
 f277:=Tryz.func406.trans (congrArg some (by kernel_rfl))
 t0:=Tryz.underlying0
 a0:=Tryz.isAgg0
 z0:=Tryz.sizeOf0
 v0:=Tryz.zeroValue0
 t3:=Tryz.underlying3
 a3:=Tryz.isAgg3
 z3:=Tryz.sizeOf3
 v3:=Tryz.zeroValue3
 t4:=Tryz.underlying4
 a4:=Tryz.isAgg4
 z4:=Tryz.sizeOf4
 v4:=Tryz.zeroValue4
 t9:=Tryz.underlying9
 a9:=Tryz.isAgg9
 z9:=Tryz.sizeOf9
 v9:=Tryz.zeroValue9
 t20:=Tryz.underlying20
 a20:=Tryz.isAgg20
 z20:=Tryz.sizeOf20
 v20:=Tryz.zeroValue20
 t31:=Tryz.underlying33
 a31:=Tryz.isAgg33
 z31:=Tryz.sizeOf33
 v31:=Tryz.zeroValue33
 t37:=Tryz.underlying391
 a37:=Tryz.isAgg391
 z37:=Tryz.sizeOf391
 v37:=Tryz.zeroValue391
 t70:=Tryz.underlying390
 a70:=Tryz.isAgg390
 z70:=Tryz.sizeOf390
 v70:=Tryz.zeroValue390
 t72:=Tryz.underlying393
 a72:=Tryz.isAgg393
 z72:=Tryz.sizeOf393
 v72:=Tryz.zeroValue393
 t75:=Tryz.underlying396
 a75:=Tryz.isAgg396
 z75:=Tryz.sizeOf396
 v75:=Tryz.zeroValue396
 t76:=Tryz.underlying397
 a76:=Tryz.isAgg397
 z76:=Tryz.sizeOf397
 v76:=Tryz.zeroValue397
 t127:=Tryz.underlying428
 a127:=Tryz.isAgg428
 z127:=Tryz.sizeOf428
 v127:=Tryz.zeroValue428
 t164:=Tryz.underlying440
 a164:=Tryz.isAgg440
 z164:=Tryz.sizeOf440
 v164:=Tryz.zeroValue440}
end
end Go.Proofs
namespace Go.HL
section

end
section
variable {P:Program}
section
variable {e:Env} {dst:Option Tmp} {ty:TypeId} {pos:String} {af:Array Edge} {g:Option (Nat×Bool)} {M:List MObj} {K:HVal->List MObj->Prop}
end
end
section
open Go.Proofs Go.Shelf
variable {P:Program}
section
variable {e:Env} {dst:Option Tmp} {ty:TypeId} {pos:String} {af:Array Edge} {g:Option (Nat×Bool)} {M:List MObj} {K:HVal->List MObj->Prop}
end
end
section
open Go.Proofs Go.Shelf Go.RowKit
variable {P:Program}
theorem VL.two {I:Imm} {c d:HVal} {vs:List Value} (h:VL I [c,d] vs): ∃u v,vs=[u,v]/\V I c u/\V I d v:=by
 match vs,h with
 |[u,v],h=>exact ⟨u,v,rfl,h.head,h.tail.head⟩
 |[],h=>have:=h.1;simp at this
 |[_],h=>have:=h.1;simp at this
 |_::_::_::_,h=>have:=h.1;simp at this
theorem zAI [Tracks] {ρ:Ren} (hT:Tracks.on=false) (L:Lays.n156 P ρ) (X:Builder.Extra P ρ) {l:List Str} {c:UInt8} (hl:(jn c l).length<=1000000000) (hn:l.length<=1000000000):ConP P (ρ.f 156) [.slice 1 (l.map .str),.str [c]] (.str (jn c l)):=by
 intro I F w args ha hs0
 obtain ⟨u,v,rfl,hu,hv⟩:=ha.two;obtain rfl:=hv.str_inv
 rcases hu.slice_inv with ⟨h0,a,cap,rfl⟩|⟨b,off,cap,rc,el,fr,rfl,h3,h4,h5,h6,h7⟩
 have:l=[]:=by simpa using h0
 subst this;refine (Any.strings_Join_none L X a cap ⟨[c].toArray⟩ w).mono ?_;rintro _ w' ⟨rfl,rfl⟩;exact ⟨_,_,[],I,rfl,.refl I,⟨rfl,rfl⟩,.str [],hs0⟩;have hb:=hs0.imm _ _ h3
 let xs:List ByteArray:=l.map fun s=>⟨s.toArray⟩
 have hx:xs.map (·.data.toList)=l:=by simp [xs,AW,Function.comp_def]
 have hxl:xs.length=l.length:=by simp [xs]
 have hlt:b<w.heap.size:=by
  rcases AC b w.heap.size with h'|h'
  exact h'
  simp [Av h'] at hb
 have hsz:(l.map HVal.str).length=xs.length:=by simp [xs]
 rw [hsz] at h5 h6⊢;refine (Any.strings_Join L X b off cap xs ⟨[c].toArray⟩ w (fun j x hj=> ?_) hlt (by omega) h5 (by rw [hx];show (Lib.join l [c]).length<=_;rw [ztK];omega)).mono ?_;have hq:l[j]? =some x.data.toList:=by rw [<-hx,Aj,hj];rfl
 have hj':=zn hj;have hr:off+j<rc.size:=by omega
 have h8:=h7 j 0 (.str x.data.toList) (.str x.data.toList) rc[off+j] (by rw [Aj,hq];rfl) rfl (by rw [Nat.mul_one,BZ];exact Aq hr);rw [zcu hb,Aq hr,h8.str_inv];rintro _ w' ⟨rfl,hbw⟩;refine ⟨_,_,[],I,rfl,.refl I,⟨rfl,rfl⟩,?_,?_⟩
 rw [hx,show ((⟨[c].toArray⟩:ByteArray).data.toList:Str)=[c] from rfl,ztK];exact .str _;obtain ⟨h1,h2⟩:=hs0.lt;exact hs0.of_same (fun k hk=>hbw.block k (h1 k hk)) (fun k hk=>hbw.block k (h2 k hk)) hbw.os hbw.output hbw.tape (fun h=>by rw [hT] at h;cases h)
end
end Go.HL
namespace Go.Proofs.YtabpobhnedkkeaaGreatDoor
set_option maxRecDepth 100000
set_option linter.unusedVariables false
set_option linter.unusedSimpArgs false
section
open Go.Proofs.Tryz
open Go.HL
theorem zjO [Tracks] (hT:Tracks.on=false) {s:Str} (hs:s.length<=1000000):ConP prog 293 [.str s] (.bool (Lib.validD s)):=
 zAH hT zv1 (by kernel_rfl) (by kernel_rfl) hs
theorem zoZ [Tracks] {s t:Str} (hs:s.length<4294967281):ConP prog 306 [.str s,.str t] (.bool (Lib.contains s t)):=
 zvo zvY (by kernel_rfl) hs
theorem zEP [Tracks] (w:World):PredAt prog 296 #[] encR (fun r=>decide ((r:Int)=32)) w:=fun W r _=>by
 unfold FnGives
 go_enter func296,ntmps296
 go_wp2
 go_ret
 exact ⟨rfl,0,rfl⟩
theorem zm6 [Tracks] (hT:Tracks.on=false) {s:Str} (hs:s.length<=1000000) {l:List Str} (hl:l.length<=1000000) (hf:Lib.goFieldsP (fun r=>decide ((r:Int)=32)) ⟨s.toArray⟩=l.map fun x=>⟨x.toArray⟩):ConP prog 295 [.str s,.fn (.func 296) [] []] (.slice 1 (l.map .str)):=
 zxH hT zv3 _ (enters_of func296 (by kernel_rfl) rfl) _ hs zEP (by kernel_rfl) (by kernel_rfl) hl hf
theorem ztv [Tracks] (hT:Tracks.on=false) {l:List Str} {c:UInt8} (hl:(jn c l).length<=1000000000) (hn:l.length<=1000000000):ConP prog 294 [.slice 1 (l.map .str),.str [c]] (.str (jn c l)):=
 zAI hT zvZ {t5:=underlying5,a5:=fun w=>by kernel_rfl,z5:=fun w=>by kernel_rfl,v5:=fun w=>by kernel_rfl,infoByte:=by kernel_rfl,cellsByte:=by kernel_rfl,sizeByte:=by kernel_rfl,neB5:=by decide,sizeBuilder:=by kernel_rfl,liesBuilder:=by kernel_rfl} hl hn
theorem zmF [Tracks] {s:Str} {c:UInt8} (hl:s.length<=1000000):ConP prog 298 [.str s,.int .u8 c.toNat] (.str (s.dropWhile (· ==c))):=by
 refine uOb func298 ntmps298 ?_;refine gz5 ?_;refine uU1 [0,1,5,11] (fun (t:Str)=>[(0,.str t)]) (fun (t:Str)=>[]) (fun (t:Str)=>t.length<=s.length/\s.dropWhile (· ==c)=t.dropWhile (· ==c)) (fun (t:Str)=>t.length) (s) ?_ ?_;exact ⟨Ae _,rfl⟩;rintro t ⟨ht,hg⟩;refine gz7 ?_;refine dg rfl rfl (fun hc=>by
  have hc0:t≠[]:=by (rintro rfl;simp at hc)
  exact ⟨_,OpenTo.upd (t:=9) rfl (hc) (OpenTo.refl _),zbe (j:=0) (b:=t.headD 0) ty9 rfl rfl rfl (hd0 hc0)⟩) ?_
 refine gz4 ?_;refine uCo (fun h1=> ?_) fun h2=> ?_
 obtain ⟨x,u,rfl⟩: ∃x u,t=x::u:=by cases t with|nil=>simp at h1|cons x u=>exact ⟨x,u,rfl⟩
 have hlen:(x::u).length=u.length+1:=rfl;refine gz5 ?_;refine dq (ziO (l:=1) ty9 rfl ⟨_,_,rfl,rfl⟩ rfl uO uO) ?_;refine gz3 ?_;refine ⟨_,?_,?_,⟨rfl,trivial⟩,uK,Ac _⟩
 refine ⟨by simp at ht⊢;omega,?_⟩
 rw [hg];simp_all [Bl,zvS]
 dsimp only;simp
 refine gz2 ?_;refine zv ?_;refine gz7 ?_;refine zu rfl ?_
 show HVal.str _=_
 rw [hg]
 cases t with
 |nil=>rfl
 |cons x u=>simp_all [Bl,zvS]
theorem zlO [Tracks] {s:Str} {c:UInt8} (hl:s.length<=1000000):ConP prog 299 [.str s,.int .u8 c.toNat] (.str (zed (· ==c) s)):=by
 refine uOb func299 ntmps299 ?_;refine gz5 ?_;refine uU1 [0,1,5,17] (fun (t:Str)=>[(0,.str t)]) (fun (t:Str)=>[]) (fun (t:Str)=>t.length<=s.length/\zed (· ==c) s=zed (· ==c) t) (fun (t:Str)=>t.length) (s) ?_ ?_;exact ⟨Ae _,rfl⟩;rintro t ⟨ht,hg⟩;refine zau ?_;refine dg rfl rfl (fun hc=>by
  have hc0:0<t.length:=by (simp at hc;omega)
  exact ⟨_,OpenTo.upd (t:=12) rfl (hc) (OpenTo.upd (t:=9) rfl (hc) (OpenTo.refl _)),zbe (j:=t.length-1) (b:=t.getD (t.length-1) 0) ty9 rfl rfl uO (getD_some uO)⟩) ?_
 refine gz4 ?_;refine uCo (fun h1=> ?_) fun h2=> ?_
 obtain ⟨u,x,rfl⟩: ∃u x,t=u++[x]:=⟨_,_,(BN (by intro h0;subst h0;simp at h1)).symm⟩
 have hlen:(u++[x]).length=u.length+1:=by simp
 refine gz8 ?_;refine dq (ziO (l:=0) (h:=u.length) ty9 rfl rfl ⟨_,_,rfl,by omega⟩ uO uO) ?_;refine gz3 ?_;refine ⟨_,?_,?_,⟨rfl,trivial⟩,uK,Ac _⟩
 refine ⟨by simp at ht⊢;omega,?_⟩
 rw [hg,zhh,if_pos (by simp_all [zvS])];simp
 dsimp only;simp
 refine gz2 ?_;refine zv ?_;refine gz7 ?_;refine zu rfl ?_
 show HVal.str _=_
 rw [hg]
 rcases List.eq_nil_or_concat t with rfl|⟨u,x,rfl⟩
 rfl
 rw [List.concat_eq_append] at*;rw [zhh,if_neg (by simp_all [zvS])]
theorem zsf [Tracks] {s:Str} {c:UInt8} (hs:s.length<=1000000) (hc7:c.toNat<128):ConP prog 232 [.str s,.str [c]] (.str ((zed (· ==c) s).dropWhile (· ==c))):=by
 refine uOb func232 ntmps232 ?_;refine zdf ?_;refine uCo (fun h1=> ?_) fun h2=> ?_
 refine gz5 ?_;refine zu rfl ?_
 show HVal.str _=_
 (simp_all [zed])
 refine gz9 ?_;refine uGr rfl (fun hc=>zbe (j:=0) (b:=c) ty9 rfl rfl rfl rfl) ?_;refine gz3 ?_;refine zam rfl (fun h3=> ?_) (fun h3=> ?_)
 try simp at h3
 refine uDr mixed ?_;refine gz2 ?_;refine uB 2 rfl (zbe (j:=0) (b:=c) ty9 rfl rfl rfl rfl) ?_;refine uB 3 rfl (uCl zIu rfl (zlO (c:=c) hs)) ?_;refine gz1 ?_;refine uB 5 rfl (zbe (j:=0) (b:=c) ty9 rfl rfl rfl rfl) ?_;refine uB 6 rfl (uCl zIt rfl (zmF (c:=c) (An (zuZ _ _) hs))) ?_;refine gz3 ?_;refine zu rfl ?_
 show HVal.str _=_
 rfl
 exfalso
 try simp at h3
 omega
theorem zwd [Tracks] {s:Str} (hT:Tracks.on=false) (hs:s∈zdF):ConP prog 238 [.str s] (.bool true):=by
 have hsl:=zsI hs;have hv:=zq5 hs;have ht6:=zzO hs;have hc6:=zzN hs;refine uOb func238 ntmps238 ?_;refine zau ?_;refine uT1 [2,2,6,14] (fun k=>[(6,.int .i64 (k:Int))]) (fun k=>[]) (fun k=>k<=s.length) (fun k=>s.length-k) (0) ?_ ?_;exact Ad _
 intro k hk
 refine gz4 ?_;refine uCo (fun h1=> ?_) fun h2=> ?_
 obtain ⟨x,hx⟩: ∃x,s[k]? =some x:=⟨_,Aa uO⟩
 obtain ⟨hx1,hx2⟩:=zsH hs (Ab hx);refine zcg ?_;refine dq (zbe (j:=k) (b:=x) ty9 rfl rfl rfl hx) ?_;refine gz4 ?_;refine uGr rfl (fun hc=>zbe (j:=k) (b:=x) ty9 rfl rfl rfl hx) ?_;refine gz3 ?_;refine zam rfl (fun h3=> ?_) (fun h3=> ?_)
 exfalso
 try simp at h3
 omega
 try simp at h3
 refine gz7 ?_;refine ⟨k+1,?_,?_,⟨rfl,trivial⟩,uK,Ac _⟩
 omega
 dsimp only;omega
 refine gz2 ?_;refine zv ?_;refine gz4 ?_;refine dq (uCl zDY rfl (zjO hT uO)) ?_;refine gz2 ?_;refine uGr rfl (fun hc=>by have hq:=hc;(try simp at hq);exact uCl zDR rfl (zsf (s:=s) (c:=32) uO (by decide))) ?_;refine gz5 ?_;refine uGr rfl (fun hc=>by have hq:=hc;(try simp at hq);exact uCl zIz rfl (zoZ (s:=s) (t:=[32,32]) uO)) ?_;refine gz5 ?_;refine zu rfl ?_
 show HVal.bool _=_
 simp_all
theorem zqL [Tracks] {s:Str} (hT:Tracks.on=false) (hs:s∈zdF):ConP prog 225 [.str s] (.bool true):=by
 have hsl:=zsI hs;have hv:=zq5 hs;obtain ⟨hf1,hf2,hf3⟩:=zwV hs;refine uOb func225 ntmps225 ?_;refine gz6 ?_;refine dq (uCl zDY rfl (zjO hT uO)) ?_;refine gz4 ?_;refine uGr rfl (fun hc=>by have hq:=hc;(try simp at hq);exact uCl zIr rfl (zm6 hT (s:=s) uO (l:=spl 32 s) uO hf2)) ?_;refine uGr rfl (fun hc=>by have hq:=hc;(try simp at hq);exact uCl zIq rfl (ztv hT (l:=spl 32 s) (c:=32) (by rw [hf3];omega) uO)) ?_;refine gz3 ?_;refine zam rfl (fun h1=> ?_) (fun h1=> ?_)
 exfalso
 try simp at h1
 (clear hf1 hf2 hs;simp_all)
 try simp at h1
 refine gz3 ?_
 clear hf1 hf2 hf3
 try clear h1
 try clear h2
 refine gz6 ?_;refine uT1 [2,2,16,14] (fun k=>[(16,.int .i64 (k:Int))]) (fun k=>[]) (fun k=>k<=s.length) (fun k=>s.length-k) (0) ?_ ?_;exact Ad _
 intro k hk
 refine gz4 ?_;refine uCo (fun h2=> ?_) fun h3=> ?_
 obtain ⟨x,hx⟩: ∃x,s[k]? =some x:=⟨_,Aa uO⟩
 obtain ⟨hx1,hx2⟩:=zsH hs (Ab hx);refine zcg ?_;refine dq (zbe (j:=k) (b:=x) ty9 rfl rfl rfl hx) ?_;refine gz4 ?_;refine uGr rfl (fun hc=>zbe (j:=k) (b:=x) ty9 rfl rfl rfl hx) ?_;refine gz3 ?_;refine zam rfl (fun h4=> ?_) (fun h4=> ?_)
 exfalso
 try simp at h4
 omega
 try simp at h4
 refine gz7 ?_;refine ⟨k+1,?_,?_,⟨rfl,trivial⟩,uK,Ac _⟩
 omega
 dsimp only;omega
 refine gz2 ?_;refine zv ?_;refine gz6 ?_;refine zu rfl ?_
 show HVal.bool _=_
 rfl
end
end Go.Proofs.YtabpobhnedkkeaaGreatDoor
namespace Go.HL
section

end
section
structure Hall where
 Teams:List Str
 Players:List Str
 Budget:Int
 Places:Int
structure Sale where
 Player:Str
 Team:Str
 Price:Int
def zoy:List Sale->Str->Int
 |[],_=>0
 |x::r,t=>(if x.Team=t then x.Price else 0)+zoy r t
def many:List Sale->Str->Int
 |[],_=>0
 |x::r,t=>(if x.Team=t then 1 else 0)+many r t
theorem zAb (l:List Sale) (x:Sale) (t:Str):zoy (l++[x]) t=zoy l t+(if x.Team=t then x.Price else 0):=by
 induction l with
 |nil=>simp [zoy]
 |cons y r ih=>simp only [A0,zoy,ih];omega
theorem zBb (l:List Sale) (x:Sale) (t:Str):many (l++[x]) t=many l t+(if x.Team=t then 1 else 0):=by
 induction l with
 |nil=>simp [many]
 |cons y r ih=>simp only [A0,many,ih];omega
abbrev ziz:=List (Str×HVal)
def lkI (L:ziz) (t:Str):HVal:=match z7 t L with|some p=>p.2|none=> .int .i64 0
theorem zkn {s t:Str} {v:HVal}: ∀{L:ziz},z7 s L=none->z7 t (L++[(s,v)])=if t=s then some (L.length,v) else z7 t L
 |[],_=>by by_cases h:t=s<;>simp [z7,h]
 |(k,h)::r,hn=>by
   simp only [z7] at hn
   by_cases hk:s=k
   rw [if_pos hk] at hn;cases hn;rw [if_neg hk] at hn;have hr:z7 s r=none:=by cases hq:z7 s r with
    |none=>rfl
    |some p=>rw [hq] at hn;cases hn
   have ih:=zkn (t:=t) (v:=v) hr;simp only [A0,z7]
   by_cases ht:t=k
   have: ¬t=s:=fun e=>hk (e▸ht)
   rw [if_pos ht,if_neg this,if_pos ht];rw [if_neg ht,ih]
   by_cases hs:t=s
   rw [if_pos hs,if_pos hs];simp;rw [if_neg hs,if_neg hs,if_neg ht]
theorem zu4 {s t:Str} {v:HVal}: ∀{L:ziz} {j:Nat} {h:HVal},z7 s L=some (j,h)->(z7 t (L.set j (s,v)))=if t=s then some (j,v) else z7 t L
 |[],j,h,hh=>by simp [z7] at hh
 |(k,x)::r,j,h,hh=>by
   simp only [z7] at hh
   by_cases hk:s=k
   rw [if_pos hk] at hh;simp only [AA,Prod.mk.injEq] at hh;obtain ⟨rfl,rfl⟩:=hh;subst hk;simp only [List.set_cons_zero,z7]
   by_cases ht:t=s
   rw [if_pos ht,if_pos ht];rw [if_neg ht,if_neg ht,if_neg ht];rw [if_neg hk] at hh
   cases hq:z7 s r with
   |none=>rw [hq] at hh;cases hh
   |some p=>
     rw [hq] at hh;simp only [AI,AA,Prod.mk.injEq] at hh;obtain ⟨rfl,rfl⟩:=hh;have ih:=zu4 (t:=t) (v:=v) (L:=r) (j:=p.1) (h:=p.2) (by rw [hq]);simp only [Cn,z7]
     by_cases ht:t=k
     have: ¬t=s:=fun e=>hk (e▸ht)
     rw [if_pos ht,if_neg this,if_pos ht];rw [if_neg ht,ih,if_neg ht]
     by_cases hs:t=s
     rw [if_pos hs,if_pos hs];rfl;rw [if_neg hs,if_neg hs]
theorem zu3 (s t:Str) (v:HVal) (L:ziz):(z7 t (sput s v L)).map (·.2)=if t=s then some v else (z7 t L).map (·.2):=by
 unfold sput
 cases hq:z7 s L with
 |none=>simp only [];rw [zkn hq];split<;>rfl
 |some p=>obtain ⟨j,h⟩:=p;simp only [];rw [zu4 hq];split<;>rfl
theorem zA7 (L:ziz) (t:Str):lkI L t=((z7 t L).map (·.2)).getD (.int .i64 0):=by
 unfold lkI;cases z7 t L<;>rfl
theorem zyu (s t:Str) (v:HVal) (L:ziz):lkI (sput s v L) t=if t=s then v else lkI L t:=by
 rw [zA7,zu3,zA7];split<;>rfl
structure AucOk (h:Hall) (l:List Sale) (S:List Str) (L H:ziz):Prop where
 sold: ∀s,S.contains s=l.any (fun y=>y.Player==s)
 left: ∀t,h.Teams.contains t=true->lkI L t= .int .i64 (h.Budget-zoy l t)
 got: ∀t,lkI H t= .int .i64 (many l t)
theorem zoO (s t:Str) (l:List Str):(zbW s l).contains t=(l.contains t||s==t):=by
 unfold zbW
 by_cases hc:l.contains s=true
 rw [if_pos hc]
 by_cases h:s=t
 subst h;rw [hc];simp;have:(s==t)=false:=by simpa using h
 simp [this]
 rw [if_neg hc,List.contains_eq_any_beq,List.any_append,<-List.contains_eq_any_beq]
 congr 1
 simp only [Bs,List.any_nil,BA];rw [AE,beq_iff_eq,beq_iff_eq];exact eq_comm
theorem AucOk.add {h:Hall} {l:List Sale} {S:List Str} {L H:ziz} (ok:AucOk h l S L H) (x:Sale) (hx:h.Teams.contains x.Team=true):
 AucOk h (l++[x]) (zbW x.Player S) (sput x.Team (.int .i64 (h.Budget-zoy l x.Team-x.Price)) L) (sput x.Team (.int .i64 (many l x.Team+1)) H) where
 sold s:=by rw [zoO,ok.sold,List.any_append];simp
 left t ht:=by
  rw [zyu,zAb]
  by_cases e:t=x.Team
  subst e;rw [if_pos rfl,if_pos rfl];congr 1;omega;rw [if_neg e,if_neg (fun q=>e q.symm),ok.left t ht];congr 1;omega
 got t:=by
  rw [zyu,zBb]
  by_cases e:t=x.Team
  subst e;rw [if_pos rfl,if_pos rfl];rw [if_neg e,if_neg (fun q=>e q.symm),ok.got t];congr 1;omega
end
section
/-! numbers in decimal-/
def dig (c:UInt8):Bool:=decide (48<=c.toNat)&&decide (c.toNat<=57)
def zjb (s:Str):Str:=match s with|45::r=>r|_=>s
def numC (s:Str) (n:Int):Bool:=decide ((zjb s=[]\/n<((zjb s).length:Int))\/((((zjb s).head?).getD 0).toNat:Int)=48/\((1:Int)<((zjb s).length:Int)\/(zjb s).length<s.length))
def numB (s:Str) (n:Int):Bool:= !(numC s n)&&(zjb s).all dig
def numV (s:Str):Int:=(Lib.atoi s).getD 0
def numR (s:Str) (n:Int):Int:=if numB s n then numV s else 0
def LimOk (l:List PairS) (L:ziz):Prop:= ∀t,(z7 t L).map (·.2)=(l.find? (fun p=>p.Name==t)).map (fun p=> .int .i64 (numR p.Val 9))
theorem LimOk.add {l:List PairS} {L:ziz} (ok:LimOk l L) (x:PairS) (hx:l.any (fun y=>y.Name==x.Name)=false):LimOk (l++[x]) (sput x.Name (.int .i64 (numR x.Val 9)) L):=fun t=>by
 rw [zu3,List.find?_append,ok t]
 by_cases e:t=x.Name
 subst e;rw [if_pos rfl];have:l.find? (fun p=>p.Name==x.Name)=none:=by
  rw [List.find?_eq_none];intro y hy;have:=List.any_eq_false.1 hx y hy
  simpa using this
 rw [this];simp;rw [if_neg e];have hn:(x.Name==t)=false:=by simpa using fun q=>e q.symm
 cases l.find? (fun p=>p.Name==t) with
 |none=>simp [List.find?,hn]
 |some p=>simp
structure Top where
 team:Str
 first:Int
 second:Int
def Top.step (q:Top) (t:Str) (n:Int):Top:=if q.first<n then ⟨t,n,q.first⟩ else ⟨q.team,q.first,max q.second n⟩
end
section
section
variable {h:Hall} {l:List Sale} {x:Sale} (h6:x.Player∈h.Players/\x.Team∈h.Teams) (h8: ∀y∈l,¬y.Player=x.Player)
include h6 h8
end
end
section

end
section
theorem Ghost.clear [Tracks] {e:Env}: ∀{M:List MObj},Ghost e M e []
 |[]=>Ghost.perm (Ac _)
 |_::_=>Ghost.trans Ghost.drop Ghost.clear
theorem zrU [Tracks] {e:Env} {m:MObj}: ∀{R:List MObj},Ghost e (R++[m]) e [m]
 |[]=>Ghost.perm (Ac _)
 |x::R=>Ghost.trans (M':=R++[m]) Ghost.drop zrU
theorem Ghost.only [Tracks] {e:Env} {M:List MObj} {i:Nat} {m:MObj} (h:M[i]? =some m):Ghost e M e [m]:=
 Ghost.trans (Ghost.perm ((zkF h).trans (Bn (l₁:=[m]) (l₂:=M.eraseIdx i)))) zrU
end
section
theorem zo1 [Tracks] {e:Env} {M:List MObj}: ∀{R:List MObj},Ghost e (R++M) e M
 |[]=>Ghost.perm (Ac _)
 |x::R=>Ghost.trans (M':=R++M) Ghost.drop zo1
section
variable {P:Program} {e:Env} {dst:Option Tmp} {ty:TypeId} {pos:String} {af:Array Edge} {g:Option (Nat×Bool)} {M:List MObj} {K:HVal->List MObj->Prop}
end
end
end Go.HL
namespace Go.Proofs.YtabpobhnedkkeaaGreatDoor
set_option maxRecDepth 100000
set_option linter.unusedVariables false
set_option linter.unusedSimpArgs false
section
open Go.Proofs.Tryz
open Go.HL
theorem zvN [Tracks]:KeyOk prog 293 zjc:=zgO (cs:=fun x:Num=>zb (zjc x)) zoC zIQ (fun x y=>⟨rfl,⟨_,_,_,_,ty9,rfl⟩,⟨rfl,⟨_,_,_,_,ty3,rfl⟩,trivial⟩⟩)
 (fun x y=>by obtain ⟨a,b⟩:=x;obtain ⟨c,d⟩:=y;show (_&&(_&&true))=_;rw [AE];simp [eqH,Prod.mk.injEq]) (fun x=>rfl)
theorem zzQ [Tracks]:KeyOk prog 295 eOf:=zgO (cs:=fun x:Of2=>zb (eOf x)) zs6 zIR (fun x y=>⟨rfl,⟨_,_,_,_,ty9,rfl⟩,⟨rfl,⟨_,_,_,_,ty9,rfl⟩,trivial⟩⟩)
 (fun x y=>by obtain ⟨a,b⟩:=x;obtain ⟨c,d⟩:=y;show (_&&(_&&true))=_;rw [AE];simp [eqH,Prod.mk.injEq]) (fun x=>rfl)
theorem zcL [Tracks] {n:Int}:ConP prog 30 [.int .i64 n] (.bool (zar n)):=by
 refine uOb func30 ntmps30 ?_;refine gz5 ?_;refine dq (uCl zd9 rfl zaL) ?_;refine gz4 ?_;refine zu rfl ?_
 rfl
theorem zru [Tracks] {p:Play}:ConP prog 162 [zak p] (.int .i64 (playFault p)):=by
 refine uOb func162 ntmps162 ?_;refine gz9 ?_;refine dq (uCl zcG rfl zaz) ?_;refine gz3 ?_;refine uCo (fun h1=> ?_) fun h2=> ?_
 refine gz4 ?_;refine uRp ?_
 simp_all [playFault]
 refine gz3 ?_;refine dq (uCl zd9 rfl zaL) ?_;refine gz3 ?_;refine uGr rfl (fun hc=>uCl zj6 rfl zbO) ?_;refine gz5 ?_;refine uGr rfl (fun hc=>uCl zli rfl zcL) ?_;refine gz4 ?_;refine uCo (fun h3=> ?_) fun h4=> ?_
 refine gz4 ?_;refine uRp ?_
 simp_all [playFault]
 refine gz3 ?_;refine dq (uCl zcG rfl zaz) ?_;refine gz4 ?_;refine uGr rfl (fun hc=>uCl zcG rfl zaz) ?_;refine gz5 ?_;refine uGr rfl (fun hc=>uCl zcG rfl zaz) ?_;refine gz4 ?_;refine uCo (fun h5=> ?_) fun h6=> ?_
 refine gz4 ?_;refine uRp ?_
 simp_all [playFault]
 refine gz3 ?_;refine dq (uCl zd9 rfl zaL) ?_;refine gz5 ?_;have hN:=zhK (n:=p.No) (lo:=1) (hi:=3000) uSa;refine gz1 ?_;refine uGr rfl (fun hc=>uCl zd9 rfl zaL) ?_;refine gz3 ?_;refine uCo (fun h7=> ?_) fun h8=> ?_
 refine gz4 ?_;refine uRp ?_
 simp_all [playFault]
 refine zcg ?_;refine uCo (fun h9=> ?_) fun h10=> ?_
 refine gz4 ?_;refine uRp ?_
 simp_all [playFault]
 refine gz7 ?_;refine uRp ?_
 simp_all [playFault]
theorem zxD [Tracks] {a b:Play}:ConP prog 163 [zak a,zak b] (.int .i64 (byNo a b)):=by
 refine uOb func163 ntmps163 ?_;refine gz5 ?_;refine uDr mixed ?_;refine gz4 ?_;refine uB 4 rfl (uCl zcO rfl zR) ?_;refine gz4 ?_;refine uB 9 rfl (uCl zdT rfl z6) ?_;refine uB 10 rfl (za (hs:=[_,_]) zab ty3 rfl rfl (by decide) (by decide) rfl) ?_;refine uB 11 rfl (uCl zg7 rfl (zbP (l:=[_,_]) (by simp))) ?_;refine gz3 ?_;refine zu rfl ?_
 rfl
theorem zkl [Tracks] {l:List Play} (hl:l.length<=1000000):ConP prog 75 [zbK l] (.int .i64 (zb7 l)):=by
 refine uOb func75 ntmps75 ?_;refine gz9 ?_;refine uCo (fun h1=> ?_) fun h2=> ?_
 refine gz4 ?_;refine zA Ghost.clear rfl ⟨?_,rfl⟩
 show HVal.int .i64 _=_
 (rw [zb7,if_pos uO])
 refine gz3 ?_;refine de rfl (zax fun m14=> ?_)
 refine de rfl (zax fun m15=> ?_)
 refine zfe ?_;refine uT1 [2,1,5,6,18,45] (fun k=>[(18,.int .i64 k),(5,.bool (zbU (l.take k)).c)]) (fun k=>[.map m15 (sk (em (.int .i64) (zbU (l.take k)).W)),.map m14 (sk (zbd (zbU (l.take k)).S))]) (fun k=>k<=l.length/\(zca l 0 l=zca l k (l.drop k))) (fun k=>l.length-k) (0) ?_ ?_;exact ⟨Ad _,rfl⟩;rintro k ⟨hk,hg⟩;refine gz4 ?_;refine uCo (fun h3=> ?_) fun h4=> ?_
 obtain ⟨x,hx⟩: ∃x,l[k]? =some x:=⟨_,Aa h3⟩
 have hdx:=zi hx;rw [hdx] at hg;refine gz8 ?_;refine de rfl (zg zbf rfl fun b7=> ?_)
 refine gz1 ?_;refine de0 (zj zbf rfl rfl rfl rfl rfl ?_)
 refine gz1 ?_;refine zd (zm 7 rfl) ?_;refine gz3 ?_;refine dq (uCl zG6 rfl zru) ?_;refine gz6 ?_;refine uCo (fun h5=> ?_) fun h6=> ?_
 refine gz5 ?_;refine zA Ghost.clear rfl ⟨?_,rfl⟩
 show HVal.int .i64 _=_
 (rw [zmd uO (by rw [hg,zca,if_pos (by simpa using h5)]) (by simpa using h5)])
 refine gz3 ?_;refine uDr mixed ?_;refine gz7 ?_;refine uGy 7 rfl rfl (fun hc=>by have hq:=hc;(try simp at hq);exact zB (j:=k-1) (a:=l.getD (k-1) zkG) zh7 zbf rfl rfl uO (getD_some uO)) ?_;refine gz1 ?_;refine uGy 9 rfl rfl (fun hc=>uCl zG7 rfl zxD) ?_;refine gz3 ?_;refine uCo (fun h7=> ?_) fun h8=> ?_
 refine gz4 ?_;refine zA Ghost.clear rfl ⟨?_,rfl⟩
 show HVal.int .i64 _=_
 (rw [zmd (c:=7) uO (by rw [hg,zca,if_neg (by simpa using h6),if_pos (by obtain ⟨qa,qb⟩:=h7;exact ⟨by omega,by simpa using qb⟩)]) (by decide)])
 refine gz6 ?_;refine de0 (zdv (i:=1) zjy ty9 rfl rfl rfl rfl ?_)
 refine gz6 ?_;refine de rfl (ziH (i:=0) (z0:=(0:Int)) zcT ty9 ty3 rfl rfl rfl rfl ?_)
 refine zjf ?_;refine uCo (fun h9=> ?_) fun h10=> ?_
 refine zau ?_;refine de0 (zbj (i:=0) zcT ty9 rfl rfl rfl rfl ?_)
 refine gz7 ?_;refine ⟨k+1,⟨by omega,?_⟩,uD,⟨rfl,?_,trivial⟩,uK,?_⟩
 rw [hg,zol (by simpa using h6) (fun hk0=>by simp_all)];rw [zfP hx];exact congrArg (fun b=>some (HVal.bool b)) (by simp_all [zi9]);exact zl (by dsimp only;rw [zfP hx];rfl);refine gz8 ?_;refine de0 (zbj (i:=0) zcT ty9 rfl rfl rfl rfl ?_)
 refine gz7 ?_;refine ⟨k+1,⟨by omega,?_⟩,uD,⟨rfl,?_,trivial⟩,uK,?_⟩
 rw [hg,zol (by simpa using h6) (fun hk0=>by simp_all)];rw [zfP hx];exact congrArg (fun b=>some (HVal.bool b)) (by simp_all [zi9]);exact zl (by dsimp only;rw [zfP hx];rfl);have hnk:l.length<=k:=by omega
 obtain rfl:k=l.length:=by omega
 rw [zz (Ae _)] at hg;rw [Am];refine gz2 ?_;refine zv ?_;refine gz4 ?_;have e1:(sk (zbd (zbU l).S)).length=(zbU l).S.length:=by simp [sk,zbd]
 have e2:(sk (em (HVal.int .i64) (zbU l).W)).length=(zbU l).W.length:=by simp [sk]
 refine gz2 ?_;refine de rfl (ze2 (i:=1) zjy rfl rfl ?_)
 refine gz3 ?_;refine dgl rfl rfl (fun hc=>⟨_,OpenTo.upd (t:=68) rfl (hc) (OpenTo.refl _),ze2 (i:=0) zcT rfl rfl ⟨rfl,rfl⟩⟩) ?_;refine gz4 ?_;refine uCo (fun h11=> ?_) fun h12=> ?_
 refine gz4 ?_;refine zA Ghost.clear rfl ⟨?_,rfl⟩
 show HVal.int .i64 _=_
 (rw [zgh uO hg,zfL,if_pos uO])
 refine gz4 ?_;refine uCo (fun h13=> ?_) fun h14=> ?_
 refine gz4 ?_;refine zA Ghost.clear rfl ⟨?_,rfl⟩
 show HVal.int .i64 _=_
 (rw [zgh uO hg,zfL,if_neg uO,if_pos (by assumption)])
 refine gz7 ?_;refine zA Ghost.clear rfl ⟨?_,rfl⟩
 show HVal.int .i64 _=_
 (rw [zgh uO hg,zfL,if_neg uO,if_neg uSa])
theorem zkm [Tracks] {l:List Str} (hl:l.length<=1000000):ConP prog 159 [eSs l] (.int .i64 (zcB l)):=by
 refine uOb func159 ntmps159 ?_;refine gz9 ?_;refine uCo (fun h1=> ?_) fun h2=> ?_
 refine gz4 ?_;refine uRp ?_
 (rw [zcB,if_pos uO])
 refine gz9 ?_;refine uT1 [2,3,10,14] (fun k=>[(10,.int .i64 k)]) (fun k=>[]) (fun k=>k<=l.length/\(zcB l=zeY l k (l.drop k))) (fun k=>l.length-k) (0) ?_ ?_;refine ⟨Ad _,?_⟩
 rw [zcB,if_neg uO];rfl;rintro k ⟨hk,hg⟩;refine gz4 ?_;refine uCo (fun h3=> ?_) fun h4=> ?_
 obtain ⟨x,hx⟩: ∃x,l[k]? =some x:=⟨_,Aa h3⟩
 have hdx:=zi hx;rw [hdx] at hg;refine zdw ?_;refine dq (uCl zcG rfl zaz) ?_;refine gz2 ?_;refine uCo (fun h5=> ?_) fun h6=> ?_
 refine gz4 ?_;refine uRp ?_
 (rw [hg];simp_all [zeY])
 refine gz5 ?_;refine dq (zbC zo ty9 rfl rfl ⟨_,_,rfl,rfl⟩ uO uO) ?_;refine gz1 ?_;refine dq (uCl zgG rfl (zG uSo)) ?_;refine gz1 ?_;refine uCo (fun h7=> ?_) fun h8=> ?_
 refine gz4 ?_;refine uRp ?_
 (rw [hg];simp_all [zeY])
 refine gz7 ?_;refine ⟨k+1,?_,?_,⟨rfl,trivial⟩,uK,Ac _⟩
 refine ⟨by omega,?_⟩
 rw [hg];simp_all [zeY]
 dsimp only;omega
 have hnk:l.length<=k:=by omega
 obtain rfl:k=l.length:=by omega
 rw [zz (Ae _)] at hg;refine gz2 ?_;refine zv ?_;refine gz6 ?_;refine uRp ?_
 (rw [hg];simp_all [zeY])
theorem zxE [Tracks] {l:List Play} {trust:List Str} {n:Int} (hl:l.length<=1000000) (ht:trust.length<=1000000):Con prog 240 [zbK l,eSs trust,.int .i64 n] [] (fun x M'=> ∃b O,x= .raw (.map (some b))/\ANodup O/\(∀m,alk m O=zjx l trust n m)/\M'=[.map b (sk (em .str O))]):=by
 refine uOb func240 ntmps240 ?_;refine gz4 ?_;refine de rfl (zax fun m16=> ?_)
 refine gz9 ?_;refine uT1 [9,4,19,35] (fun k=>[(19,.int .i64 k)]) (fun k=>[.map m16 (sk (em (.int .i64) (zfm (l.take k) trust n)))]) (fun k=>k<=l.length/\(True)) (fun k=>l.length-k) (0) ?_ ?_;exact ⟨Ad _,trivial⟩;rintro k ⟨hk,-⟩;refine gz4 ?_;refine uCo (fun h1=> ?_) fun h2=> ?_
 obtain ⟨x,hx⟩: ∃x,l[k]? =some x:=⟨_,Aa h1⟩
 have hdx:=zi hx;refine gz7 ?_;refine de rfl (zg zbf rfl fun b9=> ?_)
 refine de0 (zj zbf rfl rfl rfl rfl rfl ?_)
 refine gz1 ?_;refine zd (zm 9 rfl) ?_;refine gz4 ?_;refine dq (uCl ca71 rfl (zfu uO)) ?_;refine zfe ?_;refine uCo (fun h3=> ?_) fun h4=> ?_
 refine gz8 ?_;exact ⟨k+1,⟨by omega,trivial⟩,uD,⟨rfl,trivial⟩,uK,zl (by dsimp only;rw [zkp hx,zd0,if_pos (by simpa using h3)];try rfl)⟩;refine gz6 ?_;refine de rfl (ziH (i:=0) (z0:=(0:Int)) zcT ty9 ty3 rfl rfl rfl rfl ?_)
 refine zjf ?_;refine uCo (fun h5=> ?_) fun h6=> ?_
 refine gz5 ?_;refine de0 (zbj (i:=0) zcT ty9 rfl rfl rfl rfl ?_)
 refine gz7 ?_;exact ⟨k+1,⟨by omega,trivial⟩,uD,⟨rfl,trivial⟩,uK,zl (by dsimp only;rw [zkp hx,zd0,if_neg (by simp_all;try omega),if_pos (by simpa using h5)];try rfl)⟩;refine gz7 ?_;exact ⟨k+1,⟨by omega,trivial⟩,uD,⟨rfl,trivial⟩,uK,zl (by dsimp only;rw [zkp hx,zd0,if_neg (by simp_all;try omega),if_neg (by simp_all;try omega)];try rfl)⟩;have hnk:l.length<=k:=by omega
 obtain rfl:k=l.length:=by omega
 refine gz2 ?_;refine zv ?_;refine gz2 ?_;rw [Am];refine gz1 ?_;refine de rfl (zax fun m54=> ?_)
 refine gz5 ?_;refine de rfl (ziq (i:=1) zcT rfl rfl fun r=> ?_)
 refine gz2 ?_;refine uU2 [14,2,57,11] (fun (vis:List Nat) (E:List (Str×Int))=>[]) (fun (vis:List Nat) (E:List (Str×Int))=>[.map m54 (sk (em .str (zs3 trust E))),.iter r m16 (sk (em (.int .i64) (zfm l trust n))) vis]) (fun (vis:List Nat) (E:List (Str×Int))=>VisOk ((zfm l trust n)) vis E/\(True)) (fun (vis:List Nat) (E:List (Str×Int))=>((zfm l trust n)).length-vis.length) ([]) ([]) ?_ ?_;exact ⟨VisOk.nil _,trivial⟩;rintro vis E ⟨hvis,-⟩;refine gz1 ?_;refine de rfl (zio (i:=1) (L:=(zfm l trust n)) (enc:=(fun p:Str×Int=>(HVal.str p.1,HVal.int .i64 p.2))) rfl rfl (zmg _ _) hvis.nd hvis.lt fun cb R vis' hnx=> ?_)
 refine gz3 ?_;refine uCo (fun h7=> ?_) fun h8=> ?_
 obtain ⟨j,q,hq,hj,rfl⟩:=hnx.t h7;have hroom:=hvis.room hq hj;have hstep:=hvis.step hq hj;have hqm:=Ab hq;refine gz4 ?_;refine de rfl (zhb (i:=1) (L:=(zfm l trust n)) (enc:=(fun p:Str×Int=>(HVal.str p.1,HVal.int .i64 p.2))) rfl rfl (zmg _ _) hq ?_)
 refine zau ?_;obtain ⟨hq0,hq1⟩:=zyY hqm;refine dq (zB (j:=q.2.toNat) (a:=trust.getD q.2.toNat []) zo ty9 rfl rfl uO (getD_some uO)) ?_;refine gz1 ?_;refine de0 (zbj (i:=0) (v:=trust.getD q.2.toNat []) zjz ty9 rfl rfl rfl rfl ?_)
 refine gz2 ?_;exact ⟨_,E++[q],⟨hstep,trivial⟩,by dsimp only;rw [Ax];simp only [Ah,Ar];omega,trivial,uK,zl (by dsimp only;rw [zBL hvis (znu _ _ _) hq hj];rfl)⟩;obtain ⟨rfl,hlen⟩:=hnx.f h8;have hEp:=hvis.done hlen;refine gz2 ?_;refine zQ ?_;refine gz2 ?_;refine zd (Ghost.only (i:=0) rfl) ?_;refine gz5 ?_;exact zaf rfl ⟨_,_,rfl,zAh hEp,zDg hEp,rfl⟩
end
end Go.Proofs.YtabpobhnedkkeaaGreatDoor
namespace Go.HL
section
variable {P:Program}
abbrev hsm (L:ziz):HVal:= .hmap (L.map fun p=> .str p.1) (L.map (·.2))
abbrev ztJ (S:List (List UInt8)):HVal:=hsm (zbd S)
theorem zGr (L:ziz):(sk L).map (·.1)=L.map fun p=>HVal.str p.1:=by simp [sk,Function.comp_def]
theorem zGs (L:ziz):(sk L).map (·.2)=L.map (·.2):=by simp [sk,Function.comp_def]
section
variable {e:Env} {dst:Option Tmp} {ty:TypeId} {pos:String} {af:Array Edge} {g:Option (Nat×Bool)}
end
inductive Bow (M:List MObj):HVal->HVal->Prop
 |weak {h h':HVal} (hw:Weak h h'):Bow M h h'
 |arr {i:Nat} {v:Value} {sz:Nat} {es:List HVal} (hm:M[i]? =some (.arr v sz es)):Bow M (.raw v) (.slice sz es)
 |cells {i b off:Nat} {cs cs':List HVal} (hm:M[i]? =some (.cells b cs)) (hl:cs.length=cs'.length) (h: ∀(j:Nat) (c c':HVal),cs[j]? =some c->cs'[j]? =some c'->Bow M c c'):Bow M (.raw (.pointer (some ⟨b,off,none⟩))) (.vptr cs' off)
 |map {i b:Nat} {L:ziz} (hm:M[i]? =some (.map b (sk L))):Bow M (.raw (.map (some b))) (hsm L)
 |vptr {off:Nat} {l l':List HVal} (hl:l.length=l'.length) (h: ∀(j:Nat) (c c':HVal),l[j]? =some c->l'[j]? =some c'->Bow M c c'):Bow M (.vptr l off) (.vptr l' off)
 |fn {f:Fn} {c1 l l':List HVal} (hl:l.length=l'.length) (h: ∀(j:Nat) (c c':HVal),l[j]? =some c->l'[j]? =some c'->Bow M c c'):Bow M (.fn f c1 l) (.fn f c1 l')
theorem Bow.refl {M:List MObj} {h:HVal}:Bow M h h:= .weak (Weak.refl _)
theorem V.vptr_inv' {I:Imm} {cs:List HVal} {off:Nat} {v:Value} (h:V I (.vptr cs off) v): ∃b base rc el fr,v= .pointer (some ⟨b,base+off,none⟩)/\I.heap b=some (.cells rc el fr)/\base+cs.length<=rc.size/\
 ∀(j:Nat) (c:HVal) (v:Value),cs[j]? =some c->rc[base+j]? =some v->V I c v:=by
 cases h with
 |vptr h1 h2 h3=>exact ⟨_,_,_,_,_,rfl,h1,h2,h3⟩
theorem Bow.v [Tracks] {M:List MObj} {I:Imm} {F:List MObj} {w:World} {h h':HVal} (hb:Bow M h h') (hs:Sat P I (M++F) w): ∀{v:Value},V I h v->V (zc9 w) h' v:=by
 induction hb with
 |weak hw=>intro v hv;exact hw _ _ (hv.mono hs.le_all)
 |arr hm=>intro v hv;exact (Bor.arr hm).v hs hv
 | @cells i b off cs cs' hm hl _ ih=>
   intro v hv
   rw [hv.raw_inv];obtain ⟨rc,el,fr,h2,h3,h4⟩:=hs.obj _ (Ap _ (Ab hm));have:=V.vptr (I:=zc9 w) (cs:=cs') (off:=off) (base:=0) h2 (by have:=h4.1;simp at this;omega) fun j c v a1 a2=>by
    have hj:=zn a1;have hj':=Aa (l:=cs) (i:=j) (by omega);exact ih j _ c hj' a1 (h4.2 j _ v hj' (by simpa using a2))
   rwa [Bk] at this
 | @map i b L hm=>
   intro v hv
   rw [hv.raw_inv];obtain ⟨es,clk,h1,h2,h3⟩:=hs.obj _ (Ap _ (Ab hm));have hn:es.size=L.length:=by simpa [sk] using h2.1
   refine .hmap (I:=zc9 w) h1 (by simp [hn]) (by simp [hn]) (fun j c m a1 a2=> ?_) (fun j c m a1 a2=> ?_)
   rw [<-zGr,Aj] at a1
   cases hq:(sk L)[j]? with
   |none=>rw [hq] at a1;simp at a1
   |some p=>rw [hq] at a1;simp at a1;subst a1;exact ((h3 j p m hq a2).1).mono hs.le_all
   rw [<-zGs,Aj] at a1
   cases hq:(sk L)[j]? with
   |none=>rw [hq] at a1;simp at a1
   |some p=>rw [hq] at a1;simp at a1;subst a1;exact ((h3 j p m hq a2).2).mono hs.le_all
 | @vptr off l l' hl _ ih=>
   intro v hv
   obtain ⟨b,base,rc,el,fr,rfl,h1,h2,h3⟩:=hv.vptr_inv';refine .vptr (I:=zc9 w) (hs.imm _ _ h1) (by omega) fun j c u a1 a2=> ?_
   have hj:=zn a1;have hj':=Aa (l:=l) (i:=j) (by omega);exact ih j _ c hj' a1 (h3 j _ u hj' a2)
 | @fn f c1 l l' hl _ ih=>
   intro v hv
   cases hv with
   |fn g1 g2 g3 g4=>
     refine .fn g1 (by omega) (fun j c u a1 a2=>(g3 j c u a1 a2).mono hs.le_all) fun j c u a1 a2=> ?_
     have hj:=zn a1;have hj':=Aa (l:=l) (i:=j) (by omega);exact ih j _ c hj' a1 (g4 j _ u hj' a2)
end
section
open Go
variable {P:Program} {e:Env} {dst:Option Tmp} {ty:TypeId} {pos:String} {af:Array Edge} {g:Option (Nat×Bool)}
theorem zw6 [Tracks] {x:Operand} {t:TypeId} {m:Int} (hx:zh e x=some (.int .u64 m)):POp P e ⟨dst,.unOp .neg t x,ty,pos,af,g⟩ (.int .u64 (IntKind.wrap .u64 (-m))):=
 zF fun I a w ho=>⟨.int .u64 (IntKind.wrap .u64 (-m)),by
  have h1:=(ho.one (x:=x) (by simp [Op.operands]) hx).int_inv;simp only [execOp,h1,Op.unary,Op.intArith,Sem.run_bind,Sem.run_pure,Result.andThen_ok];rw [Int.zero_sub],.int _ _⟩
theorem zvT {n:Int} (h1: -9223372036854775808<=n) (h2:n<=9223372036854775807):IntKind.wrap .u64 n=if n<0 then n+18446744073709551616 else n:=by
 unfold IntKind.wrap
 split<;>simp [IntKind.bits,IntKind.signed]<;>omega
end
end Go.HL
namespace Go.Proofs.YtabpobhnedkkeaaGreatDoor
set_option maxRecDepth 100000
set_option linter.unusedVariables false
set_option linter.unusedSimpArgs false
section
open Go.Proofs.Tryz
open Go.HL
theorem zhO [Tracks] {l:List Str} (hl:l.length<=1000000):ConP prog 179 [eSs l] (.int .i64 (zci l)):=by
 refine uOb func179 ntmps179 ?_;refine zcg ?_;refine uCo (fun h1=> ?_) fun h2=> ?_
 refine gz4 ?_;refine uRp ?_;unfold zci
 (try clear hdx hg);(try simp only [Ag]);focus first|rfl|(simp_all;done)|((repeat' split)<;>focus first|rfl|(exfalso;omega)|(simp_all;done)|(exfalso;rcases ‹_\/_› with q|q<;>simp_all;done)|(exfalso;simp_all;omega))
 refine gz6 ?_;refine uCo (fun h3=> ?_) fun h4=> ?_
 refine gz4 ?_;refine uRp ?_;unfold zci
 (try clear hdx hg);(try simp only [Ag]);focus first|rfl|(simp_all;done)|((repeat' split)<;>focus first|rfl|(exfalso;omega)|(simp_all;done)|(exfalso;rcases ‹_\/_› with q|q<;>simp_all;done)|(exfalso;simp_all;omega))
 refine gz5 ?_;refine dq (uCl zzl rfl (zj3 (by assumption))) ?_;refine gz3 ?_;refine uRp ?_;unfold zci
 (try clear hdx hg);(try simp only [Ag]);focus first|rfl|(simp_all;done)|((repeat' split)<;>focus first|rfl|(exfalso;omega)|(simp_all;done)|(exfalso;rcases ‹_\/_› with q|q<;>simp_all;done)|(exfalso;simp_all;omega))
theorem zvg [Tracks] {n d:Int} (hn: -1000000000000<=n/\n<=1000000000000) (hd:1<=d/\d<=1000000000000):ConP prog 257 [.agg [.int .i64 n,.int .i64 d]] (.bool (zoh n d)):=by
 refine uOb func257 ntmps257 ?_;refine gz4 ?_;refine uDr mixed ?_;refine gz2 ?_;refine uB 2 rfl (zP (zeE ty3 zs7 rfl) (congrArg (HVal.int .u64) (zvT uO uO))) ?_;refine gz2 ?_;refine uB 5 rfl (zP (zeE ty3 zs7 rfl) (congrArg (HVal.int .u64) (show IntKind.wrap .u64 d=((d.natAbs:Nat):Int) by rw [zvT uO uO,if_neg uO];omega))) ?_;refine gz3 ?_;refine uVj [3,1,11,5] (fun (z0:Unit)=>[(3,.int .u64 ((n.natAbs:Nat):Int))]) (fun (z0:Unit)=>[]) (fun (z0:Unit)=>True) ?_ ?_
 skip
 refine gz5 ?_;refine uCo (fun h1=> ?_) fun h2=> ?_
 refine gz2 ?_;refine dq (zP (zw6 rfl) (congrArg (HVal.int .u64) (show IntKind.wrap .u64 (-(if n<0 then n+18446744073709551616 else n))=((n.natAbs:Nat):Int) by rw [if_pos (by assumption),zBO uO uO];omega))) ?_;refine gz2 ?_;exact ⟨(),trivial,⟨rfl,trivial⟩,uK,Ac _⟩;refine gz1 ?_;exact ⟨(),trivial,⟨congrArg (fun q=>some (HVal.int .u64 q)) (show (if n<0 then n+18446744073709551616 else n)=((n.natAbs:Nat):Int) by rw [if_neg uO];omega),trivial⟩,uK,Ac _⟩
 intro z0 _
 refine gz2 ?_;refine uT2 [3,2,16,6] (fun a b=>[(3,.int .u64 ((a:Nat):Int)),(4,.int .u64 ((b:Nat):Int))]) (fun a b=>[]) (fun a b=>Nat.gcd a b=Nat.gcd n.natAbs d.natAbs) (fun a b=>b) (n.natAbs) (d.natAbs) ?_ ?_
 rfl
 intro a b hg
 refine gz5 ?_;refine uCo (fun h3=> ?_) fun h4=> ?_
 have hb0:0<b:=by omega
 refine gz3 ?_;refine zh8 mixed ?_;refine gz3 ?_;refine uB 3 rfl (zP (zdp rfl rfl uO) (congrArg (HVal.int .u64) (zrO a b))) ?_;refine gz4 ?_;refine ⟨b,a%b,?_,?_,⟨rfl,rfl,trivial⟩,uK,Ac _⟩
 exact zpG.trans hg
 dsimp only;exact B4 _ hb0
 obtain rfl:b=0:=by omega
 rw [Co] at hg;refine gz2 ?_;refine zQ ?_;refine gz8 ?_;refine zu rfl ?_
 show HVal.bool _=_
 unfold zoh;rw [<-hg]
 congr 1
 rw [AE]
 simp
 try omega
theorem zj2 [Tracks] {n d most:Int} (hn: -1000000000<=n/\n<=1000000000) (hd: -1000000000<=d/\d<=1000000000) (hm:0<=most/\most<=1000000):ConP prog 180 [.agg [.int .i64 n,.int .i64 d],.int .i64 most] (.int .i64 (za2 n d most)):=by
 refine uOb func180 ntmps180 ?_;refine zdf ?_;refine dg rfl rfl (fun hc=>by
  have hd1:1<=d:=by (have q:=hc;simp at q;omega)
  exact ⟨_,OpenTo.upd (t:=10) rfl (hc) (OpenTo.refl _),uCl zDV rfl (zvg (n:=n) (d:=d) uO uO)⟩) ?_
 refine gz4 ?_;refine uCo (fun h1=> ?_) fun h2=> ?_
 refine gz4 ?_;refine uRp ?_;unfold za2
 (rw [if_pos uSa])
 have hd1:1<=d:=by (first|omega|(simp_all;omega))
 have hmd:=zsG (a:=most) (b:=d) (A:=1000000) (B:=1000000000) uO uO uO uO;have hmn: -most*d= -(most*d):=Bx _ _;refine gz3 ?_;refine dq (zdp rfl rfl uO) ?_;refine gz5 ?_;refine uGr rfl (fun hc=>by have hq:=hc;(try simp at hq);exact zgU rfl uO uO) ?_;refine gz2 ?_;refine uGr rfl (fun hc=>by have hq:=hc;(try simp at hq);exact zbu rfl rfl uO uO) ?_;refine gz3 ?_;refine uGr rfl (fun hc=>by have hq:=hc;(try simp at hq);exact zbu rfl rfl uO uO) ?_;refine uGr rfl (fun hc=>uCl zd9 rfl zaL) ?_;refine gz3 ?_;refine uCo (fun h3=> ?_) fun h4=> ?_
 refine gz4 ?_;refine uRp ?_;unfold za2
 (rw [if_neg uSa,if_pos uSa])
 refine gz7 ?_;refine uRp ?_;unfold za2
 (rw [if_neg uSa,if_neg uSa])
theorem zeq [Tracks] {l:List PlayerS} {s:Str} {fid:FuncId} (hca:Callable prog fid) (hp: ∀x:PlayerS,ConP prog fid [zeU x,.str s] (.int .i64 (zY x.Key s))) (hl:l.length<=1000000) (hs:SortedS (l.map (·.Key))):ConP prog 174 [zbp l,.str s,.fn (.func fid) [] []] (.tup [.int .i64 (zeF (l.map (·.Key)) s),.bool ((l.map (·.Key)).contains s)]):=by
 have hLl:(l.map (·.Key)).length=l.length:=Af _;refine uOb func174 ntmps174 ?_;refine zrB ?_;refine uT2 [9,3,15,20] (fun i j=>[(9,.int .i64 i),(10,.int .i64 j)]) (fun i j=>[]) (fun i j=>i<=j/\j<=(l.map (·.Key)).length/\(∀(k:Nat) (x:Str),k<i->(l.map (·.Key))[k]? =some x->Op.bytesLess x s=true)/\(∀(k:Nat) (x:Str),j<=k->(l.map (·.Key))[k]? =some x->Op.bytesLess x s=false)) (fun i j=>j-i) (0) (l.length) ?_ ?_;exact ⟨Ad _,by rw [hLl];exact Ae _,fun k x h=>by omega,fun k x h1 h2=>by have:=zn h2;omega⟩;rintro i j ⟨hij,hjl,ha,hb⟩;rw [hLl] at hjl;refine gz6 ?_;refine uCo (fun h1=> ?_) fun h2=> ?_
 obtain ⟨x,hx⟩: ∃x,l[(i+j)/2]? =some x:=⟨_,Aa uO⟩
 have hxL:(l.map (·.Key))[(i+j)/2]? =some x.Key:=by rw [Aj,hx];rfl
 have hm:(i+j)/2<j/\i<=(i+j)/2:=by omega
 refine gz7 ?_;refine dq (zeE ty3 zs4 rfl) ?_;refine dq (zyF rfl rfl uO) ?_;refine dq (zP (zeE zs4 ty3 rfl) (zBi (i:=i) (j:=j) uO)) ?_;refine gz6 ?_;refine dq (zB (j:=(i+j)/2) (a:=x) zke zhi rfl rfl rfl hx) ?_;refine gz2 ?_;refine dq (zag hca rfl rfl (WeakL.refl _) (hp _)) ?_;refine gz2 ?_;refine uCo (fun h3=> ?_) fun h4=> ?_
 refine gz6 ?_;exact ⟨(i+j)/2+1,j,⟨by omega,by rw [hLl];exact hjl,zDn hs hxL (zkR.1 h3),hb⟩,uD,⟨rfl,rfl,trivial⟩,uK,Ac _⟩;refine gz5 ?_;exact ⟨i,(i+j)/2,⟨by omega,by omega,ha,zyZ hs hxL (by have q:=fun e=>(show ¬zY x.Key s<0 by omega) (zkR.2 e);simpa using q)⟩,uD,⟨rfl,rfl,trivial⟩,uK,Ac _⟩;obtain rfl:i=j:=by omega
 have hjl2:i<=(l.map (·.Key)).length:=by rw [hLl];exact hjl
 refine gz2 ?_;refine zQ ?_;refine zcg ?_;refine uGr rfl (fun hc=>by have hq:=hc;(try simp at hq);exact zB (j:=i) (a:=l.getD i zeX) zke zhi rfl rfl rfl (getD_some uO)) ?_;refine gz2 ?_;refine uGr rfl (fun hc=>zag hca rfl rfl (WeakL.refl _) (hp _)) ?_;refine gz6 ?_;refine zu rfl ?_;rw [zqE hjl2 ha hb,<-zwv hs hjl2 ha hb,<-zAz]
theorem zsa [Tracks] {x:PlayerS} {s:Str}:ConP prog 239 [zeU x,.str s] (.int .i64 (zY x.Key s)):=by
 refine uOb func239 ntmps239 ?_;refine gz8 ?_;refine dq (uCl zcO rfl zR) ?_;refine gz3 ?_;refine zu rfl ?_
 rfl
theorem zoH [Tracks] {l:List PlayerS} {s:Str} (hl:l.length<=1000000) (hs:SortedS (l.map (·.Key))):ConP prog 166 [zbp l,.str s] (.int .i64 (zn2 (l.map (·.Key)) s)):=by
 refine uOb func166 ntmps166 ?_;refine gz6 ?_;refine dq (uCl zDE rfl (zeq (l:=l) zHS (fun _=>zsa) hl hs)) ?_;refine zcg ?_;refine uCo (fun h1=> ?_) fun h2=> ?_
 refine gz4 ?_;refine uRp ?_;unfold zn2
 simp_all
 refine gz7 ?_;refine uRp ?_;unfold zn2
 simp_all
theorem zik [Tracks] {l:List PlayerS} (hT:Tracks.on=false) (hl:l.length<=1000000) (hn: ∀p∈l,p.Name∈zdF) (hp: ∀p∈l,p.Positions.length<=1000000):ConP prog 165 [zbp l] (.int .i64 (zdk l)):=by
 refine uOb func165 ntmps165 ?_;refine gz9 ?_;refine uCo (fun h1=> ?_) fun h2=> ?_
 refine gz4 ?_;refine uRp ?_
 (refine congrArg _ (zbn ?_)
  omega)
 refine gz9 ?_;refine uT1 [2,4,11,42] (fun k=>[(11,.int .i64 k)]) (fun k=>[]) (fun k=>k<=l.length/\(za9 zdo zeX l 0 l=za9 zdo zeX l k (l.drop k))) (fun k=>l.length-k) (0) ?_ ?_;exact ⟨Ad _,rfl⟩;rintro k ⟨hk,hg⟩;refine gz4 ?_;refine uCo (fun h3=> ?_) fun h4=> ?_
 obtain ⟨x,hx⟩: ∃x,l[k]? =some x:=⟨_,Aa h3⟩
 have hdx:=zi hx;rw [hdx] at hg;refine gz8 ?_;refine de rfl (zg zhi rfl fun b4=> ?_)
 refine gz1 ?_;refine de0 (zj zhi rfl rfl rfl rfl rfl ?_)
 refine gz1 ?_;refine zd (zm 4 rfl) ?_;refine gz5 ?_;refine dq (uCl zcG rfl zaz) ?_;refine gz3 ?_;refine uCo (fun h5=> ?_) fun h6=> ?_
 refine gz4 ?_;refine uRp ?_
 (refine congrArg _ (zt (e:=5) ?_ hg ?_ ?_)
  omega
  unfold zdo;exact uT
  first|decide|assumption)
 refine uDr mixed ?_;refine gz8 ?_;refine uGy 8 rfl rfl (fun hc=>by have hq:=hc;(try simp at hq);exact zB (j:=k-1) (a:=l.getD (k-1) zeX) zke zhi rfl rfl uO (getD_some uO)) ?_;refine gz6 ?_;refine uCo (fun h7=> ?_) fun h8=> ?_
 refine gz4 ?_;refine uRp ?_
 (refine congrArg _ (zt (e:=7) ?_ hg ?_ ?_)
  omega
  unfold zdo;exact uT
  first|decide|assumption)
 have hn6:=zp0 (hn x (Ab hx));refine gz3 ?_;refine dq (uCl zHR rfl (zwd hT (hn x (Ab hx)))) ?_;refine gz5 ?_;refine uGr rfl (fun hc=>uCl zd9 rfl zaL) ?_;refine gz3 ?_;refine zam rfl (fun h9=> ?_) (fun h9=> ?_)
 exfalso
 try simp at h9
 simp_all
 try simp at h9
 refine gz6 ?_;refine dq (uCl zzd rfl (zhO (hp x (Ab hx)))) ?_;refine gz6 ?_;refine uCo (fun h10=> ?_) fun h11=> ?_
 refine gz5 ?_;refine uRp ?_
 (refine congrArg _ (zt (e:=(zci x.Positions)) ?_ hg ?_ ?_)
  omega
  unfold zdo;exact uT
  first|decide|assumption)
 refine gz7 ?_;refine ⟨k+1,?_,?_,⟨rfl,trivial⟩,uK,Ac _⟩
 refine ⟨by omega,?_⟩
 rw [hg,za6 (by unfold zdo;(try clear hdx hg);(try simp only [Ag]);focus first|(simp_all;done)|((repeat' split)<;>focus first|rfl|(exfalso;omega)|(simp_all;done)|(exfalso;rcases ‹_\/_› with q|q<;>simp_all;done)|(exfalso;simp_all;omega)))]
 dsimp only;omega
 have hnk:l.length<=k:=by omega
 obtain rfl:k=l.length:=by omega
 rw [zz (Ae _)] at hg;refine gz2 ?_;refine zv ?_;refine gz6 ?_;refine uRp ?_
 (refine congrArg _ (zba ?_ hg)
  omega)
theorem znN [Tracks] {L:List PlayerS} {l:List StintS} (hT:Tracks.on=false) (hL:L.length<=1000000) (hn: ∀p∈L,p.Name∈zdF) (hp: ∀p∈L,p.Positions.length<=1000000) (hl:l.length<=1000000):ConP prog 151 [zbp L,zgf l] (.int .i64 (zlz L l)):=by
 refine uOb func151 ntmps151 ?_;refine gz6 ?_;refine dq (uCl zDC rfl (zik (l:=L) hT hL hn hp)) ?_;refine gz6 ?_;refine uCo (fun h1=> ?_) fun h2=> ?_
 refine gz5 ?_;refine uRp ?_
 try rw [hE]
 (rw [zlz,if_pos (by assumption)])
 refine gz3 ?_;have hz:zdk L=0:=by first|assumption|simp_all
 have hE:zlz L l=zkd L l:=by rw [zlz,if_neg (by simp [hz])]
 refine gz5 ?_;refine uCo (fun h3=> ?_) fun h4=> ?_
 refine gz4 ?_;refine uRp ?_
 try rw [hE]
 (refine congrArg _ (zbn ?_)
  omega)
 refine gz9 ?_;refine uT1 [4,1,6,2,18,53] (fun k=>[(18,.int .i64 k)]) (fun k=>[]) (fun k=>k<=l.length/\(za9 (zev L) zga l 0 l=za9 (zev L) zga l k (l.drop k))) (fun k=>l.length-k) (0) ?_ ?_;exact ⟨Ad _,rfl⟩;rintro k ⟨hk,hg⟩;refine gz4 ?_;refine uCo (fun h5=> ?_) fun h6=> ?_
 obtain ⟨x,hx⟩: ∃x,l[k]? =some x:=⟨_,Aa h5⟩
 have hdx:=zi hx;rw [hdx] at hg;refine gz8 ?_;refine de rfl (zg zdn rfl fun b7=> ?_)
 refine gz1 ?_;refine de0 (zj zdn rfl rfl rfl rfl rfl ?_)
 refine gz1 ?_;refine zd (zm 7 rfl) ?_;refine gz1 ?_;have hfn:zn2 (L.map (·.Key)) x.Player<0↔zhd L x.Player=false:=zuo;refine gz4 ?_;refine dq (uCl zDD rfl (zoH (l:=L) hL (zom hz))) ?_;refine gz3 ?_;refine uCo (fun h7=> ?_) fun h8=> ?_
 refine gz4 ?_;refine uRp ?_
 try rw [hE]
 (refine congrArg _ (zt (e:=8) ?_ hg ?_ ?_)
  omega
  unfold zev;exact uT
  first|decide|assumption)
 refine gz7 ?_;refine uGr rfl (fun hc=>uCl zcG rfl zaz) ?_;refine gz4 ?_;refine uCo (fun h9=> ?_) fun h10=> ?_
 refine gz4 ?_;refine uRp ?_
 try rw [hE]
 (refine congrArg _ (zt (e:=5) ?_ hg ?_ ?_)
  omega
  unfold zev;exact uT
  first|decide|assumption)
 refine gz3 ?_;refine dq (uCl zli rfl zcL) ?_;refine gz3 ?_;refine uCo (fun h11=> ?_) fun h12=> ?_
 refine gz4 ?_;refine uRp ?_
 try rw [hE]
 (refine congrArg _ (zt (e:=1) ?_ hg ?_ ?_)
  omega
  unfold zev;exact uT
  first|decide|assumption)
 refine uDr mixed ?_;refine gz8 ?_;refine uGy 8 rfl rfl (fun hc=>by have hq:=hc;(try simp at hq);exact zB (j:=k-1) (a:=l.getD (k-1) zga) zh6 zdn rfl rfl uO (getD_some uO)) ?_;refine gz2 ?_;refine uGy 11 rfl rfl (fun hc=>uCl zcO rfl zR) ?_;refine gz5 ?_;refine uGy 17 rfl rfl (fun hc=>by have hq:=hc;(try simp at hq);exact zB (j:=k-1) (a:=l.getD (k-1) zga) zh6 zdn rfl rfl uO (getD_some uO)) ?_;refine gz2 ?_;refine uGy 20 rfl rfl (fun hc=>uCl zdT rfl z6) ?_;refine uGy 21 rfl rfl (fun hc=>za (hs:=[_,_]) zab ty3 rfl rfl (by decide) (by decide) rfl) ?_;refine uGy 22 rfl rfl (fun hc=>uCl zg7 rfl (zbP (l:=[_,_]) (by simp))) ?_;refine gz4 ?_;refine uCo (fun h13=> ?_) fun h14=> ?_
 refine gz4 ?_;refine uRp ?_
 try rw [hE]
 (refine congrArg _ (zt (e:=7) ?_ hg ?_ ?_)
  omega
  unfold zev;exact uT
  first|decide|assumption)
 refine gz8 ?_;refine ⟨k+1,?_,?_,⟨rfl,trivial⟩,uK,Ac _⟩
 refine ⟨by omega,?_⟩
 rw [hg,za6 (by unfold zev;(try clear hdx hg);(try simp only [Ag]);focus first|(simp_all;done)|((repeat' split)<;>focus first|rfl|(exfalso;omega)|(simp_all;done)|(exfalso;rcases ‹_\/_› with q|q<;>simp_all;done)|(exfalso;simp_all;omega)))]
 dsimp only;omega
 have hnk:l.length<=k:=by omega
 obtain rfl:k=l.length:=by omega
 rw [zz (Ae _)] at hg;refine gz2 ?_;refine zv ?_;refine gz6 ?_;refine uRp ?_
 try rw [hE]
 (refine congrArg _ (zba ?_ hg)
  omega)
theorem zmz [Tracks] {l:List FixS} (hl:l.length<=1000000):ConP prog 152 [znW l] (.int .i64 (zj9 l)):=by
 refine uOb func152 ntmps152 ?_;refine gz9 ?_;refine uCo (fun h1=> ?_) fun h2=> ?_
 refine gz4 ?_;refine uRp ?_
 (refine congrArg _ (zbn ?_)
  omega)
 refine gz9 ?_;refine uT1 [2,4,11,59] (fun k=>[(11,.int .i64 k)]) (fun k=>[]) (fun k=>k<=l.length/\(za9 zgK zmH l 0 l=za9 zgK zmH l k (l.drop k))) (fun k=>l.length-k) (0) ?_ ?_;exact ⟨Ad _,rfl⟩;rintro k ⟨hk,hg⟩;refine gz4 ?_;refine uCo (fun h3=> ?_) fun h4=> ?_
 obtain ⟨x,hx⟩: ∃x,l[k]? =some x:=⟨_,Aa h3⟩
 have hdx:=zi hx;rw [hdx] at hg;refine gz8 ?_;refine de rfl (zg zaX rfl fun b4=> ?_)
 refine gz1 ?_;refine de0 (zj zaX rfl rfl rfl rfl rfl ?_)
 refine gz1 ?_;refine zd (zm 4 rfl) ?_;refine gz5 ?_;refine dq (uCl zli rfl zcL) ?_;refine gz4 ?_;refine uGr rfl (fun hc=>uCl zj6 rfl zbO) ?_;refine gz4 ?_;refine uCo (fun h5=> ?_) fun h6=> ?_
 refine gz4 ?_;refine uRp ?_
 (refine congrArg _ (zt (e:=1) ?_ hg ?_ ?_)
  omega
  unfold zgK;exact uT
  first|decide|assumption)
 refine gz3 ?_;refine dq (uCl zcG rfl zaz) ?_;refine gz4 ?_;refine uGr rfl (fun hc=>uCl zcG rfl zaz) ?_;refine gz4 ?_;refine uCo (fun h7=> ?_) fun h8=> ?_
 refine gz4 ?_;refine uRp ?_
 (refine congrArg _ (zt (e:=5) ?_ hg ?_ ?_)
  omega
  unfold zgK;exact uT
  first|decide|assumption)
 refine gz8 ?_;refine uCo (fun h9=> ?_) fun h10=> ?_
 refine gz4 ?_;refine uRp ?_
 (refine congrArg _ (zt (e:=6) ?_ hg ?_ ?_)
  omega
  unfold zgK;exact uT
  first|decide|assumption)
 refine gz8 ?_;refine uCo (fun h11=> ?_) fun h12=> ?_
 refine gz8 ?_;refine ⟨k+1,?_,?_,⟨rfl,trivial⟩,uK,Ac _⟩
 refine ⟨by omega,?_⟩
 rw [hg,za6 (by unfold zgK;(try clear hdx hg);(try simp only [Ag]);focus first|(simp_all;done)|((repeat' split)<;>focus first|rfl|(exfalso;omega)|(simp_all;done)|(exfalso;rcases ‹_\/_› with q|q<;>simp_all;done)|(exfalso;simp_all;omega)))]
 dsimp only;omega
 refine gz6 ?_;refine dq (zB (j:=k-1) (a:=l.getD (k-1) zmH) zdB zaX rfl rfl uO (getD_some uO)) ?_;refine gz1 ?_;refine de rfl (zg zaX rfl fun b5=> ?_)
 refine de0 (zj zaX rfl rfl rfl rfl rfl ?_)
 refine gz1 ?_;refine zd (zm 5 rfl) ?_;refine uDr mixed ?_;refine gz4 ?_;refine uB 4 rfl (uCl zdT rfl z6) ?_;refine gz4 ?_;refine uB 9 rfl (uCl zdT rfl z6) ?_;refine gz4 ?_;refine uB 14 rfl (uCl zcO rfl zR) ?_;refine uB 15 rfl (za (hs:=[_,_,_]) zab ty3 rfl rfl (by decide) (by decide) rfl) ?_;refine uB 16 rfl (uCl zg7 rfl (zbP (l:=[_,_,_]) (by simp))) ?_;refine gz2 ?_;refine uCo (fun h13=> ?_) fun h14=> ?_
 refine gz4 ?_;refine uRp ?_
 (refine congrArg _ (zt (e:=7) ?_ hg ?_ ?_)
  omega
  unfold zgK;exact uT
  first|decide|assumption)
 refine gz7 ?_;refine ⟨k+1,?_,?_,⟨rfl,trivial⟩,uK,Ac _⟩
 refine ⟨by omega,?_⟩
 rw [hg,za6 (by unfold zgK;(try clear hdx hg);(try simp only [Ag]);focus first|(simp_all;done)|((repeat' split)<;>focus first|rfl|(exfalso;omega)|(simp_all;done)|(exfalso;rcases ‹_\/_› with q|q<;>simp_all;done)|(exfalso;simp_all;omega)))]
 dsimp only;omega
 have hnk:l.length<=k:=by omega
 obtain rfl:k=l.length:=by omega
 rw [zz (Ae _)] at hg;refine gz2 ?_;refine zv ?_;refine gz6 ?_;refine uRp ?_
 (refine congrArg _ (zba ?_ hg)
  omega)
theorem znM [Tracks] {L:List PlayerS} {l:List HealthS} (hT:Tracks.on=false) (hL:L.length<=1000000) (hn: ∀p∈L,p.Name∈zdF) (hp: ∀p∈L,p.Positions.length<=1000000) (hl:l.length<=1000000) (hw: ∀x∈l,-1000000000000000<=x.To/\x.To<=1000000000000000):ConP prog 77 [zbp L,zde l] (.int .i64 (zpK L l)):=by
 refine uOb func77 ntmps77 ?_;refine gz6 ?_;refine dq (uCl zDC rfl (zik (l:=L) hT hL hn hp)) ?_;refine gz6 ?_;refine uCo (fun h1=> ?_) fun h2=> ?_
 refine gz5 ?_;refine uRp ?_
 try rw [hE]
 (rw [zpK,if_pos (by assumption)])
 refine gz3 ?_;have hz:zdk L=0:=by first|assumption|simp_all
 have hE:zpK L l=ztI L l:=by rw [zpK,if_neg (by simp [hz])]
 refine gz5 ?_;refine uCo (fun h3=> ?_) fun h4=> ?_
 refine gz4 ?_;refine uRp ?_
 try rw [hE]
 (refine congrArg _ (zbn ?_)
  omega)
 refine gz9 ?_;refine uT1 [4,1,6,3,19,60] (fun k=>[(19,.int .i64 k)]) (fun k=>[]) (fun k=>k<=l.length/\(za9 (zcw L) zhe l 0 l=za9 (zcw L) zhe l k (l.drop k))) (fun k=>l.length-k) (0) ?_ ?_;exact ⟨Ad _,rfl⟩;rintro k ⟨hk,hg⟩;refine gz4 ?_;refine uCo (fun h5=> ?_) fun h6=> ?_
 obtain ⟨x,hx⟩: ∃x,l[k]? =some x:=⟨_,Aa h5⟩
 have hdx:=zi hx;rw [hdx] at hg;refine gz8 ?_;refine de rfl (zg zc8 rfl fun b7=> ?_)
 refine gz1 ?_;refine de0 (zj zc8 rfl rfl rfl rfl rfl ?_)
 refine gz1 ?_;refine zd (zm 7 rfl) ?_;refine gz2 ?_;have hfn:zn2 (L.map (·.Key)) x.Player<0↔zhd L x.Player=false:=zuo;have hwx:=hw x (Ab hx);refine gz4 ?_;refine dq (uCl zDD rfl (zoH (l:=L) hL (zom hz))) ?_;refine gz3 ?_;refine uCo (fun h7=> ?_) fun h8=> ?_
 refine gz4 ?_;refine uRp ?_
 try rw [hE]
 (refine congrArg _ (zt (e:=8) ?_ hg ?_ ?_)
  omega
  unfold zcw;exact uT
  first|decide|assumption)
 refine gz3 ?_;refine dq (uCl zd9 rfl zaL) ?_;refine gz6 ?_;refine uGr rfl (fun hc=>uCl zd9 rfl zaL) ?_;refine gz3 ?_;refine uCo (fun h9=> ?_) fun h10=> ?_
 refine gz4 ?_;refine uRp ?_
 try rw [hE]
 (refine congrArg _ (zt (e:=1) ?_ hg ?_ ?_)
  omega
  unfold zcw;exact uT
  first|decide|assumption)
 refine gz3 ?_;refine dq (uCl zd9 rfl zaL) ?_;refine gz2 ?_;refine uCo (fun h11=> ?_) fun h12=> ?_
 refine gz4 ?_;refine uRp ?_
 try rw [hE]
 (refine congrArg _ (zt (e:=4) ?_ hg ?_ ?_)
  omega
  unfold zcw;exact uT
  first|decide|assumption)
 refine gz8 ?_;refine uCo (fun h13=> ?_) fun h14=> ?_
 refine gz8 ?_;refine ⟨k+1,?_,?_,⟨rfl,trivial⟩,uK,Ac _⟩
 refine ⟨by omega,?_⟩
 rw [hg,za6 (by unfold zcw;(try clear hdx hg);(try simp only [Ag]);focus first|(simp_all;done)|((repeat' split)<;>focus first|rfl|(exfalso;omega)|(simp_all;done)|(exfalso;rcases ‹_\/_› with q|q<;>simp_all;done)|(exfalso;simp_all;omega)))]
 dsimp only;omega
 refine gz2 ?_;have hk0:0<k:=by omega
 have hpl:zhd L x.Player=true:=by
  cases hq:zhd L x.Player with
  |true=>rfl
  |false=>have:=hfn.2 hq;omega
 refine gz4 ?_;refine dq (zB (j:=k-1) (a:=l.getD (k-1) zhe) zkg zc8 rfl rfl uO (getD_some uO)) ?_;refine gz1 ?_;refine de rfl (zg zc8 rfl fun b8=> ?_)
 refine de0 (zj zc8 rfl rfl rfl rfl rfl ?_)
 refine gz1 ?_;refine zd (zm 8 rfl) ?_;refine gz1 ?_;refine uDr mixed ?_;refine gz4 ?_;refine uB 4 rfl (uCl zcO rfl zR) ?_;refine gz4 ?_;refine uB 9 rfl (uCl zdT rfl z6) ?_;refine uB 10 rfl (za (hs:=[_,_]) zab ty3 rfl rfl (by decide) (by decide) rfl) ?_;refine uB 11 rfl (uCl zg7 rfl (zbP (l:=[_,_]) (by simp))) ?_;refine gz2 ?_;refine uCo (fun h15=> ?_) fun h16=> ?_
 refine gz4 ?_;refine uRp ?_
 try rw [hE]
 (refine congrArg _ (zt (e:=7) ?_ hg ?_ ?_)
  omega
  unfold zcw;exact uT
  first|decide|assumption)
 refine zrB ?_;refine uCo (fun h17=> ?_) fun h18=> ?_
 refine gz4 ?_;refine uRp ?_
 try rw [hE]
 (refine congrArg _ (zt (e:=13) ?_ hg ?_ ?_)
  omega
  unfold zcw;exact uT
  first|decide|assumption)
 refine gz7 ?_;refine ⟨k+1,?_,?_,⟨rfl,trivial⟩,uK,Ac _⟩
 refine ⟨by omega,?_⟩
 rw [hg,za6 (by unfold zcw;(try clear hdx hg);(try simp only [Ag]);focus first|(simp_all;done)|((repeat' split)<;>focus first|rfl|(exfalso;omega)|(simp_all;done)|(exfalso;rcases ‹_\/_› with q|q<;>simp_all;done)|(exfalso;simp_all;omega)))]
 dsimp only;omega
 have hnk:l.length<=k:=by omega
 obtain rfl:k=l.length:=by omega
 rw [zz (Ae _)] at hg;refine gz2 ?_;refine zv ?_;refine gz6 ?_;refine uRp ?_
 try rw [hE]
 (refine congrArg _ (zba ?_ hg)
  omega)
theorem zjN [Tracks] {l:List RuleS} (hl:l.length<=1000000) (hb: ∀x∈l,((-1000000000<=x.Num/\x.Num<=1000000000)/\ -1000000000<=x.Den/\x.Den<=1000000000)):ConP prog 153 [zfv l] (.int .i64 (zhs l)):=by
 refine uOb func153 ntmps153 ?_;refine gz9 ?_;refine uCo (fun h1=> ?_) fun h2=> ?_
 refine gz4 ?_;refine uRp ?_
 (refine congrArg _ (zbn ?_)
  omega)
 refine gz9 ?_;refine uT1 [2,5,12,75] (fun k=>[(12,.int .i64 k)]) (fun k=>[]) (fun k=>k<=l.length/\(za9 zeI zmf l 0 l=za9 zeI zmf l k (l.drop k))) (fun k=>l.length-k) (0) ?_ ?_;exact ⟨Ad _,rfl⟩;rintro k ⟨hk,hg⟩;refine gz4 ?_;refine uCo (fun h3=> ?_) fun h4=> ?_
 obtain ⟨x,hx⟩: ∃x,l[k]? =some x:=⟨_,Aa h3⟩
 have hdx:=zi hx;rw [hdx] at hg;refine gz8 ?_;refine de rfl (zg zfs rfl fun b4=> ?_)
 refine gz1 ?_;refine de0 (zj zfs rfl rfl rfl rfl rfl ?_)
 refine gz1 ?_;refine zd (zm 4 rfl) ?_;refine gz5 ?_;refine dq (uCl zcG rfl zaz) ?_;refine gz4 ?_;refine uGr rfl (fun hc=>uCl zcG rfl zaz) ?_;refine gz9 ?_;refine uGr rfl (fun hc=>uCl zcG rfl zaz) ?_;refine gz5 ?_;refine uCo (fun h5=> ?_) fun h6=> ?_
 refine gz4 ?_;refine uRp ?_
 (refine congrArg _ (zt (e:=5) ?_ hg ?_ ?_)
  omega
  unfold zeI;exact uT
  first|decide|assumption)
 refine uDr mixed ?_;refine gz8 ?_;refine uGy 8 rfl rfl (fun hc=>by have hq:=hc;(try simp at hq);exact zB (j:=k-1) (a:=l.getD (k-1) zmf) zrP zfs rfl rfl uO (getD_some uO)) ?_;refine gz6 ?_;refine uCo (fun h7=> ?_) fun h8=> ?_
 refine gz4 ?_;refine uRp ?_
 (refine congrArg _ (zt (e:=7) ?_ hg ?_ ?_)
  omega
  unfold zeI;exact uT
  first|decide|assumption)
 refine gz3 ?_;refine dq (uCl zd9 rfl zaL) ?_;refine gz2 ?_;refine uCo (fun h9=> ?_) fun h10=> ?_
 refine gz4 ?_;refine uRp ?_
 (refine congrArg _ (zt (e:=4) ?_ hg ?_ ?_)
  omega
  unfold zeI;exact uT
  first|decide|assumption)
 refine zdf ?_;refine dq (zP (h':= .bool (zsB x.Kind)) (zkH rfl) rfl) ?_;refine gz7 ?_;refine uGr rfl (fun hc=>uCl zd9 rfl zaL) ?_;refine zcg ?_;refine uCo (fun h11=> ?_) fun h12=> ?_
 refine gz4 ?_;refine uRp ?_
 (refine congrArg _ (zt (e:=1) ?_ hg ?_ ?_)
  omega
  unfold zeI;exact uT
  first|decide|assumption)
 refine gz4 ?_;refine dq (zP (h':= .agg [.int .i64 x.Num,.int .i64 x.Den]) (zav zaM rfl rfl (Ak rfl)) rfl) ?_;refine dq (uCl zvB rfl (zj2 (n:=x.Num) (d:=x.Den) (most:=10000) (hb x (Ab hx)).1 (hb x (Ab hx)).2 uO)) ?_;refine gz6 ?_;refine uCo (fun h13=> ?_) fun h14=> ?_
 refine gz5 ?_;refine uRp ?_
 (refine congrArg _ (zt (e:=(za2 x.Num x.Den 10000)) ?_ hg ?_ ?_)
  omega
  unfold zeI;exact uT
  first|decide|assumption)
 refine gz7 ?_;refine ⟨k+1,?_,?_,⟨rfl,trivial⟩,uK,Ac _⟩
 refine ⟨by omega,?_⟩
 rw [hg,za6 (by unfold zeI;(try clear hdx hg);(try simp only [Ag]);focus first|(simp_all;done)|((repeat' split)<;>focus first|rfl|(exfalso;omega)|(simp_all;done)|(exfalso;rcases ‹_\/_› with q|q<;>simp_all;done)|(exfalso;simp_all;omega)))]
 dsimp only;omega
 have hnk:l.length<=k:=by omega
 obtain rfl:k=l.length:=by omega
 rw [zz (Ae _)] at hg;refine gz2 ?_;refine zv ?_;refine gz6 ?_;refine uRp ?_
 (refine congrArg _ (zba ?_ hg)
  omega)
theorem zgE [Tracks] {l:List SlotS} {fid:FuncId} {caps:List HVal} {p:SlotS->Bool} (hca:Callable prog fid) (hp: ∀x,ConP prog fid ([zcm x]++caps) (.bool (p x))) (hl:l.length<=1000000):ConP prog 297 [.slice 2 (l.map zcm),.fn (.func fid) [] caps] (.int .i64 (zS p l 0)):=by
 refine uOb func297 ntmps297 ?_;refine zau ?_;refine uT1 [4,2,8,11] (fun k=>[(8,.int .i64 k)]) (fun k=>[]) (fun k=>k<=l.length/\(zS p l 0=zS p (l.drop k) k)) (fun k=>l.length-k) (0) ?_ ?_;exact ⟨Ad _,rfl⟩;rintro k ⟨hk,hg⟩;refine gz4 ?_;refine uCo (fun h1=> ?_) fun h2=> ?_
 obtain ⟨x,hx⟩: ∃x,l[k]? =some x:=⟨_,Aa h1⟩
 have hdx:=zi hx;rw [hdx] at hg;refine zdw ?_;refine dq (zag hca rfl rfl (WeakL.refl _) (hp _)) ?_;refine gz1 ?_;refine uCo (fun h3=> ?_) fun h4=> ?_
 refine gz5 ?_;refine uRp ?_
 (rw [hg];simp_all [zS])
 refine gz7 ?_;refine ⟨k+1,?_,?_,⟨rfl,trivial⟩,uK,Ac _⟩
 refine ⟨by omega,?_⟩
 rw [hg,zS,if_neg uSa];rfl
 dsimp only;omega
 have hnk:l.length<=k:=by omega
 obtain rfl:k=l.length:=by omega
 rw [zz (Ae _)] at hg;refine gz2 ?_;refine zv ?_;refine gz6 ?_;refine uRp ?_
 (rw [hg];rfl)
theorem zdq [Tracks] {l:List SlotS} {fid:FuncId} {caps:List HVal} {p:SlotS->Bool} (hca:Callable prog fid) (hp: ∀x,ConP prog fid ([zcm x]++caps) (.bool (p x))) (hl:l.length<=1000000):ConP prog 227 [.slice 2 (l.map zcm),.fn (.func fid) [] caps] (.bool (l.any p)):=by
 refine uOb func227 ntmps227 ?_;refine gz6 ?_;refine dq (uCl zIs rfl (zgE hca hp hl)) ?_;refine gz4 ?_;refine zu rfl ?_
 congr 1;exact zb9 p l 0 uO
theorem znR [Tracks] {y x:SlotS}:ConP prog 234 [zcm y,.vptr (zb (zcm x)) 0] (.bool (y.Key==x.Key)):=by
 refine uOb func234 ntmps234 ?_;refine zfe ?_;refine zu rfl ?_
 rfl
theorem zpo [Tracks] {l:List SlotS} (hl:l.length<=1000000) (hp: ∀x∈l,x.Positions.length<=1000000):ConP prog 154 [zgH l] (.int .i64 (zeS l)):=by
 refine uOb func154 ntmps154 ?_;refine zcg ?_;refine uCo (fun h1=> ?_) fun h2=> ?_
 ·refine gz4 ?_;refine uRp ?_
  (unfold zeS;simp_all;done)
 ·refine gz6 ?_;refine uCo (fun h3=> ?_) fun h4=> ?_
  ·refine gz4 ?_;refine uRp ?_
   (rw [zeS,if_neg (by first|omega|simp_all),if_pos uO];done)
  ·refine zau ?_;refine uT1 [2,4,16,23] (fun k=>[(16,.int .i64 k)]) (fun k=>[]) (fun k=>k<=l.length/\(zdm l 0 l=zdm l k (l.drop k))) (fun k=>l.length-k) (0) ?_ ?_
   ·exact ⟨Ad _,rfl⟩
   ·rintro k ⟨hk,hg⟩;refine gz4 ?_;refine uCo (fun h5=> ?_) fun h6=> ?_
    ·obtain ⟨x,hx⟩: ∃x,l[k]? =some x:=⟨_,Aa h5⟩
     have hdx:=zi hx;rw [hdx] at hg;refine gz8 ?_;refine de rfl (zg zcf rfl fun b4=> ?_)
     refine gz1 ?_;refine de0 (zj zcf rfl rfl rfl rfl rfl ?_)
     refine gz1 ?_;refine zd (zm 4 rfl) ?_;refine gz5 ?_;refine dq (uCl zcG rfl zaz) ?_;refine gz3 ?_;refine uCo (fun h7=> ?_) fun h8=> ?_
     ·refine gz4 ?_;refine uRp ?_
      (refine congrArg _ (zjo (e:=5) ?_ ?_ hg ?_)
       ·first|omega|simp_all
       ·omega
       ·rw [zdm]
        simp_all
        done)
     ·refine gz3 ?_;refine dq (zbC zfC zcf rfl rfl ⟨_,_,rfl,rfl⟩ uO uO) ?_;refine gz1 ?_;refine dq (uCl zDQ rfl (zdq (l:=l.take k) (p:=fun y=>y.Key==x.Key) zHN (fun _=>znR) (by rw [Az];omega))) ?_;refine gz2 ?_;refine uCo (fun h9=> ?_) fun h10=> ?_
      ·refine gz4 ?_;refine uRp ?_
       (refine congrArg _ (zjo (e:=6) ?_ ?_ hg ?_)
        ·first|omega|simp_all
        ·omega
        ·rw [zdm]
         simp_all
         done)
      ·refine gz6 ?_;refine dq (uCl zzd rfl (zhO (hp x (Ab hx)))) ?_;refine gz6 ?_;refine uCo (fun h11=> ?_) fun h12=> ?_
       ·refine gz5 ?_;refine uRp ?_
        (refine congrArg _ (zjo (e:=(zci x.Positions)) ?_ ?_ hg ?_)
         ·first|omega|simp_all
         ·omega
         ·rw [zdm]
          simp_all
          done)
       ·refine gz7 ?_;refine ⟨k+1,?_,?_,⟨rfl,trivial⟩,uK,Ac _⟩
        ·refine ⟨by omega,?_⟩
         rw [hg,zdm,if_neg uSa,if_neg uSa,if_neg uSa]
        ·dsimp only;omega
    ·have hnk:l.length<=k:=by omega
     obtain rfl:k=l.length:=by omega
     rw [zz (Ae _)] at hg;refine gz2 ?_;refine zv ?_;refine gz6 ?_;refine uRp ?_
     (refine congrArg _ (zxq ?_ ?_ hg)<;>first|omega|simp_all)
theorem ziC [Tracks] {b:BoundS}:ConP prog 155 [zet b] (.int .i64 (zeo b)):=by
 refine uOb func155 ntmps155 ?_;refine gz8 ?_;refine dq (uCl zd9 rfl zaL) ?_;refine gz3 ?_;refine uGr rfl (fun hc=>uCl zd9 rfl zaL) ?_;refine gz4 ?_;refine uGr rfl (fun hc=>uCl zd9 rfl zaL) ?_;refine gz4 ?_;refine uGr rfl (fun hc=>uCl zd9 rfl zaL) ?_;refine gz2 ?_;refine uCo (fun h1=> ?_) fun h2=> ?_
 refine gz4 ?_;refine uRp ?_;unfold zeo
 (rw [if_pos uSa])
 refine gz6 ?_;refine uRp ?_;unfold zeo
 (rw [if_neg uSa])
theorem zqT [Tracks] {a b:MoveS}:ConP prog 161 [zdD a,zdD b] (.int .i64 (zhF a b)):=by
 refine uOb func161 ntmps161 ?_;refine gz5 ?_;refine uDr mixed ?_;refine gz4 ?_;refine uB 4 rfl (uCl zdT rfl z6) ?_;refine gz4 ?_;refine uB 9 rfl (uCl zcO rfl zR) ?_;refine gz4 ?_;refine uB 14 rfl (uCl zcO rfl zR) ?_;refine gz4 ?_;refine uB 19 rfl (uCl zdT rfl z6) ?_;refine uB 20 rfl (za (hs:=[_,_,_,_]) zab ty3 rfl rfl (by decide) (by decide) rfl) ?_;refine uB 21 rfl (uCl zg7 rfl (zbP (l:=[_,_,_,_]) (by simp))) ?_;refine gz3 ?_;refine zu rfl ?_
 rfl
theorem zi2 [Tracks] {l:List MoveS} (hl:l.length<=1000000):ConP prog 74 [zcA l] (.int .i64 (zfg l)):=by
 refine uOb func74 ntmps74 ?_;refine gz9 ?_;refine uCo (fun h1=> ?_) fun h2=> ?_
 refine gz4 ?_;refine uRp ?_
 (refine congrArg _ (zbn ?_)
  omega)
 refine gz9 ?_;refine uT1 [2,3,10,39] (fun k=>[(10,.int .i64 k)]) (fun k=>[]) (fun k=>k<=l.length/\(za9 zfo zkD l 0 l=za9 zfo zkD l k (l.drop k))) (fun k=>l.length-k) (0) ?_ ?_;exact ⟨Ad _,rfl⟩;rintro k ⟨hk,hg⟩;refine gz4 ?_;refine uCo (fun h3=> ?_) fun h4=> ?_
 obtain ⟨x,hx⟩: ∃x,l[k]? =some x:=⟨_,Aa h3⟩
 have hdx:=zi hx;rw [hdx] at hg;refine gz8 ?_;refine de rfl (zg zy rfl fun b4=> ?_)
 refine gz1 ?_;refine de0 (zj zy rfl rfl rfl rfl rfl ?_)
 refine gz1 ?_;refine zd (zm 4 rfl) ?_;refine gz4 ?_;refine dq (uCl zj6 rfl zbO) ?_;refine gz3 ?_;refine uCo (fun h5=> ?_) fun h6=> ?_
 refine gz4 ?_;refine uRp ?_
 (refine congrArg _ (zt (e:=1) ?_ hg ?_ ?_)
  omega
  unfold zfo;exact uT
  first|decide|assumption)
 refine gz3 ?_;refine dq (uCl zd9 rfl zaL) ?_;refine gz2 ?_;refine uCo (fun h7=> ?_) fun h8=> ?_
 refine gz4 ?_;refine uRp ?_
 (refine congrArg _ (zt (e:=4) ?_ hg ?_ ?_)
  omega
  unfold zfo;exact uT
  first|decide|assumption)
 refine gz3 ?_;refine dq (uCl zcG rfl zaz) ?_;refine gz4 ?_;refine uGr rfl (fun hc=>uCl zcG rfl zaz) ?_;refine gz4 ?_;refine uCo (fun h9=> ?_) fun h10=> ?_
 refine gz4 ?_;refine uRp ?_
 (refine congrArg _ (zt (e:=5) ?_ hg ?_ ?_)
  omega
  unfold zfo;exact uT
  first|decide|assumption)
 refine uDr mixed ?_;refine gz7 ?_;refine uGy 7 rfl rfl (fun hc=>by have hq:=hc;(try simp at hq);exact zB (j:=k-1) (a:=l.getD (k-1) zkD) zda zy rfl rfl uO (getD_some uO)) ?_;refine gz1 ?_;refine uGy 9 rfl rfl (fun hc=>uCl zG5 rfl zqT) ?_;refine gz4 ?_;refine uCo (fun h11=> ?_) fun h12=> ?_
 refine gz4 ?_;refine uRp ?_
 (refine congrArg _ (zt (e:=7) ?_ hg ?_ ?_)
  omega
  unfold zfo;exact uT
  first|decide|assumption)
 refine gz8 ?_;refine ⟨k+1,?_,?_,⟨rfl,trivial⟩,uK,Ac _⟩
 refine ⟨by omega,?_⟩
 rw [hg,za6 (by unfold zfo;(try clear hdx hg);(try simp only [Ag]);focus first|(simp_all;done)|((repeat' split)<;>focus first|rfl|(exfalso;omega)|(simp_all;done)|(exfalso;rcases ‹_\/_› with q|q<;>simp_all;done)|(exfalso;simp_all;omega)))]
 dsimp only;omega
 have hnk:l.length<=k:=by omega
 obtain rfl:k=l.length:=by omega
 rw [zz (Ae _)] at hg;refine gz2 ?_;refine zv ?_;refine gz6 ?_;refine uRp ?_
 (refine congrArg _ (zba ?_ hg)
  omega)
theorem zpl [Tracks] {l:List Str} (hl:l.length<=1000000):ConP prog 235 [eSs l] (.int .i64 (zdQ l)):=by
 refine uOb func235 ntmps235 ?_;refine zcg ?_;refine uCo (fun h1=> ?_) fun h2=> ?_
 refine gz4 ?_;refine uRp ?_
 (rw [zdQ,if_pos uO])
 refine gz6 ?_;refine uCo (fun h3=> ?_) fun h4=> ?_
 refine gz4 ?_;refine uRp ?_
 (rw [zdQ,if_neg uO,if_pos uO])
 refine gz5 ?_;refine dq (uCl zzl rfl (zj3 (by assumption))) ?_;refine gz3 ?_;refine uRp ?_
 (rw [zdQ,if_neg uO,if_neg uO])
theorem ztp [Tracks] {a b:GameS}:ConP prog 237 [zbb a,zbb b] (.int .i64 (zg5 a b)):=by
 refine uOb func237 ntmps237 ?_;refine gz5 ?_;refine uDr mixed ?_;refine gz4 ?_;refine uB 4 rfl (uCl zdT rfl z6) ?_;refine gz4 ?_;refine uB 9 rfl (uCl zcO rfl zR) ?_;refine gz4 ?_;refine uB 14 rfl (uCl zcO rfl zR) ?_;refine uB 15 rfl (za (hs:=[_,_,_]) zab ty3 rfl rfl (by decide) (by decide) rfl) ?_;refine uB 16 rfl (uCl zg7 rfl (zbP (l:=[_,_,_]) (by simp))) ?_;refine gz3 ?_;refine zu rfl ?_
 rfl
theorem zoV [Tracks] {x:GameS} (hb:((-1000000000<=x.FNum/\x.FNum<=1000000000)/\ -1000000000<=x.FDen/\x.FDen<=1000000000)/\((-1000000000<=x.ONum/\x.ONum<=1000000000)/\ -1000000000<=x.ODen/\x.ODen<=1000000000)):ConP prog 236 [zbb x] (.int .i64 (ziI x)):=by
 refine uOb func236 ntmps236 ?_;refine zau ?_;refine uCo (fun h1=> ?_) fun h2=> ?_
 refine gz3 ?_;refine dq (zP (h':= .agg [.int .i64 x.FNum,.int .i64 x.FDen]) (zav zaM rfl rfl (Ak rfl)) rfl) ?_;refine dq (zC (cs:=[_,_]) zaM zls rfl) ?_;refine dq (zgV zaM zwu rfl rfl ⟨rfl,⟨_,_,_,_,ty3,rfl⟩,⟨rfl,⟨_,_,_,_,ty3,rfl⟩,trivial⟩⟩) ?_;refine gz2 ?_;refine uGr rfl (fun hc=>zP (h':= .agg [.int .i64 x.ONum,.int .i64 x.ODen]) (zav zaM rfl rfl (Ak rfl)) rfl) ?_;refine uGr rfl (fun hc=>zC (cs:=[_,_]) zaM zls rfl) ?_;refine uGr rfl (fun hc=>zgV zaM zwu rfl rfl ⟨rfl,⟨_,_,_,_,ty3,rfl⟩,⟨rfl,⟨_,_,_,_,ty3,rfl⟩,trivial⟩⟩) ?_;refine gz2 ?_;refine uCo (fun h3=> ?_) fun h4=> ?_
 simp [zbw,zfy,eqH] at h3
 refine gz4 ?_;refine uRp ?_;unfold ziI
 (try clear hdx hg);(try simp only [Ag]);focus first|rfl|(simp_all;done)|((repeat' split)<;>focus first|rfl|(exfalso;omega)|(simp_all;done)|(exfalso;rcases ‹_\/_› with q|q<;>simp_all;done)|(exfalso;simp_all;omega))
 refine gz2 ?_
 simp [zbw,zfy,eqH] at h4
 refine gz4 ?_;refine uRp ?_;unfold ziI
 (try clear hdx hg);(try simp only [Ag]);focus first|rfl|(simp_all;done)|((repeat' split)<;>focus first|rfl|(exfalso;omega)|(simp_all;done)|(exfalso;rcases ‹_\/_› with q|q<;>simp_all;done)|(exfalso;simp_all;omega))
 refine gz2 ?_;refine uDr mixed ?_;refine gz1 ?_;refine uB 1 rfl (zP (h':= .agg [.int .i64 x.FNum,.int .i64 x.FDen]) (zav zaM rfl rfl (Ak rfl)) rfl) ?_;refine uB 2 rfl (uCl zvB rfl (zj2 (n:=x.FNum) (d:=x.FDen) (most:=1000000) hb.1.1 hb.1.2 uO)) ?_;refine gz1 ?_;refine uB 4 rfl (zP (h':= .agg [.int .i64 x.ONum,.int .i64 x.ODen]) (zav zaM rfl rfl (Ak rfl)) rfl) ?_;refine uB 5 rfl (uCl zvB rfl (zj2 (n:=x.ONum) (d:=x.ODen) (most:=1000000) hb.2.1 hb.2.2 uO)) ?_;refine zdf ?_;refine uCo (fun h5=> ?_) fun h6=> ?_
 refine gz4 ?_;refine uRp ?_;unfold ziI
 (try clear hdx hg);(try simp only [Ag]);focus first|rfl|(simp_all;done)|((repeat' split)<;>focus first|rfl|(exfalso;omega)|(simp_all;done)|(exfalso;rcases ‹_\/_› with q|q<;>simp_all;done)|(exfalso;simp_all;omega))
 refine gz5 ?_;refine dq (za (hs:=[_,_]) zg0 zhv rfl rfl (by decide) (by decide) rfl) ?_;refine dq (uCl zpt rfl (zdH (l:=[_,_]) (by simp))) ?_;refine gz3 ?_;refine uRp ?_;unfold ziI
 (try clear hdx hg);(try simp only [Ag]);focus first|rfl|(simp_all;done)|((repeat' split)<;>focus first|rfl|(exfalso;omega)|(simp_all;done)|(exfalso;rcases ‹_\/_› with q|q<;>simp_all;done)|(exfalso;simp_all;omega))
end
end Go.Proofs.YtabpobhnedkkeaaGreatDoor
namespace Go.HL
section
open Go Go.Proofs Go.Shelf
variable {P:Program} {ρ:Ren}
theorem zeW (b:Nat) (el:TypeId) (fr:Nat×Nat): ∀(vs:List Value) (o:Nat) (w:World) (rc:Array Value),w.heap[b]? =some (.cells rc el fr)->o+vs.length<=rc.size->
 ∃rc',(w.setCells b o vs).heap[b]? =some (.cells rc' el fr)/\rc'.size=rc.size/\(∀x,rc'[x]? =if o<=x/\x<o+vs.length then vs[x-o]? else rc[x]?)/\(∀k,k≠b->(w.setCells b o vs).heap[k]? =w.heap[k]?)/\
  (w.setCells b o vs).heap.size=w.heap.size/\(w.setCells b o vs).os=w.os/\(w.setCells b o vs).output=w.output/\(w.setCells b o vs).tape=w.tape/\(w.setCells b o vs).drawn=w.drawn
 |[],o,w,rc,hw,_=>⟨rc,hw,rfl,fun x=>by rw [if_neg (by simp)],fun _ _=>rfl,rfl,rfl,rfl,rfl,rfl⟩
 |v::vs,o,w,rc,hw,hle=>by
   simp only [Ah] at hle;have ztJ:(w.setCell ⟨b,o,none⟩ v).heap[b]? =some (.cells (rc.setIfInBounds o v) el fr):=by simp [World.setCell,AG,hw]
   obtain ⟨rc',h1,h2,h3,h4,h5,h6,h7,h8,h9⟩:=zeW b el fr vs (o+1) (w.setCell ⟨b,o,none⟩ v) (rc.setIfInBounds o v) ztJ (by simp;omega);refine ⟨rc',h1,by rw [h2];simp,fun x=> ?_,fun k hk=> ?_,by rw [World.setCells,h5];simp [World.setCell],by rw [World.setCells,h6];rfl,by rw [World.setCells,h7];rfl,by rw [World.setCells,h8];rfl,by rw [World.setCells,h9];rfl⟩
   rw [h3 x];simp only [Ah]
   by_cases e1:x=o
   subst e1;rw [if_neg (by omega),if_pos (by omega),Array.getElem?_setIfInBounds,if_pos rfl,if_pos (by omega)]
   simp
   by_cases e2:o+1<=x/\x<o+1+vs.length
   rw [if_pos e2,if_pos (by omega),show x-o=(x-(o+1))+1 by omega,AN];rw [if_neg e2,if_neg (by omega),Array.getElem?_setIfInBounds,if_neg (fun h=>e1 h.symm)];rw [World.setCells,h4 k hk];simp only [World.setCell,AG];rw [if_neg (fun h=>hk h.symm)]
theorem ztY {w:World} {o:Obj}:(w.heap.push o)[w.heap.size]? =some o:=by simp
theorem ztZ {w:World} {o:Obj} {k:Nat} (hk:k<w.heap.size):(w.heap.push o)[k]? =w.heap[k]?:=by rw [AQ,if_neg (by omega)]
def zb4 (s:Str):Value:= .string ⟨s.toArray⟩
def zgt (l:List Str) (i:Nat) (s:Str):List Str:=l.take i++s::l.drop i
theorem zp6 {l:List Str} {i:Nat} (hi:i<=l.length) (s:Str) (p:Nat):(zgt l i s)[p]? =if p<i then l[p]? else if p=i then some s else l[p-1]?:=by
 unfold zgt;have ht:(l.take i).length=i:=by simp;omega
 split
 rename_i h;rw [Aw (by omega),AD h]
 rename_i h
 rw [Au (by omega),ht]
 split
 rename_i e;subst e;simp
 rename_i e
 rw [show p-i=(p-i-1)+1 by omega,AN,AL,show i+(p-i-1)=p-1 by omega]
theorem zBs {l:List Str} {i:Nat} (hi:i<=l.length) (s:Str):(zgt l i s).length=l.length+1:=by unfold zgt;simp;omega
theorem zuN {I:Imm} {w:World} {b off n cap:Nat} {rc:Array Value} {el:TypeId} {fr:Nat×Nat} {l:List Str} (hn:n=l.length) (hw:w.heap[b]? =some (.cells rc el fr)) (hf:Free fr rc.size) (hc:n<=cap/\cap<=9223372036854775807) (ho:off+cap<=rc.size)
 (hv: ∀(p:Nat) (x:Str),l[p]? =some x->rc[off+p]? =some (zb4 x)):MSat I w (.arr (.slice (some ⟨b,off,none⟩) n cap) 1 (l.map .str)):=by
 refine .inr ⟨b,off,cap,rc,el,fr,by simp [hn],hw,hf,fun e he=> ?_,by simp only [Af];omega,by omega,fun i j e c v a1 a2 a3=> ?_⟩
 obtain ⟨a,_,rfl⟩:=List.mem_map.1 he;rfl;rw [Aj] at a1
 cases hq:l[i]? with
 |none=>rw [hq] at a1;cases a1
 |some s=>
   rw [hq] at a1;obtain rfl:HVal.str s=e:=As a1;have hj:j=0:=by have:=zn a2;simp [zb] at this;omega
   subst hj;obtain rfl:HVal.str s=c:=As a2;rw [show off+i*1+0=off+i by omega,hv i s hq] at a3;rw [<-As a3];exact .str s
theorem zzt [Tracks] (L:Lays2.n22 P ρ) {v:Value} {l:List Str} {s:Str} {i ub:Nat} {el2:TypeId} (hi:i<=l.length) (hl:l.length<=1000000):
 Con P (ρ.f 22) [.raw v,.int .i64 i,.raw (.slice (some ⟨ub,0,none⟩) 1 1)] [.arr v 1 (l.map .str),.obj ub (.cells #[zb4 s] el2 (0,0))]
  fun x M'=> ∃v',x= .raw v'/\M'=[.arr v' 1 ((zgt l i s).map .str),.obj ub (.cells #[zb4 s] el2 (0,0))]:=by
 intro I F w args hA hS
 obtain ⟨v1,r1,rfl,hv1,hr1⟩: ∃v1 r1,args=v1::r1/\V I (.raw v) v1/\VL I [.int .i64 i,.raw (.slice (some ⟨ub,0,none⟩) 1 1)] r1:=by
  cases args with
  |nil=>have:=hA.1;simp at this
  |cons a r=>exact ⟨a,r,rfl,hA.head,hA.tail⟩
 obtain ⟨v2,r2,rfl,hv2,hr2⟩: ∃v2 r2,r1=v2::r2/\V I (.int .i64 i) v2/\VL I [.raw (.slice (some ⟨ub,0,none⟩) 1 1)] r2:=by
  cases r1 with
  |nil=>have:=hr1.1;simp at this
  |cons a r=>exact ⟨a,r,rfl,hr1.head,hr1.tail⟩
 obtain ⟨v3,rfl,hv3⟩: ∃v3,r2=[v3]/\V I (.raw (.slice (some ⟨ub,0,none⟩) 1 1)) v3:=by
  cases r2 with
  |nil=>have:=hr2.1;simp at this
  |cons a r=>cases r with
    |nil=>exact ⟨a,rfl,hr2.head⟩
    |cons b r=>have:=hr2.1;simp at this
 have hv1:=hv1.raw_inv;have hv2:=hv2.int_inv;have hv3:=hv3.raw_inv;subst hv1 hv2 hv3;have hu:w.heap[ub]? =some (.cells #[zb4 s] el2 (0,0)):=hS.obj (.obj ub _) (by simp);have hvs: ∀(j:Nat) (u:Value),[zb4 s][j]? =some u->w.cell? ⟨ub,0+j,none⟩=some u:=fun j u hj=>by
  rw [zcu hu,Bk];simpa using hj
 have h1v: ∀u∈[zb4 s],u.oneCell'=true:=fun u h=>by simp at h;subst h;rfl
 have h1c: ∀u∈l.map zb4,u.oneCell'=true:=fun u h=>by obtain ⟨a,_,rfl⟩:=List.mem_map.1 h;rfl
 have hcl:(l.map zb4).length=l.length:=by simp
 have hplen:=zBs hi s
 
 have fresh: ∀(w':World) (rc:Array Value) (el:TypeId) (cap:Nat),w'.heap[w.heap.size]? =some (.cells rc el (0,0))->(l.length+1<=cap/\cap<=9223372036854775807)->cap<=rc.size->
  (∀(p:Nat) (x:Str),(zgt l i s)[p]? =some x->rc[p]? =some (zb4 x))->(∀k,k<w.heap.size->w'.heap[k]? =w.heap[k]?)->w'.os=w.os->w'.output=w.output->w'.tape=w.tape->w.drawn<=w'.drawn->
  Sat P I ([.arr (.slice (some ⟨w.heap.size,0,none⟩) (l.length+1) cap) 1 ((zgt l i s).map .str),.obj ub (.cells #[zb4 s] el2 (0,0))]++F) w':=fun w' rc el cap g1 g2 g3 g4 g5 g6 g7 g8 g9=>
  hS.change (m':= .arr (.slice (some ⟨w.heap.size,0,none⟩) (l.length+1) cap) 1 ((zgt l i s).map .str)) (fun k hk _=>g5 k hk) (fun k hk=>by simp [MObj.blocks] at hk;exact .inr (by omega)) (by simp [MObj.blocks])
   (zuN hplen.symm g1 (Free.zero _) g2 (by omega) fun p x hx=>by rw [Bk];exact g4 p x hx) g6 g7 g8 (fun _=>g9)
 rcases hS.obj _ (Ai) with ⟨rfl,hnil⟩|⟨b,off,cap,rc,el,fr,rfl,h2,h3,h4,h5,h6,h7⟩
 
 obtain rfl:l=[]:=List.map_eq_nil_iff.1 hnil;obtain rfl:i=0:=by simpa using hi
 refine (Any2.slices_Insert_string_end_grow L none 0 0 ub 0 1 1 [] [zb4 s] w (by omega) (by omega) (by omega) (by omega) rfl rfl (fun _=>rfl) (fun a h=>by cases h) hvs h1v).mono ?_;rintro e w' ⟨rfl,rfl⟩;have hge:=grownCap_ge w (0+1) 0 (ρ.t 9);have hle:=grownCap_le_maxLen w (0+1) 0 (ρ.t 9) (by unfold maxLen;omega);refine ⟨_,.raw _,_,I,rfl,.refl I,⟨_,rfl,rfl⟩,.raw _ rfl,fresh _ _ _ _ ztY ⟨by simpa using hge,by unfold maxLen at hle;exact hle⟩ ?_ ?_ ?_ rfl rfl rfl (Bt _)⟩
 simp [Builtin.zeroCells,Value.cells];omega
 intro p x hx
 have hp:=zn hx;rw [hplen] at hp;obtain rfl:p=0:=by simpa using hp
 simp [zgt] at hx;subst hx
 rw [AF (by simp)];simp
 intro k hk;exact ztZ hk
 simp only [Af] at h5 h6⊢;have hlt:b<w.heap.size:=by
  rcases AC b w.heap.size with h|h
  exact h
  simp [Av h] at h2
 have hrow: ∀(j:Nat) (x:Str),l[j]? =some x->rc[off+j]? =some (zb4 x):=fun j x hx=>by
  have hj:=zn hx;have hr:off+j<rc.size:=by omega
  have:=h7 j 0 (.str x) (.str x) rc[off+j] (by rw [Aj,hx];rfl) rfl (by simp [Aq hr]);rw [Aq hr,this.str_inv];rfl
 have hcs: ∀(j:Nat) (u:Value),(l.map zb4)[j]? =some u->w.cell? ⟨b,off+j,none⟩=some u:=fun j u hj=>by
  rw [Aj] at hj
  cases hq:l[j]? with
  |none=>rw [hq] at hj;cases hj
  |some x=>rw [hq] at hj;rw [zcu h2,hrow j x hq];exact hj
 have hfz: ∀j,off+j<rc.size->w.frozen? ⟨b,off+j,none⟩=false:=fun j hj=>by
  have:=h3 (off+j) hj;simp only [World.frozen?,h2]
  simpa using this
 have hsome: ∀j,off+j<rc.size->(w.cell? ⟨b,off+j,none⟩).isSome=true:=fun j hj=>by rw [zcu h2,Aq hj];rfl
 have hne:ub≠b:=fun e=>by
  have:=hS.nodup;subst e
  simp [blocks,MObj.blocks] at this
 have inplace: ∀(w':World) (rc':Array Value),w'.heap[b]? =some (.cells rc' el fr)->rc'.size=rc.size->l.length+1<=cap->
  (∀(p:Nat) (x:Str),(zgt l i s)[p]? =some x->rc'[off+p]? =some (zb4 x))->(∀k,k≠b->w'.heap[k]? =w.heap[k]?)->w'.os=w.os->w'.output=w.output->w'.tape=w.tape->w.drawn<=w'.drawn->
  Sat P I ([.arr (.slice (some ⟨b,off,none⟩) (l.length+1) cap) 1 ((zgt l i s).map .str),.obj ub (.cells #[zb4 s] el2 (0,0))]++F) w':=fun w' rc' g1 g2 g3 g4 g5 g6 g7 g8 g9=>
  hS.change (m':= .arr (.slice (some ⟨b,off,none⟩) (l.length+1) cap) 1 ((zgt l i s).map .str)) (fun k _ hk=>g5 k (by simpa [MObj.blocks] using hk)) (fun k hk=> .inl (by simpa [MObj.blocks] using hk)) (by simp [MObj.blocks])
   (zuN hplen.symm g1 (by rw [g2];exact h3) ⟨g3,h5.2⟩ (by omega) g4) g6 g7 g8 (fun _=>g9)
 rcases AC i l.length with hin|hin
 rcases AC cap (l.length+1) with hroom|hroom
 
 refine (Any2.slices_Insert_string_grow L b off l.length cap i ub 0 1 1 (l.map zb4) [zb4 s] w hin (by omega) h5.1 hroom (by omega) hcl rfl hcs hvs h1c h1v).mono ?_;rintro e w' ⟨rfl,rfl⟩;have hge:=grownCap_ge w (l.length+1) cap (ρ.t 9);have hle:=grownCap_le_maxLen w (l.length+1) cap (ρ.t 9) (by unfold maxLen;omega)
 generalize hG:grownCap w (l.length+1) cap (ρ.t 9)=G at*
 let r0:Array Value:=((l.map zb4).take i).toArray++Builtin.zeroCells (Value.string ⟨#[]⟩).cells (l.length+1-i)++Builtin.zeroCells (Value.string ⟨#[]⟩).cells (G-(l.length+1))
 have hz: ∀k,(Builtin.zeroCells (Value.string ⟨#[]⟩).cells k).size=k:=fun k=>by simp [Builtin.zeroCells,Value.cells]
 have hr0:r0.size=G:=by simp only [r0,Array.size_append,hz];simp;omega
 have ha:(w.alloc (.cells r0 (ρ.t 9))).drew.heap[w.heap.size]? =some (.cells r0 (ρ.t 9) (0,0)):=ztY;obtain ⟨r1,a1,a2,a3,a4,a5,a6,a7,a8,a9⟩:=zeW w.heap.size (ρ.t 9) (0,0) [zb4 s] i (w.alloc (.cells r0 (ρ.t 9))).drew r0 ha (by simp only [Ah,Ar];omega);obtain ⟨r2,b1,b2,b3,b4,b5,b6,b7,b8,b9⟩:=zeW w.heap.size (ρ.t 9) (0,0) ((l.map zb4).drop i) (i+1) ((w.alloc (.cells r0 (ρ.t 9))).drew.setCells w.heap.size i [zb4 s]).drew r1 a1 (by simp;omega);refine ⟨_,.raw _,_,I,rfl,.refl I,⟨_,rfl,rfl⟩,.raw _ rfl,fresh _ r2 _ _ b1 ⟨hge,by unfold maxLen at hle;exact hle⟩ (by omega) (fun p x hx=> ?_) (fun k hk=> ?_) (b6.trans a6) (b7.trans a7) (b8.trans a8) (by rw [b9];exact An (Bj a9.symm|>fun h=>An (Bt _) h) (Bt _))⟩
 rw [b3,a3];rw [zp6 hi] at hx;simp only [BB,Af,Ah,Ar]
 split at hx
 rename_i q
 rw [if_neg (by omega),if_neg (by omega)];have hq:p<((l.map zb4).take i).toArray.size:=by simp;omega
 simp only [r0];rw [Array.append_assoc,AF hq]
 simp [q,hx]
 split at hx
 rename_i q;subst q
 rw [if_neg (by omega),if_pos (by omega)]
 cases hx;simp
 rename_i q1 q2
 have hp:=zn hx;rw [if_pos (by omega),AL,show i+(p-(i+1))=p-1 by omega,Aj,hx];rfl;rw [b4 k (by omega)];exact (a4 k (by omega)).trans (ztZ hk)
 
 refine (Any2.slices_Insert_string_shift L b off l.length cap i ub 0 1 1 (l.map zb4) [zb4 s] w hin (by omega) hroom h5.2 hne hcl rfl hcs (fun j hj=>hsome j (by omega)) (fun j hj=>hfz j (by omega)) hvs h1c h1v el2 el 1 rc.size (by simp [World.shape?,hu]) (by simp [World.shape?,h2]) (by omega) (by simp [World.frozen?,hu]) (by simp [World.frozen?,hu])).mono ?_;rintro e w' ⟨rfl,rfl⟩;obtain ⟨r1,a1,a2,a3,a4,a5,a6,a7,a8,a9⟩:=zeW b el fr ((l.map zb4).drop i) (off+(i+1)) w.drew rc h2 (by simp;omega);obtain ⟨r2,b1,b2,b3,b4,b5,b6,b7,b8,b9⟩:=zeW b el fr [zb4 s] (off+i) _ r1 a1 (by simp;omega);refine ⟨_,.raw _,_,I,rfl,.refl I,⟨_,rfl,rfl⟩,.raw _ rfl,inplace _ r2 b1 (b2.trans a2) hroom (fun p x hx=> ?_) (fun k hk=>(b4 k hk).trans (a4 k hk)) (b6.trans a6) (b7.trans a7) (b8.trans a8) (by rw [b9,a9];exact Bt _)⟩
 rw [b3,a3];rw [zp6 hi] at hx;simp only [BB,Af,Ah,Ar]
 split at hx
 rw [if_neg (by omega),if_neg (by omega)];exact hrow p x hx
 split at hx
 rename_i q;subst q
 rw [if_pos (by omega)]
 cases hx;simp
 have hp:=zn hx;rw [if_neg (by omega),if_pos (by omega),AL,show i+(off+p-(off+(i+1)))=p-1 by omega,Aj,hx];rfl;obtain rfl:i=l.length:=by omega
 have hput: ∀(p:Nat) (x:Str),(zgt l l.length s)[p]? =some x->(p<l.length/\l[p]? =some x)\/p=l.length/\x=s:=fun p x hx=>by
  rw [zp6 hi] at hx
  split at hx
  rename_i q;exact .inl ⟨q,hx⟩
  split at hx
  rename_i q;exact .inr ⟨q,(As hx).symm⟩
  have:=zn hx;omega
 rcases AC cap (l.length+1) with hroom|hroom
 
 refine (Any2.slices_Insert_string_end_grow L (some ⟨b,off,none⟩) l.length cap ub 0 1 1 (l.map zb4) [zb4 s] w (by omega) h5.1 hroom (by omega) hcl rfl (fun h=>by cases h) (fun a h j u hj=>by cases h;rw [Addr.add_lit];exact hcs j u hj) hvs h1v).mono ?_;rintro e w' ⟨rfl,rfl⟩;have hge:=grownCap_ge w (l.length+1) cap (ρ.t 9);have hle:=grownCap_le_maxLen w (l.length+1) cap (ρ.t 9) (by unfold maxLen;omega);have hz: ∀k,(Builtin.zeroCells (Value.string ⟨#[]⟩).cells k).size=k:=fun k=>by simp [Builtin.zeroCells,Value.cells]
 refine ⟨_,.raw _,_,I,rfl,.refl I,⟨_,rfl,rfl⟩,.raw _ rfl,fresh _ _ _ _ ztY ⟨hge,by unfold maxLen at hle;exact hle⟩ ?_ ?_ ?_ rfl rfl rfl (Bt _)⟩
 rw [Array.size_append,hz];simp;omega
 intro p x hx
 rw [AF (by simp;rcases hput p x hx with ⟨q,_⟩|⟨q,_⟩<;>omega)]
 rcases hput p x hx with ⟨q,hx⟩|⟨rfl,rfl⟩
 simp only [A8];rw [Aw (by simpa using q),Aj,hx];rfl;simp only [A8];rw [Au (by simp)];simp
 intro k hk;exact ztZ hk
 
 refine (Any2.slices_Insert_string_end_room L b off l.length cap ub 0 1 1 [zb4 s] w (by omega) hroom h5.2 rfl (fun j hj=>by rw [Bc];exact hsome _ (by omega)) (fun j hj=>by rw [Bc];exact hfz _ (by omega)) hvs h1v).mono ?_;rintro e w' ⟨rfl,rfl⟩;obtain ⟨r1,a1,a2,a3,a4,a5,a6,a7,a8,a9⟩:=zeW b el fr [zb4 s] (off+l.length) w rc h2 (by simp;omega);refine ⟨_,.raw _,_,I,rfl,.refl I,⟨_,rfl,rfl⟩,.raw _ rfl,inplace _ r1 a1 a2 hroom (fun p x hx=> ?_) a4 a6 a7 a8 (by rw [a9];exact Ae _)⟩
 rw [a3]
 rcases hput p x hx with ⟨q,hx⟩|⟨rfl,rfl⟩
 rw [if_neg (by omega)];exact hrow p x hx;rw [if_pos (by simp)];simp
end
section
variable {P:Program}
end
section
open Op
theorem zjQ (x y:MoveS):zfy [.int .i64 x.At,.int .i64 x.Kind,.str x.Team,.str x.Player] [.int .i64 y.At,.int .i64 y.Kind,.str y.Team,.str y.Player]=true↔x=y:=by
 obtain ⟨a1,a2,a3,a4⟩:=x;obtain ⟨b1,b2,b3,b4⟩:=y
 show (_&&(_&&(_&&(_&&true))))=true↔_
 simp [eqH]
instance decMoveS:DecidableEq MoveS:=fun x y=>decidable_of_iff _ (zjQ x y)
theorem zlU:Cmp zhF fun _=>True:=by
 have h:=zek (zge MoveS.At) (zek (zg9 MoveS.Team) (zek (zg9 MoveS.Player) (zge MoveS.Kind)));have e:zhF=fun a b=>if zai a.At b.At≠0 then zai a.At b.At else if zY a.Team b.Team≠0 then zY a.Team b.Team else if zY a.Player b.Player≠0 then zY a.Player b.Player else zai a.Kind b.Kind:=by
  funext a b;unfold zhF;rw [zfT,zfT,zdx]
 rw [e];exact h
theorem zui:Cmp zlS fun _=>True:=by
 have h:=zek (zg9 ChoiceS.Team) (zek (zge ChoiceS.Week) (zge ChoiceS.At));have e:zlS=fun a b=>if zY a.Team b.Team≠0 then zY a.Team b.Team else if zai a.Week b.Week≠0 then zai a.Week b.Week else zai a.At b.At:=by
  funext a b;unfold zlS;rw [zfT,zdx]
 rw [e];exact h
theorem zlT:Cmp zg5 fun _=>True:=by
 have h:=zek (zge GameS.Week) (zek (zg9 GameS.Home) (zg9 GameS.Away));have e:zg5=fun a b=>if zai a.Week b.Week≠0 then zai a.Week b.Week else if zY a.Home b.Home≠0 then zY a.Home b.Home else zY a.Away b.Away:=by
  funext a b;unfold zg5;rw [zfT,zdx]
 rw [e];exact h
end
section
open Op
def ziM (s l:Str):Bool:=s.all fun c=>decide (0<=Lib.indexByte l c)
theorem zAJ (c:UInt8):decide (0<=Lib.indexByte zhI c)=zhJ c:=by
 have:=zv6 (p:=fun c=>decide (0<=Lib.indexByte zhI c)==zhJ c) (by kernel_rfl) c
 simpa using this
theorem zCs (s:Str):key s=((!(out s.length 1 40)&&ziM (s.take 1) zkX)&&ziM s zhI):=by
 unfold ziM;have:(fun c=>decide (0<=Lib.indexByte zhI c))=zhJ:=funext zAJ;rw [this];unfold key zkB
 cases s with
 |nil=>simp [out]
 |cons x r=>
   simp only [Cf,List.take_zero,Cd,List.all_nil,Bool.and_true,List.headD_cons];rw [zsZ];have h1:(!(out ((x::r).length:Int) 1 40))=decide ((x::r).length<=40):=by
    simp only [out,Ah];rw [AE];simp;omega
   rw [h1];have h2:((x::r) !=[])=true:=rfl;rw [h2];have hb: ∀a c d b:Bool,(true&&a&&c&&d&&b)=(a&&(c&&d)&&b):=by decide
   exact hb _ _ _ _
theorem ztX (l:List Str):zci l=if l.length=0 then 8 else if 10<l.length then 2 else zhg l:=rfl
def zob {α:Type} (f:α->Str) (d:α) (l:List α) (k:Nat):Str:=if k=0 then [] else f (l.getD (k-1) d)
theorem ztN {α:Type} {f:α->Str} {d:α} {l:List α} {k:Nat} {x:α} (hx:key (f x)=true):(leB (f x) (zob f d l k)=true)↔(0<k/\leB (f x) (f (l.getD (k-1) d))=true):=by
 unfold zob
 by_cases h:k=0
 subst h;rw [if_pos rfl,zEX hx];simp;rw [if_neg h]
 constructor
 intro q;exact ⟨by omega,q⟩
 intro q;exact q.2
theorem zpU {α:Type} {f:α->Str} {d:α} {l:List α} {k:Nat} {x:α} (hx:l[k]? =some x):zob f d l (k+1)=f x:=by
 unfold zob;rw [if_neg (by omega),BE,Ag,hx];rfl
theorem zh4 {a b:Int}:zow (a-b)=zai a b:=zDd
theorem znv {a b:MoveS}:zhF a b=if a.At≠b.At then zai a.At b.At else if a.Team≠b.Team then zY a.Team b.Team else if a.Player≠b.Player then zY a.Player b.Player else zai a.Kind b.Kind:=by
 unfold zhF;rw [zfT,zfT,zdx];have e1:zai a.At b.At≠0↔a.At≠b.At:=not_congr zcH;have e2:zY a.Team b.Team≠0↔a.Team≠b.Team:=not_congr zbi;have e3:zY a.Player b.Player≠0↔a.Player≠b.Player:=not_congr zbi;simp only [e1,e2,e3]
theorem zrj {a b:GameS}:zg5 a b=if a.Week≠b.Week then zai a.Week b.Week else if a.Home≠b.Home then zY a.Home b.Home else zY a.Away b.Away:=by
 unfold zg5;rw [zfT,zdx];have e1:zai a.Week b.Week≠0↔a.Week≠b.Week:=not_congr zcH;have e2:zY a.Home b.Home≠0↔a.Home≠b.Home:=not_congr zbi;simp only [e1,e2]
theorem zCD {x p:MoveS}:(0<=zhF p x)↔zhF x p<=0:=by
 have f1:=zlU.flip p x trivial trivial;have f2:=zlU.flip x p trivial trivial
 omega
theorem zCd {x p:GameS}:(0<=zg5 p x)↔zg5 x p<=0:=by
 have f1:=zlT.flip p x trivial trivial;have f2:=zlT.flip x p trivial trivial
 omega
theorem zB0 {x p:ChoiceS}:(0<=zlS p x)↔zlS x p<=0:=by
 have f1:=zui.flip p x trivial trivial;have f2:=zui.flip x p trivial trivial
 omega
def zqj (a b:Int):List Int->Int
 |[]=>0
 |e::r=>if a=e\/b=e then e else zqj a b r
def zDi (a b:Int):Int:=zqj a b [3,1]
theorem zv7 {n d m:Int}:za2 n d m=0\/za2 n d m=1\/za2 n d m=3:=by
 unfold za2;split
 omega
 split<;>omega
theorem zCc {x:GameS} (h:x.Played=true):ziI x=zDi (za2 x.FNum x.FDen 1000000) (za2 x.ONum x.ODen 1000000):=by
 unfold ziI zDi;rw [if_neg (by rw [h];simp),zqj,zqj,zqj];have h1:=zv7 (n:=x.FNum) (d:=x.FDen) (m:=1000000);have h2:=zv7 (n:=x.ONum) (d:=x.ODen) (m:=1000000)
 split
 rfl
 rename_i h3
 rw [zdx]
 (repeat' split)<;>omega
theorem zxw {a b:Int}:Nat.gcd b.natAbs (a.tmod b).natAbs=Nat.gcd a.natAbs b.natAbs:=by
 rw [Int.natAbs_tmod];exact zpG
theorem zrN {a b:Int} (hb:b≠0): -b.natAbs<a.tmod b/\a.tmod b<b.natAbs/\(a.tmod b).natAbs<b.natAbs:=by
 have h:=B4 a.natAbs (show 0<b.natAbs by omega);rw [<-Int.natAbs_tmod] at h
 omega
theorem zGi {l:Str} {x:UInt8} {r:Str} (h:Lib.indexByte l x<0):ziM (x::r) l=false:=by
 unfold ziM;rw [Cd];have:decide (0<=Lib.indexByte l x)=false:=by simpa using h
 rw [this];rfl
theorem zGj {l:Str} {x:UInt8} {r:Str} (h:0<=Lib.indexByte l x):ziM (x::r) l=ziM r l:=by
 unfold ziM;rw [Cd];have:decide (0<=Lib.indexByte l x)=true:=by simpa using h
 rw [this];rfl
theorem pts3 {n d:Int} (h:d<1\/¬((Nat.gcd n.natAbs d.natAbs:Nat):Int)=1):d<1\/zoh n d=false:=by
 rcases h with h|h
 exact .inl h;refine .inr ?_;unfold zoh;rw [beq_eq_false_iff_ne]
 intro e;rw [e] at h;exact h rfl
theorem pts0 {n d:Int} (h:((Nat.gcd n.natAbs d.natAbs:Nat):Int)=1):zoh n d=true:=by
 unfold zoh;rw [beq_iff_eq];omega
theorem pts1 {n d m:Int} (h:(¬Int.tmod 100 d=0\/n< -m*d)\/m*d<n):Int.tmod 100 d≠0\/out n (-m*d) (m*d)=true:=by
 have e: -m*d= -(m*d):=Bx _ _;rw [e] at h⊢
 rcases h with (h|h)|h
 exact .inl h;refine .inr ?_;simp [out];omega
 refine .inr ?_;simp [out];omega
theorem pts2 {n d m:Int} (h:(Int.tmod 100 d=0/\ -m*d<=n)/\n<=m*d): ¬(Int.tmod 100 d≠0\/out n (-m*d) (m*d)=true):=by
 have e: -m*d= -(m*d):=Bx _ _;rw [e] at h⊢;obtain ⟨⟨h1,h2⟩,h3⟩:=h;rintro (q|q);exact q h1
 simp [out] at q;omega
theorem zCk {f t:Int} (h:out f 1 (t-1)=true\/61<t):out t 2 61=true\/out f 1 (t-1)=true:=by
 rcases h with h|h
 exact .inr h;refine .inl ?_;simp [out];omega
theorem zCj {f t:Int} (h:out f 1 (t-1)=false/\t<=61): ¬(out t 2 61=true\/out f 1 (t-1)=true):=by
 rintro (q|q);have h1:=h.1
 simp [out] at q h1;omega
 rw [h.1] at q;cases q
theorem zF1 {k:Int} (h: ¬k=1/\¬k=2):out k 1 2=true:=by simp [out];omega
theorem zF0 {k:Int} (h: ¬k=1->k=2):out k 1 2=false:=by simp [out];omega
structure MovB (x:MoveS):Prop where
 at': -1000000000000000<=x.At/\x.At<=1000000000000000
 kind: -1000000000000000<=x.Kind/\x.Kind<=1000000000000000
structure GamB (x:GameS):Prop where
 week: -1000000000000000<=x.Week/\x.Week<=1000000000000000
 fr:(-1000000000<=x.FNum/\x.FNum<=1000000000)/\ -1000000000<=x.FDen/\x.FDen<=1000000000
 ot:(-1000000000<=x.ONum/\x.ONum<=1000000000)/\ -1000000000<=x.ODen/\x.ODen<=1000000000
end
section
def zjr (L:List LineS):Bool:=L.any fun x=>decide (40<x.Stats.length)||x.Stats.any fun s=>out s.Count (-100000) 100000
theorem zrd (c:List (Of2×Int)) (s:Str):(zck c s).length=(za0 c s).length:=by unfold zck;rw [zbX]
theorem zuJ {c:List (Of2×Int)} {s:Str} {x:StatS}:x∈zck c s↔x∈za0 c s:=by unfold zck;rw [ze7]
theorem zEB {c:List (Of2×Int)} {S:List Str} {week:Int} (hin: ∀e∈c,e.1.1∈S):zjr ((zaB S).map fun s=>⟨s,week,zck c s⟩)=zgs c S:=by
 rw [AE];unfold zjr zgs;rw [List.any_map,A1,A6,A6,A6]
 constructor
 rintro ⟨s,hs,h⟩;have hs':s∈S:=(A2 _ _).mem_iff.1 hs;simp only [Function.comp,A1,decide_eq_true_eq] at h
 rcases h with h|h
 rw [zrd] at h;exact .inr ⟨s,hs',by simpa using h⟩;obtain ⟨x,hx,ho⟩:=List.any_eq_true.1 h;rw [zuJ] at hx;unfold za0 at hx;obtain ⟨e,he,rfl⟩:=List.mem_map.1 hx;exact .inl ⟨e,(List.mem_filter.1 he).1,ho⟩;rintro (⟨e,he,ho⟩|⟨s,hs,h⟩);refine ⟨e.1.1,(A2 _ _).mem_iff.2 (hin e he),?_⟩
 simp only [Function.comp,A1]
 right
 rw [A6];refine ⟨⟨e.1.2,e.2⟩,?_,ho⟩
 rw [zuJ];refine List.mem_map.2 ⟨e,List.mem_filter.2 ⟨he,?_⟩,rfl⟩
 have:e.2≠0:=fun q=>by rw [q] at ho;simp [out] at ho
 simp [this]
 refine ⟨s,(A2 _ _).mem_iff.2 hs,?_⟩
 simp only [Function.comp,A1]
 left
 rw [zrd];simpa using h
theorem zD7 {l:List Play} {trust:List Str} {week n:Int}: ∀(m:List Play) (q:LnS),(∀e∈q.c,e.1.1∈q.S)->∀e∈(m.foldl (ze9 l trust week n) q).c,e.1.1∈(m.foldl (ze9 l trust week n) q).S
 |[],_,h=>h
 |x::m,q,h=>by
   rw [Bv];refine zD7 m _ ?_;unfold ze9
   split
   intro e he
   rcases zcF he with rfl|he
   exact zhZ.2 (.inl rfl);exact zhZ.2 (.inr (h e he));exact h
def zfi (q:LnS) (week:Int):List LineS:=(zdX q.S).map fun s=>⟨s,week,zgX (zbN q.c s)⟩
def znf (l:List Play) (trust:List Str) (week n:Int):List LineS:=if zjr (zfi (zaI l trust week n l) week) then [] else zfi (zaI l trust week n l) week
def zne (l:List Play) (trust:List Str) (week n:Int):Int:=if zjr (zfi (zaI l trust week n l) week) then 12 else 0
theorem zA6 {l:List Play} {trust:List Str} {week n:Int} (ok: ∀x∈l,playFault x=0):znf l trust week n=zdN l trust week n/\zne l trust week n=zf7 l trust week n:=by
 have hok:=zog (l:=l) (trust:=trust) (week:=week) (n:=n) ok;have hin:=zD7 (l:=l) (trust:=trust) (week:=week) (n:=n) l ⟨[],[]⟩ (fun e h=>by cases h);have e:zfi (zaI l trust week n l) week=(zaB (zaI l trust week n l).S).map fun s=>⟨s,week,zck (zaI l trust week n l).c s⟩:=by
  unfold zfi;rw [zxW hok.S];refine BM fun s _=> ?_
  rw [zvy]
 have hf:zjr (zfi (zaI l trust week n l) week)=zgs (zaI l trust week n l).c (zaI l trust week n l).S:=by
  rw [e];exact zEB hin
 unfold znf zne zdN zf7 zin zja;rw [hf,e];exact ⟨rfl,rfl⟩
theorem zCY {l:List Play} {trust:List Str} {week n:Int} (h:zk1 l) {i:Nat} {x:Play} (hx:l[i]? =some x) (g:Bool) (hg:g=true↔∃p∈l,ziU l p n=some i):
 (!(x.Week !=week||decide (n<x.At)||zfH l trust x.Match n !=x.Source||g||decide (0<x.Undo)))=zhC l trust week n x:=by
 have hgg:g=zjV l n (x.Source,x.No):=by
  rw [AE,hg];exact (zn6 h n hx).symm
 unfold zhC;rw [hgg,zln]
 cases decide (n<x.At)<;>cases (x.Week !=week)<;>cases decide (0<x.Undo)<;>cases zjV l n (x.Source,x.No)<;>simp
end
section
def zrk (a b:Of2):Int:=orI [zY a.1 b.1,zY a.2 b.2]
theorem zEn (a b:Of2):zrk a b=if zY a.1 b.1≠0 then zY a.1 b.1 else zY a.2 b.2:=by unfold zrk;rw [zdx]
theorem zAC (a b:Of2):zrk a b= -zrk b a:=by
 unfold zrk;rw [zfG a.1,zfG a.2,zw0]
theorem zBW:Cmp zrk (fun _=>True) where
 flip x y _ _:=by rw [zAC x y];omega
 trans x y z _ _ _ h1 h2:=by
  rw [zEn] at*;have k1:zY x.1 y.1<=0:=by split at h1<;>omega
  have k2:zY y.1 z.1<=0:=by split at h2<;>omega
  have k3:=ziF k1 k2
  split
  exact k3
  rename_i hz
  have hz':zY x.1 z.1=0:=by simpa using hz
  obtain ⟨e1,e2⟩:=zoI k1 k2 hz';rw [if_neg (by simp [e1])] at h1;rw [if_neg (by simp [e2])] at h2;exact ziF h1 h2
def OLt (a b:Of2):Prop:=zrk a b<0
structure DisS where
 S:List Str
 c:List ((Str×Of2)×Int)
def zws (p:Play):Str×Of2:=(p.Source,(p.Player,p.Stat))
def zFR (q:DisS) (p:Play):List ((Str×Of2)×Int):=zp (zws p) ((alk (zws p) q.c).getD 0+p.Count) q.c
end
section
section
variable {κ:Type}
abbrev fM (o:Option Nat):HVal:= .raw (.map o)
abbrev GrM (κ:Type):=List (Str×(Nat×List (κ×Int)))
def zd7 (G:GrM κ):List (Str×Option Nat):=G.map fun p=>(p.1,some p.2.1)
def grm (ek:κ->HVal) (G:GrM κ):List MObj:=G.map fun p=> .map p.2.1 (kk ek (em (HVal.int .i64) p.2.2))
theorem zjX {s:Str}: ∀{G:GrM κ},alk s (zd7 G)=(alk s G).map fun q=>some q.1
 |[]=>rfl
 |p::r=>by
   have ih:=zjX (s:=s) (G:=r);simp only [zd7,Ao,alk] at ih⊢
   by_cases h:s=p.1
   rw [if_pos h,if_pos h];rfl;rw [if_neg h,if_neg h];exact ih
theorem zuP {s:Str} {b:Nat} {L:List (κ×Int)}: ∀{G:GrM κ},zp s (some b) (zd7 G)=zd7 (zp s (b,L) G)
 |[]=>rfl
 |p::r=>by
   have ih:=zuP (s:=s) (b:=b) (L:=L) (G:=r);simp only [zd7,Ao,zp] at ih⊢
   by_cases h:s=p.1
   rw [if_pos h,if_pos h];rfl;rw [if_neg h,if_neg h,Ao,ih]
theorem zsL {s:Str} {b:Nat} {L L':List (κ×Int)}: ∀{G:GrM κ},alk s G=some (b,L)->zd7 (zp s (b,L') G)=zd7 G
 |[],h=>by simp [alk] at h
 |p::r,h=>by
   simp only [alk] at h
   by_cases hs:s=p.1
   rw [if_pos hs] at h;simp only [AA] at h;simp only [zp,if_pos hs,zd7,Ao];rw [h,hs];rw [if_neg hs] at h;have ih:=zsL (L':=L') h;simp only [zp,if_neg hs,zd7,Ao] at ih⊢;rw [ih]
theorem zqZ {α:Type} {s:Str} {v:α}: ∀{G:List (Str×α)},ANodup G->(zp s v G).Perm ((s,v)::G.filter fun q=>decide (q.1≠s))
 |[],_=>by simp [zp]
 |p::r,hn=>by
   have h1:=List.nodup_cons.1 hn;simp only [zp]
   by_cases hs:s=p.1
   ·rw [if_pos hs];have h2:alk s r=none:=by rw [zdt,hs];exact h1.1
    rw [AO,if_neg (by simp [hs]),zc2 h2]
   ·rw [if_neg hs,AO,if_pos (by simp;exact fun e=>hs e.symm)];exact (List.Perm.cons p (zqZ h1.2)).trans (List.Perm.swap _ _ _)
theorem zrA {ek:κ->HVal} {A:List MObj} {G:GrM κ} {s:Str} {b:Nat} {L:List (κ×Int)} (hn:ANodup G) (hq:alk s G=some (b,L)):(A++grm ek G).Perm (.map b (kk ek (em (HVal.int .i64) L))::(A++grm ek (G.filter fun q=>decide (q.1≠s)))):=by
 have h:=((zel hn hq).map fun p=>MObj.map p.2.1 (kk ek (em (HVal.int .i64) p.2.2))).append_left A;refine h.trans ?_;simp only [Ao,grm];exact Bh
theorem zyj {ek:κ->HVal} {A:List MObj} {G:GrM κ} {s:Str} {b:Nat} {L:List (κ×Int)} (hn:ANodup G):(.map b (kk ek (em (HVal.int .i64) L))::(A++grm ek (G.filter fun q=>decide (q.1≠s)))).Perm (A++grm ek (zp s (b,L) G)):=by
 have h:=((zqZ (s:=s) (v:=(b,L)) hn).map fun p=>MObj.map p.2.1 (kk ek (em (HVal.int .i64) p.2.2))).append_left A;refine List.Perm.symm (h.trans ?_)
 simp only [Ao,grm];exact Bh
theorem zEG {ek:κ->HVal} {A:List MObj} {G:GrM κ} {s:Str} {b:Nat} {L:List (κ×Int)} (hn:ANodup G) (hq:alk s G=none):(.map b (kk ek (em (HVal.int .i64) L))::(A++grm ek G)).Perm (A++grm ek (zp s (b,L) G)):=by
 have h:=zyj (ek:=ek) (A:=A) (s:=s) (b:=b) (L:=L) hn;rw [zc2 hq] at h;exact h
end
end
section
theorem zns {α:Type} {s:Str} {v:α}: ∀{G:List (Str×α)},(zp s v G).map (·.1)=zbW s (G.map (·.1))
 |[]=>by simp [zp,zbW]
 |p::r=>by
   have ih:=zns (s:=s) (v:=v) (G:=r);simp only [zp]
   by_cases h:s=p.1
   rw [if_pos h];unfold zbW;rw [if_pos (by simp [h])]
   simp [h]
   rw [if_neg h,Ao,ih];unfold zbW
   by_cases hc:(r.map (·.1)).contains s=true
   rw [if_pos hc,if_pos (by simp at hc⊢;exact .inr hc)];rfl;rw [if_neg hc,if_neg (by simp at hc⊢;exact ⟨h,hc⟩)];rfl
theorem zo7 {α:Type} {s:Str} {v:α} {p:Str×α}: ∀{G:List (Str×α)},ANodup G->p∈zp s v G->p=(s,v)\/(p∈G/\p.1≠s)
 |[],_,h=>by simp [zp] at h;exact .inl h
 |q::r,hn,h=>by
   have h1:=List.nodup_cons.1 hn;simp only [zp] at h
   by_cases hs:s=q.1
   rw [if_pos hs] at h
   rcases List.mem_cons.1 h with h|h
   exact .inl h;refine .inr ⟨Al _ h,fun e=>h1.1 ?_⟩
   show q.1∈r.map (·.1)
   rw [<-hs,<-e];exact Bw h;rw [if_neg hs] at h
   rcases List.mem_cons.1 h with h|h
   subst h;exact .inr ⟨by simp,fun e=>hs e.symm⟩
   rcases zo7 h1.2 h with e|e
   exact .inl e;exact .inr ⟨Al _ e.1,e.2⟩
section
variable {κ:Type}
structure GrOk (S:List Str) (c:List ((Str×κ)×Int)) (G:GrM κ):Prop where
 keys:G.map (·.1)=S
 nodup:S.Nodup
 val: ∀p∈G,p.2.2=zbN c p.1
 inS: ∀e∈c,e.1.1∈S
theorem GrOk.anodup {S:List Str} {c:List ((Str×κ)×Int)} {G:GrM κ} (h:GrOk S c G):ANodup G:=by unfold ANodup;rw [h.keys];exact h.nodup
theorem GrOk.nil:GrOk ([]:List Str) ([]:List ((Str×κ)×Int)) []:=⟨rfl,Bb,(fun p h=>by cases h),(fun e h=>by cases h)⟩
theorem GrOk.get {S:List Str} {c:List ((Str×κ)×Int)} {G:GrM κ} (h:GrOk S c G) {s:Str} {b:Nat} {L:List (κ×Int)} (hq:alk s G=some (b,L)):L=zbN c s:=h.val _ (zbs hq)
theorem GrOk.none {S:List Str} {c:List ((Str×κ)×Int)} {G:GrM κ} (h:GrOk S c G) {s:Str}:alk s G=none↔s∉S:=by rw [zdt,h.keys]
theorem zAZ {S:List Str} {c:List ((Str×κ)×Int)} {s:Str} (h: ∀e∈c,e.1.1∈S) (hs:s∉S):zbN c s=[]:=by
 unfold zbN;rw [List.map_eq_nil_iff,List.filter_eq_nil_iff]
 intro e he hq
 exact hs ((eq_of_beq hq)▸h e he)
theorem GrOk.add {S:List Str} {c:List ((Str×κ)×Int)} {G:GrM κ} (h:GrOk S c G) {s:Str} (b:Nat) (hs:alk s G=Option.none):GrOk (zbW s S) c (zp s (b,[]) G):=by
 have hn:=h.none.1 hs;refine ⟨by rw [zns,h.keys],zkJ h.nodup,fun p hp=> ?_,fun e he=>zhZ.2 (.inr (h.inS e he))⟩
 rcases zo7 h.anodup hp with rfl|⟨hp,_⟩
 exact (zAZ h.inS hn).symm;exact h.val p hp
variable [DecidableEq κ]
theorem GrOk.put {S:List Str} {c:List ((Str×κ)×Int)} {G:GrM κ} (h:GrOk S c G) {s:Str} {b:Nat} {L:List (κ×Int)} (hq:alk s G=some (b,L)) (k:κ) (v:Int):GrOk S (zp (s,k) v c) (zp s (b,zp k v L) G):=by
 have hs:s∈S:=by
  refine Decidable.not_not.1 fun hn=> ?_
  have:=h.none.2 hn;rw [this] at hq;cases hq
 refine ⟨?_,h.nodup,fun p hp=> ?_,fun e he=> ?_⟩
 rw [zns,h.keys];unfold zbW;rw [if_pos (by simpa using hs)];rw [zuA]
 rcases zo7 h.anodup hp with rfl|⟨hp,hne⟩
 rw [if_pos rfl,<-h.get hq];rw [if_neg hne];exact h.val p hp
 rcases zcF he with rfl|he
 exact hs;exact h.inS e he
end
end
section
theorem zyn {α:Type} (p:α->Bool): ∀(l:List α) (k:Int),zS p l k=match l.findIdx? p with|none=> -1|some i=>k+i
 |[],k=>rfl
 |x::r,k=>by
   have ih:=zyn p r (k+1);simp only [zS,List.findIdx?_cons]
   by_cases h:p x=true
   rw [if_pos h,if_pos h];simp;rw [if_neg h,if_neg h,ih]
   cases r.findIdx? p with
   |none=>rfl
   |some i=>
     show k+1+(i:Int)=k+((i+1:Nat):Int)
     omega
def zhE (l:List Play) (x:Play) (n:Int):Int:=if x.Undo=0\/n<x.At then-1 else zS (zj0 l n x) l 0
theorem zBK (l:List Play) (x:Play) (n:Int):zhE l x n=match ziU l x n with|none=> -1|some i=>(i:Int):=by
 unfold zhE ziU
 split
 rfl
 rw [zyn]
 cases l.findIdx? (zj0 l n x) with
 |none=>rfl
 |some i=>simp
theorem zs2 {l:List Play} {x:Play} {n:Int} {i:Nat}:zhE l x n=(i:Int)↔ziU l x n=some i:=by
 rw [zBK]
 cases ziU l x n with
 |none=>simp
 |some j=>simp;omega
def zfX (l:List Play) (n:Int) (m:List Play):List Int:=(m.map fun x=>zhE l x n).filter fun z=>decide (0<=z)
theorem zDj {l m:List Play} {n:Int} {k:Nat} {x:Play} (hx:m[k]? =some x) (h:0<=zhE l x n):zfX l n (m.take (k+1))=zfX l n (m.take k)++[zhE l x n]:=by
 unfold zfX;rw [zW hx,Ay,AX];simp [h]
theorem zFF {l m:List Play} {n:Int} {k:Nat} {x:Play} (hx:m[k]? =some x) (h: ¬0<=zhE l x n):zfX l n (m.take (k+1))=zfX l n (m.take k):=by
 unfold zfX;rw [zW hx,Ay,AX];simp [h]
theorem zxx (l m:List Play) (n:Int):(zfX l n m).length<=m.length:=by
 unfold zfX;exact An (AK _ _) (by simp)
theorem zCB {l:List Play} {n:Int} {i:Nat}:(i:Int)∈zfX l n l↔∃p∈l,ziU l p n=some i:=by
 unfold zfX;rw [List.mem_filter,B8]
 constructor
 rintro ⟨⟨p,hp,e⟩,_⟩;exact ⟨p,hp,zs2.1 e⟩;rintro ⟨p,hp,e⟩;exact ⟨⟨p,hp,zs2.2 e⟩,by simp⟩
theorem zvs {l:List Play} (h:zk1 l) {n:Int} {U:List Int} (hU: ∀z,z∈U↔z∈zfX l n l) {i:Nat} {x:Play} (hx:l[i]? =some x):U.contains (i:Int)=zjV l n (x.Source,x.No):=by
 rw [AE,Bd,hU,zCB];exact (zn6 h n hx).symm
theorem znj {l:List Play} {trust:List Str} {week n:Int} (h:zk1 l) {U:List Int} (hU: ∀z,z∈U↔z∈zfX l n l) {i:Nat} {x:Play} (hx:l[i]? =some x):
 (!(x.Week !=week||decide (n<x.At)||zfH l trust x.Match n !=x.Source||U.contains (i:Int)||decide (0<x.Undo)))=zhC l trust week n x:=
 zCY h hx _ (by rw [zvs h hU hx];exact zn6 h n hx)
end
section
def zfY (p:Option Of2):List Of2->List Of2
 |[]=>[]
 |x::r=>if p=some x then zfY (some x) r else x::zfY (some x) r
theorem OLt.trans {a b c:Of2} (h1:OLt a b) (h2:OLt b c):OLt a c:=zBW.lt_trans trivial trivial trivial h1 h2
end
section
def zIV (l:List Play) (trust:List Str) (n:Int) (x:Play):Bool:=decide (zjx l trust n x.Match=some x.Source)
def kept (l:List Play) (trust:List Str) (n:Int):List Play:=l.filter (zIV l trust n)
end
section
structure ChkIs (q:ChkS) (l:List Play):Prop where
 sn:q.S.Nodup
 s: ∀s,s∈q.S↔∃x∈l,x.Source=s
 wn:ANodup q.W
 w: ∀m,m∈q.W.map (·.1)↔∃x∈l,x.Match=m
 wv: ∀m v,alk m q.W=some v->∃x∈l,x.Match=m/\x.Week=v
 c:q.c=false↔∀x∈l,∀y∈l,x.Match=y.Match->x.Week=y.Week
theorem ChkIs.step {q:ChkS} {l:List Play} (h:ChkIs q l) (p:Play):ChkIs (zi9 q p) (l++[p]) where
 sn:=zkJ h.sn
 s s:=by
  show s∈zbW p.Source q.S↔_
  rw [zhZ,h.s]
  constructor
  rintro (rfl|⟨x,hx,e⟩);exact ⟨p,by simp,rfl⟩;exact ⟨x,Ap _ hx,e⟩;rintro ⟨x,hx,e⟩
  rcases List.mem_append.1 hx with hx|hx
  exact .inr ⟨x,hx,e⟩;rw [List.mem_singleton.1 hx] at e;exact .inl e.symm
 wn:=h.wn.put
 w m:=by
  show m∈(zp p.Match p.Week q.W).map (·.1)↔_
  rw [zlQ,h.w]
  constructor
  rintro (rfl|⟨x,hx,e⟩);exact ⟨p,by simp,rfl⟩;exact ⟨x,Ap _ hx,e⟩;rintro ⟨x,hx,e⟩
  rcases List.mem_append.1 hx with hx|hx
  exact .inr ⟨x,hx,e⟩;rw [List.mem_singleton.1 hx] at e;exact .inl e.symm
 wv m v hv:=by
  have hv':alk m (zp p.Match p.Week q.W)=some v:=hv;rw [za3] at hv'
  by_cases e:m=p.Match
  rw [if_pos e] at hv';cases hv';exact ⟨p,by simp,e.symm,rfl⟩;rw [if_neg e] at hv';obtain ⟨x,hx,e1⟩:=h.wv m v hv';exact ⟨x,Ap _ hx,e1⟩
 c:=by
  show (q.c||((alk p.Match q.W).isSome&&((alk p.Match q.W).getD 0 !=p.Week)))=false↔_
  rw [A4,h.c]
  constructor
  rintro ⟨h1,h2⟩;have hp: ∀x∈l,x.Match=p.Match->x.Week=p.Week:=fun x hx e=>by
   have hk:p.Match∈q.W.map (·.1):=(h.w _).2 ⟨x,hx,e⟩;have hne: ¬alk p.Match q.W=none:=by rw [zdt];exact fun z=>z hk
   obtain ⟨v,hv⟩:=Option.ne_none_iff_exists'.1 hne;rw [hv] at h2
   simp at h2
   obtain ⟨y,hy,e1,e2⟩:=h.wv _ _ hv;rw [h1 x hx y hy (by rw [e,e1]),e2,h2]
  intro x hx y hy e
  rcases List.mem_append.1 hx with hx|hx<;>rcases List.mem_append.1 hy with hy|hy
  exact h1 x hx y hy e;rw [List.mem_singleton.1 hy] at e⊢;exact hp x hx e;rw [List.mem_singleton.1 hx] at e⊢;exact (hp y hy e.symm).symm;rw [List.mem_singleton.1 hx,List.mem_singleton.1 hy]
  intro hall
  refine ⟨fun x hx y hy e=>hall x (Ap _ hx) y (Ap _ hy) e,?_⟩
  cases hv:alk p.Match q.W with
  |none=>rfl
  |some v=>
    obtain ⟨y,hy,e1,e2⟩:=h.wv _ _ hv;have:=hall y (Ap _ hy) p (by simp) e1
    simp
    rw [<-e2,this]
theorem zFN (l:List Play):ChkIs (zbU l) l:=by
 have key: ∀k,k<=l.length->ChkIs (zbU (l.take k)) (l.take k):=by
  intro k
  induction k with
  |zero=>
    intro _
    refine ⟨Bb,fun s=> ?_,ANodup.nil,fun m=> ?_,fun m v hv=> ?_,?_⟩
    simp [zbU]
    simp [zbU]
    simp [zbU,alk] at hv
    simp [zbU]
  |succ k ih=>
    intro hk
    have hx:=Aa (l:=l) (i:=k) (by omega);rw [zfP hx,zW hx];exact (ih (by omega)).step _
 have:=key l.length (Ae _)
 rwa [Am] at this
end
section
theorem zGy {p:Play} (h:playFault p=0):1<=p.Week:=by
 have h1:=(zeC h).2.2.2.1;unfold zar at h1;have:=zhK (n:=p.Week) (lo:=1) (hi:=60) (by simpa using h1)
 omega
theorem zEq {l:List Play} (hok: ∀y∈l,playFault y=0) {m:Str} {v:Int} (h:alk m (zbU l).W=some v):1<=v:=by
 obtain ⟨x,hx,_,rfl⟩:=(zFN l).wv m v h;exact zGy (hok x hx)
theorem zEr {l:List Play} (hok: ∀y∈l,playFault y=0) (p:Play):
 ((zbU l).c||((alk p.Match (zbU l).W).getD 0 !=0&&(alk p.Match (zbU l).W).getD 0 !=p.Week))=(zi9 (zbU l) p).c:=by
 unfold zi9
 dsimp only
 cases h:alk p.Match (zbU l).W with
 |none=>simp
 |some v=>
   have:=zEq hok h;have h0:(v !=0)=true:=by simp;omega
   simp [h0]
/-! statistics-/
def zdA (E:List (Str×Int)):List StatS:=(E.filter fun e=>e.2 !=0).map fun e=>⟨e.1,e.2⟩
theorem zuV (E:List (Str×Int)) (q:Str×Int):zdA (E++[q])=zdA E++if q.2≠0 then [⟨q.1,q.2⟩] else []:=by
 unfold zdA;rw [AX,Ay,AO]
 by_cases h:q.2≠0
 rw [if_pos h,if_pos (by simpa using h)];rfl;rw [if_neg h,if_neg (by simpa using h)];rfl
theorem zCX {E:List (Str×Int)} {q:Str×Int} (h:q.2≠0):zdA (E++[q])=zdA E++[⟨q.1,q.2⟩]:=by rw [zuV,if_pos h]
theorem zFo {E:List (Str×Int)} {q:Str×Int} (h: ¬q.2≠0):zdA (E++[q])=zdA E:=by rw [zuV,if_neg h,AV]
theorem zt3 (E:List (Str×Int)):(zdA E).length<=E.length:=by unfold zdA;rw [Af];exact AK _ _
theorem zBu {E c:List (Str×Int)} (h:E.Perm c):(zdA E).Perm (zdA c):=(h.filter _).map _
theorem zz5 {c:List (Str×Int)} (h:ANodup c) {x y:StatS} (hx:x∈zdA c) (hy:y∈zdA c) (e:x.Name=y.Name):x=y:=by
 unfold zdA at hx hy;obtain ⟨p,hp,rfl⟩:=List.mem_map.1 hx;obtain ⟨p',hp',rfl⟩:=List.mem_map.1 hy;have h1:=(List.mem_filter.1 hp).1;have h2:=(List.mem_filter.1 hp').1;have e':p.1=p'.1:=e;have a1:=(zcX h (x:=p.1) (v:=p.2)).1 h1;have a2:=(zcX h (x:=p'.1) (v:=p'.2)).1 h2;rw [<-e',a1] at a2;have k:p.2=p'.2:=As a2;rw [e',k]
theorem zBI {E c:List (Str×Int)} (hE:E.Perm c) (hn:ANodup c) {L:List StatS} (hp:L.Perm (zdA E)) (hw:L.Pairwise fun a b=> ¬zaU b a<0):L=zgX c:=by
 show L=zah zaU (zdA c)
 exact zdV zcn (fun x y hx hy e=>zz5 hn hx hy (zbi.1 e)) (hp.trans (zBu hE)) hw
theorem zs1 (c:List (Str×Int)):(zgX c).length<=c.length:=by
 show (zah zaU (zdA c)).length<=_
 rw [zbX];exact zt3 c
/-! the sums of players keep apart-/
theorem zxM {κ:Type} [DecidableEq κ] {c:List ((Str×κ)×Int)} (h:ANodup c) (s:Str):ANodup (zbN c s):=by
 unfold ANodup List.Nodup at*;rw [List.pairwise_map] at h;unfold zbN;rw [AW,List.pairwise_map];refine (h.sublist BL).imp_of_mem fun {a b} ha hb hne e=>hne ?_
 have k1:=(List.mem_filter.1 ha).2;have k2:=(List.mem_filter.1 hb).2;simp only [beq_iff_eq] at k1 k2;exact Prod.ext (k1.trans k2.symm) e
theorem zuz {κ:Type} (c:List ((Str×κ)×Int)) (s:Str):(zbN c s).length<=c.length:=by
 unfold zbN;rw [Af];exact AK _ _
def zzF (q:LnS) (week:Int) (s:Str):LineS:=⟨s,week,zgX (zbN q.c s)⟩
theorem zq7 (q:LnS) (week:Int):zfi q week=(zdX q.S).map (zzF q week):=rfl
/-! what is told to a bound-/
theorem zuO (l:List Str):(zdX l).length<=l.length:=by
 unfold zdX;rw [ziG];have:=zxy (zaB l) none;rw [ziw] at this;exact this
end
section
def zdR (x:Play):Prop:=Sh x.Source/\Sh x.Match/\Sh x.Player/\Sh x.Stat
structure GoodPl (k:List Play):Prop where
 len:k.length<=15
 all: ∀x∈k,zdR x
structure GoodTr (t:List Str):Prop where
 len:t.length<=4
 all: ∀s∈t,Sh s
def zhu:List Str:=[[102,97],[102,98],[102,99]]
theorem znn: ∀s∈zhu,Sh s:=fun s hs=>by simp [zhu] at hs;rcases hs with rfl|rfl|rfl<;>(unfold Sh;simp)
def zoD:List Int:=[1,1,2]
def zf8:List Str:=[[109,97],[109,98],[109,99]]
theorem zma (k:Nat):Sh (zf8.getD k []):=by
 match k with
 |0=>unfold Sh;simp [zf8]
 |1=>unfold Sh;simp [zf8]
 |2=>unfold Sh;simp [zf8]
 |n+3=>unfold Sh;simp [zf8]
theorem zvq {l:List Int} {z:Int}:l.contains z=l.any (· ==z):=by
 rw [AE,Bd,A6]
 constructor
 intro h;exact ⟨z,h,by simp⟩
 rintro ⟨y,hy,e⟩;rw [beq_iff_eq] at e;exact e▸hy
end
section
section
variable {κ:Type} [DecidableEq κ] {β:Type}
abbrev zhM (κ β:Type):=List (κ×(Value×List β))
def gVK (s:κ) (G:zhM κ β):Value:=((alk s G).getD (gZ β)).1
def gLK (s:κ) (G:zhM κ β):List β:=((alk s G).getD (gZ β)).2
def zgL {κ β:Type} (sz:Nat) (e:β->HVal) (G:zhM κ β):List MObj:=G.map fun p=> .arr p.2.1 sz (p.2.2.map e)
theorem zo6 {α:Type} {s:κ} {v:α}: ∀{G:List (κ×α)},ANodup G->(zp s v G).Perm ((s,v)::G.filter fun q=>decide (q.1≠s))
 |[],_=>by simp [zp]
 |p::r,hn=>by
   have h1:=List.nodup_cons.1 hn;simp only [zp]
   by_cases hs:s=p.1
   ·rw [if_pos hs];have h2:alk s r=none:=by rw [zdt,hs];exact h1.1
    rw [AO,if_neg (by simp [hs]),zc2 h2]
   ·rw [if_neg hs,AO,if_pos (by simp;exact fun e=>hs e.symm)];exact (List.Perm.cons p (zo6 h1.2)).trans (List.Perm.swap _ _ _)
theorem zwy {sz:Nat} {e:β->HVal} {A:List MObj} {G:zhM κ β} {s:κ} {v:Value} {l:List β} (hn:ANodup G):(.arr v sz (l.map e)::(A++zgL sz e (G.filter fun q=>decide (q.1≠s)))).Perm (A++zgL sz e (zp s (v,l) G)):=by
 have h:=((zo6 (s:=s) (v:=(v,l)) hn).map fun p=>MObj.arr p.2.1 sz (p.2.2.map e)).append_left A;refine List.Perm.symm (h.trans ?_)
 simp only [Ao,zgL];exact Bh
def zgu (G:zhM κ β) (N:List κ):zhM κ β:=G.filter fun q=>decide (q.1∉N)
theorem zBy (G:zhM κ β):zgu G []=G:=by unfold zgu;rw [Ce];simp
theorem zBw {G:zhM κ β} {N:List κ} {s:κ} (h:s∉N):alk s (zgu G N)=alk s G:=by
 have:=zko (s:=s) (p:=fun k=>decide (k∉N)) (G:=G);unfold zgu;rw [this,if_pos (by simpa using h)]
theorem zz6 (G:zhM κ β) (N:List κ) (s:κ):(zgu G N).filter (fun q=>decide (q.1≠s))=zgu G (N++[s]):=by
 unfold zgu;rw [List.filter_filter];refine List.filter_congr fun q _=> ?_
 by_cases h1:q.1∈N<;>by_cases h2:q.1=s<;>simp [h1,h2]
theorem zxZ {G:zhM κ β} {N:List κ} (h:ANodup G):ANodup (zgu G N):=by
 unfold ANodup zgu at*;exact h.sublist ((BL).map _)
theorem zBx {G:zhM κ β} {N:List κ} (h: ∀q∈G,q.1∈N):zgu G N=[]:=by
 unfold zgu;rw [List.filter_eq_nil_iff];intro q hq;simpa using h q hq
end
section
variable {P:Program} {e:Env} {κ:Type} [DecidableEq κ] {β:Type} {eb:β->HVal}
theorem zlP [Tracks] {A:List MObj} {G G':zhM κ β} {s:κ} {sz:Nat} (hn:ANodup G) (hG:alk s G=alk s G'):Ghost e (A++zgL sz eb G) e (.arr (gVK s G') sz ((gLK s G').map eb)::(A++zgL sz eb (G.filter fun q=>decide (q.1≠s)))):=by
 cases hq:alk s G with
 |none=>
   have h1:gVK s G'= .slice none 0 0:=by unfold gVK;rw [<-hG,hq];rfl
   have h2:gLK s G'=[]:=by unfold gLK;rw [<-hG,hq];rfl
   rw [h1,h2,zc2 hq];exact zJ sz
 |some q=>
   obtain ⟨v,l⟩:=q;have h1:gVK s G'=v:=by unfold gVK;rw [<-hG,hq];rfl
   have h2:gLK s G'=l:=by unfold gLK;rw [<-hG,hq];rfl
   rw [h1,h2];refine Ghost.perm ?_;have h3:=((zel hn hq).map fun p=>MObj.arr p.2.1 sz (p.2.2.map eb)).append_left A;refine h3.trans ?_;simp only [Ao,zgL];exact Bh
theorem zte [Tracks] {M:List MObj} {K:HVal->List MObj->Prop} {o:Oper} (h:EOp P e M o fun x N=> ∃N',(∀J F w,Sat P J (N++F) w->Sat P J (N'++F) w)/\K x N'):EOp P e M o K:=fun I F a w ho hs=>
 zbh (fun _ _ ⟨v,x,M',J,h1,h2,⟨N',h3,h4⟩,h5,h6⟩=>⟨v,x,N',J,h1,h2,h4,h5,h3 J F _ h6⟩) (h I F a w ho hs)
theorem zAU [Tracks] {sz:Nat} {A:List MObj} {G:zhM κ β} {s:κ} {v:Value} {l:List β} (hn:ANodup G) (J:Imm) (F:List MObj) (w:World) (hs:Sat P J ((.arr v sz (l.map eb)::(A++zgL sz eb G))++F) w):Sat P J ((A++zgL sz eb (zp s (v,l) G))++F) w:=by
 have hp:=(zwy (sz:=sz) (e:=eb) (A:=A) (s:=s) (v:=v) (l:=l) hn).append_right F
 cases hq:alk s G with
 |none=>
   rw [zc2 hq] at hp;exact hs.perm hp
 |some q=>
   have h3:=((zel hn hq).map fun p=>MObj.arr p.2.1 sz (p.2.2.map eb)).append_left A;simp only [Ao] at h3;have h4:(A++zgL sz eb G).Perm (.arr q.1 sz (q.2.map eb)::(A++zgL sz eb (G.filter fun q=>decide (q.1≠s)))):=h3.trans Bh;have h5:((MObj.arr v sz (l.map eb)::(A++zgL sz eb G))++F).Perm (.arr q.1 sz (q.2.map eb)::((.arr v sz (l.map eb)::(A++zgL sz eb (G.filter fun q=>decide (q.1≠s))))++F)):=by
    have:=(h4.cons (MObj.arr v sz (l.map eb))).append_right F;exact this.trans (List.Perm.swap _ _ _)
   exact (hs.perm h5).drop.perm hp
theorem zIU {G:zhM κ β} {s:κ} {q:Value×List β} (h:alk s G=some q):gVK s G=q.1/\gLK s G=q.2:=by
 unfold gVK gLK;rw [h];exact ⟨rfl,rfl⟩
end
end
section
/-! lines by their places,with mends-/
abbrev GrS:=List (Plc×List StatS)
def zgQ (G:GrS) (x:LineS):GrS:=zp (x.Player,x.Week) x.Stats G
def zc6 (l:List LineS):GrS:=l.foldl zgQ []
theorem zzI {l:List LineS} {k:Nat} {x:LineS} (h:l[k]? =some x):zc6 (l.take (k+1))=zp (x.Player,x.Week) x.Stats (zc6 (l.take k)):=by
 rw [zW h];simp [zc6,Ba,zgQ]
def zmb (x:MendS) (l:List StatS):List StatS:=l.filter fun s=> !(s.Name==x.Stat)
def zdW (x:MendS) (l:List StatS):List StatS:=zmb x l++if x.Count≠0 then [⟨x.Stat,x.Count⟩] else []
def zbA (n:Int) (G:GrS) (x:MendS):GrS:=if n<x.At then G else zp (x.Player,x.Week) (zdW x ((alk (x.Player,x.Week) G).getD [])) G
def zfS (G:GrS) (m:List MendS) (n:Int):GrS:=m.foldl (zbA n) G
def zfp (l:List LineS) (m:List MendS) (n:Int):GrS:=zfS (zc6 l) m n
theorem zuG {G:GrS} {m:List MendS} {n:Int} {k:Nat} {x:MendS} (h:m[k]? =some x):zfS G (m.take (k+1)) n=zbA n (zfS G (m.take k) n) x:=by
 rw [zW h];simp [zfS,Ba]
def zdO (q:Plc×List StatS):LineS:=⟨q.1.1,q.1.2,zah zaU q.2⟩
def mdL (l:List LineS) (m:List MendS) (n:Int):List LineS:=zah zco ((zfp l m n).map zdO)
theorem zmK (l:List LineS):ANodup (zc6 l):=by
 unfold zc6;have key: ∀(l:List LineS) (G:GrS),ANodup G->ANodup (l.foldl zgQ G):=fun l=>by
  induction l with
  |nil=>intro G h;exact h
  |cons x l ih=>intro G h;exact ih _ h.put
 exact key l [] ANodup.nil
theorem zwP {n:Int} {G:GrS} {x:MendS} (h:ANodup G):ANodup (zbA n G x):=by
 unfold zbA;split;exact h;exact h.put
theorem zzK (m:List MendS) (n:Int): ∀{G:GrS},ANodup G->ANodup (zfS G m n):=by
 induction m with
 |nil=>intro G h;exact h
 |cons x m ih=>intro G h;exact ih (zwP h)
theorem zxU (l:List LineS) (m:List MendS) (n:Int):ANodup (zfp l m n):=zzK m n (zmK l)
/-! how long the lists are-/
def GLen (b:Nat) (G:GrS):Prop:= ∀q∈G,q.2.length<=b
theorem GLen.put {b:Nat} {G:GrS} {p:Plc} {l:List StatS} (h:GLen b G) (hl:l.length<=b):GLen b (zp p l G):=fun q hq=>by
 rcases zcF hq with rfl|hq
 exact hl;exact h q hq
theorem GLen.get {b:Nat} {G:GrS} (h:GLen b G) (p:Plc):((alk p G).getD []).length<=b:=by
 cases hq:alk p G with
 |none=>simp
 |some l=>exact h _ (zbs hq)
theorem GLen.up {b c:Nat} {G:GrS} (h:GLen b G) (hb:b<=c):GLen c G:=fun q hq=>An (h q hq) hb
theorem zuF (x:MendS) (l:List StatS):(zmb x l).length<=l.length:=AK _ _
theorem zBe (x:MendS) (l:List StatS):(zdW x l).length<=l.length+1:=by
 have:=zuF x l;unfold zdW;rw [Ax];split;simp only [Ah,Ar];omega;simp only [Ar];omega
theorem GLen.step {b:Nat} {n:Int} {G:GrS} {x:MendS} (h:GLen b G):GLen (b+1) (zbA n G x):=by
 unfold zbA;split;exact h.up (by omega);refine (h.up (by omega)).put ?_;have h1:=zBe x ((alk (x.Player,x.Week) G).getD []);have h2:=h.get (x.Player,x.Week)
 omega
theorem zwO (m:List MendS) (n:Int): ∀{b:Nat} {G:GrS},GLen b G->GLen (b+m.length) (zfS G m n):=by
 induction m with
 |nil=>intro b G h;exact h
 |cons x m ih=>intro b G h;have:=ih (h.step (n:=n) (x:=x));rw [Ah,show b+(m.length+1)=b+1+m.length by omega];exact this
theorem zuE {b:Nat} {l:List LineS} (h: ∀x∈l,x.Stats.length<=b):GLen b (zc6 l):=by
 unfold zc6;have key: ∀(l:List LineS) (G:GrS),(∀x∈l,x.Stats.length<=b)->GLen b G->GLen b (l.foldl zgQ G):=fun l=>by
  induction l with
  |nil=>intro G _ h;exact h
  |cons x l ih=>intro G h hG;exact ih _ (fun y hy=>h y (Al _ hy)) (hG.put (h x Ai))
 exact key l [] h (fun q hq=>by cases hq)
theorem zzH (l:List LineS):(zc6 l).length<=l.length:=by
 unfold zc6;have key: ∀(l:List LineS) (G:GrS),(l.foldl zgQ G).length<=G.length+l.length:=fun l=>by
  induction l with
  |nil=>intro G;exact Ae _
  |cons x l ih=>
    intro G
    have h1:=ih (zgQ G x);have h2:(zgQ G x).length<=G.length+1:=zia _ _ _;rw [Bv,Ah];omega
 have:=key l []
 simpa using this
theorem zBc (m:List MendS) (n:Int): ∀(G:GrS),(zfS G m n).length<=G.length+m.length:=by
 induction m with
 |nil=>intro G;exact Ae _
 |cons x m ih=>
   intro G
   have h1:=ih (zbA n G x);have h2:(zbA n G x).length<=G.length+1:=by
    unfold zbA;split
    omega
    exact zia _ _ _
   rw [Ah]
   show (zfS (zbA n G x) m n).length<=_
   omega
theorem zsD (l:List LineS) (m:List MendS) (n:Int):(zfp l m n).length<=l.length+m.length:=An (zBc m n _) (by have:=zzH l;omega)
/-! names within a list-/
def GNm (G:GrS):Prop:= ∀q∈G,(q.2.map (·.Name)).Nodup
theorem GNm.put {G:GrS} {p:Plc} {l:List StatS} (h:GNm G) (hl:(l.map (·.Name)).Nodup):GNm (zp p l G):=fun q hq=>by
 rcases zcF hq with rfl|hq
 exact hl;exact h q hq
theorem GNm.get {G:GrS} (h:GNm G) (p:Plc):(((alk p G).getD []).map (·.Name)).Nodup:=by
 cases hq:alk p G with
 |none=>exact Bb
 |some l=>exact h _ (zbs hq)
theorem zq4 {x:MendS} {l:List StatS} (h:(l.map (·.Name)).Nodup):((zdW x l).map (·.Name)).Nodup:=by
 have h1:((zmb x l).map (·.Name)).Nodup:=h.sublist ((BL).map _);unfold zdW
 split
 rw [Ay];refine List.nodup_append.2 ⟨h1,by simp,fun a ha b hb=> ?_⟩
 simp at hb;subst hb
 obtain ⟨s,hs,rfl⟩:=List.mem_map.1 ha;have:=(List.mem_filter.1 hs).2
 simpa using this
 rw [AV];exact h1
theorem GNm.step {n:Int} {G:GrS} {x:MendS} (h:GNm G):GNm (zbA n G x):=by
 unfold zbA;split;exact h;exact h.put (zq4 (h.get _))
theorem zzJ (m:List MendS) (n:Int): ∀{G:GrS},GNm G->GNm (zfS G m n):=by
 induction m with
 |nil=>intro G h;exact h
 |cons x m ih=>intro G h;exact ih h.step
theorem zxR {l:List LineS} (h: ∀x∈l,(x.Stats.map (·.Name)).Nodup):GNm (zc6 l):=by
 unfold zc6;have key: ∀(l:List LineS) (G:GrS),(∀x∈l,(x.Stats.map (·.Name)).Nodup)->GNm G->GNm (l.foldl zgQ G):=fun l=>by
  induction l with
  |nil=>intro G _ h;exact h
  |cons x l ih=>intro G h hG;exact ih _ (fun y hy=>h y (Al _ hy)) (hG.put (h x Ai))
 exact key l [] h (fun q hq=>by cases hq)
theorem zxT {l:List LineS} {m:List MendS} {n:Int} (h: ∀x∈l,(x.Stats.map (·.Name)).Nodup):GNm (zfp l m n):=zzJ m n (zxR h)
theorem ztS {l:List StatS} (h:(l.map (·.Name)).Nodup) {x y:StatS} (hx:x∈l) (hy:y∈l) (e:x.Name=y.Name):x=y:=by
 obtain ⟨i,hi⟩:=A5 hx;obtain ⟨j,hj⟩:=A5 hy;have:=zok h (a:=x.Name) (i:=i) (j:=j) (by rw [Aj,hi];rfl) (by rw [Aj,hj,e];rfl);rw [this,hj] at hi;exact (As hi).symm
theorem zx2 {l l':List StatS} (h:(l.map (·.Name)).Nodup) (hp:l'.Perm l) (hw:l'.Pairwise fun a b=> ¬zaU b a<0):l'=zah zaU l:=
 zdV zcn (fun _ _ hx hy e=>ztS h hx hy (zbi.1 e)) hp hw
/-! groups of owned slices that hold such a map-/
abbrev GrV:=zhM Plc StatS
def zgn (G:GrV):GrS:=G.map fun q=>(q.1,q.2.2)
theorem zry {p:Plc} {v:Value} {l:List StatS}: ∀{G:GrV},zgn (zp p (v,l) G)=zp p l (zgn G)
 |[]=>rfl
 |q::r=>by
   have ih:=zry (p:=p) (v:=v) (l:=l) (G:=r);simp only [zgn,zp,Ao] at ih⊢
   by_cases h:p=q.1
   rw [if_pos h,if_pos h];rfl;rw [if_neg h,if_neg h,Ao,ih]
theorem zwl (p:Plc) (G:GrV):(alk p (zgn G)).getD []=gLK p G:=by
 unfold zgn gLK;rw [zqn (fun q:Value×List StatS=>q.2) p G]
 cases alk p G<;>rfl
theorem zB3 (G:GrV):(zgn G).length=G.length:=by unfold zgn;simp
theorem zBf {n:Int} {G:GrV} {x:MendS} (h: ¬n<x.At) (v:Value):zgn (zp (x.Player,x.Week) (v,zdW x (gLK (x.Player,x.Week) G)) G)=zbA n (zgn G) x:=by
 rw [zry,zbA,if_neg h,zwl]
abbrev zn4 (q:Plc×(Value×List StatS)):LineS:=zdO (q.1,q.2.2)
theorem zF6 {l:List LineS} {m:List MendS} {n:Int} {G E:GrV} (hG:zgn G=zfp l m n) (hE:E.Perm G) {out:List LineS} (hp:out.Perm (E.map zn4)) (hw:out.Pairwise fun a b=> ¬zco b a<0):out=mdL l m n:=by
 have hn:ANodup (zfp l m n):=zxU l m n;have hm:((zfp l m n).map zdO).Perm out:=by
  rw [<-hG];refine List.Perm.trans ?_ hp.symm
  unfold zgn;rw [AW];exact (hE.map zn4).symm
 refine zdV zfM (fun x y hx hy e=> ?_) hm.symm hw
 obtain ⟨p,hp1,rfl⟩:=List.mem_map.1 hx;obtain ⟨q,hq1,rfl⟩:=List.mem_map.1 hy;obtain ⟨e1,e2⟩:=zlV.1 e;have e3:p.1=q.1:=Prod.ext e1 e2;have a1:=(zcX hn (x:=p.1) (v:=p.2)).1 hp1;have a2:=(zcX hn (x:=q.1) (v:=q.2)).1 hq1;rw [<-e3,a1] at a2;have e4:p.2=q.2:=As a2;rw [show p=q from Prod.ext e3 e4]
abbrev zkO (l:List LineS) (m:List MendS) (n:Int):Int:=if orI [zap l,zbY m]≠0 then orI [zap l,zbY m] else if zN n then 0 else 1
abbrev zkP (l:List LineS) (m:List MendS) (n:Int):List LineS:=if orI [zap l,zbY m]≠0 then [] else if zN n then mdL l m n else []
theorem zCF {a b:Int} (h:orI [a,b]=0):a=0/\b=0:=by rw [zdx] at h;exact zyA h
theorem zEZ {l:List LineS} {m:List MendS} {n:Int} {k:Nat} {G:GrV} (hL: ∀x∈l,x.Stats.length<=1000) (hm:m.length<=100) (hc:zgn G=zfS (zc6 l) (m.take k) n) (p:Plc):(gLK p G).length<=1100:=by
 rw [<-zwl,hc];have h1:=(zwO (m.take k) n (zuE hL)).get p;have h2:(m.take k).length<=m.length:=by rw [Az];omega
 omega
theorem zE0 {l:List LineS} {m:List MendS} {n:Int} {G:GrV} (hl:l.length<=1000) (hm:m.length<=100) (hc:zgn G=zfS (zc6 l) m n):G.length<=1100:=by
 have h1:=zB3 G;rw [hc] at h1;have h2:=zsD l m n;unfold zfp at h2
 omega
theorem zwm {G:GrV} {q:Plc×(Value×List StatS)} (h:q∈G):(q.1,q.2.2)∈zgn G:=List.mem_map.2 ⟨q,h,rfl⟩
theorem zF7 {l:List LineS} {m:List MendS} {n:Int} {G:GrV} {q:Plc×(Value×List StatS)} (h40:GLen 40 (zfp l m n)) (hc:zgn G=zfS (zc6 l) m n) (hq:q∈G):q.2.2.length<=40:=by
 have h1:=zwm hq;rw [hc] at h1;exact h40 _ h1
theorem zIX {l:List LineS} {m:List MendS} {n:Int} {G:GrV} {q:Plc×(Value×List StatS)} (hs: ∀x∈l,(x.Stats.map (·.Name)).Nodup) (hc:zgn G=zfS (zc6 l) m n) (hq:q∈G):(q.2.2.map (·.Name)).Nodup:=by
 have h1:=zwm hq;rw [hc] at h1;exact zxT (m:=m) (n:=n) hs _ h1
/-! counts of lines-/
def zlq {κ α:Type} [DecidableEq κ] (D S:List (κ×α)):List (κ×α):=S.foldl (fun C p=>zp p.1 p.2 C) D
theorem zBh {κ α:Type} [DecidableEq κ] {y:κ}: ∀{S D:List (κ×α)},y∈(zlq D S).map (·.1)↔y∈D.map (·.1)\/y∈S.map (·.1)
 |[],D=>by simp [zlq]
 |p::r,D=>by
   have ih:=zBh (y:=y) (S:=r) (D:=zp p.1 p.2 D)
   show y∈(zlq (zp p.1 p.2 D) r).map (·.1)↔_
   rw [ih,zlQ,Ao,BS]
   constructor
   rintro ((h|h)|h);exact .inr (.inl h);exact .inl h;exact .inr (.inr h);rintro (h|h|h);exact .inl (.inr h);exact .inl (.inl h);exact .inr h
theorem zsF {κ α:Type} [DecidableEq κ]: ∀{S D:List (κ×α)},ANodup D->ANodup (zlq D S)
 |[],_,h=>h
 |p::r,D,h=>zsF (S:=r) (D:=zp p.1 p.2 D) h.put
theorem zwT {κ α:Type} [DecidableEq κ]: ∀(S D:List (κ×α)),(zlq D S).length<=D.length+S.length
 |[],D=>Ae _
 |p::r,D=>by
   have h1:=zwT r (zp p.1 p.2 D);have h2:=zia p.1 p.2 D;rw [Ah]
   show (zlq (zp p.1 p.2 D) r).length<=_
   omega
end
section
/-! one list of statistics by name-/
abbrev stA (l:List StatS):List (Str×Int):=l.map fun s=>(s.Name,s.Count)
def sv (l:List StatS) (s:Str):Int:=(alk s (stA l)).getD 0
structure StOk (l:List StatS):Prop where
 nd:(l.map (·.Name)).Nodup
 nz: ∀x∈l,x.Count≠0
theorem zqh {l:List StatS} (h:(l.map (·.Name)).Nodup):ANodup (stA l):=by
 unfold ANodup;rw [AW];exact h
theorem zBJ {l:List StatS} (h:StOk l) {x:StatS}:x∈l↔x.Count≠0/\sv l x.Name=x.Count:=by
 have hn:=zqh h.nd
 constructor
 intro hx
 have h1:(x.Name,x.Count)∈stA l:=List.mem_map.2 ⟨x,hx,rfl⟩;rw [zcX hn] at h1;exact ⟨h.nz x hx,by unfold sv;rw [h1];rfl⟩;rintro ⟨h1,h2⟩;unfold sv at h2
 cases hq:alk x.Name (stA l) with
 |none=>rw [hq] at h2;exact absurd h2.symm h1
 |some v=>
   rw [hq] at h2;have h3:v=x.Count:=h2;rw [h3] at hq;obtain ⟨y,hy,e⟩:=List.mem_map.1 (zbs hq);have e1:y.Name=x.Name:=congrArg Prod.fst e;have e2:y.Count=x.Count:=congrArg Prod.snd e;have:y=x:=by cases y;cases x;simp only at e1 e2;rw [e1,e2]
   rw [<-this];exact hy
theorem StOk.nodup {l:List StatS} (h:StOk l):l.Nodup:=(List.pairwise_map.1 h.nd).imp fun h e=>h (congrArg _ e)
theorem zFz {l l':List StatS} (h:StOk l) (h':StOk l') (he: ∀s,sv l s=sv l' s):l.Perm l':=
 (Bi h.nodup h'.nodup).2 fun a=>by rw [zBJ h,zBJ h',he]
theorem zFA {l l':List StatS} (h:StOk l) (h':StOk l') (he: ∀s,sv l s=sv l' s):zah zaU l=zah zaU l':=
 zpQ zcn (fun _ _=>trivial) (fun _ _ hx hy e=>ztS h.nd hx hy (zbi.1 e)) (zFz h h' he)
theorem zFC {l l':List StatS} (h:(l'.map (·.Name)).Nodup) (hp:l.Perm l') (s:Str):sv l s=sv l' s:=by
 unfold sv;rw [zv5 (hp.map _) (zqh h)]
theorem StOk.sort {l:List StatS} (h:StOk l):StOk (zah zaU l) where
 nd:=((za5 zaU l).map _).nodup_iff.2 h.nd
 nz x hx:=h.nz x ((ze7 _).1 hx)
theorem zth {κ α:Type} [DecidableEq κ] (k:κ): ∀(A B:List (κ×α)),alk k (A++B)=(alk k A).or (alk k B)
 |[],B=>by simp [alk]
 |p::r,B=>by
   have ih:=zth k r B;simp only [A0,alk]
   by_cases h:k=p.1
   rw [if_pos h,if_pos h];rfl;rw [if_neg h,if_neg h,ih]
theorem zFy (x:MendS) (l:List StatS):stA (zmb x l)=(stA l).filter fun q=> !(q.1==x.Stat):=by
 unfold stA zmb;rw [List.filter_map];rfl
theorem zGu (x:MendS) (l:List StatS) (s:Str):sv (zdW x l) s=if s=x.Stat then x.Count else sv l s:=by
 have h1:alk s (stA (zmb x l))=if s=x.Stat then none else alk s (stA l):=by
  rw [zFy,zko (s:=s) (p:=fun k=> !(k==x.Stat))]
  by_cases h:s=x.Stat
  rw [if_pos h,if_neg (by simp [h])];rw [if_neg h,if_pos (by simp [h])]
 have h2:stA (zdW x l)=stA (zmb x l)++stA (if x.Count≠0 then [⟨x.Stat,x.Count⟩] else []):=by unfold stA zdW;rw [Ay]
 unfold sv;rw [h2,zth,h1]
 by_cases h:s=x.Stat
 rw [if_pos h,if_pos h]
 by_cases hc:x.Count=0
 rw [if_neg (by simp [hc])];simp [alk,hc];rw [if_pos hc];simp [alk,h];rw [if_neg h,if_neg h];have:alk s (stA (if x.Count≠0 then [⟨x.Stat,x.Count⟩] else []))=none:=by
  split
  simp [alk,h]
  rfl
 rw [this];cases alk s (stA l)<;>rfl
theorem StOk.put {x:MendS} {l:List StatS} (h:StOk l):StOk (zdW x l) where
 nd:=zq4 h.nd
 nz y hy:=by
  unfold zdW at hy
  rcases List.mem_append.1 hy with hy|hy
  exact h.nz y (List.mem_filter.1 hy).1
  split at hy
  rename_i hc;rw [List.mem_singleton.1 hy];exact hc
  cases hy
theorem StOk.nil:StOk []:=⟨Bb,fun x h=>by cases h⟩
/-! all lists by place-/
structure GSOk (G:GrS):Prop where
 nd:ANodup G
 ok: ∀q∈G,StOk q.2
def gv (G:GrS) (p:Plc) (s:Str):Int:=sv ((alk p G).getD []) s
theorem GSOk.get {G:GrS} (h:GSOk G) (p:Plc):StOk ((alk p G).getD []):=by
 cases hq:alk p G with
 |none=>exact StOk.nil
 |some l=>exact h.ok _ (zbs hq)
theorem GSOk.step {n:Int} {G:GrS} {x:MendS} (h:GSOk G):GSOk (zbA n G x):=by
 unfold zbA;split;exact h;refine ⟨h.nd.put,fun q hq=> ?_⟩
 rcases zcF hq with rfl|hq
 exact (h.get _).put;exact h.ok q hq
theorem GSOk.go {m:List MendS} {n:Int}: ∀{G:GrS},GSOk G->GSOk (zfS G m n):=by
 induction m with
 |nil=>intro G h;exact h
 |cons x m ih=>intro G h;exact ih h.step
theorem zoi {G:GrS} (h:ANodup G):(G.map zdO).Nodup:=by
 refine List.pairwise_map.2 ((List.pairwise_map.1 h).imp fun {a b} hab e=>hab ?_)
 have e1:a.1.1=b.1.1:=congrArg LineS.Player e;have e2:a.1.2=b.1.2:=congrArg LineS.Week e;exact Prod.ext e1 e2
theorem zD4 {G H:GrS} (hG:GSOk G) (hH:GSOk H) (hd: ∀p,(alk p G).isSome=true->(alk p H).isSome=true) (hv: ∀p s,gv G p s=gv H p s) {y:LineS} (hy:y∈G.map zdO):y∈H.map zdO:=by
 obtain ⟨q,hq,rfl⟩:=List.mem_map.1 hy;have h1:=(zcX hG.nd (x:=q.1) (v:=q.2)).1 hq;have h2:=hd q.1 (by rw [h1];rfl);obtain ⟨l',h3⟩:=Option.isSome_iff_exists.1 h2;have h4:=zbs h3;refine List.mem_map.2 ⟨_,h4,?_⟩
 have h5:zah zaU l'=zah zaU q.2:=by
  refine zFA (hH.ok _ h4) (hG.ok _ hq) fun s=> ?_
  have:=hv q.1 s;unfold gv at this;rw [h1,h3] at this;exact this.symm
 simp only [zdO,h5]
theorem zFT {G H:GrS} (hG:GSOk G) (hH:GSOk H) (hd: ∀p,(alk p G).isSome=true↔(alk p H).isSome=true) (hv: ∀p s,gv G p s=gv H p s):(G.map zdO).Perm (H.map zdO):=
 (Bi (zoi hG.nd) (zoi hH.nd)).2 fun _=>⟨zD4 hG hH (fun p=>(hd p).1) hv,zD4 hH hG (fun p=>(hd p).2) fun p s=>(hv p s).symm⟩
theorem zuH {G:GrS} (hG:ANodup G) {x y:LineS} (hx:x∈G.map zdO) (hy:y∈G.map zdO) (e:zco x y=0):x=y:=by
 obtain ⟨p,hp1,rfl⟩:=List.mem_map.1 hx;obtain ⟨q,hq1,rfl⟩:=List.mem_map.1 hy;obtain ⟨e1,e2⟩:=zlV.1 e;have e3:p.1=q.1:=Prod.ext e1 e2;have a1:=(zcX hG (x:=p.1) (v:=p.2)).1 hp1;have a2:=(zcX hG (x:=q.1) (v:=q.2)).1 hq1;rw [<-e3,a1] at a2;have e4:p.2=q.2:=As a2;rw [show p=q from Prod.ext e3 e4]
theorem zFU {G H:GrS} (hG:GSOk G) (hH:GSOk H) (hd: ∀p,(alk p G).isSome=true↔(alk p H).isSome=true) (hv: ∀p s,gv G p s=gv H p s):zah zco (G.map zdO)=zah zco (H.map zdO):=
 zpQ zfM (fun _ _=>trivial) (fun _ _ hx hy e=>zuH hG.nd hx hy e) (zFT hG hH hd hv)
/-! what a mend does-/
abbrev plM (x:MendS):Plc:=(x.Player,x.Week)
abbrev plL (x:LineS):Plc:=(x.Player,x.Week)
theorem zEH (n:Int) (G:GrS) (x:MendS) (p:Plc) (s:Str):gv (zbA n G x) p s=if x.At<=n/\p=plM x/\s=x.Stat then x.Count else gv G p s:=by
 unfold zbA gv
 by_cases h:n<x.At
 rw [if_pos h,if_neg (by omega)];rw [if_neg h,za3]
 by_cases hp:p=plM x
 rw [if_pos hp]
 show sv (zdW x _) s=_
 rw [zGu,hp]
 by_cases hs:s=x.Stat
 rw [if_pos hs,if_pos ⟨by omega,rfl,hs⟩];rw [if_neg hs,if_neg (fun e=>hs e.2.2)];rw [if_neg hp,if_neg (fun e=>hp e.2.1)]
theorem zEE (n:Int) (G:GrS) (x:MendS) (p:Plc):(alk p (zbA n G x)).isSome=true↔(alk p G).isSome=true\/(x.At<=n/\p=plM x):=by
 unfold zbA
 by_cases h:n<x.At
 rw [if_pos h]
 constructor
 exact .inl;rintro (h'|⟨h',_⟩);exact h'
 omega
 rw [if_neg h,za3]
 by_cases hp:p=plM x
 rw [if_pos hp];simp;exact .inr ⟨by omega,hp⟩;rw [if_neg hp]
 constructor
 exact .inl;rintro (h'|⟨_,h'⟩);exact h';exact absurd h' hp
abbrev lnA (l:List LineS):GrS:=l.map fun y=>(plL y,y.Stats)
theorem zrF {l:List LineS} (h:(l.map plL).Nodup):zc6 l=lnA l:=by
 have key: ∀(l:List LineS) (G:GrS),(l.map plL).Nodup->(∀y∈l,alk (plL y) G=none)->l.foldl zgQ G=G++lnA l:=fun l=>by
  induction l with
  |nil=>intro G _ _;simp
  |cons x l ih=>
    intro G hn hG
    obtain ⟨h1,h2⟩:=List.nodup_cons.1 (by simpa using hn:(plL x::l.map plL).Nodup);have e:zgQ G x=G++[(plL x,x.Stats)]:=zk3 (hG x Ai);rw [Bv,e,ih _ h2]
    simp
    intro y hy
    rw [zth,hG y (Al _ hy)];have:plL y≠plL x:=fun e=>h1 (e▸Bw hy)
    simp [alk,this]
 have h1:=key l [] h (fun y _=>rfl);exact h1
theorem zrS {l:List LineS} (h:l.Pairwise fun a b=>zco a b<0):(l.map plL).Nodup:=by
 refine List.pairwise_map.2 (h.imp fun {a b} hab e=> ?_)
 have:=zlV.2 ⟨congrArg Prod.fst e,congrArg Prod.snd e⟩
 omega
theorem zCE {l:List StatS} (h:l.Pairwise fun a b=>zaU a b<0):(l.map (·.Name)).Nodup:=by
 refine List.pairwise_map.2 (h.imp fun {a b} hab e=> ?_)
 have:zaU a b=0:=zbi.2 e
 omega
theorem zDf {l:List StatS} (h:zbr l=0):StOk l:=by
 obtain ⟨_,h2,h3⟩:=zqi h;exact ⟨zCE h3,fun x hx=>(zfB.1 (h2 x hx)).2.2⟩
theorem zoe {l:List LineS} (h:zap l=0) {x:LineS} (hx:x∈l):StOk x.Stats:=zDf (zez.1 ((zeb h).2.1 x hx)).2.2
theorem zzG {l:List LineS} (h:zap l=0): ∀x∈l,(x.Stats.map (·.Name)).Nodup:=fun _ hx=>(zoe h hx).nd
theorem zrG {l:List LineS} (h:zap l=0):GSOk (zc6 l):=by
 have hn:=zrS (zeb h).2.2;refine ⟨zmK l,fun q hq=> ?_⟩
 rw [zrF hn] at hq;obtain ⟨y,hy,rfl⟩:=List.mem_map.1 hq;exact zoe h hy
/-! what the mended lines are-/
structure GVal (G:GrS):Prop where
 pl: ∀q∈G,key q.1.1=true/\zar q.1.2=true
 st: ∀q∈G,∀s∈q.2,key s.Name=true/\(-100000<=s.Count/\s.Count<=100000)
theorem GVal.step {n:Int} {G:GrS} {x:MendS} (h:GVal G) (hx:zaS x=0):GVal (zbA n G x):=by
 obtain ⟨k1,k2,k3,k4,_⟩:=zwR hx;unfold zbA;split;exact h;refine ⟨fun q hq=> ?_,fun q hq s hs=> ?_⟩
 rcases zcF hq with rfl|hq
 exact ⟨k1,k3⟩;exact h.pl q hq
 rcases zcF hq with rfl|hq
 unfold zdW at hs
 rcases List.mem_append.1 hs with hs|hs
 have h1:=(List.mem_filter.1 hs).1
 cases ha:alk (x.Player,x.Week) G with
 |none=>rw [ha] at h1;cases h1
 |some l=>rw [ha] at h1;exact h.st _ (zbs ha) s h1
 split at hs
 rw [List.mem_singleton.1 hs];exact ⟨k2,k4⟩
 cases hs
 exact h.st q hq s hs
theorem GVal.go {n:Int}: ∀{m:List MendS} {G:GrS},GVal G->(∀x∈m,zaS x=0)->GVal (zfS G m n)
 |[],_,h,_=>h
 |x::m,_,h,hm=>GVal.go (m:=m) (h.step (hm x Ai)) fun y hy=>hm y (Al _ hy)
theorem zA8 {l:List LineS} (h:zap l=0):GVal (zc6 l):=by
 have hn:=zrS (zeb h).2.2;rw [zrF hn];refine ⟨fun q hq=> ?_,fun q hq s hs=> ?_⟩
 obtain ⟨y,hy,rfl⟩:=List.mem_map.1 hq;obtain ⟨a1,a2,_⟩:=zez.1 ((zeb h).2.1 y hy);exact ⟨a1,a2⟩;obtain ⟨y,hy,rfl⟩:=List.mem_map.1 hq;obtain ⟨_,_,a3⟩:=zez.1 ((zeb h).2.1 y hy);obtain ⟨b1,b2,_⟩:=zfB.1 ((zqi a3).2.1 s hs);exact ⟨b1,b2⟩
theorem zrc {l:List StatS} (h:(l.map (·.Name)).Nodup):(zah zaU l).Pairwise fun a b=>zaU a b<0:=by
 have h1:=zex zcn (l:=l) (fun _ _=>trivial);have h2:((zah zaU l).map (·.Name)).Nodup:=((za5 zaU l).map _).nodup_iff.2 h;refine (h1.and (List.pairwise_map.1 h2)).imp fun {a b} hab=> ?_
 have h3:zaU a b≠0:=fun e=>hab.2 (zbi.1 e)
 omega
theorem zwI {G:GrS} (h:ANodup G):(zah zco (G.map zdO)).Pairwise fun a b=>zco a b<0:=by
 have h1:=zex zfM (l:=G.map zdO) (fun _ _=>trivial);have h2:(zah zco (G.map zdO)).Nodup:=(za5 zco _).nodup_iff.2 (zoi h);refine (List.Pairwise.and_mem.1 (h1.and h2)).imp fun {a b} hab=> ?_
 have h3:zco a b≠0:=fun e=>hab.2.2.2 (zuH h ((ze7 _).1 hab.1) ((ze7 _).1 hab.2.1) e)
 omega
theorem zBd {a:List LineS} {m:List MendS} {n:Int} (ha:zap a=0) (hm:zbY m=0) (h40:GLen 40 (zfp a m n)) (hmany:(zfp a m n).length<=30000):zap (mdL a m n)=0:=by
 have hG:GSOk (zfp a m n):=(zrG ha).go;have hV:GVal (zfp a m n):=(zA8 ha).go (zuL hm).2.1;refine zsy (by unfold mdL;rw [zbX,Af];exact hmany) (fun y hy=> ?_) (zwI hG.nd)
 unfold mdL at hy;rw [ze7] at hy;obtain ⟨q,hq,rfl⟩:=List.mem_map.1 hy;have hq2:=hG.ok q hq;obtain ⟨k1,k2⟩:=hV.pl q hq;refine zez.2 ⟨k1,k2,zu9 (by show (zah zaU q.2).length<=40;rw [zbX];exact h40 q hq) (fun s hs=> ?_) (zrc hq2.nd)⟩
 have hs':s∈q.2:=(ze7 _).1 hs;obtain ⟨k3,k4⟩:=hV.st q hq s hs';exact zfB.2 ⟨k3,k4,hq2.nz s hs'⟩
end
section
/-! mends as they are made up-/
def zix (x:MendS):Prop:=Sh x.Player/\Sh x.Stat/\Sh x.By
structure GoodMds (k:List MendS):Prop where
 len:k.length<=24
 all: ∀x∈k,zix x
def mp3:List Str:=[[97,110,110],[98,101,97],[122,111,101]]
def ms2:List Str:=[[103,111,97,108],[112,97,115,115]]
theorem zGb: ∀s∈mp3,Sh s:=fun s hs=>by
 simp [mp3] at hs;rcases hs with rfl|rfl|rfl<;>(unfold Sh;simp)
theorem zGc: ∀s∈ms2,Sh s:=fun s hs=>by
 simp [ms2] at hs;rcases hs with rfl|rfl<;>(unfold Sh;simp)
theorem GLok.mono {α:Type} {P:α->Prop} {n n' m m':Nat} {q:GL α} (h:GLok P n m q) (hn:n<=n') (hm:m<=m'):GLok P n' m' q:=⟨An h.len hn,h.all,An h.a hm⟩
/-! the lines of plays,with mends-/
def zdP (m:List MendS) (week:Int):List MendS:=m.filter fun y=>y.Week==week
theorem zgT (m:List MendS) (week:Int):(zdP m week).length<=m.length:=AK _ _
theorem zvu (m:List MendS) (week:Int) (k:Nat):(zdP (m.take k) week).length<=k:=An (zgT _ _) (by rw [Az];omega)
theorem zCH {m:List MendS} {week:Int} {k:Nat} {x:MendS} (h:m[k]? =some x) (e:x.Week=week):zdP (m.take (k+1)) week=zdP (m.take k) week++[x]:=by
 unfold zdP;rw [zW h,AX];simp [e]
theorem zE9 {m:List MendS} {week:Int} {k:Nat} {x:MendS} (h:m[k]? =some x) (e: ¬x.Week=week):zdP (m.take (k+1)) week=zdP (m.take k) week:=by
 unfold zdP;rw [zW h,AX];simp [e]
def knL (l:List Play) (t:List Str) (m:List MendS) (week n:Int):List LineS:=if zf7 l t week n≠0 then [] else mdL (zdN l t week n) m n
theorem zoP {c:List (Of2×Int)} (hn:ANodup c) (s:Str):((zck c s).map (·.Name)).Nodup:=by
 unfold zck;refine ((za5 zaU _).map _).nodup_iff.2 ?_;have hr:(za0 c s).Nodup:=by
  unfold za0;refine List.pairwise_map.2 (((List.pairwise_map.1 hn).filter _).imp_of_mem fun {a b} ha hb hab e=>hab ?_)
  have h1:=(List.mem_filter.1 ha).2;have h2:=(List.mem_filter.1 hb).2;simp only [AZ,beq_iff_eq] at h1 h2;have e1:a.1.2=b.1.2:=congrArg StatS.Name e;exact Prod.ext (h1.1.trans h2.1.symm) e1
 refine List.pairwise_map.2 (hr.imp_of_mem fun {a b} ha hb hab e=>hab (zuW hn s ha hb e))
theorem zgP {l:List Play} {t:List Str} {week n:Int} (hok: ∀x∈l,playFault x=0) (hl:l.length<=15):
 (zdN l t week n).length<=15/\∀y∈zdN l t week n,y.Stats.length<=15/\(y.Stats.map (·.Name)).Nodup/\y.Week=week:=by
 have h:=zog (l:=l) (m:=l) (trust:=t) (week:=week) (n:=n) hok;have a1:=h.Sl;have a2:=h.cl;unfold zdN zin
 split
 exact ⟨Ad _,fun y hy=>by cases hy⟩;refine ⟨by rw [Af,(ziS _).length_eq];omega,fun y hy=> ?_⟩
 obtain ⟨s,_,rfl⟩:=List.mem_map.1 hy;refine ⟨?_,zoP h.c s,rfl⟩
 have h2:=zmL (zaI l t week n l).c s
 show (zck (zaI l t week n l).c s).length<=15
 unfold zck;rw [zbX];omega
theorem zof {l:List Play} {t:List Str} {m:List MendS} {week n:Int} (hok: ∀x∈l,playFault x=0) (hl:l.length<=15) (hm:m.length<=24):GLen 40 (zfp (zdN l t week n) m n):=
 (zwO m n (zuE fun x hx=>((zgP hok hl).2 x hx).1)).up (by omega)
theorem zE1 {l:List LineS} {m:List MendS} {n week:Int} (hl: ∀y∈l,y.Week=week) (hm: ∀x∈m,x.Week=week): ∀y∈mdL l m n,y.Week=week:=by
 have h0: ∀q∈zc6 l,q.1.2=week:=by
  unfold zc6;have key: ∀(l:List LineS) (G:GrS),(∀y∈l,y.Week=week)->(∀q∈G,q.1.2=week)->∀q∈l.foldl zgQ G,q.1.2=week:=fun l=>by
   induction l with
   |nil=>intro G _ h;exact h
   |cons x l ih=>
     intro G h hG
     refine ih _ (fun y hy=>h y (Al _ hy)) fun q hq=> ?_
     rcases zcF hq with rfl|hq
     exact h x Ai;exact hG q hq
  exact key l [] hl (fun q hq=>by cases hq)
 have h1: ∀(m:List MendS) (G:GrS),(∀x∈m,x.Week=week)->(∀q∈G,q.1.2=week)->∀q∈zfS G m n,q.1.2=week:=fun m=>by
  induction m with
  |nil=>intro G _ h;exact h
  |cons x m ih=>
    intro G h hG
    refine ih (zbA n G x) (fun y hy=>h y (Al _ hy)) fun q hq=> ?_
    unfold zbA at hq
    split at hq
    exact hG q hq
    rcases zcF hq with rfl|hq
    exact h x Ai;exact hG q hq
 intro y hy
 unfold mdL at hy;rw [ze7] at hy;obtain ⟨q,hq,rfl⟩:=List.mem_map.1 hy;exact h1 m _ hm h0 q hq
theorem zCK (m:List MendS) (week:Int): ∀x∈zdP m week,x.Week=week:=fun x hx=>by
 have:=(List.mem_filter.1 hx).2;simpa using this
theorem zEW {l:List Play} {t:List Str} {m:List MendS} {week n:Int} (hok: ∀x∈l,playFault x=0) (hl:l.length<=15): ∀y∈knL l t (zdP m week) week n,y.Week=week:=by
 unfold knL
 split
 intro y hy;cases hy
 exact zE1 (fun y hy=>((zgP hok hl).2 y hy).2.2) (zCK m week)
end
section
open Op
structure BookC (b:BookS):Prop where
 bb:BookB b
 gw: ∀x∈b.League.Games,GamB x
 mb: ∀x∈b.Moves,MovB x
 hw: ∀x∈b.Health,-1000000000000000<=x.To/\x.To<=1000000000000000
 tr: ∀s∈b.League.Trust,Sh s
 pg: ∀x∈b.Plays,zdR x
 mg: ∀x∈b.Mends,zix x
 cs: ∀x∈b.Choices,(∀s∈x.Players,Sh s)/\Sh x.Captain
 l1:b.Moves.length<=10
 l2:b.Plays.length<=15
 l3:b.Mends.length<=24
 l4:b.Health.length<=10
 l5:b.Choices.length<=20
 tt:HasAB b.League.Teams
 l6:b.League.Teams.length<=5
theorem zBj {s:Str}:(!(zcx s))=(s !=[]&& !(key s)):=by
 unfold zcx
 cases s with
 |nil=>rfl
 |cons x r=>cases key (x::r)<;>rfl
theorem zBk {l:List Str} {s:Str}:((l++[s]).all zcx)= !((l.any fun x=> !(zcx x))|| !(zcx s)):=by
 rw [List.all_append,Cd,List.all_nil,Bool.and_true,Bool.not_or,Bool.not_not,List.all_eq_not_any_not]
theorem zxV {l:List Str} {c:Str} (h:(∃s,s∈l/\zcx s=false)\/zcx c=false):((l++[c]).all zcx)=false:=by
 rcases h with ⟨s,hs,e⟩|e
 exact List.all_eq_false.2 ⟨s,Ap _ hs,by rw [e];simp⟩;exact List.all_eq_false.2 ⟨c,Be _ (List.mem_singleton.2 rfl),by rw [e];simp⟩
def zaH (g:LeagueS) (w:Int):Int:=g.Start+(w-1)*604800000
def zdG (g:LeagueS) (at':Int):Int:=if at'<g.Start\/zaH g 61<=at' then 0 else (at'-g.Start)/604800000+1
end
section
open Op
theorem zy2:Cmp (fun x y:{m:MoveS//MovB m}=>zhF x.1 y.1) fun _=>True where
 flip x y _ _:=zlU.flip x.1 y.1 trivial trivial
 trans x y z _ _ _ h1 h2:=zlU.trans x.1 y.1 z.1 trivial trivial trivial h1 h2
theorem zy1:Cmp (fun x y:{m:GameS//GamB m}=>zg5 x.1 y.1) fun _=>True where
 flip x y _ _:=zlT.flip x.1 y.1 trivial trivial
 trans x y z _ _ _ h1 h2:=zlT.trans x.1 y.1 z.1 trivial trivial trivial h1 h2
theorem znt {α:Type} {p:α->Prop} {l:List α} (h: ∀x∈l,p x):(l.attachWith p h).map Subtype.val=l:=by simp
theorem zrZ {α β:Type} {p:α->Prop} {l:List α} (h: ∀x∈l,p x) (f:α->β):(l.attachWith p h).map (fun x=>f x.1)=l.map f:=by
 have e:(l.attachWith p h).map (fun x=>f x.1)=((l.attachWith p h).map Subtype.val).map f:=by rw [AW];rfl
 rw [e,znt]
end
section
open Go
structure RosS where
 P:List (Str×List Str)
 H:List (Str×List Str)
 O:List (Str×Str)
 D:List (Str×Int)
 A:List ((Str×Int)×Int)
def zrI:RosS:=⟨[],[],[],[],[]⟩
def zgM (l:List Str) (s:Str):List Str:=l.take (zeF l s)++s::l.drop (zeF l s)
def zjh (l:List Str) (s:Str):List Str:=l.filter fun x=> !(x==s)
def rPl (k:RosS) (t:Str):List Str:=(alk t k.P).getD []
def rHu (k:RosS) (t:Str):List Str:=(alk t k.H).getD []
def zch (k:RosS) (p:Str):Str:=(alk p k.O).getD []
def zsS (b:BoundS) (k:RosS) (p:Str) (n:Int):Bool:=match alk p k.D with|some d=>decide (n-d<b.Hold)|none=>false
def zcM (k:RosS) (w:Str×Int):Int:=(alk w k.A).getD 0
def zdz (b:BoundS) (k:RosS) (x:MoveS):Int:=
 if x.Kind=1 then
  if zch k x.Player=x.Team then 6 else if zch k x.Player≠[] then 13 else if zsS b k x.Player x.At=true then 11
  else if b.Adds<=zcM k (x.Team,Int.tdiv x.At 604800000) then 16 else if b.Most<=((rPl k x.Team).length:Int) then 12 else 0
 else if x.Kind=2 then if zch k x.Player≠x.Team then 8 else 0
 else if x.Kind=3 then if (rPl k x.Team).contains x.Player=false then 8 else if b.Hurt<=((rHu k x.Team).length:Int) then 12 else 0
 else if x.Kind=4 then if (rHu k x.Team).contains x.Player=false then 8 else if b.Most<=((rPl k x.Team).length:Int) then 12 else 0
 else 0
def zh1 (b:BoundS) (k:RosS) (x:MoveS):RosS:=
 if zdz b k x≠0 then ⟨zp x.Team (rPl k x.Team) k.P,zp x.Team (rHu k x.Team) k.H,k.O,k.D,k.A⟩
 else if x.Kind=1 then ⟨zp x.Team (zgM (rPl k x.Team) x.Player) k.P,zp x.Team (rHu k x.Team) k.H,zp x.Player x.Team k.O,k.D,zp (x.Team,Int.tdiv x.At 604800000) (zcM k (x.Team,Int.tdiv x.At 604800000)+1) k.A⟩
 else if x.Kind=2 then ⟨zp x.Team (zjh (rPl k x.Team) x.Player) k.P,zp x.Team (zjh (rHu k x.Team) x.Player) k.H,zcK x.Player k.O,zp x.Player x.At k.D,k.A⟩
 else if x.Kind=3 then ⟨zp x.Team (zjh (rPl k x.Team) x.Player) k.P,zp x.Team (zgM (rHu k x.Team) x.Player) k.H,k.O,k.D,k.A⟩
 else ⟨zp x.Team (zgM (rPl k x.Team) x.Player) k.P,zp x.Team (zjh (rHu k x.Team) x.Player) k.H,k.O,k.D,k.A⟩
def zh0 (b:BoundS) (n:Int) (k:RosS):List MoveS->RosS
 |[]=>k
 |x::r=>zh0 b n (if x.At<=n then zh1 b k x else k) r
def zdY (b:BoundS) (l:List MoveS) (n:Int):RosS:=zh0 b n zrI l
/-! lists that rise-/
theorem SortedS.nodup {l:List Str} (h:SortedS l):l.Nodup:=h.imp fun {a b} h e=>by subst e;rw [zaJ] at h;cases h
theorem zbR {l:List Str} {s x:Str}:x∈zjh l s↔x∈l/\x≠s:=by simp [zjh]
theorem zju {l:List Str} (h:SortedS l) (s:Str):SortedS (zjh l s):=h.sublist BL
theorem zod (l:List Str) (s:Str):(zjh l s).length<=l.length:=AK _ _
theorem zd3 {l:List Str} {s x:Str}:x∈zgM l s↔x=s\/x∈l:=by
 have e:x∈l↔x∈l.take (zeF l s)\/x∈l.drop (zeF l s):=by rw [<-List.mem_append,Bo]
 unfold zgM;rw [e];simp;constructor<;>(rintro (h|h|h)<;>simp [h])
theorem zrE (l:List Str) (s:Str):(zgM l s).length=l.length+1:=by
 have h:=congrArg List.length (Bo (zeF l s) l);unfold zgM;simp only [Ax,Ah] at*;omega
theorem zjt {s:Str}: ∀{l:List Str},SortedS l->s∉l->SortedS (zgM l s)
 |[],_,_=>List.pairwise_singleton _ _
 |a::r,h,hn=>by
   have hr:=List.pairwise_cons.1 h
   cases ha:Op.bytesLess a s with
   |true=>
     have e:zeF (a::r) s=zeF r s+1:=by unfold zeF;simp [List.countP_cons,ha]
     have e2:zgM (a::r) s=a::zgM r s:=by unfold zgM;rw [e];rfl
     rw [e2];refine List.pairwise_cons.2 ⟨fun x hx=> ?_,zjt hr.2 fun q=>hn (Al _ q)⟩
     rcases zd3.1 hx with rfl|q
     exact ha;exact hr.1 x q
   |false=>
     have e:zeF (a::r) s=0:=zqE (Ad _) (fun k x hk=>absurd hk (Nat.not_lt_zero _)) (zyZ h (m:=0) rfl ha);have e2:zgM (a::r) s=s::a::r:=by unfold zgM;rw [e];rfl
     have hs:Op.bytesLess s a=true:=by
      rcases zcR s a with q|q|q
      exact q;exact absurd (by rw [q];exact Ai) hn;rw [ha] at q;cases q
     rw [e2];refine List.pairwise_cons.2 ⟨fun x hx=> ?_,h⟩
     rcases List.mem_cons.1 hx with rfl|q
     exact hs;exact zfR hs (hr.1 x q)
/-! what holds of a book-/
theorem zti {α:Type} {p q:Str} (h:q≠p): ∀l:List (Str×α),alk q (zcK p l)=alk q l
 |[]=>rfl
 |x::r=>by
   by_cases e:p=x.1
   have h1:zcK p (x::r)=r:=by rw [zcK,if_pos e]
   have h2:alk q (x::r)=alk q r:=by rw [alk,if_neg (by rw [<-e];exact h)]
   rw [h1,h2];have h1:zcK p (x::r)=x::zcK p r:=by rw [zcK,if_neg e]
   rw [h1]
   show (if q=x.1 then some x.2 else alk q (zcK p r))=(if q=x.1 then some x.2 else alk q r)
   rw [zti h r]
theorem ztE {α:Type} {p:Str}: ∀{l:List (Str×α)} {x:Str×α},x∈zcK p l->x∈l
 |y::r,x,h=>by
   unfold zcK at h
   by_cases e:p=y.1
   rw [if_pos e] at h;exact Al _ h;rw [if_neg e] at h
   rcases List.mem_cons.1 h with rfl|q
   exact Ai;exact Al _ (ztE q)
theorem zt0 {κ α:Type} [DecidableEq κ] {k:κ} {v:α}: ∀{l:List (κ×α)} {x:κ×α},x∈zp k v l->x=(k,v)\/x∈l
 |[],x,h=> .inl (by simpa [zp] using h)
 |y::r,x,h=>by
   unfold zp at h
   by_cases e:k=y.1
   rw [if_pos e] at h
   rcases List.mem_cons.1 h with rfl|q
   exact .inl rfl;exact .inr (Al _ q);rw [if_neg e] at h
   rcases List.mem_cons.1 h with rfl|q
   exact .inr Ai
   rcases zt0 q with q|q
   exact .inl q;exact .inr (Al _ q)
structure RosOk (n:Nat) (k:RosS):Prop where
 sp: ∀t,SortedS (rPl k t)/\(rPl k t).length<=n/\∀p∈rPl k t,alk p k.O=some t
 sh: ∀t,SortedS (rHu k t)/\(rHu k t).length<=n/\∀p∈rHu k t,alk p k.O=some t
 dj: ∀t p,p∈rPl k t->p∉rHu k t
 ad: ∀w,0<=zcM k w/\zcM k w<=n
 dr: ∀q∈k.D,0<=q.2/\q.2<=345686399999
 ow: ∀q∈k.O,q.2≠[]
theorem zt7:RosOk 0 zrI:=⟨fun t=>⟨List.Pairwise.nil,Ae _,fun p h=>(by cases h)⟩,fun t=>⟨List.Pairwise.nil,Ae _,fun p h=>(by cases h)⟩,fun t p h=>(by cases h),fun w=>⟨Int.le_refl _,Int.le_refl _⟩,fun q h=>(by cases h),fun q h=>(by cases h)⟩
theorem RosOk.mono {n m:Nat} {k:RosS} (h:RosOk n k) (hm:n<=m):RosOk m k:=
 ⟨fun t=>⟨(h.sp t).1,by have:=(h.sp t).2.1;omega,(h.sp t).2.2⟩,fun t=>⟨(h.sh t).1,by have:=(h.sh t).2.1;omega,(h.sh t).2.2⟩,h.dj,fun w=>⟨(h.ad w).1,by have:=(h.ad w).2;omega⟩,h.dr,h.ow⟩
theorem zjj {T t:Str} {v:List Str} {P H:List (Str×List Str)} {O:List (Str×Str)} {D:List (Str×Int)} {A:List ((Str×Int)×Int)}:rPl ⟨zp T v P,H,O,D,A⟩ t=if t=T then v else (alk t P).getD []:=by
 unfold rPl;rw [za3];split<;>rfl
theorem zji {T t:Str} {v:List Str} {P H:List (Str×List Str)} {O:List (Str×Str)} {D:List (Str×Int)} {A:List ((Str×Int)×Int)}:rHu ⟨P,zp T v H,O,D,A⟩ t=if t=T then v else (alk t H).getD []:=by
 unfold rHu;rw [za3];split<;>rfl
theorem RosOk.team {n:Nat} {k:RosS} (h:RosOk n k) {T:Str} {p h':List Str} {O:List (Str×Str)} {D:List (Str×Int)} {A:List ((Str×Int)×Int)}
 (hp:SortedS p/\p.length<=n+1/\∀x∈p,alk x O=some T) (hh:SortedS h'/\h'.length<=n+1/\∀x∈h',alk x O=some T) (hd: ∀x∈p,x∉h')
 (hO: ∀t x,t≠T->alk x k.O=some t->alk x O=some t) (hA: ∀w,0<=(alk w A).getD 0/\(alk w A).getD 0<=n+1) (hD: ∀q∈D,0<=q.2/\q.2<=345686399999) (hw: ∀q∈O,q.2≠[]):
 RosOk (n+1) ⟨zp T p k.P,zp T h' k.H,O,D,A⟩:=by
 refine ⟨fun t=> ?_,fun t=> ?_,fun t x=> ?_,fun w=>by have:=hA w;unfold zcM;simp only at*;omega,hD,hw⟩
 rw [zjj]
 split
 rename_i e;subst e;exact hp
 rename_i e;have:=h.sp t;unfold rPl at this;exact ⟨this.1,by omega,fun x hx=>hO t x e (this.2.2 x hx)⟩
 rw [zji]
 split
 rename_i e;subst e;exact hh
 rename_i e;have:=h.sh t;unfold rHu at this;exact ⟨this.1,by omega,fun x hx=>hO t x e (this.2.2 x hx)⟩
 rw [zjj,zji]
 split
 exact fun q=>hd x q
 have:=h.dj t x;unfold rPl rHu at this;exact this
theorem zCI {n:Nat} {k:RosS} (h:RosOk n k) {p:Str} (he:zch k p=[]):alk p k.O=none:=by
 cases hq:alk p k.O with
 |none=>rfl
 |some t=>unfold zch at he;rw [hq] at he;exact absurd he (h.ow _ (zbs hq))
theorem zCJ {k:RosS} {p t:Str} (he:zch k p=t) (ht:t≠[]):alk p k.O=some t:=by
 unfold zch at he
 cases hq:alk p k.O with
 |none=>rw [hq] at he;exact absurd he.symm ht
 |some u=>rw [hq] at he;exact congrArg some he
theorem zyH {n:Nat} {b:BoundS} {k:RosS} {x:MoveS} (h:RosOk n k) (ha:0<=x.At/\x.At<=345686399999) (hk:1<=x.Kind/\x.Kind<=4) (hT:x.Team≠[]):RosOk (n+1) (zh1 b k x):=by
 have hp:=h.sp x.Team;have hh:=h.sh x.Team;have hd:=h.dj x.Team;have hA: ∀w,0<=(alk w k.A).getD 0/\(alk w k.A).getD 0<=(n:Int)+1:=fun w=>by have:=h.ad w;unfold zcM at this;omega
 unfold zh1
 by_cases hw:zdz b k x≠0
 rw [if_pos hw];exact h.team ⟨hp.1,by omega,hp.2.2⟩ ⟨hh.1,by omega,hh.2.2⟩ hd (fun _ _ _ e=>e) hA h.dr h.ow;rw [if_neg hw];have h0:zdz b k x=0:=Decidable.not_not.1 hw
 by_cases k1:x.Kind=1
 rw [if_pos k1];rw [zdz,if_pos k1] at h0;have ho:zch k x.Player=[]:=by
  by_cases q:zch k x.Player=x.Team
  rw [if_pos q] at h0;omega;rw [if_neg q] at h0
  by_cases q2:zch k x.Player≠[]
  rw [if_pos q2] at h0;omega;exact Decidable.not_not.1 q2
 have hn:=zCI h ho;have hne: ∀y t,alk y k.O=some t->y≠x.Player:=fun y t e q=>by rw [q,hn] at e;cases e
 have hO: ∀y t,alk y k.O=some t->alk y (zp x.Player x.Team k.O)=some t:=fun y t e=>by rw [za3,if_neg (hne y t e)];exact e
 refine h.team ⟨zjt hp.1 fun q=>hne _ _ (hp.2.2 _ q) rfl,by rw [zrE];omega,fun y hy=> ?_⟩ ⟨hh.1,by omega,fun y hy=>hO y _ (hh.2.2 y hy)⟩ (fun y hy q=> ?_) (fun t y _ e=>hO y t e) (fun w=> ?_) h.dr (fun q hq=> ?_)
 rcases zd3.1 hy with rfl|q
 rw [za3,if_pos rfl];exact hO y _ (hp.2.2 y q)
 rcases zd3.1 hy with rfl|q2
 exact hne _ _ (hh.2.2 _ q) rfl;exact hd y q2 q;rw [za3]
 split
 have:=h.ad (x.Team,Int.tdiv x.At 604800000);simp only [Br];omega;exact hA w
 rcases zt0 hq with rfl|q2
 exact hT;exact h.ow q q2;rw [if_neg k1];rw [zdz,if_neg k1] at h0
 by_cases k2:x.Kind=2
 rw [if_pos k2];rw [if_pos k2] at h0;have ho:alk x.Player k.O=some x.Team:=zCJ (by
  by_cases q:zch k x.Player≠x.Team
  rw [if_pos q] at h0;omega;exact Decidable.not_not.1 q) hT
 have hO: ∀y t,y≠x.Player->alk y k.O=some t->alk y (zcK x.Player k.O)=some t:=fun y t e q=>by rw [zti e];exact q
 refine h.team ⟨zju hp.1 _,by have:=zod (rPl k x.Team) x.Player;omega,fun y hy=> ?_⟩ ⟨zju hh.1 _,by have:=zod (rHu k x.Team) x.Player;omega,fun y hy=> ?_⟩ (fun y hy q=>hd y (zbR.1 hy).1 (zbR.1 q).1) (fun t y ht e=>hO y t (fun q=> ?_) e) hA (fun q hq=> ?_) (fun q hq=>h.ow q (ztE hq))
 exact hO y _ (zbR.1 hy).2 (hp.2.2 y (zbR.1 hy).1);exact hO y _ (zbR.1 hy).2 (hh.2.2 y (zbR.1 hy).1);rw [q,ho] at e;exact ht (As e).symm
 rcases zt0 hq with rfl|q2
 exact ha;exact h.dr q q2;rw [if_neg k2];rw [if_neg k2] at h0
 by_cases k3:x.Kind=3
 rw [if_pos k3];rw [if_pos k3] at h0;have hc:x.Player∈rPl k x.Team:=by
  by_cases q:(rPl k x.Team).contains x.Player=false
  rw [if_pos q] at h0;omega
  simpa using q
 exact h.team ⟨zju hp.1 _,by have:=zod (rPl k x.Team) x.Player;omega,fun y hy=>hp.2.2 y (zbR.1 hy).1⟩ ⟨zjt hh.1 (hd _ hc),by rw [zrE];omega,fun y hy=>by
  rcases zd3.1 hy with rfl|q
  exact hp.2.2 _ hc;exact hh.2.2 y q⟩ (fun y hy q=>by
  rcases zd3.1 q with rfl|q
  exact (zbR.1 hy).2 rfl;exact hd y (zbR.1 hy).1 q) (fun _ _ _ e=>e) hA h.dr h.ow
 rw [if_neg k3];rw [if_neg k3,if_pos (by omega)] at h0;have hc:x.Player∈rHu k x.Team:=by
  by_cases q:(rHu k x.Team).contains x.Player=false
  rw [if_pos q] at h0;omega
  simpa using q
 exact h.team ⟨zjt hp.1 (fun q=>hd _ q hc),by rw [zrE];omega,fun y hy=>by
  rcases zd3.1 hy with rfl|q
  exact hh.2.2 _ hc;exact hp.2.2 y q⟩ ⟨zju hh.1 _,by have:=zod (rHu k x.Team) x.Player;omega,fun y hy=>hh.2.2 y (zbR.1 hy).1⟩ (fun y hy q=>by
  rcases zd3.1 hy with rfl|q2
  exact (zbR.1 q).2 rfl;exact hd y q2 (zbR.1 q).1) (fun _ _ _ e=>e) hA h.dr h.ow
theorem zt1 {b:BoundS} {m:Int}: ∀{l:List MoveS} {n:Nat} {k:RosS},RosOk n k->(∀x∈l,(0<=x.At/\x.At<=345686399999)/\(1<=x.Kind/\x.Kind<=4)/\x.Team≠[])->RosOk (n+l.length) (zh0 b m k l)
 |[],n,k,h,_=>h
 |x::r,n,k,h,hl=>by
   obtain ⟨h1,h2,h3⟩:=hl x Ai;unfold zh0;have:RosOk (n+1) (if x.At<=m then zh1 b k x else k):=by
    split
    exact zyH h h1 h2 h3;exact h.mono (Bt n)
   have:=zt1 (b:=b) (m:=m) this (l:=r) fun y hy=>hl y (Al _ hy)
   rw [Ah,show n+(r.length+1)=n+1+r.length by omega];exact this
theorem zwU {l:List MoveS} (h:zfg l=0):l.length<=2000/\∀x∈l,(0<=x.At/\x.At<=345686399999)/\(1<=x.Kind/\x.Kind<=4)/\(key x.Team=true/\key x.Player=true):=by
 obtain ⟨h1,h2⟩:=zhf h;refine ⟨h1,fun x hx=> ?_⟩
 obtain ⟨i,hi,rfl⟩:=AR hx;have:=h2 i l[i] (Aa hi)
 generalize l[i]=x at this
 unfold zfo at this
 by_cases q1:zN x.At=false
 rw [if_pos q1] at this;omega;rw [if_neg q1] at this
 by_cases q2:out x.Kind 1 4=true
 rw [if_pos q2] at this;omega;rw [if_neg q2] at this
 by_cases q3:key x.Team=false\/key x.Player=false
 rw [if_pos q3] at this;omega;refine ⟨?_,?_,?_⟩
 simp [zN,out] at q1;omega
 simp [out] at q2;omega
 rw [not_or] at q3;simpa using q3
end
section
open Go
variable {P:Program}
theorem zsi [Tracks] {e:Env} {dst:Option Tmp} {ty:TypeId} {pos:String} {af:Array Edge} {g:Option (Nat×Bool)} {M:List MObj} {K:HVal->List MObj->Prop} {t el:TypeId} {size bytes b2:Nat} {zero z2:Value} {d:TD} {x:Operand} {s:Str}
 (hf:Fits P t (.slice el) size bytes zero) (hel:Fits P el d 1 b2 z2) (hz:z2.cells.size=1) (hx:zh e x=some (.str s))
 (hk: ∀ub,K (.raw (.slice (some ⟨ub,0,none⟩) 1 1)) (.obj ub (.cells #[zb4 s] el (0,0))::M)):EOp P e M ⟨dst,.buildSlice t 1 #[(0,x)],ty,pos,af,g⟩ K:=
 EOp.of_run fun I F a w ho hs'=>by
  have h1:=(ho.one (x:=x) (by simp [Op.operands]) hx).str_inv;refine ⟨.slice (some ⟨w.heap.size,0,none⟩) 1 1,.raw (.slice (some ⟨w.heap.size,0,none⟩) 1 1),_,push w (.cells #[zb4 s] el (0,0)),I,?_,.refl I,hk _,.raw _ rfl,?_⟩
  simp only [execOp,Instr.buildSlice,Sem.run_bind,run_underlying hf.slice,Result.andThen_ok,hel.run_sizeOf];rw [if_neg (by decide)];simp only [Sem.run_pure,Result.andThen_ok];rw [if_neg (by decide)];simp only [Sem.run_bind,hel.run_zero,Result.andThen_ok,Sem.run_pure];obtain ⟨z,hzz⟩: ∃z,z2.cells= #[z]:=by
   rcases hq:z2.cells with ⟨l⟩
   rw [hq] at hz
   match l,hz with
   |[z],_=>exact ⟨z,rfl⟩
  rw [hzz];have hr:Array.range 1= #[0]:=by first|decide|simp [Array.range_succ]
  simp [Instr.fill,h1,newRow,Value.cells,zb4,push,hr]
  try rfl
  exact hs'.new_own (.cells #[zb4 s] el (0,0)) (.obj w.heap.size (.cells #[zb4 s] el (0,0))) rfl (by simp [MSat,push])
abbrev eWk (p:Str×Int):HVal:= .agg [.str p.1,.int .i64 p.2]
abbrev kBk (b:BoundS) (pb hb ob db ab:Nat):List HVal:=[.int .i64 b.Most,.int .i64 b.Hurt,.int .i64 b.Adds,.int .i64 b.Hold,.raw (.map (some pb)),.raw (.map (some hb)),.raw (.map (some ob)),.raw (.map (some db)),.raw (.map (some ab))]
abbrev zd6 (kb pb hb ob db ab:Nat) (b:BoundS) (k:RosS):List MObj:=[.cells kb (kBk b pb hb ob db ab),.map pb (sk (em eSs k.P)),.map hb (sk (em eSs k.H)),.map ob (sk (em .str k.O)),.map db (sk (em (.int .i64) k.D)),.map ab (kk eWk (em (.int .i64) k.A))]
end
section
section
variable {P:Program} {e:Env} {dst:Option Tmp} {ty:TypeId} {pos:String} {af:Array Edge} {g:Option (Nat×Bool)} {M:List MObj} {K:HVal->List MObj->Prop}
theorem zrJ {t k el:TypeId} (hu:P.underlying t=some (.map k el)) (a:Option Nat) (w:World):(Op.equal t (.map a) (.map none)).run P w= .ok a.isNone w:=by
 have h: ∀d,(Op.equalIn (d+1) t (.map a) (.map none)).run P w= .ok a.isNone w:=fun d=>by
  cases a<;>simp only [Op.equalIn,Sem.run_bind,run_underlying hu,Result.andThen_ok,Sem.run_pure,Option.isNone]
 exact h 9999
theorem zz2 [Tracks] {x y:Operand} {t t' k el:TypeId} {size bytes:Nat} {zero:Value} {o:Option Nat} (hf:Fits P t (.map k el) size bytes zero) (hx:zh e x=some (.raw (.map o))) (hy:zh e y=some (.raw (.map none))):
 POp P e ⟨dst,.binOp .eql t x y t',ty,pos,af,g⟩ (.bool o.isNone):=
 zF fun I a w ho=>by
  have h1:=(ho.one (x:=x) (by simp [Op.operands]) hx).raw_inv;have h2:=(ho.one (x:=y) (by simp [Op.operands]) hy).raw_inv;refine ⟨_,?_,.bool _⟩
  simp [execOp,h1,h2,eqGuard,binOp,zrJ hf.mapD]
/-! arrays of two scalars-/
end
end
section
section
variable {P:Program} {e:Env} {dst:Option Tmp} {ty:TypeId} {pos:String} {af:Array Edge} {g:Option (Nat×Bool)}
end
section
variable {P:Program} {n:Nat} {e e':Env} {M M':List MObj} {Q Q':Exit->Env->List MObj->Prop} {c c':Code}
def zAp {α β γ δ:Type} (e:Env) (ks:List Nat) (W:α->β->γ->δ->List (Nat×HVal)) (MM:α->β->γ->δ->List MObj) (Iv:α->β->γ->δ->Prop) (μ:α->β->γ->δ->Nat) (x:α) (y:β) (u:γ) (v:δ) (Q:Exit->Env->List MObj->Prop):Exit->Env->List MObj->Prop
 | .normal,e',M=> ∃j k l m,Iv j k l m/\μ j k l m<μ x y u v/\zcW e' (W j k l m)/\zg3 ks e e'/\M.Perm (MM j k l m)
 |z,e',M=>Q z e' M
theorem zwN {α β γ δ:Type} {e0:Env} {ks:List Nat} {W:α->β->γ->δ->List (Nat×HVal)} {MM:α->β->γ->δ->List MObj} {Iv:α->β->γ->δ->Prop} {μ:α->β->γ->δ->Nat} {x:α} {y:β} {u:γ} {v:δ} {id:Nat} (h:Q (.exit id) e M):
 zAp e0 ks W MM Iv μ x y u v Q (.exit id) e M:=h
theorem zuv [Tracks] {α β γ δ:Type} (ks:List Nat) (W:α->β->γ->δ->List (Nat×HVal)) (MM:α->β->γ->δ->List MObj) (Iv:α->β->γ->δ->Prop) (μ:α->β->γ->δ->Nat) (x:α) (y:β) (u:γ) (v:δ) (h0:Iv x y u v) (hW:zcW e (W x y u v)) (hM:M.Perm (MM x y u v))
 (hb: ∀x y u v,Iv x y u v->HWp P n c (loopE e ks (W x y u v)) (MM x y u v) (zAp e ks W MM Iv μ x y u v Q)):HWp P n (.loop c) e M Q:=by
 refine zjg (ι:=α×β×γ×δ) ks (fun p=>W p.1 p.2.1 p.2.2.1 p.2.2.2) (fun p=>MM p.1 p.2.1 p.2.2.1 p.2.2.2) (fun p=>Iv p.1 p.2.1 p.2.2.1 p.2.2.2) (fun p=>μ p.1 p.2.1 p.2.2.1 p.2.2.2) (x,y,u,v) h0 hW hM fun p hp=>znc (hb p.1 p.2.1 p.2.2.1 p.2.2.2 hp) ?_
 intro z e1 M1 hq
 cases z with
 |normal=>obtain ⟨j,k,l,m,h⟩:=hq;exact ⟨(j,k,l,m),h⟩
 |_=>exact hq
end
end
section
variable {P:Program}
end
section
open Go
variable {P:Program}
theorem zA2 {kt:TypeId} {s1 b1:Nat} {z1:Value} (hf:Fits P kt .str s1 b1 z1):KeyOk P kt HVal.str:=by
 haveI:Tracks:=⟨true⟩
 have hk: ∀x y:Str,zfW .str (.str x) (.str y)=true:=fun x y=>rfl
 refine ⟨fun I x v b w hv=>zlw hf (hk x x) hv b 9999 w,fun I x y u v w hu hv=> ?_,fun I x v es w hv hes=> ?_,fun I x u v hu hv=> ?_⟩
 have:=zh2 hf (hk x y) hu hv 9999 w
 show (Op.equalIn (9999+1) kt u v).run P w=_
 rw [this]
 show Result.ok (x==y) w=_
 congr 1
 rw [AE];simp;obtain rfl:=hv.str_inv;have key: ∀(es:List MapEntry) (i:Nat),(∀m∈es,∃y,V I (.str y) m.key)->∃r,Instr.findNow .string (.string ⟨x.toArray⟩) es i=some r/\(Instr.findAsking kt (.string ⟨x.toArray⟩) es i).run P w= .ok r w:=by
  intro es
  induction es with
  |nil=>intro i _;exact ⟨none,rfl,by simp [Instr.findAsking]⟩
  |cons m es ih=>
    intro i h
    obtain ⟨y,hy⟩:=h m Ai;have hq:=zh2 hf (hk x y) (V.str x) hy 9999 w;have hq':(Op.equal kt (.string ⟨x.toArray⟩) m.key).run P w= .ok (x==y) w:=hq;have hy':=hy.str_inv;have hb:((⟨x.toArray⟩:ByteArray)==⟨y.toArray⟩)=(x==y):=by rw [zjC,AE];simp
    by_cases e:x=y
    have e1:(x==y)=true:=by simpa using e
    refine ⟨some (i,m.val),?_,?_⟩
    simp only [Instr.findNow,Instr.sameNow,hy',hb,e1];simp only [Instr.findAsking,Sem.run_bind,hq',Result.andThen_ok,e1]
    simp
    obtain ⟨r,r1,r2⟩:=ih (i+1) fun m' hm'=>h m' (Al _ hm')
    have:(x==y)=false:=by simpa using e
    refine ⟨r,?_,?_⟩
    simp only [Instr.findNow,Instr.sameNow,hy',hb,this];exact r1;simp only [Instr.findAsking,Sem.run_bind,hq',Result.andThen_ok,this];exact r2
 obtain ⟨r,r1,r2⟩:=key es 0 hes;simp only [Instr.findKey,Sem.run_bind,run_underlying hf.strD,Result.andThen_ok,r1,Sem.run_pure,r2];obtain rfl:=hu.str_inv;obtain rfl:=hv.str_inv
 show Instr.sameBits (9999+1) _ _=true
 simp only [Instr.sameBits];rw [zjC];simp
section
variable {α:Type} {e:Env} {dst:Option Tmp} {ty:TypeId} {pos:String} {af:Array Edge} {g:Option (Nat×Bool)} {M:List MObj} {K:HVal->List MObj->Prop}
theorem zyT [Tracks] {o:Oper} {K K':HVal->List MObj->Prop} (hk: ∀h M',K h M'->∃h2,Weak h h2/\K' h2 M') (h:EOp P e M o K):EOp P e M o K':=
 fun I F a w ho hs=>zbh (fun _ _ ⟨v,x,M',J,h1,h2,h3,h4,h5⟩=>by
  obtain ⟨y,g1,g2⟩:=hk _ _ h3;exact ⟨v,y,M',J,h1,h2,g2,g1 _ _ h4,h5⟩) (h I F a w ho hs)
theorem zgg [Tracks] {x y:Operand} {t kt et:TypeId} {size bytes s2 b2 s3 b3:Nat} {zero z2 z3:Value} {d:TD} {i b:Nat} {f:α->HVal} {L:List (Str×α)} {s:Str} {z0:α}
 (hf:Fits P t (.map kt et) size bytes zero) (hkt:Fits P kt .str s2 b2 z2) (het:Fits P et d s3 b3 z3) (hx:zh e x=some (.raw (.map (some b)))) (hy:zh e y=some (.str s)) (hm:M[i]? =some (.map b (sk (em f L)))) (hz:Weak (zaT z3) (f z0))
 (hk:K (f ((alk s L).getD z0)) M):EOp P e M ⟨dst,.lookup t x y false,ty,pos,af,g⟩ K:=by
 refine zyT (K:=fun h M'=>Weak h (f ((alk s L).getD z0))/\M'=M) (fun h M' ⟨h1,h2⟩=>⟨_,h1,by rw [h2];exact hk⟩) ?_;refine znY hf hkt het hx hy hm ?_;have h1:=zou f s L
 cases h:z7 s (em f L) with
 |none=>
   rw [h] at h1;have:alk s L=none:=by cases q:alk s L with|none=>rfl|some _=>rw [q] at h1;cases h1
   rw [this];exact ⟨hz,rfl⟩
 |some p=>
   rw [h] at h1;obtain ⟨q,hq,hp⟩: ∃q,alk s L=some q/\p.2=f q:=by
    cases q:alk s L with
    |none=>rw [q] at h1;cases h1
    |some r=>rw [q] at h1;exact ⟨r,rfl,As h1⟩
   rw [hq];refine ⟨?_,rfl⟩
   show Weak p.2 (f q)
   rw [hp];exact Weak.refl _
theorem zoK [Tracks] {x y:Operand} {t kt et:TypeId} {size bytes s2 b2 s3 b3:Nat} {zero z2 z3:Value} {d:TD} {i b:Nat} {f:α->HVal} {L:List (Str×α)} {s:Str}
 (hf:Fits P t (.map kt et) size bytes zero) (hkt:Fits P kt .str s2 b2 z2) (het:Fits P et d s3 b3 z3) (hx:zh e x=some (.raw (.map (some b)))) (hy:zh e y=some (.str s)) (hm:M[i]? =some (.map b (sk (em f L))))
 (hk: ∀(j st:Nat),zb6 s (zd4 s (zaT z3) (em f L))=some j->K (.tup [(klk s (em f L)).getD (zaT z3),.int .i64 (st:Int)]) (M.set i (.mape b (kk HVal.str (zd4 s (zaT z3) (em f L))) j st))):EOp P e M ⟨dst,.mapEntry t x y,ty,pos,af,g⟩ K:=
 zpC (ek:=HVal.str) hf (zA2 hkt) het hx hy hm hk
theorem zl3 [Tracks] {x y z:Operand} {t:TypeId} {i b j st:Nat} {f:α->HVal} {L:List (Str×α)} {s:Str} {h0:HVal} {v:α}
 (hx:zh e x=some (.raw (.map (some b)))) (hy:zh e y=some (.int .i64 (st:Int))) (hz:zh e z=some (f v)) (hm:M[i]? =some (.mape b (kk HVal.str (zd4 s h0 (em f L))) j st)) (hj:zb6 s (zd4 s h0 (em f L))=some j)
 (hk:K .junk (M.set i (.map b (sk (em f (zp s v L)))))):EOp P e M ⟨dst,.entryStore t x y z,ty,pos,af,g⟩ K:=by
 refine zna (ek:=HVal.str) hx hy hz hm hj ?_;rw [zuC,zqz];exact hk
end
end
end Go.HL
namespace Go.Proofs
section
open Go.Shelf
def Tryz.lays222_ren:Go.Shelf.Ren:=⟨fun|22=>396|29=>413|30=>414|36=>417|17=>418|n=>n,fun|24=>33|9=>9|3=>3|4=>4|0=>0|n=>n,fun|n=>n⟩
theorem zv2:Go.Proofs.Lays2.n22 Tryz.prog Tryz.lays222_ren:={
 mixed:=by kernel_rfl
 f17:=Tryz.func418.trans (congrArg some (by kernel_rfl))
 f22:=Tryz.func396.trans (congrArg some (by kernel_rfl))
 f29:=Tryz.func413.trans (congrArg some (by kernel_rfl))
 f30:=Tryz.func414.trans (congrArg some (by kernel_rfl))
 f36:=Tryz.func417.trans (congrArg some (by kernel_rfl))
 t0:=Tryz.underlying0
 a0:=Tryz.isAgg0
 z0:=Tryz.sizeOf0
 v0:=Tryz.zeroValue0
 t3:=Tryz.underlying3
 a3:=Tryz.isAgg3
 z3:=Tryz.sizeOf3
 v3:=Tryz.zeroValue3
 t4:=Tryz.underlying4
 a4:=Tryz.isAgg4
 z4:=Tryz.sizeOf4
 v4:=Tryz.zeroValue4
 t9:=Tryz.underlying9
 a9:=Tryz.isAgg9
 z9:=Tryz.sizeOf9
 v9:=Tryz.zeroValue9
 t24:=Tryz.underlying33
 a24:=Tryz.isAgg33
 z24:=Tryz.sizeOf33
 v24:=Tryz.zeroValue33
 i9:=by kernel_rfl}
end
end Go.Proofs
namespace Go.Proofs.YtabpobhnedkkeaaGreatDoor
set_option maxRecDepth 100000
set_option linter.unusedVariables false
set_option linter.unusedSimpArgs false
section
open Go.Proofs.Tryz
open Go.HL
theorem zer [Tracks] {l:List Str} {fid:FuncId} {caps:List HVal} {p:Str->Bool} (hca:Callable prog fid) (hp: ∀x,ConP prog fid ([HVal.str x]++caps) (.bool (p x))) (hl:l.length<=1000000):ConP prog 204 [.slice 1 (l.map HVal.str),.fn (.func fid) [] caps] (.int .i64 (zS p l 0)):=by
 refine uOb func204 ntmps204 ?_;refine zau ?_;refine uT1 [4,2,8,11] (fun k=>[(8,.int .i64 k)]) (fun k=>[]) (fun k=>k<=l.length/\(zS p l 0=zS p (l.drop k) k)) (fun k=>l.length-k) (0) ?_ ?_;exact ⟨Ad _,rfl⟩;rintro k ⟨hk,hg⟩;refine gz4 ?_;refine uCo (fun h1=> ?_) fun h2=> ?_
 obtain ⟨x,hx⟩: ∃x,l[k]? =some x:=⟨_,Aa h1⟩
 have hdx:=zi hx;rw [hdx] at hg;refine zdw ?_;refine dq (zag hca rfl rfl (WeakL.refl _) (hp _)) ?_;refine gz1 ?_;refine uCo (fun h3=> ?_) fun h4=> ?_
 refine gz5 ?_;refine uRp ?_
 (rw [hg];simp_all [zS])
 refine gz7 ?_;refine ⟨k+1,?_,?_,⟨rfl,trivial⟩,uK,Ac _⟩
 refine ⟨by omega,?_⟩
 rw [hg,zS,if_neg uSa];rfl
 dsimp only;omega
 have hnk:l.length<=k:=by omega
 obtain rfl:k=l.length:=by omega
 rw [zz (Ae _)] at hg;refine gz2 ?_;refine zv ?_;refine gz6 ?_;refine uRp ?_
 (rw [hg];rfl)
theorem zdS [Tracks] {l:List Str} {fid:FuncId} {caps:List HVal} {p:Str->Bool} (hca:Callable prog fid) (hp: ∀x,ConP prog fid ([HVal.str x]++caps) (.bool (p x))) (hl:l.length<=1000000):ConP prog 108 [.slice 1 (l.map HVal.str),.fn (.func fid) [] caps] (.bool (l.any p)):=by
 refine uOb func108 ntmps108 ?_;refine gz6 ?_;refine dq (uCl zzg rfl (zer hca hp hl)) ?_;refine gz4 ?_;refine zu rfl ?_
 congr 1;exact zb9 p l 0 uO
theorem zbT [Tracks] {l:List Str} {fid:FuncId} {caps:List HVal} {p:Str->Bool} {v:Value} (hca:Callable prog fid) (hp: ∀x,ConP prog fid ([HVal.str x]++caps) (.bool (p x))) (hl:l.length<=1000000):Con prog 397 [.raw v,.fn (.func fid) [] caps] [.arr v 1 (l.map HVal.str)] (fun x M'=> ∃u,x= .raw u/\M'=[.arr u 1 ((l.filter (fun x=> !p x)).map HVal.str)]):=by
 refine uOb func397 ntmps397 ?_;refine gz6 ?_;refine de rfl (ze1 (hs':=[.slice 1 (l.map HVal.str),.fn (.func fid) [] caps]) zzg rfl ⟨.arr (i:=0) rfl,.weak (Weak.refl _),trivial⟩ (zer (p:=p) hca hp hl) rfl ?_)
 refine gz7 ?_;refine uCo (fun h1=> ?_) fun h2=> ?_
 ·refine gz5 ?_
  (refine zaf rfl ⟨_,rfl,?_⟩
   rw [zir p l 0 uO h1]
   done)
 ·refine gz3 ?_;obtain ⟨i0,hi0,hil,⟨x0,hx0,hp0⟩,hb0⟩:=ze6 p l 0 uO h2;rw [Ck] at hi0;obtain ⟨hD0,hn0⟩:=DelInv.start (p:=p) hil hx0 hp0 hb0;refine zc3 (i:=0) rfl (fun h0 he=> ?_) (fun b off cap hv hcap=> ?_)
  ·exfalso;have:=congrArg List.length he;simp at this;subst this;simp at hil
  rw [Af] at hv hcap;subst hv;refine gz2 ?_;refine dq (zP (zbt rfl rfl (by rw [hi0];omega) (by rw [hi0];omega)) (congrArg _ (by rw [hi0]))) ?_;refine gz3 ?_;refine uV2 [5,3,16,20] (fun (j:Nat) (D:List Str)=>[(6,.int .i64 (j:Int)),(5,.int .i64 (((l.take j).filter (fun x=> !p x)).length:Int))]) (fun (j:Nat) (D:List Str)=>[.arr (.slice (some ⟨b,off,none⟩) l.length cap) 1 (D.map HVal.str)]) (fun (j:Nat) (D:List Str)=>DelInv p l j D) (fun (j:Nat) (D:List Str)=>l.length-j) (i0+1) (l) ?_ ?_ ?_ ?_
  ·exact hD0
  ·exact ⟨rfl,zU (by rw [hn0,hi0]),trivial⟩
  ·exact Ac _
  ·intro j D hD
   have hlt0:=hD.lt;have hle0:=hD.len;refine gz4 ?_;refine de rfl (zbq (i:=0) zo rfl rfl ?_)
   refine gz2 ?_;refine uCo (fun h3=> ?_) fun h4=> ?_
   ·obtain ⟨x,hx⟩: ∃x,l[j]? =some x:=⟨_,Aa uO⟩
    refine gz7 ?_;refine dq (zM (j:=j) zo ty9 rfl rfl rfl uO) ?_;refine de rfl (zaC (i:=0) (j:=j) 0 ty9 rfl rfl rfl (hD.get hx) rfl rfl ?_)
    refine gz5 ?_;refine dq (zag hca rfl rfl (WeakL.refl _) (hp _)) ?_;refine gz2 ?_;refine uCo (fun h5=> ?_) fun h6=> ?_
    ·refine gz4 ?_;refine dq (zM (j:=((l.take j).filter (fun x=> !p x)).length) zo ty9 rfl rfl rfl (by have:=hD.lt;omega)) ?_;refine de0 (zby (i:=0) (j:=((l.take j).filter (fun x=> !p x)).length) (y:=D[((l.take j).filter (fun x=> !p x)).length]'(by have:=hD.lt;have:=hD.len;omega)) (y':=x) ty9 rfl rfl rfl rfl (Aa _) rfl rfl rfl ?_)
     refine gz3 ?_;refine dq (zbt rfl rfl uO (by have:=hD.lt;omega)) ?_;refine gz9 ?_;exact ⟨j+1,_,(hD.keep hx uSa).1,uD,⟨rfl,zU (by rw [(hD.keep hx uSa).2];rfl),trivial⟩,uK,Ac _⟩
    ·refine gz8 ?_;exact ⟨j+1,_,(hD.skip hx uSa).1,uD,⟨rfl,zU (by rw [(hD.skip hx uSa).2]),trivial⟩,uK,Ac _⟩
   ·obtain rfl:j=l.length:=by have:=hD.jle;omega
    have hend:=hD.done;refine gz2 ?_;refine zQ ?_;refine gz5 ?_;refine dq (zfa (l:=((l.take l.length).filter (fun x=> !p x)).length) zo ty9 rfl ⟨_,_,rfl,rfl⟩ rfl uO uO hcap) ?_;refine de0 (zeu (i:=0) (m:=((l.take l.length).filter (fun x=> !p x)).length) (((l.take l.length).filter (fun x=> !p x)).length) zo ty9 rfl rfl rfl (zh5 uO hcap) rfl uO (Ae _) (by rw [Af,hD.len];omega) ?_)
    refine gz4 ?_;refine dq (zfU (h:=((l.take l.length).filter (fun x=> !p x)).length) zo ty9 rfl ⟨_,_,rfl,rfl⟩ uO) ?_;refine gz3 ?_
    (refine zaf rfl ⟨_,rfl,?_⟩
     rw [Am,<-BR,hend];rfl)
theorem zvO [Tracks]:KeyOk prog 414 eWk:=zgO (cs:=fun x:Str×Int=>zb (eWk x)) zAl zIT (fun x y=>⟨rfl,⟨_,_,_,_,ty9,rfl⟩,⟨rfl,⟨_,_,_,_,ty3,rfl⟩,trivial⟩⟩)
 (fun x y=>by obtain ⟨a,b⟩:=x;obtain ⟨c,d⟩:=y;show (_&&(_&&true))=_;rw [AE];simp [eqH,Prod.mk.injEq]) (fun x=>rfl)
theorem zsc [Tracks] {v:Value} {l:List Str} {s:Str} {i ub:Nat} {el2:TypeId} (hi:i<=l.length) (hl:l.length<=1000000):
 Con prog 396 [.raw v,.int .i64 i,.raw (.slice (some ⟨ub,0,none⟩) 1 1)] [.arr v 1 (l.map .str),.obj ub (.cells #[zb4 s] el2 (0,0))]
  fun x M'=> ∃v',x= .raw v'/\M'=[.arr v' 1 ((zgt l i s).map .str),.obj ub (.cells #[zb4 s] el2 (0,0))]:=zzt zv2 hi hl
theorem zFl [Tracks] (l:List Str) (s:Str):zeF l s<=l.length:=List.countP_le_length
theorem zgr [Tracks] {x s:Str}:ConP prog 398 [.str x,.vptr [.str s] 0] (.bool (x==s)):=by
 refine uOb func398 ntmps398 ?_;refine zau ?_;refine zu rfl ?_
 rfl
theorem zhG [Tracks] {l:List Str} {s:Str} (hl:l.length<=1000000):ConP prog 366 [eSs l,.str s] (eSs (zjh l s)):=by
 refine uOb func366 ntmps366 ?_;refine gz6 ?_;refine de rfl (uCa zlj rfl (zad uS) fun v6=> ?_)
 refine gz1 ?_
 focus first
 |refine de rfl (uCx 0 zvG rfl rfl (zbT (l:=l) (p:=fun x=>x==s) zvH (fun _=>zgr) hl) ?_)
 |refine de rfl (uCx 1 zvG rfl rfl (zbT (l:=l) (p:=fun x=>x==s) zvH (fun _=>zgr) hl) ?_)
 |refine de rfl (uCx 2 zvG rfl rfl (zbT (l:=l) (p:=fun x=>x==s) zvH (fun _=>zgr) hl) ?_)
 |refine de rfl (uCx 3 zvG rfl rfl (zbT (l:=l) (p:=fun x=>x==s) zvH (fun _=>zgr) hl) ?_)
 rintro _ _ ⟨u8,rfl,rfl⟩;refine gz3 ?_;refine zA (zuc 4 rfl) rfl ⟨?_,rfl⟩
 rfl
theorem zlg [Tracks] {l:List Str} {s:Str} (hl:l.length<=1000000) (hs:SortedS l):ConP prog 365 [eSs l,.str s] (eSs (zgM l s)):=by
 refine uOb func365 ntmps365 ?_;refine gz6 ?_;refine dq (uCl zIL rfl (zg6 uS uS)) ?_;refine gz8 ?_;refine de rfl (uCa zlj rfl (zad uS) fun v14=> ?_)
 refine gz2 ?_;refine de rfl (zsi zo ty9 rfl rfl fun ub=> ?_)
 refine de rfl (zaA (M1:=[.arr v14 1 (l.map .str),.obj ub (.cells #[zb4 s] _ (0,0))]) (R:=[]) zIM rfl (WeakL.refl _) (List.Perm.swap _ _ _) (zsc (i:=zeF l s) (zFl l s) hl) ?_)
 rintro _ _ ⟨v18,rfl,rfl⟩;refine gz3 ?_;refine zA ((zay 4 (i:=0) rfl rfl).trans Ghost.clear) rfl ⟨?_,rfl⟩
 rfl
theorem zpn [Tracks] {kb pb hb ob db ab:Nat} {b:BoundS} {k:RosS} {p:Str} {n:Int} (hn:0<=n/\n<=345686399999) (hD: ∀q∈k.D,0<=q.2/\q.2<=345686399999):Con prog 394 [.raw (.pointer (some ⟨kb,0,none⟩)),.str p,.int .i64 n] (zd6 kb pb hb ob db ab b k) (fun x M'=>x= .bool (zsS b k p n)/\M'=(zd6 kb pb hb ob db ab b k)):=by
 have hq0:0<=(alk p k.D).getD 0/\(alk p k.D).getD 0<=345686399999:=by
  cases hq:alk p k.D with
  |none=>simp
  |some d=>exact hD (p,d) (zbs hq)
 refine uOb func394 ntmps394 ?_;refine gz5 ?_;refine dq ((by first|exact zL rfl|exact zx rfl)) ?_;refine gz1 ?_;refine de rfl (uZ 0 ?_)
 refine gz1 ?_;refine de rfl (ziH (i:=4) (f:=HVal.int .i64) (z0:=(0:Int)) zcT ty9 ty3 rfl rfl rfl rfl ?_)
 refine zfe ?_;refine uGr rfl (fun hc=>(by first|exact zL rfl|exact zx rfl)) ?_;refine gz2 ?_;refine dgl rfl rfl (fun hc=>⟨_,OpenTo.upd (t:=26) rfl uC (OpenTo.refl _),zV (i:=0) ty3 rfl rfl (.inl ⟨rfl,rfl⟩) ⟨rfl,rfl⟩⟩) ?_;refine gz5 ?_;refine zaf rfl ⟨?_,rfl⟩
 show HVal.bool _=_
 unfold zsS
 cases alk p k.D with
 |none=>rfl
 |some d=>simp
theorem zqS [Tracks] {kb pb hb ob db ab:Nat} {b:BoundS} {k:RosS} {x:MoveS} (hx:0<=x.At/\x.At<=345686399999) (hD: ∀q∈k.D,0<=q.2/\q.2<=345686399999) (hP: ∀t,(rPl k t).length<=1000000) (hH: ∀t,(rHu k t).length<=1000000):Con prog 364 [.raw (.pointer (some ⟨kb,0,none⟩)),zdD x] (zd6 kb pb hb ob db ab b k) (fun x1 M'=>x1= .int .i64 (zdz b k x)/\M'=(zd6 kb pb hb ob db ab b k)):=by
 refine uOb func364 ntmps364 ?_;refine gz4 ?_;refine zbF (fun M=>M=(zd6 kb pb hb ob db ab b k)) [3,6,10,13,17,20] mixed ?_;refine gz3 ?_;refine uM 3 rfl rfl (fun M hM=>by subst hM;exact zV (i:=0) zjz rfl rfl (.inl ⟨rfl,rfl⟩) ⟨rfl,rfl⟩) ?_;refine gz2 ?_;refine uM 6 rfl rfl (fun M hM=>by subst hM;exact zct (i:=3) (f:=HVal.str) (z0:=([]:Str)) zjz ty9 ty9 rfl rfl rfl rfl ⟨rfl,rfl⟩) ?_;refine gz3 ?_;refine uM 10 rfl rfl (fun M hM=>by subst hM;exact zV (i:=0) zef rfl rfl (.inl ⟨rfl,rfl⟩) ⟨rfl,rfl⟩) ?_;refine gz2 ?_;refine uM 13 rfl rfl (fun M hM=>by subst hM;exact zgg (i:=1) (f:=eSs) (z0:=([]:List Str)) zef ty9 zo rfl rfl rfl (zD 1) ⟨rfl,rfl⟩) ?_;refine gz3 ?_;refine uM 17 rfl rfl (fun M hM=>by subst hM;exact zV (i:=0) zef rfl rfl (.inl ⟨rfl,rfl⟩) ⟨rfl,rfl⟩) ?_;refine gz2 ?_;refine uM 20 rfl rfl (fun M hM=>by subst hM;exact zgg (i:=2) (f:=eSs) (z0:=([]:List Str)) zef ty9 zo rfl rfl rfl (zD 1) ⟨rfl,rfl⟩) ?_;refine zdw ?_;refine uCo (fun h1=> ?_) fun h2=> ?_
 refine gz8 ?_;refine uCo (fun h3=> ?_) fun h4=> ?_
 refine gz4 ?_;refine zaf rfl ⟨?_,rfl⟩
 show HVal.int .i64 _=_
 refine congrArg _ ?_;unfold zdz
 (simp_all [zch,zcM,rPl,rHu])
 refine gz5 ?_;refine uCo (fun h5=> ?_) fun h6=> ?_
 refine gz4 ?_;refine zaf rfl ⟨?_,rfl⟩
 show HVal.int .i64 _=_
 refine congrArg _ ?_;unfold zdz
 (simp_all [zch,zcM,rPl,rHu])
 refine gz6 ?_;refine de rfl (zaA (M1:=(zd6 kb pb hb ob db ab b k)) (R:=[]) zIK rfl (WeakL.refl _) (by rw [AV]) (zpn hx hD) ?_)
 rintro _ _ ⟨rfl,rfl⟩;refine gz2 ?_;refine uCo (fun h7=> ?_) fun h8=> ?_
 refine gz4 ?_;refine zaf rfl ⟨?_,rfl⟩
 show HVal.int .i64 _=_
 refine congrArg _ ?_;unfold zdz
 (simp_all [zch,zcM,rPl,rHu])
 refine zbF (fun M=>M=(zd6 kb pb hb ob db ab b k)) [3,10,15] mixed ?_;refine gz3 ?_;refine uM 3 rfl rfl (fun M hM=>by subst hM;exact zV (i:=0) zkM rfl rfl (.inl ⟨rfl,rfl⟩) ⟨rfl,rfl⟩) ?_;refine gz4 ?_;refine uB 8 rfl (zbZ rfl rfl uO uO uO) ?_;refine uB 9 rfl (zC (cs:=[_,_]) zAl zEd rfl) ?_;refine uM 10 rfl rfl (fun M hM=>by subst hM;exact zfw (i:=5) (s:=(x.Team,Int.tdiv x.At 604800000)) (f:=HVal.int .i64) (z0:=(0:Int)) zkM zvO ty3 rfl rfl rfl rfl ⟨rfl,rfl⟩) ?_;refine gz4 ?_;refine uM 15 rfl rfl (fun M hM=>by subst hM;exact zV (i:=0) ty3 rfl rfl (.inl ⟨rfl,rfl⟩) ⟨rfl,rfl⟩) ?_;refine gz3 ?_;refine uCo (fun h9=> ?_) fun h10=> ?_
 refine gz4 ?_;refine zaf rfl ⟨?_,rfl⟩
 show HVal.int .i64 _=_
 refine congrArg _ ?_;unfold zdz
 (simp_all [zch,zcM,rPl,rHu])
 refine gz2 ?_;refine dq (zaE (f:=HVal.str) (l:=rPl k x.Team) zo rfl) ?_;refine gz4 ?_;refine de rfl (uZ 0 ?_)
 refine gz3 ?_;refine uCo (fun h11=> ?_) fun h12=> ?_
 refine gz4 ?_;refine zaf rfl ⟨?_,rfl⟩
 show HVal.int .i64 _=_
 refine congrArg _ ?_;unfold zdz
 (simp_all [zch,zcM,rPl,rHu])
 refine gz8 ?_;refine zaf rfl ⟨?_,rfl⟩
 show HVal.int .i64 _=_
 refine congrArg _ ?_;unfold zdz
 (simp_all [zch,zcM,rPl,rHu];(repeat' split)<;>first|rfl|(exfalso;omega)|omega)
 refine gz4 ?_;refine uCo (fun h13=> ?_) fun h14=> ?_
 refine gz6 ?_;refine uCo (fun h15=> ?_) fun h16=> ?_
 refine gz4 ?_;refine zaf rfl ⟨?_,rfl⟩
 show HVal.int .i64 _=_
 refine congrArg _ ?_;unfold zdz
 (simp_all [zch,zcM,rPl,rHu])
 refine gz7 ?_;refine zaf rfl ⟨?_,rfl⟩
 show HVal.int .i64 _=_
 refine congrArg _ ?_;unfold zdz
 (simp_all [zch,zcM,rPl,rHu])
 refine gz4 ?_;refine uCo (fun h17=> ?_) fun h18=> ?_
 refine gz5 ?_;refine dq (uCl zgG rfl (zG (l:=rPl k x.Team) (by have:=hP x.Team;omega))) ?_;refine gz3 ?_;refine uCo (fun h19=> ?_) fun h20=> ?_
 refine gz4 ?_;refine zaf rfl ⟨?_,rfl⟩
 show HVal.int .i64 _=_
 refine congrArg _ ?_;unfold zdz
 (simp_all [zch,zcM,rPl,rHu])
 refine gz2 ?_;refine dq (zaE (f:=HVal.str) (l:=rHu k x.Team) zo rfl) ?_;refine gz4 ?_;refine de rfl (uZ 0 ?_)
 refine gz3 ?_;refine uCo (fun h21=> ?_) fun h22=> ?_
 refine gz4 ?_;refine zaf rfl ⟨?_,rfl⟩
 show HVal.int .i64 _=_
 refine congrArg _ ?_;unfold zdz
 (simp_all [zch,zcM,rPl,rHu])
 refine gz8 ?_;refine zaf rfl ⟨?_,rfl⟩
 show HVal.int .i64 _=_
 refine congrArg _ ?_;unfold zdz
 (simp_all [zch,zcM,rPl,rHu];(repeat' split)<;>first|rfl|(exfalso;omega)|omega)
 refine gz4 ?_;refine uCo (fun h23=> ?_) fun h24=> ?_
 refine gz5 ?_;refine dq (uCl zgG rfl (zG (l:=rHu k x.Team) (by have:=hH x.Team;omega))) ?_;refine gz3 ?_;refine uCo (fun h25=> ?_) fun h26=> ?_
 refine gz4 ?_;refine zaf rfl ⟨?_,rfl⟩
 show HVal.int .i64 _=_
 refine congrArg _ ?_;unfold zdz
 (simp_all [zch,zcM,rPl,rHu])
 refine gz2 ?_;refine dq (zaE (f:=HVal.str) (l:=rPl k x.Team) zo rfl) ?_;refine gz4 ?_;refine de rfl (uZ 0 ?_)
 refine gz3 ?_;refine uCo (fun h27=> ?_) fun h28=> ?_
 refine gz4 ?_;refine zaf rfl ⟨?_,rfl⟩
 show HVal.int .i64 _=_
 refine congrArg _ ?_;unfold zdz
 (simp_all [zch,zcM,rPl,rHu])
 refine gz8 ?_;refine zaf rfl ⟨?_,rfl⟩
 show HVal.int .i64 _=_
 refine congrArg _ ?_;unfold zdz
 (simp_all [zch,zcM,rPl,rHu];(repeat' split)<;>first|rfl|(exfalso;omega)|omega)
 refine gz7 ?_;refine zaf rfl ⟨?_,rfl⟩
 show HVal.int .i64 _=_
 refine congrArg _ ?_;unfold zdz
 (simp_all [zch,zcM,rPl,rHu])
end
end Go.Proofs.YtabpobhnedkkeaaGreatDoor
namespace Go.HL
section
open Go
theorem zp7 {b:BoundS} {n:Int} {x:MoveS}: ∀{l:List MoveS} {i:Nat} {k:RosS},l[i]? =some x->zh0 b n k (l.take (i+1))=if x.At<=n then zh1 b (zh0 b n k (l.take i)) x else zh0 b n k (l.take i)
 |[],i,k,h=>by cases i<;>cases h
 |y::r,0,k,h=>by
   obtain rfl:=As h
   rfl
 |y::r,i+1,k,h=>by
   show zh0 b n _ (r.take (i+1))=if x.At<=n then zh1 b (zh0 b n _ (r.take i)) x else zh0 b n _ (r.take i)
   exact zp7 (l:=r) h
structure RosW (k:RosS):Prop where
 p: ∀t,SortedS (rPl k t)/\(rPl k t).length<=100000
 h: ∀t,SortedS (rHu k t)/\(rHu k t).length<=100000
 a: ∀w,0<=zcM k w/\zcM k w<=100000
 dr: ∀q∈k.D,0<=q.2/\q.2<=345686399999
 dj: ∀t p,p∈rPl k t->p∉rHu k t
theorem RosOk.w {n:Nat} {k:RosS} (h:RosOk n k) (hn:n<=100000):RosW k:=
 ⟨fun t=>⟨(h.sp t).1,by have:=(h.sp t).2.1;omega⟩,fun t=>⟨(h.sh t).1,by have:=(h.sh t).2.1;omega⟩,fun w=>by have:=h.ad w;omega,h.dr,h.dj⟩
theorem zBB {b:BoundS} {l:List MoveS} {n:Int} (hl: ∀x∈l,(0<=x.At/\x.At<=345686399999)/\(1<=x.Kind/\x.Kind<=4)/\x.Team≠[]) (hn:l.length<=2000) (i:Nat):RosW (zh0 b n zrI (l.take i)):=
 (zt1 (b:=b) (m:=n) zt7 (l:=l.take i) fun x hx=>hl x (AS hx)).w (by rw [Az];omega)
def zmk (b:BoundS) (l:List MoveS) (p:Str) (n:Int):Int:=if orI [zeo b,zfg l]≠0 then orI [zeo b,zfg l] else if key p=false then 5 else if zN n=false then 1 else 0
def frE (b:BoundS) (l:List MoveS) (ps:List Str) (n:Int):Int:=
 if orI [zeo b,zfg l]≠0 then orI [zeo b,zfg l] else if 500<ps.length then 2 else if (ps.any fun s=> !key s)=true then 5 else if zN n=false then 1 else 0
theorem zFK {b:BoundS} {l:List MoveS} {p:Str} {n:Int} (h:zmk b l p n=0):zfg l=0/\key p=true/\zN n=true:=by
 unfold zmk at h
 by_cases h1:orI [zeo b,zfg l]≠0
 rw [if_pos h1] at h;exact absurd h h1;rw [if_neg h1] at h
 by_cases h2:key p=false
 rw [if_pos h2] at h;cases h;rw [if_neg h2] at h
 by_cases h3:zN n=false
 rw [if_pos h3] at h;cases h;exact ⟨(zCF (Decidable.not_not.1 h1)).2,by simpa using h2,by simpa using h3⟩
theorem zEA {b:BoundS} {l:List MoveS} {ps:List Str} {n:Int} (h1:orI [zeo b,zfg l]=0) (h2: ¬500<ps.length) (h3:(ps.any fun s=> !key s)=false) (h4:zN n=true):frE b l ps n=0:=by
 unfold frE;rw [if_neg (fun q=>q h1),if_neg h2,if_neg (by rw [h3];simp),if_neg (by rw [h4];simp)]
theorem zkV {b:BoundS} {l:List MoveS} {n:Int} (hm:zfg l=0):RosW (zdY b l n):=by
 obtain ⟨hl,hml⟩:=zwU hm;have:=zBB (b:=b) (n:=n) (l:=l) (fun x hx=>⟨(hml x hx).1,(hml x hx).2.1,fun e=>by have:=(hml x hx).2.2.1;rw [e] at this;cases this⟩) hl l.length;rw [Am] at this;exact this
end
end Go.HL
namespace Go.Proofs.YtabpobhnedkkeaaGreatDoor
set_option maxRecDepth 100000
set_option linter.unusedVariables false
set_option linter.unusedSimpArgs false
section
open Go.Proofs.Tryz
open Go.HL
theorem znO [Tracks] {kb pb hb ob db ab:Nat} {b:BoundS} {k:RosS} {x:MoveS} (hx:0<=x.At/\x.At<=345686399999) (hk:1<=x.Kind/\x.Kind<=4) (hP: ∀t,SortedS (rPl k t)/\(rPl k t).length<=100000) (hH: ∀t,SortedS (rHu k t)/\(rHu k t).length<=100000) (hA: ∀w,0<=zcM k w/\zcM k w<=100000) (hD: ∀q∈k.D,0<=q.2/\q.2<=345686399999) (hd: ∀t p,p∈rPl k t->p∉rHu k t):Con prog 311 [.raw (.pointer (some ⟨kb,0,none⟩)),zdD x] (zd6 kb pb hb ob db ab b k) (fun x1 M'=>x1= .int .i64 (zdz b k x)/\M'=(zd6 kb pb hb ob db ab b (zh1 b k x))):=by
 refine uOb func311 ntmps311 ?_;refine gz7 ?_;refine de rfl (zaA (M1:=(zd6 kb pb hb ob db ab b k)) (R:=[]) zIJ rfl (WeakL.refl _) (by rw [AV]) (zqS hx hD (fun t=>by have:=(hP t).2;omega) (fun t=>by have:=(hH t).2;omega)) ?_)
 rintro _ _ ⟨rfl,rfl⟩;refine gz2 ?_;refine zbF (fun M=>M=(zd6 kb pb hb ob db ab b k)) [3,6,10,13] mixed ?_;refine gz1 ?_;refine uB 1 rfl ((by first|exact zL rfl|exact zx rfl)) ?_;refine gz1 ?_;refine uM 3 rfl rfl (fun M hM=>by subst hM;exact zV (i:=0) zef rfl rfl (.inl ⟨rfl,rfl⟩) ⟨rfl,rfl⟩) ?_;refine uB 4 rfl ((by first|exact zk zy rfl ty9 (by decide) rfl|exact zf zy rfl ty9 (by decide) rfl)) ?_;refine gz1 ?_;refine uM 6 rfl rfl (fun M hM=>by subst hM;exact zgg (i:=1) (f:=eSs) (z0:=([]:List Str)) zef ty9 zo rfl rfl rfl (zD 1) ⟨rfl,rfl⟩) ?_;refine gz1 ?_;refine uB 8 rfl ((by first|exact zL rfl|exact zx rfl)) ?_;refine gz1 ?_;refine uM 10 rfl rfl (fun M hM=>by subst hM;exact zV (i:=0) zef rfl rfl (.inl ⟨rfl,rfl⟩) ⟨rfl,rfl⟩) ?_;refine uB 11 rfl ((by first|exact zk zy rfl ty9 (by decide) rfl|exact zf zy rfl ty9 (by decide) rfl)) ?_;refine gz1 ?_;refine uM 13 rfl rfl (fun M hM=>by subst hM;exact zgg (i:=2) (f:=eSs) (z0:=([]:List Str)) zef ty9 zo rfl rfl rfl (zD 1) ⟨rfl,rfl⟩) ?_;refine gz3 ?_;refine uVj [6,2,25,76] (fun (q:RosS×List Str×List Str)=>[(6,eSs q.2.1),(7,eSs q.2.2)]) (fun (q:RosS×List Str×List Str)=>(zd6 kb pb hb ob db ab b q.1)) (fun (q:RosS×List Str×List Str)=>zh1 b k x=⟨zp x.Team q.2.1 q.1.P,zp x.Team q.2.2 q.1.H,q.1.O,q.1.D,q.1.A⟩) ?_ ?_
 skip
 refine gz4 ?_;refine uCo (fun h1=> ?_) fun h2=> ?_
 refine gz1 ?_;refine dq ((by first|exact zk zy rfl ty3 (by decide) rfl|exact zf zy rfl ty3 (by decide) rfl)) ?_;refine gz7 ?_;refine zam rfl (fun h3=> ?_) (fun h4=> ?_)
 try simp at h3
 refine gz2 ?_;refine dq ((by first|exact zk zy rfl ty9 (by decide) rfl|exact zf zy rfl ty9 (by decide) rfl)) ?_;refine gz1 ?_;refine dq (uCl zzo rfl (zlg (l:=(rPl k x.Team)) (by have:=(hP x.Team).2;omega) (hP x.Team).1)) ?_;refine gz2 ?_;refine zbF (fun M=>M=(zd6 kb pb hb ob db ab b k)) [3] mixed ?_;refine gz1 ?_;refine uB 1 rfl ((by first|exact zL rfl|exact zx rfl)) ?_;refine gz1 ?_;refine uM 3 rfl rfl (fun M hM=>by subst hM;exact zV (i:=0) zjz rfl rfl (.inl ⟨rfl,rfl⟩) ⟨rfl,rfl⟩) ?_;refine uB 4 rfl ((by first|exact zk zy rfl ty9 (by decide) rfl|exact zf zy rfl ty9 (by decide) rfl)) ?_;refine gz1 ?_;refine uB 6 rfl ((by first|exact zk zy rfl ty9 (by decide) rfl|exact zf zy rfl ty9 (by decide) rfl)) ?_;refine gz1 ?_;refine uF 8 ?_;refine zI (zbj (i:=3) (f:=HVal.str) (L:=k.O) (v:=x.Team) zjz ty9 rfl rfl rfl rfl ?_)
 refine ⟨uE,?_⟩
 refine gz1 ?_;refine zbx (fun M=>M=(zd6 kb pb hb ob db ab b (⟨k.P,k.H,zp x.Player x.Team k.O,k.D,k.A⟩:RosS))\/∃j st,zb6 (x.Team,Int.tdiv x.At 604800000) (zd4 (x.Team,Int.tdiv x.At 604800000) (HVal.int .i64 0) (em (HVal.int .i64) k.A))=some j/\M=[MObj.cells kb (kBk b pb hb ob db ab),MObj.map pb (sk (em eSs k.P)),MObj.map hb (sk (em eSs k.H)),MObj.map ob (sk (em HVal.str (zp x.Player x.Team k.O))),MObj.map db (sk (em (HVal.int .i64) k.D)),MObj.mape ab (kk eWk (zd4 (x.Team,Int.tdiv x.At 604800000) (HVal.int .i64 0) (em (HVal.int .i64) k.A))) j st]) [3,10] mixed ?_;refine gz1 ?_;refine uB 1 rfl ((by first|exact zL rfl|exact zx rfl)) ?_;refine gz1 ?_;refine uM 3 rfl (.inl rfl) (fun M hM=>by
 rcases hM with rfl|⟨j,st,hj,rfl⟩
 exact zV (i:=0) zkM rfl rfl (.inl ⟨rfl,rfl⟩) ⟨rfl,rfl⟩;exact zV (i:=0) zkM rfl rfl (.inl ⟨rfl,rfl⟩) ⟨rfl,rfl⟩) ?_
 refine uB 4 rfl ((by first|exact zk zy rfl ty9 (by decide) rfl|exact zf zy rfl ty9 (by decide) rfl)) ?_;refine gz1 ?_;refine uB 6 rfl ((by first|exact zk zy rfl ty3 (by decide) rfl|exact zf zy rfl ty3 (by decide) rfl)) ?_;refine gz1 ?_;refine uB 8 rfl (zbZ rfl rfl uO uO uO) ?_;refine uB 9 rfl (zC (cs:=[_,_]) zAl zEd rfl) ?_;refine uM 10 rfl (.inl rfl) (fun M hM=>by
 rcases hM with rfl|⟨j,st,hj,rfl⟩
 exact zfw (i:=5) (s:=(x.Team,Int.tdiv x.At 604800000)) (z0:=(0:Int)) (f:=HVal.int .i64) zkM zvO ty3 rfl rfl rfl rfl ⟨rfl,rfl⟩;exact zpB (i:=5) (s:=(x.Team,Int.tdiv x.At 604800000)) (z0:=(0:Int)) (f:=HVal.int .i64) zkM zvO ty3 rfl rfl rfl rfl ⟨rfl,rfl⟩) ?_
 refine uB 11 rfl (zbt rfl rfl (by have:=hA (x.Team,Int.tdiv x.At 604800000);unfold zcM at this;dsimp only;omega) (by have:=hA (x.Team,Int.tdiv x.At 604800000);unfold zcM at this;dsimp only;omega)) ?_;refine uF 12 ?_;refine zw rfl (zoJ (i:=5) (s:=(x.Team,Int.tdiv x.At 604800000)) (z0:=(0:Int)) (f:=HVal.int .i64) zkM zvO ty3 rfl rfl rfl rfl fun j55 st55 hj55=> ?_)
 refine ⟨fun _=> .inl (.inr ⟨j55,st55,hj55,rfl⟩),?_⟩
 refine gz1 ?_;refine uF 14 ?_;refine zI (zl2 (i:=5) (s:=(x.Team,Int.tdiv x.At 604800000)) (f:=HVal.int .i64) (z0:=(0:Int)) (v:=zcM k (x.Team,Int.tdiv x.At 604800000)+1) rfl rfl rfl rfl hj55 ?_)
 refine ⟨uE,?_⟩
 refine gz2 ?_;exact ⟨((⟨k.P,k.H,zp x.Player x.Team k.O,k.D,zp (x.Team,Int.tdiv x.At 604800000) (zcM k (x.Team,Int.tdiv x.At 604800000)+1) k.A⟩:RosS),zgM (rPl k x.Team) x.Player,(rHu k x.Team)),by rw [zh1,if_neg (by simpa using h1),if_pos (by assumption)],⟨rfl,rfl,trivial⟩,uK,Ac _⟩
 try simp at h4
 refine gz4 ?_;refine uCo (fun h5=> ?_) fun h6=> ?_
 refine uDr mixed ?_;refine gz1 ?_;refine uB 1 rfl ((by first|exact zk zy rfl ty9 (by decide) rfl|exact zf zy rfl ty9 (by decide) rfl)) ?_;refine gz1 ?_;refine uB 3 rfl (uCl zvF rfl (zhG (l:=(rPl k x.Team)) (by have:=(fun t=>(hP t).2) x.Team;omega))) ?_;refine gz1 ?_;refine uB 5 rfl ((by first|exact zk zy rfl ty9 (by decide) rfl|exact zf zy rfl ty9 (by decide) rfl)) ?_;refine gz1 ?_;refine uB 7 rfl (uCl zvF rfl (zhG (l:=(rHu k x.Team)) (by have:=(fun t=>(hH t).2) x.Team;omega))) ?_;refine gz3 ?_;refine zbF (fun M=>M=(zd6 kb pb hb ob db ab b k)) [3] mixed ?_;refine gz1 ?_;refine uB 1 rfl ((by first|exact zL rfl|exact zx rfl)) ?_;refine gz1 ?_;refine uM 3 rfl rfl (fun M hM=>by subst hM;exact zV (i:=0) zjz rfl rfl (.inl ⟨rfl,rfl⟩) ⟨rfl,rfl⟩) ?_;refine uB 4 rfl ((by first|exact zk zy rfl ty9 (by decide) rfl|exact zf zy rfl ty9 (by decide) rfl)) ?_;refine gz1 ?_;refine uF 6 ?_;refine zI (zzv (i:=3) (f:=HVal.str) (L:=k.O) (s:=x.Player) zjz ty9 rfl rfl rfl ?_)
 refine ⟨uE,?_⟩
 refine gz1 ?_;refine zbx (fun M=>M=(zd6 kb pb hb ob db ab b (⟨k.P,k.H,zcK x.Player k.O,k.D,k.A⟩:RosS))) [3] mixed ?_;refine gz1 ?_;refine uB 1 rfl ((by first|exact zL rfl|exact zx rfl)) ?_;refine gz1 ?_;refine uM 3 rfl rfl (fun M hM=>by subst hM;exact zV (i:=0) zcT rfl rfl (.inl ⟨rfl,rfl⟩) ⟨rfl,rfl⟩) ?_;refine uB 4 rfl ((by first|exact zk zy rfl ty9 (by decide) rfl|exact zf zy rfl ty9 (by decide) rfl)) ?_;refine gz1 ?_;refine uB 6 rfl ((by first|exact zk zy rfl ty3 (by decide) rfl|exact zf zy rfl ty3 (by decide) rfl)) ?_;refine gz1 ?_;refine uF 8 ?_;refine zI (zbj (i:=4) (f:=HVal.int .i64) (L:=k.D) (v:=x.At) zcT ty9 rfl rfl rfl rfl ?_)
 refine ⟨uE,?_⟩
 refine gz2 ?_;exact ⟨((⟨k.P,k.H,zcK x.Player k.O,zp x.Player x.At k.D,k.A⟩:RosS),zjh (rPl k x.Team) x.Player,zjh (rHu k x.Team) x.Player),by rw [zh1,if_neg (by simpa using h1),if_neg (by assumption),if_pos (by assumption)],⟨rfl,rfl,trivial⟩,uK,Ac _⟩;refine gz4 ?_;refine uCo (fun h7=> ?_) fun h8=> ?_
 refine zh8 mixed ?_;refine gz1 ?_;refine uB 1 rfl ((by first|exact zk zy rfl ty9 (by decide) rfl|exact zf zy rfl ty9 (by decide) rfl)) ?_;refine gz1 ?_;refine uB 3 rfl (uCl zvF rfl (zhG (l:=(rPl k x.Team)) (by have:=(fun t=>(hP t).2) x.Team;omega))) ?_;refine gz1 ?_;refine uB 5 rfl ((by first|exact zk zy rfl ty9 (by decide) rfl|exact zf zy rfl ty9 (by decide) rfl)) ?_;refine gz1 ?_;refine uB 7 rfl (uCl zzo rfl (zlg (l:=(rHu k x.Team)) (by have:=(hH x.Team).2;omega) (hH x.Team).1)) ?_;refine gz4 ?_;exact ⟨(k,zjh (rPl k x.Team) x.Player,zgM (rHu k x.Team) x.Player),by rw [zh1,if_neg (by simpa using h1),if_neg (by assumption),if_neg (by assumption),if_pos (by assumption)],⟨rfl,rfl,trivial⟩,uK,Ac _⟩;refine gz4 ?_;refine zam rfl (fun h9=> ?_) (fun h9=> ?_)
 try simp at h9
 refine zh8 mixed ?_;refine gz1 ?_;refine uB 1 rfl ((by first|exact zk zy rfl ty9 (by decide) rfl|exact zf zy rfl ty9 (by decide) rfl)) ?_;refine gz1 ?_;refine uB 3 rfl (uCl zzo rfl (zlg (l:=(rPl k x.Team)) (by have:=(hP x.Team).2;omega) (hP x.Team).1)) ?_;refine gz1 ?_;refine uB 5 rfl ((by first|exact zk zy rfl ty9 (by decide) rfl|exact zf zy rfl ty9 (by decide) rfl)) ?_;refine gz1 ?_;refine uB 7 rfl (uCl zvF rfl (zhG (l:=(rHu k x.Team)) (by have:=(fun t=>(hH t).2) x.Team;omega))) ?_;refine gz4 ?_;exact ⟨(k,zgM (rPl k x.Team) x.Player,zjh (rHu k x.Team) x.Player),by rw [zh1,if_neg (by simpa using h1),if_neg (by assumption),if_neg (by assumption),if_neg (by assumption)],⟨rfl,rfl,trivial⟩,uK,Ac _⟩
 exfalso
 try simp at h9
 omega
 refine gz1 ?_;exact ⟨(k,(rPl k x.Team),(rHu k x.Team)),by rw [zh1,if_pos (by simpa using h2)],⟨rfl,rfl,trivial⟩,uK,Ac _⟩
 intro q hq
 refine zbF (fun M=>M=(zd6 kb pb hb ob db ab b q.1)) [3,9] mixed ?_;refine gz1 ?_;refine uB 1 rfl ((by first|exact zL rfl|exact zx rfl)) ?_;refine gz1 ?_;refine uM 3 rfl rfl (fun M hM=>by subst hM;exact zV (i:=0) zef rfl rfl (.inl ⟨rfl,rfl⟩) ⟨rfl,rfl⟩) ?_;refine uB 4 rfl ((by first|exact zk zy rfl ty9 (by decide) rfl|exact zf zy rfl ty9 (by decide) rfl)) ?_;refine gz2 ?_;refine uB 7 rfl ((by first|exact zL rfl|exact zx rfl)) ?_;refine gz1 ?_;refine uM 9 rfl rfl (fun M hM=>by subst hM;exact zV (i:=0) zef rfl rfl (.inl ⟨rfl,rfl⟩) ⟨rfl,rfl⟩) ?_;refine uB 10 rfl ((by first|exact zk zy rfl ty9 (by decide) rfl|exact zf zy rfl ty9 (by decide) rfl)) ?_;refine gz3 ?_;refine uF 14 ?_;refine zw rfl (zoK (i:=1) (s:=x.Team) (f:=eSs) (L:=q.1.P) zef ty9 zo rfl rfl rfl fun j115 st115 hj115=> ?_)
 refine ⟨uE,?_⟩
 refine gz1 ?_;refine uF 16 ?_;refine zI (zl3 (i:=1) (s:=x.Team) (f:=eSs) (L:=q.1.P) (v:=q.2.1) rfl rfl rfl rfl hj115 ?_)
 refine ⟨uE,?_⟩
 refine uF 17 ?_;refine zw rfl (zoK (i:=2) (s:=x.Team) (f:=eSs) (L:=q.1.H) zef ty9 zo rfl rfl rfl fun j117 st117 hj117=> ?_)
 refine ⟨uE,?_⟩
 refine gz1 ?_;refine uF 19 ?_;refine zI (zl3 (i:=2) (s:=x.Team) (f:=eSs) (L:=q.1.H) (v:=q.2.2) rfl rfl rfl rfl hj117 ?_)
 refine ⟨uE,?_⟩
 refine gz6 ?_;refine zaf rfl ⟨rfl,?_⟩
 rw [hq];rfl
theorem zvk [Tracks] {i e:Int}:ConP prog 252 [.int .i64 i,.int .i64 e] (.tup []):=by
 refine uOb func252 ntmps252 ?_;refine gz1 ?_;refine zz9 rfl ?_
 rfl
theorem zsb [Tracks] {b:BoundS} {l:List MoveS} {n:Int} {fid:FuncId} (hm:zfg l=0) (hca:Callable prog fid) (hp: ∀i e:Int,ConP prog fid [.int .i64 i,.int .i64 e] (.tup [])):Con prog 251 [zet b,zcA l,.int .i64 n,.fn (.func fid) [] []] [] (fun x M'=> ∃kb pb hb ob db ab:Nat,x= .raw (.pointer (some ⟨kb,0,none⟩))/\M'=(zd6 kb pb hb ob db ab b (zdY b l n))):=by
 obtain ⟨hl,hml⟩:=zwU hm;have hmk: ∀x∈l,(0<=x.At/\x.At<=345686399999)/\(1<=x.Kind/\x.Kind<=4)/\x.Team≠[]:=fun x hx=>⟨(hml x hx).1,(hml x hx).2.1,fun e=>by have:=(hml x hx).2.2.1;rw [e] at this;cases this⟩
 refine uOb func251 ntmps251 ?_;refine gz6 ?_;refine de rfl (zax fun m13=> ?_)
 refine de rfl (zax fun m14=> ?_)
 refine de rfl (zax fun m15=> ?_)
 refine de rfl (zax fun m16=> ?_)
 refine de rfl (zax fun m17=> ?_)
 refine dq (zC (cs:=[_,_,_,_,_,_,_,_,_]) zEj zJb rfl) ?_;refine de rfl (ztG rfl rfl fun kb=> ?_)
 refine gz2 ?_;refine zd (Ghost.perm (M':=zd6 kb m13 m14 m15 m16 m17 b zrI) uQ) ?_;refine gz7 ?_;refine uT1 [10,2,22,16] (fun i=>[(22,.int .i64 i)]) (fun i=>zd6 kb m13 m14 m15 m16 m17 b (zh0 b n zrI (l.take i))) (fun i=>i<=l.length/\(True)) (fun i=>l.length-i) (0) ?_ ?_;exact ⟨Ad _,trivial⟩;rintro i ⟨hi,-⟩;refine gz4 ?_;refine uCo (fun h1=> ?_) fun h2=> ?_
 obtain ⟨x,hx⟩: ∃x,l[i]? =some x:=⟨_,Aa h1⟩
 have hdx:=zi hx;obtain ⟨hx1,hx2,_⟩:=hmk x (Ab hx);have hok:=zBB (b:=b) (n:=n) hmk hl i;refine gz8 ?_;refine de rfl (zg zy rfl fun b11=> ?_)
 refine gz1 ?_;refine de0 (zj zy rfl rfl rfl rfl rfl ?_)
 refine gz1 ?_;refine zd (zm 11 rfl) ?_;refine gz6 ?_;refine uCo (fun h3=> ?_) fun h4=> ?_
 refine gz5 ?_;refine de rfl (zaA (M1:=zd6 kb m13 m14 m15 m16 m17 b (zh0 b n zrI (l.take i))) (R:=[]) zIC rfl (WeakL.refl _) (by rw [AV]) (znO hx1 hx2 hok.p hok.h hok.a hok.dr hok.dj) ?_)
 rintro _ _ ⟨rfl,rfl⟩;refine dq (zag hca rfl rfl (WeakL.refl _) (hp _ _)) ?_;refine gz7 ?_;exact ⟨i+1,⟨by omega,trivial⟩,uD,⟨rfl,trivial⟩,uK,zl (by dsimp only;rw [zp7 hx,if_pos (by assumption)];try rfl)⟩;refine gz7 ?_;exact ⟨i+1,⟨by omega,trivial⟩,uD,⟨rfl,trivial⟩,uK,zl (by dsimp only;rw [zp7 hx,if_neg uO];try rfl)⟩;have hni:l.length<=i:=by omega
 obtain rfl:i=l.length:=by omega
 rw [Am];refine gz2 ?_;refine zv ?_;refine gz7 ?_;exact zaf rfl ⟨_,_,_,_,_,_,rfl,rfl⟩
theorem zxG [Tracks] {b:BoundS} {l:List MoveS} {n:Int} (hm:zfg l=0):Con prog 172 [zet b,zcA l,.int .i64 n] [] (fun x M'=> ∃kb pb hb ob db ab:Nat,x= .raw (.pointer (some ⟨kb,0,none⟩))/\M'=(zd6 kb pb hb ob db ab b (zdY b l n))):=by
 refine uOb func172 ntmps172 ?_;refine gz8 ?_;refine de rfl (zaA (M1:=[]) (R:=[]) zH1 rfl (WeakL.refl _) (Ac _) (zsb hm zH2 (fun _ _=>zvk)) ?_)
 rintro _ _ ⟨kb,pb,hb,ob,db,ab,rfl,rfl⟩;refine gz3 ?_;exact zaf rfl ⟨_,_,_,_,_,_,rfl,rfl⟩
theorem ztq [Tracks] {b:BoundS} {l:List MoveS} (hl:l.length<=1000000):ConP prog 250 [zet b,zcA l] (.int .i64 (orI [zeo b,zfg l])):=by
 refine uOb func250 ntmps250 ?_;refine gz6 ?_;refine dq (uCl zDA rfl ziC) ?_;refine gz1 ?_;refine dq (uCl ca74 rfl (zi2 uS)) ?_;refine dq (za (hs:=[_,_]) zg0 zhv rfl rfl (by decide) (by decide) rfl) ?_;refine dq (uCl zpt rfl (zdH (l:=[_,_]) (by simp))) ?_;refine gz3 ?_;refine zu rfl ?_
 rfl
theorem zoW [Tracks] {b:BoundS} {l:List MoveS} {p:Str} {n:Int} (hl:l.length<=1000000):ConP prog 171 [zet b,zcA l,.str p,.int .i64 n] (.int .i64 (zmk b l p n)):=by
 refine uOb func171 ntmps171 ?_;refine gz8 ?_;refine dq (uCl zH0 rfl (ztq uS)) ?_;refine gz6 ?_;refine uCo (fun h1=> ?_) fun h2=> ?_
 refine gz5 ?_;refine uRp ?_;unfold zmk
 simp_all
 refine gz6 ?_;refine dq (uCl zcG rfl zaz) ?_;refine gz3 ?_;refine uCo (fun h3=> ?_) fun h4=> ?_
 refine gz4 ?_;refine uRp ?_;unfold zmk
 simp_all
 refine gz2 ?_;refine dq (uCl zj6 rfl zbO) ?_;refine gz3 ?_;refine uCo (fun h5=> ?_) fun h6=> ?_
 refine gz4 ?_;refine uRp ?_;unfold zmk
 simp_all
 refine gz7 ?_;refine uRp ?_;unfold zmk
 simp_all
end
end Go.Proofs.YtabpobhnedkkeaaGreatDoor
namespace Go.Proofs
section
open Go.Shelf
def Tryz.g308_ren:Go.Shelf.Ren:=⟨fun|7=>308|10=>355|n=>n,fun|23=>215|26=>9|3=>4|28=>359|0=>0|27=>358|33=>172|4=>4|n=>n,fun|n=>n⟩
theorem zue:Go.Proofs.SlLaysZ.n7 Tryz.prog Tryz.g308_ren:={
 mixed:=by kernel_rfl
 f7:=⟨Tryz.f308.name,by decide,Tryz.func308.trans (congrArg some (by kernel_rfl))⟩
 f10:=⟨Tryz.f355.name,by decide,Tryz.func355.trans (congrArg some (by kernel_rfl))⟩
 t0:=Tryz.underlying0
 a0:=Tryz.isAgg0
 z0:=Tryz.sizeOf0
 v0:=Tryz.zeroValue0
 t4:=Tryz.underlying4
 a4:=Tryz.isAgg4
 z4:=Tryz.sizeOf4
 v4:=Tryz.zeroValue4
 t23:=Tryz.underlying215
 a23:=Tryz.isAgg215
 z23:=Tryz.sizeOf215
 v23:=Tryz.zeroValue215
 t26:=Tryz.underlying9
 a26:=Tryz.isAgg9
 z26:=Tryz.sizeOf9
 v26:=Tryz.zeroValue9
 t27:=Tryz.underlying358
 a27:=Tryz.isAgg358
 z27:=Tryz.sizeOf358
 v27:=Tryz.zeroValue358
 t28:=Tryz.underlying359
 a28:=Tryz.isAgg359
 z28:=Tryz.sizeOf359
 v28:=Tryz.zeroValue359
 t33:=Tryz.underlying172
 a33:=Tryz.isAgg172
 z33:=Tryz.sizeOf172
 v33:=Tryz.zeroValue172}
def Tryz.g307_ren:Go.Shelf.Ren:=⟨fun|6=>307|8=>354|9=>197|11=>390|13=>220|12=>275|23=>289|24=>290|14=>325|15=>326|16=>327|17=>328|18=>329|19=>330|20=>331|21=>332|22=>333|25=>379|26=>339|27=>340|28=>380|29=>381|30=>336|31=>403|n=>n,fun|26=>9|28=>359|24=>33|0=>0|3=>3|37=>271|48=>339|50=>341|4=>4|40=>333|39=>332|45=>221|5=>5|9=>9|51=>379|55=>383|57=>425|58=>426|33=>172|n=>n,fun|n=>n⟩
theorem zAt:Go.Proofs.SlLaysZ.n6 Tryz.prog Tryz.g307_ren:={
 mixed:=by kernel_rfl
 f6:=⟨Tryz.f307.name,by decide,Tryz.func307.trans (congrArg some (by kernel_rfl))⟩
 f8:=⟨Tryz.f354.name,by decide,Tryz.func354.trans (congrArg some (by kernel_rfl))⟩
 f11:=⟨Tryz.f390.name,by decide,Tryz.func390.trans (congrArg some (by kernel_rfl))⟩
 t0:=Tryz.underlying0
 a0:=Tryz.isAgg0
 z0:=Tryz.sizeOf0
 v0:=Tryz.zeroValue0
 t24:=Tryz.underlying33
 a24:=Tryz.isAgg33
 z24:=Tryz.sizeOf33
 v24:=Tryz.zeroValue33
 t26:=Tryz.underlying9
 a26:=Tryz.isAgg9
 z26:=Tryz.sizeOf9
 v26:=Tryz.zeroValue9
 t28:=Tryz.underlying359
 a28:=Tryz.isAgg359
 z28:=Tryz.sizeOf359
 v28:=Tryz.zeroValue359
 i26:=by kernel_rfl}
def Tryz.g197_ren:Go.Shelf.Ren:=⟨fun|6=>197|8=>220|9=>275|19=>289|20=>290|21=>325|22=>326|23=>327|24=>328|25=>329|26=>330|27=>331|28=>332|29=>333|36=>379|31=>339|32=>340|37=>380|38=>381|39=>336|41=>403|n=>n,fun|27=>33|29=>9|3=>3|32=>271|26=>33|0=>0|44=>339|46=>341|4=>4|36=>333|35=>332|41=>221|5=>5|9=>9|53=>379|57=>383|63=>425|64=>426|n=>n,fun|n=>n⟩
theorem zud:Go.Proofs.SlLaysM.n6 Tryz.prog Tryz.g197_ren:={
 mixed:=by kernel_rfl
 f6:=⟨Tryz.f197.name,by decide,Tryz.func197.trans (congrArg some (by kernel_rfl))⟩
 f8:=Tryz.func220.trans (congrArg some (by kernel_rfl))
 f9:=⟨Tryz.f275.name,by decide,Tryz.func275.trans (congrArg some (by kernel_rfl))⟩
 f19:=Tryz.func289.trans (congrArg some (by kernel_rfl))
 f20:=Tryz.func290.trans (congrArg some (by kernel_rfl))
 f21:=⟨Tryz.f325.name,by decide,Tryz.func325.trans (congrArg some (by kernel_rfl))⟩
 f22:=⟨Tryz.f326.name,by decide,Tryz.func326.trans (congrArg some (by kernel_rfl))⟩
 f23:=⟨Tryz.f327.name,by decide,Tryz.func327.trans (congrArg some (by kernel_rfl))⟩
 f24:=⟨Tryz.f328.name,by decide,Tryz.func328.trans (congrArg some (by kernel_rfl))⟩
 f25:=⟨Tryz.f329.name,by decide,Tryz.func329.trans (congrArg some (by kernel_rfl))⟩
 f26:=⟨Tryz.f330.name,by decide,Tryz.func330.trans (congrArg some (by kernel_rfl))⟩
 f27:=⟨Tryz.f331.name,by decide,Tryz.func331.trans (congrArg some (by kernel_rfl))⟩
 f28:=⟨Tryz.f332.name,by decide,Tryz.func332.trans (congrArg some (by kernel_rfl))⟩
 f29:=⟨Tryz.f333.name,by decide,Tryz.func333.trans (congrArg some (by kernel_rfl))⟩
 f31:=Tryz.func339.trans (congrArg some (by kernel_rfl))
 f32:=Tryz.func340.trans (congrArg some (by kernel_rfl))
 f36:=⟨Tryz.f379.name,by decide,Tryz.func379.trans (congrArg some (by kernel_rfl))⟩
 f37:=⟨Tryz.f380.name,by decide,Tryz.func380.trans (congrArg some (by kernel_rfl))⟩
 f38:=⟨Tryz.f381.name,by decide,Tryz.func381.trans (congrArg some (by kernel_rfl))⟩
 f39:=⟨Tryz.f336.name,by decide,Tryz.func336.trans (congrArg some (by kernel_rfl))⟩
 f41:=⟨Tryz.f403.name,by decide,Tryz.func403.trans (congrArg some (by kernel_rfl))⟩
 t0:=Tryz.underlying0
 a0:=Tryz.isAgg0
 z0:=Tryz.sizeOf0
 v0:=Tryz.zeroValue0
 t3:=Tryz.underlying3
 a3:=Tryz.isAgg3
 z3:=Tryz.sizeOf3
 v3:=Tryz.zeroValue3
 t4:=Tryz.underlying4
 a4:=Tryz.isAgg4
 z4:=Tryz.sizeOf4
 v4:=Tryz.zeroValue4
 t5:=Tryz.underlying5
 a5:=Tryz.isAgg5
 z5:=Tryz.sizeOf5
 v5:=Tryz.zeroValue5
 t9:=Tryz.underlying9
 a9:=Tryz.isAgg9
 z9:=Tryz.sizeOf9
 v9:=Tryz.zeroValue9
 t26:=Tryz.underlying33
 a26:=Tryz.isAgg33
 z26:=Tryz.sizeOf33
 v26:=Tryz.zeroValue33
 t27:=Tryz.underlying33
 a27:=Tryz.isAgg33
 z27:=Tryz.sizeOf33
 v27:=Tryz.zeroValue33
 t29:=Tryz.underlying9
 a29:=Tryz.isAgg9
 z29:=Tryz.sizeOf9
 v29:=Tryz.zeroValue9
 t32:=Tryz.underlying271
 a32:=Tryz.isAgg271
 z32:=Tryz.sizeOf271
 v32:=Tryz.zeroValue271
 t35:=Tryz.underlying332
 a35:=Tryz.isAgg332
 z35:=Tryz.sizeOf332
 v35:=Tryz.zeroValue332
 t36:=Tryz.underlying333
 a36:=Tryz.isAgg333
 z36:=Tryz.sizeOf333
 v36:=Tryz.zeroValue333
 t41:=Tryz.underlying221
 a41:=Tryz.isAgg221
 z41:=Tryz.sizeOf221
 v41:=Tryz.zeroValue221
 t44:=Tryz.underlying339
 a44:=Tryz.isAgg339
 z44:=Tryz.sizeOf339
 v44:=Tryz.zeroValue339
 t46:=Tryz.underlying341
 a46:=Tryz.isAgg341
 z46:=Tryz.sizeOf341
 v46:=Tryz.zeroValue341
 t53:=Tryz.underlying379
 a53:=Tryz.isAgg379
 z53:=Tryz.sizeOf379
 v53:=Tryz.zeroValue379
 t57:=Tryz.underlying383
 a57:=Tryz.isAgg383
 z57:=Tryz.sizeOf383
 v57:=Tryz.zeroValue383
 t63:=Tryz.underlying425
 a63:=Tryz.isAgg425
 z63:=Tryz.sizeOf425
 v63:=Tryz.zeroValue425
 t64:=Tryz.underlying426
 a64:=Tryz.isAgg426
 z64:=Tryz.sizeOf426
 v64:=Tryz.zeroValue426}
def Tryz.g122_ren:Go.Shelf.Ren:=⟨fun|6=>122|15=>220|14=>219|28=>289|29=>290|20=>281|21=>282|22=>283|23=>284|24=>285|25=>286|26=>287|27=>288|46=>338|47=>339|48=>340|49=>341|50=>342|57=>383|n=>n,fun|22=>34|24=>192|25=>194|3=>3|39=>271|0=>0|53=>339|55=>341|4=>4|46=>333|45=>332|50=>221|5=>5|9=>9|66=>379|70=>383|76=>425|77=>426|n=>n,fun|n=>n⟩
theorem zAq:Go.Proofs.SlLaysF0.n6 Tryz.prog Tryz.g122_ren:={
 mixed:=by kernel_rfl
 f6:=⟨Tryz.f122.name,by decide,Tryz.func122.trans (congrArg some (by kernel_rfl))⟩
 f14:=⟨Tryz.f219.name,by decide,Tryz.func219.trans (congrArg some (by kernel_rfl))⟩
 f15:=Tryz.func220.trans (congrArg some (by kernel_rfl))
 f20:=⟨Tryz.f281.name,by decide,Tryz.func281.trans (congrArg some (by kernel_rfl))⟩
 f21:=⟨Tryz.f282.name,by decide,Tryz.func282.trans (congrArg some (by kernel_rfl))⟩
 f22:=⟨Tryz.f283.name,by decide,Tryz.func283.trans (congrArg some (by kernel_rfl))⟩
 f23:=⟨Tryz.f284.name,by decide,Tryz.func284.trans (congrArg some (by kernel_rfl))⟩
 f24:=⟨Tryz.f285.name,by decide,Tryz.func285.trans (congrArg some (by kernel_rfl))⟩
 f25:=⟨Tryz.f286.name,by decide,Tryz.func286.trans (congrArg some (by kernel_rfl))⟩
 f26:=⟨Tryz.f287.name,by decide,Tryz.func287.trans (congrArg some (by kernel_rfl))⟩
 f27:=⟨Tryz.f288.name,by decide,Tryz.func288.trans (congrArg some (by kernel_rfl))⟩
 f28:=Tryz.func289.trans (congrArg some (by kernel_rfl))
 f29:=Tryz.func290.trans (congrArg some (by kernel_rfl))
 f46:=⟨Tryz.f338.name,by decide,Tryz.func338.trans (congrArg some (by kernel_rfl))⟩
 f47:=Tryz.func339.trans (congrArg some (by kernel_rfl))
 f48:=Tryz.func340.trans (congrArg some (by kernel_rfl))
 f49:=⟨Tryz.f341.name,by decide,Tryz.func341.trans (congrArg some (by kernel_rfl))⟩
 f50:=⟨Tryz.f342.name,by decide,Tryz.func342.trans (congrArg some (by kernel_rfl))⟩
 f57:=⟨Tryz.f383.name,by decide,Tryz.func383.trans (congrArg some (by kernel_rfl))⟩
 t0:=Tryz.underlying0
 a0:=Tryz.isAgg0
 z0:=Tryz.sizeOf0
 v0:=Tryz.zeroValue0
 t3:=Tryz.underlying3
 a3:=Tryz.isAgg3
 z3:=Tryz.sizeOf3
 v3:=Tryz.zeroValue3
 t4:=Tryz.underlying4
 a4:=Tryz.isAgg4
 z4:=Tryz.sizeOf4
 v4:=Tryz.zeroValue4
 t5:=Tryz.underlying5
 a5:=Tryz.isAgg5
 z5:=Tryz.sizeOf5
 v5:=Tryz.zeroValue5
 t9:=Tryz.underlying9
 a9:=Tryz.isAgg9
 z9:=Tryz.sizeOf9
 v9:=Tryz.zeroValue9
 t22:=Tryz.underlying34
 a22:=Tryz.isAgg34
 z22:=Tryz.sizeOf34
 v22:=Tryz.zeroValue34
 t25:=Tryz.underlying194
 a25:=Tryz.isAgg194
 z25:=Tryz.sizeOf194
 v25:=Tryz.zeroValue194
 t39:=Tryz.underlying271
 a39:=Tryz.isAgg271
 z39:=Tryz.sizeOf271
 v39:=Tryz.zeroValue271
 t45:=Tryz.underlying332
 a45:=Tryz.isAgg332
 z45:=Tryz.sizeOf332
 v45:=Tryz.zeroValue332
 t46:=Tryz.underlying333
 a46:=Tryz.isAgg333
 z46:=Tryz.sizeOf333
 v46:=Tryz.zeroValue333
 t50:=Tryz.underlying221
 a50:=Tryz.isAgg221
 z50:=Tryz.sizeOf221
 v50:=Tryz.zeroValue221
 t53:=Tryz.underlying339
 a53:=Tryz.isAgg339
 z53:=Tryz.sizeOf339
 v53:=Tryz.zeroValue339
 t55:=Tryz.underlying341
 a55:=Tryz.isAgg341
 z55:=Tryz.sizeOf341
 v55:=Tryz.zeroValue341
 t66:=Tryz.underlying379
 a66:=Tryz.isAgg379
 z66:=Tryz.sizeOf379
 v66:=Tryz.zeroValue379
 t70:=Tryz.underlying383
 a70:=Tryz.isAgg383
 z70:=Tryz.sizeOf383
 v70:=Tryz.zeroValue383
 t76:=Tryz.underlying425
 a76:=Tryz.isAgg425
 z76:=Tryz.sizeOf425
 v76:=Tryz.zeroValue425
 t77:=Tryz.underlying426
 a77:=Tryz.isAgg426
 z77:=Tryz.sizeOf426
 v77:=Tryz.zeroValue426}
def Tryz.g194_ren:Go.Shelf.Ren:=⟨fun|6=>194|15=>220|14=>270|28=>289|29=>290|20=>317|21=>318|22=>319|23=>320|24=>321|25=>322|26=>323|27=>324|46=>376|47=>339|48=>340|49=>377|50=>378|57=>402|n=>n,fun|22=>50|24=>64|25=>118|3=>3|39=>271|0=>0|53=>339|55=>341|4=>4|46=>333|45=>332|50=>221|5=>5|9=>9|66=>379|70=>383|76=>425|77=>426|n=>n,fun|n=>n⟩
theorem zAr:Go.Proofs.SlLaysF0.n6 Tryz.prog Tryz.g194_ren:={
 mixed:=by kernel_rfl
 f6:=⟨Tryz.f194.name,by decide,Tryz.func194.trans (congrArg some (by kernel_rfl))⟩
 f14:=⟨Tryz.f270.name,by decide,Tryz.func270.trans (congrArg some (by kernel_rfl))⟩
 f15:=Tryz.func220.trans (congrArg some (by kernel_rfl))
 f20:=⟨Tryz.f317.name,by decide,Tryz.func317.trans (congrArg some (by kernel_rfl))⟩
 f21:=⟨Tryz.f318.name,by decide,Tryz.func318.trans (congrArg some (by kernel_rfl))⟩
 f22:=⟨Tryz.f319.name,by decide,Tryz.func319.trans (congrArg some (by kernel_rfl))⟩
 f23:=⟨Tryz.f320.name,by decide,Tryz.func320.trans (congrArg some (by kernel_rfl))⟩
 f24:=⟨Tryz.f321.name,by decide,Tryz.func321.trans (congrArg some (by kernel_rfl))⟩
 f25:=⟨Tryz.f322.name,by decide,Tryz.func322.trans (congrArg some (by kernel_rfl))⟩
 f26:=⟨Tryz.f323.name,by decide,Tryz.func323.trans (congrArg some (by kernel_rfl))⟩
 f27:=⟨Tryz.f324.name,by decide,Tryz.func324.trans (congrArg some (by kernel_rfl))⟩
 f28:=Tryz.func289.trans (congrArg some (by kernel_rfl))
 f29:=Tryz.func290.trans (congrArg some (by kernel_rfl))
 f46:=⟨Tryz.f376.name,by decide,Tryz.func376.trans (congrArg some (by kernel_rfl))⟩
 f47:=Tryz.func339.trans (congrArg some (by kernel_rfl))
 f48:=Tryz.func340.trans (congrArg some (by kernel_rfl))
 f49:=⟨Tryz.f377.name,by decide,Tryz.func377.trans (congrArg some (by kernel_rfl))⟩
 f50:=⟨Tryz.f378.name,by decide,Tryz.func378.trans (congrArg some (by kernel_rfl))⟩
 f57:=⟨Tryz.f402.name,by decide,Tryz.func402.trans (congrArg some (by kernel_rfl))⟩
 t0:=Tryz.underlying0
 a0:=Tryz.isAgg0
 z0:=Tryz.sizeOf0
 v0:=Tryz.zeroValue0
 t3:=Tryz.underlying3
 a3:=Tryz.isAgg3
 z3:=Tryz.sizeOf3
 v3:=Tryz.zeroValue3
 t4:=Tryz.underlying4
 a4:=Tryz.isAgg4
 z4:=Tryz.sizeOf4
 v4:=Tryz.zeroValue4
 t5:=Tryz.underlying5
 a5:=Tryz.isAgg5
 z5:=Tryz.sizeOf5
 v5:=Tryz.zeroValue5
 t9:=Tryz.underlying9
 a9:=Tryz.isAgg9
 z9:=Tryz.sizeOf9
 v9:=Tryz.zeroValue9
 t22:=Tryz.underlying50
 a22:=Tryz.isAgg50
 z22:=Tryz.sizeOf50
 v22:=Tryz.zeroValue50
 t25:=Tryz.underlying118
 a25:=Tryz.isAgg118
 z25:=Tryz.sizeOf118
 v25:=Tryz.zeroValue118
 t39:=Tryz.underlying271
 a39:=Tryz.isAgg271
 z39:=Tryz.sizeOf271
 v39:=Tryz.zeroValue271
 t45:=Tryz.underlying332
 a45:=Tryz.isAgg332
 z45:=Tryz.sizeOf332
 v45:=Tryz.zeroValue332
 t46:=Tryz.underlying333
 a46:=Tryz.isAgg333
 z46:=Tryz.sizeOf333
 v46:=Tryz.zeroValue333
 t50:=Tryz.underlying221
 a50:=Tryz.isAgg221
 z50:=Tryz.sizeOf221
 v50:=Tryz.zeroValue221
 t53:=Tryz.underlying339
 a53:=Tryz.isAgg339
 z53:=Tryz.sizeOf339
 v53:=Tryz.zeroValue339
 t55:=Tryz.underlying341
 a55:=Tryz.isAgg341
 z55:=Tryz.sizeOf341
 v55:=Tryz.zeroValue341
 t66:=Tryz.underlying379
 a66:=Tryz.isAgg379
 z66:=Tryz.sizeOf379
 v66:=Tryz.zeroValue379
 t70:=Tryz.underlying383
 a70:=Tryz.isAgg383
 z70:=Tryz.sizeOf383
 v70:=Tryz.zeroValue383
 t76:=Tryz.underlying425
 a76:=Tryz.isAgg425
 z76:=Tryz.sizeOf425
 v76:=Tryz.zeroValue425
 t77:=Tryz.underlying426
 a77:=Tryz.isAgg426
 z77:=Tryz.sizeOf426
 v77:=Tryz.zeroValue426}
def Tryz.g248_ren:Go.Shelf.Ren:=⟨fun|6=>248|15=>220|14=>310|28=>289|29=>290|20=>356|21=>357|22=>358|23=>359|24=>360|25=>361|26=>362|27=>363|46=>391|47=>339|48=>340|49=>392|50=>393|57=>411|n=>n,fun|22=>62|24=>121|25=>305|3=>3|39=>271|0=>0|53=>339|55=>341|4=>4|46=>333|45=>332|50=>221|5=>5|9=>9|66=>379|70=>383|76=>425|77=>426|n=>n,fun|n=>n⟩
theorem zAs:Go.Proofs.SlLaysF0.n6 Tryz.prog Tryz.g248_ren:={
 mixed:=by kernel_rfl
 f6:=⟨Tryz.f248.name,by decide,Tryz.func248.trans (congrArg some (by kernel_rfl))⟩
 f14:=⟨Tryz.f310.name,by decide,Tryz.func310.trans (congrArg some (by kernel_rfl))⟩
 f15:=Tryz.func220.trans (congrArg some (by kernel_rfl))
 f20:=⟨Tryz.f356.name,by decide,Tryz.func356.trans (congrArg some (by kernel_rfl))⟩
 f21:=⟨Tryz.f357.name,by decide,Tryz.func357.trans (congrArg some (by kernel_rfl))⟩
 f22:=⟨Tryz.f358.name,by decide,Tryz.func358.trans (congrArg some (by kernel_rfl))⟩
 f23:=⟨Tryz.f359.name,by decide,Tryz.func359.trans (congrArg some (by kernel_rfl))⟩
 f24:=⟨Tryz.f360.name,by decide,Tryz.func360.trans (congrArg some (by kernel_rfl))⟩
 f25:=⟨Tryz.f361.name,by decide,Tryz.func361.trans (congrArg some (by kernel_rfl))⟩
 f26:=⟨Tryz.f362.name,by decide,Tryz.func362.trans (congrArg some (by kernel_rfl))⟩
 f27:=⟨Tryz.f363.name,by decide,Tryz.func363.trans (congrArg some (by kernel_rfl))⟩
 f28:=Tryz.func289.trans (congrArg some (by kernel_rfl))
 f29:=Tryz.func290.trans (congrArg some (by kernel_rfl))
 f46:=⟨Tryz.f391.name,by decide,Tryz.func391.trans (congrArg some (by kernel_rfl))⟩
 f47:=Tryz.func339.trans (congrArg some (by kernel_rfl))
 f48:=Tryz.func340.trans (congrArg some (by kernel_rfl))
 f49:=⟨Tryz.f392.name,by decide,Tryz.func392.trans (congrArg some (by kernel_rfl))⟩
 f50:=⟨Tryz.f393.name,by decide,Tryz.func393.trans (congrArg some (by kernel_rfl))⟩
 f57:=⟨Tryz.f411.name,by decide,Tryz.func411.trans (congrArg some (by kernel_rfl))⟩
 t0:=Tryz.underlying0
 a0:=Tryz.isAgg0
 z0:=Tryz.sizeOf0
 v0:=Tryz.zeroValue0
 t3:=Tryz.underlying3
 a3:=Tryz.isAgg3
 z3:=Tryz.sizeOf3
 v3:=Tryz.zeroValue3
 t4:=Tryz.underlying4
 a4:=Tryz.isAgg4
 z4:=Tryz.sizeOf4
 v4:=Tryz.zeroValue4
 t5:=Tryz.underlying5
 a5:=Tryz.isAgg5
 z5:=Tryz.sizeOf5
 v5:=Tryz.zeroValue5
 t9:=Tryz.underlying9
 a9:=Tryz.isAgg9
 z9:=Tryz.sizeOf9
 v9:=Tryz.zeroValue9
 t22:=Tryz.underlying62
 a22:=Tryz.isAgg62
 z22:=Tryz.sizeOf62
 v22:=Tryz.zeroValue62
 t25:=Tryz.underlying305
 a25:=Tryz.isAgg305
 z25:=Tryz.sizeOf305
 v25:=Tryz.zeroValue305
 t39:=Tryz.underlying271
 a39:=Tryz.isAgg271
 z39:=Tryz.sizeOf271
 v39:=Tryz.zeroValue271
 t45:=Tryz.underlying332
 a45:=Tryz.isAgg332
 z45:=Tryz.sizeOf332
 v45:=Tryz.zeroValue332
 t46:=Tryz.underlying333
 a46:=Tryz.isAgg333
 z46:=Tryz.sizeOf333
 v46:=Tryz.zeroValue333
 t50:=Tryz.underlying221
 a50:=Tryz.isAgg221
 z50:=Tryz.sizeOf221
 v50:=Tryz.zeroValue221
 t53:=Tryz.underlying339
 a53:=Tryz.isAgg339
 z53:=Tryz.sizeOf339
 v53:=Tryz.zeroValue339
 t55:=Tryz.underlying341
 a55:=Tryz.isAgg341
 z55:=Tryz.sizeOf341
 v55:=Tryz.zeroValue341
 t66:=Tryz.underlying379
 a66:=Tryz.isAgg379
 z66:=Tryz.sizeOf379
 v66:=Tryz.zeroValue379
 t70:=Tryz.underlying383
 a70:=Tryz.isAgg383
 z70:=Tryz.sizeOf383
 v70:=Tryz.zeroValue383
 t76:=Tryz.underlying425
 a76:=Tryz.isAgg425
 z76:=Tryz.sizeOf425
 v76:=Tryz.zeroValue425
 t77:=Tryz.underlying426
 a77:=Tryz.isAgg426
 z77:=Tryz.sizeOf426
 v77:=Tryz.zeroValue426}
end
end Go.Proofs
namespace Go.HL
section
variable {P:Program}
open Go.Sort Go.Proofs Go.Shelf Go.RowKit
theorem zwx [Tracks] {w w':World} {J:Imm} {M:List MObj} (hT:Tracks.on=true) (hl:Le (zc9 w) J) (hs:Sat P J M w'): ∃q os,w'=grow (w.drewN q) os:=by
 have hb:=zpa hl hs;have hd:w.drawn<=w'.drawn:=An (hl.low hT) (hs.low hT);refine ⟨w'.drawn-w.drawn,w'.heap.extract w.heap.size w'.heap.size,?_⟩
 have hh:w'.heap=w.heap++w'.heap.extract w.heap.size w'.heap.size:=by
  apply Array.ext_getElem?
  intro i
  by_cases hi:i<w.heap.size
  rw [AF hi];exact hb.block i hi;rw [Array.getElem?_append_right (by omega),Array.getElem?_extract];have:=hb.size
  split
  congr 1;omega
  rw [Av (by omega)]
 have h1:=hb.os;have h2:=hb.tape;have h3:=hb.output;obtain ⟨a1,a2,a3,a4,a5⟩:=w';obtain ⟨b1,b2,b3,b4,b5⟩:=w;simp only at h1 h2 h3 hd hh;subst h1 h2 h3;simp only [grow,World.drewN,World.mk.injEq];exact ⟨hh,trivial,by omega,trivial,trivial⟩
theorem ConP.calls [Tracks] {f:FuncId} {hargs:List HVal} {h:HVal} (hT:Tracks.on=true) (hc:ConP P f hargs h) {w:World} (ht:TabI P (zc9 w)) {args:List Value} (ha:VL (zc9 w) hargs args):
 Calls P f args.toArray w fun e w'=> ∃v,e= .returned v/\V (zc9 w') h v/\∃q os,w'=grow (w.drewN q) os:=by
 refine (hc (zc9 w) [] w args ha (zyL ht)).mono ?_;rintro e w' ⟨v,x,M',J,rfl,hle,⟨rfl,rfl⟩,hV,hs⟩;exact ⟨v,rfl,hV.mono hs.le_all,zwx hT hle hs⟩
@[reducible] def zgj:Tracks:=⟨true⟩
abbrev zgk {A:Type} (I:Imm) (e:A->HVal) (k:Nat):Type:={p:A×List Value//p.2.length=k/\(∀v∈p.2,v.oneCell'=true)/\VL I (zb (e p.1)) p.2}
theorem zyJ [Tracks] {A:Type} {I:Imm} {e:A->HVal} {k:Nat} (hk: ∀x,(zb (e x)).length=k) (hf: ∀x,zan (zb (e x))=true) {rc:Array Value}: ∀(l:List A) (off:Nat),off+l.length*k<=rc.size->
 (∀(i j:Nat) (x:A) (c:HVal) (v:Value),l[i]? =some x->(zb (e x))[j]? =some c->rc[off+i*k+j]? =some v->V I c v)->
 ∃d:List (zgk I e k),d.map (·.1.1)=l/\∀(i j:Nat) (p:zgk I e k),d[i]? =some p->j<k->rc[off+i*k+j]? =p.1.2[j]?
 |[],off,_,_=>⟨[],rfl,fun i j p h=>by simp at h⟩
 |x::l,off,hb,hV=>by
   have hb':off+k+l.length*k<=rc.size:=by simp [AT] at hb;omega
   obtain ⟨d,h1,h2⟩:=zyJ hk hf l (off+k) hb' fun i j y c v a1 a2 a3=>hV (i+1) j y c v (by simpa using a1) a2 (by rw [AT,Nat.one_mul];rw [show off+(i*k+k)+j=off+k+i*k+j by omega];exact a3)
   have hlen:(rc.extract off (off+k)).toList.length=k:=by simp;omega
   have hg: ∀j,j<k->(rc.extract off (off+k)).toList[j]? =rc[off+j]?:=fun j hj=>by
    rw [AY,Array.getElem?_extract,if_pos (by omega)]
   have hvl:VL I (zb (e x)) (rc.extract off (off+k)).toList:=⟨by rw [hlen,hk],fun j c v a1 a2=>by
    have hj:j<k:=by have:=zn a1;rw [hk] at this;exact this
    rw [hg j hj] at a2;exact hV 0 j x c v rfl a1 (by simpa using a2)⟩
   refine ⟨⟨(x,(rc.extract off (off+k)).toList),hlen,zn3 hvl (hf x),hvl⟩::d,by simp [h1],fun i j p hp hj=> ?_⟩
   cases i with
   |zero=>
     simp only [A3,AA] at hp;subst hp;simp only [Nat.zero_mul,BZ];exact (hg j hj).symm
   |succ i=>
     simp only [AN] at hp;rw [<-h2 i j p hp hj,AT,Nat.one_mul]
     congr 1;omega
section
variable {A:Type} {e:A->HVal} {k:Nat}
theorem zu6 {α:Type} [Inhabited α] {enc:α->List Value} {w:World} {b off m:Nat} {dk:Array α} {os:Array Obj} {c:Nat} (hc:c<w.heap.size) (hb:c≠b):(sortWorldK enc k w b off m dk os).heap[c]? =w.heap[c]?:=by
 simp only [sortWorldK,grow,putRowK,putRow,mapBlock,Sort.ahead];rw [AF (by simpa using hc),AG,if_neg (Ne.symm hb)]
theorem zqg {α:Type} [Inhabited α] {enc:α->List Value} {w:World} {b off m:Nat} {dk:Array α} {os:Array Obj} {rc:Array Value} {el:TypeId} {fr:Nat×Nat} (hb:w.heap[b]? =some (.cells rc el fr)):
 (sortWorldK enc k w b off m dk os).heap[b]? =some (.cells (putCells id off (flatK enc k dk) rc) el fr):=by
 have hlt:b<w.heap.size:=lt_of_get' hb;simp only [sortWorldK,grow,putRowK,putRow,mapBlock,Sort.ahead];rw [AF (by simpa using hlt),AG,if_pos rfl,hb]
 rfl
where
 lt_of_get' {α:Type} {a:Array α} {i:Nat} {x:α} (h:a[i]? =some x):i<a.size:=by
  rcases AC i a.size with h'|h'
  exact h'
  simp [Av h'] at h
theorem zup {α:Type} [Inhabited α] {enc:α->List Value} (hk: ∀x,(enc x).length=k) {dk:Array α} {i j:Nat} {x:α} (hx:dk[i]? =some x) (hj:j<k):some ((flatK enc k dk)[i*k+j]!)=(enc x)[j]?:=by
 have hi:i<dk.size:=by
  rcases AC i dk.size with h'|h'
  exact h'
  simp [Av h'] at hx
 have hle:(i+1)*k<=dk.size*k:=AB _ hi;rw [AT,Nat.one_mul] at hle;rw [get_flatK enc k dk _ (by omega)];have e1:(i*k+j)/k=i:=by rw [B0,Nat.mul_add_div (by omega),Nat.div_eq_of_lt hj];rfl
 have e2:(i*k+j)%k=j:=by rw [B0,Nat.mul_add_mod,Nat.mod_eq_of_lt hj]
 rw [e1,e2];have e3:dk[i]! =x:=by rw [getElem!_pos dk i hi];rw [Aq hi] at hx;exact As hx
 rw [e3];have hjl:j<(enc x).length:=by rw [hk];exact hj
 rw [Aa hjl,getElem!_pos (enc x) j hjl]
theorem zpy [Tracks] {ρ:Ren} (L:SlLaysF0.n6 P ρ) (aE: ∀w,(isAgg (ρ.t 24)).run P w= .ok true w) (zE: ∀w,(Go.sizeOf (ρ.t 24)).run P w= .ok k w) (hk: ∀x,(zb (e x)).length=k) (ha: ∀x,e x= .agg (zb (e x))) (hf: ∀x,zan (zb (e x))=true)
 {c:A->A->Int} (hO:SWO (ltOf c)) {g:FuncId} (hg:Callable P g) {cap:List HVal} (hc: ∀x y, @ConP zgj P g (e x::e y::cap) (.int .i64 (c x y))) {l:List A} (hl:l.length<=1000000) {v:Value}:
 Con P (ρ.f 6) [.raw v,.fn (.func g) [] cap] [.arr v k (l.map e)] fun x M'=> ∃l':List A,x= .tup []/\l'.Perm l/\l'.Pairwise (fun a b=> ¬c b a<0)/\M'=[.arr v k (l'.map e)]:=by
 intro I F w args hargs hs
 obtain ⟨n1,n2⟩:=hargs
 match args,n1,n2 with
 |[u,fv],_,n2=>
   obtain rfl:u=v:=(n2 0 _ _ rfl rfl).raw_inv;obtain ⟨f1,cb,rfl,f2,f3⟩:=(n2 1 _ _ rfl rfl).fn_inv;have hf1:f1= #[]:=by have:=f2.1;simp at this;exact this
   subst hf1
   by_cases h0:l=[]
   subst h0;have hu: ∃p cp,u= .slice p 0 cp:=by
    rcases hs.obj (.arr u k (([]:List A).map e)) (by simp) with ⟨rfl,_⟩|⟨b,off,cp,rc,el,fr,rfl,_⟩
    exact ⟨_,_,rfl⟩;exact ⟨_,_,rfl⟩
   obtain ⟨p,cp,rfl⟩:=hu;refine (AnyF.slices_SortFunc_none L p cp _ w).mono ?_;rintro _ _ ⟨rfl,rfl⟩;exact ⟨_,.tup [],_,I,rfl,.refl I,⟨[],rfl,.refl _,.nil,rfl⟩,.tup (by simp) (fun j c v h _=>by simp at h),hs⟩
   rcases hs.obj (.arr u k (l.map e)) (by simp) with ⟨_,hn⟩|⟨b,off,cp,rc,el,fr,rfl,_⟩
   simp at hn;exact absurd hn h0
   rw [Af] at hs⊢;obtain ⟨_,rc,el,fr,h2,h3,h4,h5,h6,h7⟩:=zhN hs;rw [Af] at h5;have hblt:b<w.heap.size:=zqg.lt_of_get' h2;have hsz:off+l.length*k<=rc.size:=by
    have:l.length*k<=cp*k:=AB _ h5.1
    omega
   obtain ⟨d,d1,d2⟩:=zyJ (I:=I) (e:=e) hk hf (rc:=rc) l off hsz fun i j x c v a1 a2 a3=>h7 i j (e x) c v (by simp [a1]) a2 a3
   have dl:d.length=l.length:=by rw [<-d1];simp
   obtain ⟨p0,hp0⟩: ∃p,d[0]? =some p:=⟨_,Aa (by have:=List.length_pos_iff.2 h0;omega)⟩
   haveI:Inhabited (zgk I e k):=⟨p0⟩
   have hkr: ∀x:zgk I e k,(x.1.2).length=k:=fun x=>x.2.1
   have hH:HoldsK (fun x:zgk I e k=>x.1.2) k w b off d.toArray:=fun j hj=>by
    simp only [size_flatK,BJ,dl] at hj;have hk0:0<k:=by rcases Bf k with h|h;(subst h;simp at hj);exact h
    have hi:j/k<d.length:=by rw [dl];exact Nat.div_lt_of_lt_mul (by rw [B0];exact hj)
    have hjk:=B4 j hk0;have hdj:j/k*k+j%k=j:=by rw [B0];exact Nat.div_add_mod j k
    have hg1:=d2 (j/k) (j%k) d[j/k] (Aa hi) hjk;have hg2:=zup (enc:=fun x:zgk I e k=>x.1.2) (k:=k) hkr (dk:=d.toArray) (i:=j/k) (j:=j%k) (x:=d[j/k]) (by simp [hi]) hjk;rw [hdj] at hg2
    constructor
    rw [zcu h2];rw [show off+j=off+j/k*k+j%k by omega,hg1,<-hg2];rfl;simp only [World.frozen?,h2];have:=h3 (off+j) (by omega)
    simpa using this
   have hle: ∀(m:Nat) (dk:Array (zgk I e k)) (os:Array Obj),Le I (zc9 (sortWorldK (fun x:zgk I e k=>x.1.2) k w b off m dk os)):=fun m dk os=>
    ⟨fun c o ho=>by
     have hcb:c≠b:=fun hh=>by
      subst hh;have:=hs.apart c (by simp [blocks,MObj.blocks]);rw [this] at ho;cases ho
     have h9:=hs.imm c o ho
     show (sortWorldK _ k w b off m dk os).heap[c]? =some o
     rw [zu6 (zqg.lt_of_get' h9) hcb];exact h9,hs.os,hs.output,hs.tape,fun ht=>An (hs.low ht) (CA _ _)⟩
   have hcmp:CmpLays P g cb (fun x:zgk I e k=>x.1.2) k (fun x y=>c x.1.1 y.1.1) b off d.toArray.size w:=fun m os dk _ x y=>by
    have hI:=hle m dk os;have hxa: ∀z:zgk I e k,V (zc9 (sortWorldK (fun x:zgk I e k=>x.1.2) k w b off m dk os)) (e z.1.1) (.agg z.1.2.toArray):=fun z=>by
     rw [ha];exact znr (by simpa using z.2.2.2.mono hI)
    have e9:(#[Value.agg x.1.2.toArray,.agg y.1.2.toArray]++cb)=(Value.agg x.1.2.toArray:: .agg y.1.2.toArray::cb.toList).toArray:=by simp
    rw [e9];refine (@ConP.calls P zgj g _ _ rfl (hc x.1.1 y.1.1) _ (hs.tab.mono hI) _ (VL.cons (hxa x) (VL.cons (hxa y) (f3.mono hI)))).mono ?_;rintro _ w' ⟨u,rfl,hu,q,os',rfl⟩;exact ⟨by rw [hu.int_inv],q,os',rfl⟩
   have hO':SWO (ltOf fun x y:zgk I e k=>c x.1.1 y.1.1):=⟨fun x=>hO.irrefl x.1.1,fun x y z=>hO.trans x.1.1 y.1.1 z.1.1,fun x y z=>hO.ntrans x.1.1 y.1.1 z.1.1⟩;have hrun:=AnyQ.slices_SortFunc L k aE zE (fun x:zgk I e k=>x.1.2) hkr (fun x=>x.2.2.1) (fun x y=>c x.1.1 y.1.1) hO' g cb b off cp d.toArray w (zgW hg) hcmp hH hblt (by simp;omega);rw [BJ,dl] at hrun;refine hrun.mono ?_;rintro _ w' ⟨rfl,d',m,os,⟨q1,_,q3⟩,q4,rfl⟩;simp only [BJ,dl] at q1;have q3':d'.toList.Perm d:=by
    have e1:(d'.extract 0 l.length)=d':=by rw [<-q1];exact Array.extract_size
    have e2:(d.toArray.extract 0 l.length)=d.toArray:=by have:=Array.extract_size (xs:=d.toArray);rw [BJ,dl] at this;exact this
    rw [e1,e2] at q3;simpa using q3
   refine ⟨_,.tup [],[.arr (.slice (some ⟨b,off,none⟩) l.length cp) k ((d'.toList.map (·.1.1)).map e)],I,rfl,.refl I,⟨d'.toList.map (·.1.1),rfl,by rw [<-d1];exact q3'.map _,?_,rfl⟩,.tup (by simp) (fun j c v h _=>by simp at h),?_⟩
   refine List.pairwise_iff_getElem.2 fun i j hi hj hij=> ?_
   simp only [Af,AM] at hi hj;have:=q4 i j (Ad _) hij (by omega);rw [getElem!_pos d' i hi,getElem!_pos d' j hj] at this;simp only [ltOf,decide_eq_false_iff_not] at this
   simpa using this
   have hchg: ∀x,x<w.heap.size->x∉(MObj.arr (.slice (some ⟨b,off,none⟩) l.length cp) k (l.map e)).blocks->(sortWorldK (fun x:zgk I e k=>x.1.2) k w b off m d' os).heap[x]? =w.heap[x]?:=fun x hx hnx=>zu6 hx fun hh=>hnx (by rw [hh];simp [MObj.blocks])
   refine hs.change (m':= .arr (.slice (some ⟨b,off,none⟩) l.length cp) k ((d'.toList.map (·.1.1)).map e)) hchg (fun x hx=> .inl hx) (by simp [MObj.blocks]) ?_ rfl rfl rfl (fun _=>CA _ _)
   refine .inr ⟨b,off,cp,putCells id off (flatK (fun x:zgk I e k=>x.1.2) k d') rc,el,fr,by simp [q1],zqg h2,by simpa [putCells] using h3,?_,by simp [q1];exact h5,by simpa [putCells] using h6,?_⟩
   intro y hy;obtain ⟨z,_,rfl⟩:=List.mem_map.1 hy;exact hk z
   intro i j y z v a1 a2 a3
   rw [AW,Aj] at a1
   cases hq:d'.toList[i]? with
   |none=>rw [hq] at a1;simp at a1
   |some r=>
     rw [hq] at a1;simp only [AI,Function.comp_apply,AA] at a1;subst a1;have hj:j<k:=by have:=zn a2;rw [hk] at this;exact this
     have hi:i<l.length:=by have:=zn hq;simp at this;omega
     have hle:(i+1)*k<=l.length*k:=AB _ hi;rw [AT,Nat.one_mul] at hle;have hr:off+i*k+j<rc.size:=by omega
     rw [putCells,CB,Aq hr,AI,if_pos ⟨by omega,by rw [size_flatK,q1];omega⟩] at a3;rw [show off+i*k+j-off=i*k+j by omega] at a3;have hg2:=zup (enc:=fun x:zgk I e k=>x.1.2) (k:=k) hkr (dk:=d') (i:=i) (j:=j) (x:=r) (by simpa using hq) hj;rw [show (id (flatK (fun x:zgk I e k=>x.1.2) k d')[i*k+j]!)=(flatK (fun x:zgk I e k=>x.1.2) k d')[i*k+j]! from rfl,hg2] at a3;exact r.2.2.2.2 j z v a2 a3
end
end
section
variable {P:Program}
theorem zo0 [Tracks] {e:Env} {M:List MObj} {o:Oper} {K:HVal->List MObj->Prop} {sz:Nat} {es:List HVal} (h:EOp P e M o fun x M'=> ∃v,x= .raw v/\M'= .arr v sz es::M) (hk:K (.slice sz es) M):EOp P e M o K:=fun I F a w ho hs=>
 zbh (fun _ _ ⟨v,x,M',J,h1,h2,⟨u,h3,h4⟩,h5,h6⟩=>by
  subst h3 h4;obtain ⟨J',g1,g2,g3⟩:=Sat.freeze_arr (M:=M++F) h6;exact ⟨v,_,M,J',h1,h2.trans g1,hk,by rw [h5.raw_inv];exact g3,g2⟩) (h I F a w ho hs)
theorem zmP [Tracks] {e:Env} {M N:List MObj} {o:Oper} {K:HVal->List MObj->Prop} {sz:Nat} {es:List HVal} (i:Nat) (h:EOp P e M o fun x M'=> ∃v,x= .raw v/\M'[i]? =some (.arr v sz es)/\M'.eraseIdx i=N) (hk:K (.slice sz es) N):EOp P e M o K:=fun I F a w ho hs=>
 zbh (fun _ _ ⟨v,x,M',J,h1,h2,⟨u,h3,h4,h5⟩,h6,h7⟩=>by
  subst h3 h5;obtain ⟨J',g1,g2,g3⟩:=(h7.pull h4).freeze_arr;exact ⟨v,_,_,J',h1,h2.trans g1,hk,by rw [h6.raw_inv];exact g3,g2⟩) (h I F a w ho hs)
end
end Go.HL
namespace Go.Proofs.YtabpobhnedkkeaaGreatDoor
set_option maxRecDepth 100000
set_option linter.unusedVariables false
set_option linter.unusedSimpArgs false
section
open Go.Proofs.Tryz
open Go.HL
theorem zvj [Tracks] {l:List Play} {n:Int} (hl:l.length<=1000000):Con prog 241 [zbK l,.int .i64 n] [] (fun x M'=> ∃b,x= .raw (.map (some b))/\M'=[.map b (kk zjc (em HVal.bool (zn5 l n)))]):=by
 refine uOb func241 ntmps241 ?_;refine gz4 ?_;refine de rfl (zax fun m14=> ?_)
 refine gz9 ?_;refine uT1 [7,1,17,16] (fun k=>[(17,.int .i64 k)]) (fun k=>[.map m14 (kk zjc (em zak (zhq (l.take k) n)))]) (fun k=>k<=l.length/\(True)) (fun k=>l.length-k) (0) ?_ ?_;exact ⟨Ad _,trivial⟩;rintro k ⟨hk,-⟩;refine gz4 ?_;refine uCo (fun h1=> ?_) fun h2=> ?_
 obtain ⟨x,hx⟩: ∃x,l[k]? =some x:=⟨_,Aa h1⟩
 have hdx:=zi hx;refine gz7 ?_;refine de rfl (zg zbf rfl fun b7=> ?_)
 refine de0 (zj zbf rfl rfl rfl rfl rfl ?_)
 refine gz1 ?_;refine zd (zm 7 rfl) ?_;refine gz6 ?_;refine uCo (fun h3=> ?_) fun h4=> ?_
 refine gz6 ?_;refine dq (zC (cs:=[_,_]) zoC zzY rfl) ?_;refine gz1 ?_;refine de0 (zgJ (i:=0) (s:=(x.Source,x.No)) (v:=x) zEk zvN rfl rfl rfl rfl ?_)
 refine gz7 ?_;exact ⟨k+1,⟨by omega,trivial⟩,uD,⟨rfl,trivial⟩,uK,zl (by dsimp only;rw [zp2 hx,znh,if_pos (by simpa using h3)];try rfl)⟩;refine gz7 ?_;exact ⟨k+1,⟨by omega,trivial⟩,uD,⟨rfl,trivial⟩,uK,zl (by dsimp only;rw [zp2 hx,znh,if_neg (by simpa using h4)];try rfl)⟩;have hnk:l.length<=k:=by omega
 obtain rfl:k=l.length:=by omega
 refine gz2 ?_;refine zv ?_;refine gz2 ?_;rw [Am];refine gz1 ?_;refine de rfl (zax fun m33=> ?_)
 refine gz9 ?_;refine uT1 [10,4,36,54] (fun k=>[(36,.int .i64 k)]) (fun k=>[.map m33 (kk zjc (em HVal.bool (zhB (zhq l n) n (l.take k)))),.map m14 (kk zjc (em zak (zhq l n)))]) (fun k=>k<=l.length/\(True)) (fun k=>l.length-k) (0) ?_ ?_;exact ⟨Ad _,trivial⟩;rintro k ⟨hk,-⟩;refine gz4 ?_;refine uCo (fun h5=> ?_) fun h6=> ?_
 obtain ⟨x,hx⟩: ∃x,l[k]? =some x:=⟨_,Aa h5⟩
 have hdx:=zi hx;refine gz7 ?_;refine de rfl (zg zbf rfl fun b10=> ?_)
 refine de0 (zj zbf rfl rfl rfl rfl rfl ?_)
 refine gz1 ?_;refine zd (zm 10 rfl) ?_;refine zdf ?_;refine uCo (fun h7=> ?_) fun h8=> ?_
 refine gz8 ?_;exact ⟨k+1,⟨by omega,trivial⟩,uD,⟨rfl,trivial⟩,uK,zl (by dsimp only;rw [zjs hx,zje,if_pos (by simpa using h7)];try rfl)⟩;refine gz7 ?_;refine dq (zC (cs:=[_,_]) zoC zzY rfl) ?_;refine de rfl (zg zoC rfl fun b11=> ?_)
 refine de0 (zj zoC rfl rfl rfl rfl rfl ?_)
 refine gz1 ?_;refine zd (zm 11 rfl) ?_;refine gz3 ?_;refine de rfl (zvr (i:=1) (s:=(x.Source,x.Undo)) (z0:=zkG) zEk zvN zbf rfl rfl rfl rfl ?_)
 refine gz3 ?_;refine de rfl (zg zbf rfl fun b12=> ?_)
 refine de0 (zj zbf rfl rfl rfl rfl rfl ?_)
 refine gz2 ?_;refine zd (zm 12 rfl) ?_;refine gz29 ?_;refine uCo (fun h9=> ?_) fun h10=> ?_
 refine gz3 ?_;refine de0 (zgJ (i:=0) (s:=(x.Source,x.Undo)) (v:=true) zEi zvN rfl rfl rfl rfl ?_)
 refine gz7 ?_;exact ⟨k+1,⟨by omega,trivial⟩,uD,⟨rfl,trivial⟩,uK,zl (by dsimp only;rw [zjs hx,zje,if_neg (by simp_all;try omega),if_pos (by simp_all [zlB])];try rfl)⟩;refine gz7 ?_;exact ⟨k+1,⟨by omega,trivial⟩,uD,⟨rfl,trivial⟩,uK,zl (by dsimp only;rw [zjs hx,zje,if_neg (by simp_all;try omega),if_neg (by simp_all [zlB])];try rfl)⟩;have hnk:l.length<=k:=by omega
 obtain rfl:k=l.length:=by omega
 refine gz2 ?_;refine zv ?_;refine gz2 ?_;rw [Am];refine zd (Ghost.only (i:=0) rfl) ?_;refine gz5 ?_;exact zaf rfl ⟨_,rfl,rfl⟩
theorem zoF [Tracks] {a b:StatS}:ConP prog 249 [zaG a,zaG b] (.int .i64 (zaU a b)):=by
 refine uOb func249 ntmps249 ?_;refine zau ?_;refine dq (uCl zcO rfl zR) ?_;refine gz3 ?_;refine zu rfl ?_
 rfl
theorem zmB [Tracks] {c:StatS->StatS->Int} (hO:Go.Sort.SWO (Go.Proofs.ltOf c)) {g:FuncId} (hg:Callable prog g) {cap:List HVal} (hc: ∀x y, @ConP zgj prog g (zaG x::zaG y::cap) (.int .i64 (c x y))) {l:List StatS} (hl:l.length<=1000000) {v:Value}:
 Con prog 248 [.raw v,.fn (.func g) [] cap] [.arr v 2 (l.map zaG)] fun x M'=> ∃l':List StatS,x= .tup []/\l'.Perm l/\l'.Pairwise (fun a b=> ¬c b a<0)/\M'=[.arr v 2 (l'.map zaG)]:=
 zpy (e:=zaG) zAs (Tryz.isAgg121) (Tryz.sizeOf121) (fun _=>rfl) (fun _=>rfl) (fun _=>rfl) hO hg hc hl
theorem zFx [Tracks] (m:Nat):Go.Proofs.AnyZ.SortsIn prog Tryz.g307_ren Fence.wide m:=
 ⟨fun blk off cap ss W hH hblk hsz=>callsIn_wide.2 (AnyM.slices_Sort_string zud blk off cap ss W hH hblk hsz),fun p cap W=>callsIn_wide.2 (AnyM.slices_Sort_string_none zud p cap W)⟩
theorem zy6 [Tracks] {b:Nat}:Con prog 308 [.raw (.map (some b))] [] fun x M'=> ∃bx,x= .fn (.func 355) [] [.raw (.pointer (some ⟨bx,0,none⟩))]/\M'=[.cells bx [.raw (.map (some b))]]:=
 zB4 (ρ:=Tryz.g308_ren) zue
theorem zsd [Tracks] (hT:Tracks.on=false) {S:List Str} (hn:S.Nodup) (hl: ∀s∈S,s.length<=1000000) (hs:S.length<=1000000) {b bx:Nat}:
 Con prog 307 [.fn (.func 355) [] [.raw (.pointer (some ⟨bx,0,none⟩))]] [.cells bx [.raw (.map (some b))],.map b (sk (zbd S))] fun x M'=> ∃v,x= .raw v/\M'=[.arr v 1 ((zaB S).map .str),.map b (sk (zbd S))]:=
 zvn hT (ρ:=Tryz.g307_ren) (ρk:=Tryz.g308_ren) zAt zue zFx (enters_of func197 (by kernel_rfl) rfl) (enters_of func355 (by kernel_rfl) rfl) hn hl hs
theorem znL [Tracks] {b0 b1:Nat} {c:List (Of2×Int)} {S:List Str} {week:Int} (hT:Tracks.on=false) (hn:ANodup c) (hSn:S.Nodup) (hSk: ∀s∈S,s.length<=40) (hc:c.length<=1000000) (hSl:S.length<=1000000):Con prog 242 [.raw (.map (some b0)),.raw (.map (some b1)),.int .i64 week] [.map b0 (kk eOf (em (HVal.int .i64) c)),.map b1 (sk (zbd S))] (fun x M'=>x= .tup [zbJ (zin c S week),.int .i64 (zja c S)]/\M'=[]):=by
 refine uOb func242 ntmps242 ?_;refine gz5 ?_;refine de rfl (zax fun m15=> ?_)
 refine gz5 ?_;refine de rfl (ziq (i:=1) zvR rfl rfl fun r=> ?_)
 refine gz2 ?_;refine uV3 [6,2,9,2,18,24] (fun (vis:List Nat) (E:List (Of2×Int)) (G:Grp StatS)=>[]) (fun (vis:List Nat) (E:List (Of2×Int)) (G:Grp StatS)=>[.map m15 (sk (em fG G)),.iter r b0 (kk eOf (em (HVal.int .i64) c)) vis,.map b1 (sk (zbd S))]++grp 2 zaG G) (fun (vis:List Nat) (E:List (Of2×Int)) (G:Grp StatS)=>VisOk (c) vis E/\(GOk E G/\∀y∈E,out y.2 (-100000) 100000=false)) (fun (vis:List Nat) (E:List (Of2×Int)) (G:Grp StatS)=>(c).length-vis.length) ([]) ([]) ([]) ?_ ?_ ?_ ?_;exact ⟨VisOk.nil _,GOk.nil,fun y h=>by cases h⟩;exact trivial;exact zl rfl
 intro vis E G hinv
 obtain ⟨hvis,hG,hO⟩:=hinv;refine gz1 ?_;refine de rfl (zio (i:=1) (L:=c) (enc:=(fun p:Of2×Int=>(eOf p.1,HVal.int .i64 p.2))) rfl rfl (zvJ _ _ _) hvis.nd hvis.lt fun cb R vis' hnx=> ?_)
 refine gz3 ?_;refine uCo (fun h1=> ?_) fun h2=> ?_
 obtain ⟨j,q,hq,hj,rfl⟩:=hnx.t h1;have hroom:=hvis.room hq hj;have hstep:=hvis.step hq hj;have hqm:=Ab hq;refine gz4 ?_;refine de rfl (zhb (i:=1) (L:=c) (enc:=(fun p:Of2×Int=>(eOf p.1,HVal.int .i64 p.2))) rfl rfl (zvJ _ _ _) hq ?_)
 refine gz2 ?_;refine de rfl (zg zs6 rfl fun b9=> ?_)
 refine de0 (zj zs6 rfl rfl rfl rfl rfl ?_)
 refine gz2 ?_;refine zd (zm 9 rfl) ?_;refine gz3 ?_;refine dq (uCl zd9 rfl zaL) ?_;refine gz2 ?_;refine uCo (fun h3=> ?_) fun h4=> ?_
 refine gz5 ?_;exact ⟨_,[],Ghost.clear,_,_,rfl,zbM (zD 3) (Weak.refl _),by have hf:=zzy (S:=S) hqm (by simpa using h3);rw [zin,zja,hf];rfl,rfl⟩;refine gz5 ?_;refine uCo (fun h5=> ?_) fun h6=> ?_
 refine zd (zbv (M':=[.map m15 (sk (em fG G)),.iter r b0 (kk eOf (em (HVal.int .i64) c)) (vis++[j]),.map b1 (sk (zbd S))]++grp 2 zaG G) rfl) ?_;refine zh8 mixed ?_;refine gz6 ?_;refine uA 7 ?_;refine gz2 ?_;refine uB 10 rfl (zC (cs:=[_,_]) zbD zzW rfl) ?_;refine uB 11 rfl (za (hs:=[_]) zdb zbD rfl rfl (by decide) (by decide) rfl) ?_;refine uF 6 ?_;refine zw rfl (zct (i:=0) (z0:=gZ StatS) zAk ty9 zdb rfl rfl rfl rfl ?_)
 refine ⟨uE,?_⟩
 refine uF 12 ?_;refine zw rfl (zm9 (A:=[.map m15 (sk (em fG G)),.iter r b0 (kk eOf (em (HVal.int .i64) c)) (vis++[j]),.map b1 (sk (zbd S))]) (G:=G) (s:=q.1.1) (ys:=[⟨q.1.2,q.2⟩]) (eb:=zaG) zdb zbD rfl rfl rfl rfl (by simp [zan,zb]) (by have:=zmL E q.1.1;rw [<-hG.raw] at this;have:=hvis.len;simp only [Ah,Ar];omega) fun v41=> ?_)
 refine ⟨uE,?_⟩
 refine uF 13 ?_;refine zI (zbj (i:=0) (f:=fG) (L:=G) (v:=(v41,gL q.1.1 G++[⟨q.1.2,q.2⟩])) zAk ty9 rfl rfl rfl rfl ?_)
 refine ⟨uE,?_⟩
 refine gz3 ?_;have hO': ∀y∈E++[q],out y.2 (-100000) 100000=false:=fun y hy=>by
  rcases List.mem_append.1 hy with hy|hy
  exact hO y hy;rw [List.mem_singleton.1 hy];simpa using h4
 exact ⟨_,E++[q],_,⟨hstep,hG.put (by simpa using h5) v41,hO'⟩,by dsimp only;rw [Ax];simp only [Ah,Ar];omega,trivial,uK,zl rfl⟩;refine gz3 ?_;have hO': ∀y∈E++[q],out y.2 (-100000) 100000=false:=fun y hy=>by
  rcases List.mem_append.1 hy with hy|hy
  exact hO y hy;rw [List.mem_singleton.1 hy];simpa using h4
 exact ⟨_,E++[q],G,⟨hstep,hG.skip (by simpa using h6),hO'⟩,by dsimp only;rw [Ax];simp only [Ah,Ar];omega,trivial,uK,zl rfl⟩;obtain ⟨rfl,hlen⟩:=hnx.f h2;have hEp:=hvis.done hlen;refine gz2 ?_;refine zcE ?_;refine gz2 ?_;refine zd (zg2 (i:=1) rfl) ?_;refine zd (zbv (M':=[.map m15 (sk (em fG G)),.map b0 (kk eOf (em (HVal.int .i64) c)),.map b1 (sk (zbd S))]++grp 2 zaG G) rfl) ?_;refine gz6 ?_;refine de rfl (zaA (M1:=[]) (R:=_) zIB rfl (WeakL.refl _) (Ac _) zy6 ?_)
 rintro _ _ ⟨bx,rfl,rfl⟩;refine de rfl (zmP (N:=[.map b1 (sk (zbd S)),.map b0 (kk eOf (em (HVal.int .i64) c))]++([.map m15 (sk (em fG G))]++grp 2 zaG G)) (sz:=1) (es:=(zaB S).map .str) 0 (zaA (M1:=[.cells bx [.raw (.map (some b1))],.map b1 (sk (zbd S))]) (R:=[.map b0 (kk eOf (em (HVal.int .i64) c))]++([.map m15 (sk (em fG G))]++grp 2 zaG G)) zIA rfl (WeakL.refl _) (by exact zI0) (zsd hT hSn (fun s hs=>An (hSk s hs) (by decide)) hSl) (by rintro _ _ ⟨v,rfl,rfl⟩;exact ⟨v,rfl,rfl,rfl⟩)) ?_)
 refine gz3 ?_;refine zd (zo1 (R:=[_,_])) ?_;refine zd (zJ 3) ?_;have hSSl:(zaB S).length<=1000000:=by rw [ziw];exact hSl
 have hSS:(zaB S).Nodup:=(ziS S).nodup_iff.2 hSn;refine gz1 ?_;refine uV2 [6,2,11,1,13,2,46,20] (fun (k:Nat) (u:Value)=>[(46,.int .i64 k),(11,.raw u)]) (fun (k:Nat) (u:Value)=>[.arr u 3 (((zaB S).take k).map fun s=>zaq ⟨s,week,zck c s⟩),.map m15 (sk (em fG G))]++grp 2 zaG (ziR G ((zaB S).take k))) (fun (k:Nat) (u:Value)=>k<=(zaB S).length/\(∀s∈(zaB S).take k,¬40<(za0 c s).length)) (fun (k:Nat) (u:Value)=>(zaB S).length-k) (0) (.slice none 0 0) ?_ ?_ ?_ ?_;exact ⟨Ad _,fun s h=>by simp at h⟩;exact ⟨rfl,rfl,trivial⟩;exact zl (by simp [zC3])
 intro k u hinv
 obtain ⟨hk,hg⟩:=hinv;refine gz4 ?_;refine uCo (fun h7=> ?_) fun h8=> ?_
 obtain ⟨x,hx⟩: ∃x,(zaB S)[k]? =some x:=⟨_,Aa h7⟩
 have hdx:=zi hx;refine zdf ?_;refine de rfl (zct (i:=1) (z0:=gZ StatS) zAk ty9 zdb rfl rfl rfl rfl ?_)
 refine gz2 ?_;have hnx:=zAg hSS hx;have hxS:x∈S:=(ziS S).mem_iff.1 (Ab hx);refine zd (zmQ (A:=[.arr u 3 (((zaB S).take k).map fun s=>zaq ⟨s,week,zck c s⟩),.map m15 (sk (em fG G))]) (G:=ziR G ((zaB S).take k)) (G':=G) (s:=x) (zz7 hG.nd) (zC2 hnx)) ?_;rw [zBz];refine gz3 ?_;refine de rfl (zbq (i:=0) (es:=gL x G) zdb rfl rfl ?_)
 refine gz2 ?_;refine uCo (fun h9=> ?_) fun h10=> ?_
 refine gz5 ?_;exact ⟨_,[],Ghost.clear,_,_,rfl,zbM (zD 3) (Weak.refl _),by have hf:=zzz (c:=c) hxS (by rw [<-zww hEp hG];omega);rw [zin,zja,hf];rfl,rfl⟩;refine gz4 ?_;refine de rfl (zaA (M1:=[.arr (gV x G) 2 ((gL x G).map zaG)]) (R:=[.arr u 3 (((zaB S).take k).map fun s=>zaq ⟨s,week,zck c s⟩),.map m15 (sk (em fG G))]++grp 2 zaG (ziR G ((zaB S).take k++[x]))) zzk rfl (WeakL.refl _) (Ac _) (zmB (c:=zaU) (zkZ zcn) zDU (fun _ _=> @zoF zgj _ _) (l:=gL x G) (by have:=zmL c x;rw [zww hEp hG];omega)) ?_)
 rintro _ _ ⟨l',rfl,hp',hw',rfl⟩;obtain rfl:=zxs hEp hn hG hp' hw';refine gz1 ?_;refine zd (zay 14 (i:=0) rfl rfl) ?_;refine gz5 ?_;refine dq (zC (cs:=[_,_,_]) zbg zzZ rfl) ?_;refine dq (za (hs:=[_]) zeT zbg rfl rfl (by decide) (by decide) rfl) ?_;refine de rfl (zH (i:=0) zeT zbg rfl rfl rfl rfl rfl (by simp [zan,zb]) (by have:=ziw S;simp only [Af,Ah,Ar,Az];omega) fun v64=> ?_)
 refine gz8 ?_;refine ⟨k+1,v64,⟨by omega,fun s hs=> ?_⟩,uD,⟨rfl,rfl,trivial⟩,uK,zl (by dsimp only;rw [zW hx,Ay];rfl)⟩
 rw [zW hx] at hs
 rcases List.mem_append.1 hs with hs|hs
 exact hg s hs;rw [List.mem_singleton.1 hs,<-zww hEp hG];omega;have hnk:(zaB S).length<=k:=by omega
 obtain rfl:k=(zaB S).length:=by omega
 refine gz2 ?_;refine zQ ?_;refine gz2 ?_;rw [Am] at hg⊢;refine zd (Ghost.only (i:=0) rfl) ?_;refine gz6 ?_
 (refine zxh (M:=[]) 6 rfl rfl ?_
  have hf:=zAR (c:=c) (S:=S) (fun y hy=>hO y (hEp.mem_iff.2 hy)) (fun s hs=>hg s ((ziS S).mem_iff.2 hs));rw [zin,zja,hf];simp [Function.comp_def,zaT,zbw])
end
section
open Go.Proofs.Tryz
open Go.HL
theorem zwf [Tracks] {l:List Play} {trust:List Str} {week n:Int} (hT:Tracks.on=false) (hl:l.length<=3000) (ht:trust.length<=1000000) (ok: ∀x∈l,playFault x=0):ConP prog 168 [zbK l,eSs trust,.int .i64 week,.int .i64 n] (.tup [zbJ (zdN l trust week n),.int .i64 (zf7 l trust week n)]):=by
 refine uOb func168 ntmps168 ?_;refine gz8 ?_;refine de rfl (zaA (M1:=[]) (R:=[]) zHT rfl (WeakL.refl _) (Ac _) (zxE (l:=l) (trust:=trust) (n:=n) uO ht) ?_)
 rintro _ _ ⟨b19,O19,rfl,hn19,hO19,rfl⟩;refine gz2 ?_;refine de rfl (zaA (M1:=[]) (R:=_) zHU rfl (WeakL.refl _) (Ac _) (zvj (l:=l) (n:=n) uO) ?_)
 rintro _ _ ⟨b22,rfl,rfl⟩;refine gz4 ?_;refine de rfl (zax fun m23=> ?_)
 refine de rfl (zax fun m24=> ?_)
 refine zau ?_;refine uV1 [15,1,27,53] (fun (k:Nat)=>[(27,.int .i64 k)]) (fun (k:Nat)=>[.map m24 (kk eOf (em (HVal.int .i64) (zaI l trust week n (l.take k)).c)),.map m23 (sk (zbd (zaI l trust week n (l.take k)).S)),.map b22 (kk zjc (em HVal.bool (zn5 l n))),.map b19 (sk (em HVal.str O19))]) (fun (k:Nat)=>k<=l.length/\(True)) (fun (k:Nat)=>l.length-k) (0) ?_ ?_ ?_ ?_;exact ⟨Ad _,trivial⟩;exact ⟨rfl,trivial⟩;exact zl rfl
 intro k hinv
 obtain ⟨hk,-⟩:=hinv;refine gz4 ?_;refine uCo (fun h1=> ?_) fun h2=> ?_
 obtain ⟨x,hx⟩: ∃x,l[k]? =some x:=⟨_,Aa h1⟩
 have hdx:=zi hx;refine gz7 ?_;refine de rfl (zg zbf rfl fun b15=> ?_)
 refine de0 (zj zbf rfl rfl rfl rfl rfl ?_)
 refine gz1 ?_;refine zd (zm 15 rfl) ?_;refine gz23 ?_;refine uGr rfl (fun hc=>zC (cs:=[_,_]) zoC zzY rfl) ?_;refine dgl rfl rfl (fun hc=>⟨_,OpenTo.upd (t:=52) rfl (hc) (OpenTo.upd (t:=47) rfl (hc) (OpenTo.refl _)),zfw (i:=2) (s:=(x.Source,x.No)) (z0:=false) zEi zvN ty4 rfl rfl rfl rfl ⟨rfl,rfl⟩⟩) ?_;refine gz5 ?_;refine dgl rfl rfl (fun hc=>⟨_,OpenTo.upd (t:=58) rfl (hc) (OpenTo.upd (t:=56) rfl (hc) (OpenTo.refl _)),zct (i:=3) (z0:=([]:Str)) zjz ty9 ty9 rfl rfl rfl rfl ⟨rfl,rfl⟩⟩) ?_;refine gz5 ?_;refine uCo (fun h3=> ?_) fun h4=> ?_
 refine gz8 ?_;exact ⟨k+1,⟨by omega,trivial⟩,uD,⟨rfl,trivial⟩,uK,zl (by dsimp only;rw [zl9 hx,ze9,if_neg (by rw [zCp hO19 h3];simp)])⟩;refine gz6 ?_;refine de0 (zdv (i:=1) zjy ty9 rfl rfl rfl rfl ?_)
 refine gz1 ?_;have hpx:=ok x (Ab hx);obtain ⟨_,_,_,_,_,hcb,_⟩:=zeC hpx;have hlk:=zog (l:=l) (m:=l.take k) (trust:=trust) (week:=week) (n:=n) (fun y hy=>ok y (AS hy));have hvb:=hlk.val (x.Player,x.Stat);have hlt:((l.take k).length:Int)<=3000:=by rw [Az];omega
 refine zbx (fun M=>M=[MObj.map m24 (kk eOf (em (HVal.int .i64) (zaI l trust week n (l.take k)).c)),MObj.map m23 (sk (zbd (zbW x.Player (zaI l trust week n (l.take k)).S))),MObj.map b22 (kk zjc (em HVal.bool (zn5 l n))),MObj.map b19 (sk (em HVal.str O19))]\/∃j st,zb6 (x.Player,x.Stat) (zd4 (x.Player,x.Stat) (HVal.int .i64 0) (em (HVal.int .i64) (zaI l trust week n (l.take k)).c))=some j/\M=[MObj.mape m24 (kk eOf (zd4 (x.Player,x.Stat) (HVal.int .i64 0) (em (HVal.int .i64) (zaI l trust week n (l.take k)).c))) j st,MObj.map m23 (sk (zbd (zbW x.Player (zaI l trust week n (l.take k)).S))),MObj.map b22 (kk zjc (em HVal.bool (zn5 l n))),MObj.map b19 (sk (em HVal.str O19))]) [6] mixed ?_;refine gz5 ?_;refine uB 5 rfl (zC (cs:=[_,_]) zs6 zJa rfl) ?_;refine uM 6 rfl (.inl rfl) (fun M hM=>by
 rcases hM with rfl|⟨j,st,hj,rfl⟩
 exact zfw (i:=0) (s:=(x.Player,x.Stat)) (z0:=(0:Int)) zvR zzQ ty3 rfl rfl rfl rfl ⟨rfl,rfl⟩;exact zpB (i:=0) (s:=(x.Player,x.Stat)) (z0:=(0:Int)) (f:=HVal.int .i64) zvR zzQ ty3 rfl rfl rfl rfl ⟨rfl,rfl⟩) ?_
 refine uA 7 ?_;refine gz2 ?_;refine uF 10 ?_;refine zw rfl (zoJ (i:=0) (s:=(x.Player,x.Stat)) (z0:=(0:Int)) (f:=HVal.int .i64) zvR zzQ ty3 rfl rfl rfl rfl fun j77 st77 hj77=> ?_)
 refine ⟨fun _=> .inl (.inr ⟨j77,st77,hj77,rfl⟩),?_⟩
 refine gz1 ?_;refine uF 12 ?_;refine zI (zl2 (i:=0) (s:=(x.Player,x.Stat)) (f:=HVal.int .i64) (z0:=(0:Int)) (v:=(alk (x.Player,x.Stat) (zaI l trust week n (l.take k)).c).getD 0+x.Count) rfl rfl rfl rfl hj77 ?_)
 refine ⟨uE,?_⟩
 refine gz7 ?_;exact ⟨k+1,⟨by omega,trivial⟩,uD,⟨rfl,trivial⟩,uK,zl (by dsimp only;rw [zl9 hx,ze9,if_pos (zCq hO19 h4)];rfl)⟩;have hnk:l.length<=k:=by omega
 obtain rfl:k=l.length:=by omega
 refine gz2 ?_;refine zv ?_;refine gz2 ?_;rw [Am];have hok:=zog (l:=l) (m:=l) (trust:=trust) (week:=week) (n:=n) ok;refine gz4 ?_;refine de rfl (zaA (M1:=[_,_]) (R:=[_,_]) zHV rfl (WeakL.refl _) (Ac _) (znL hT hok.c hok.S hok.k (An hok.cl uO) (An hok.Sl uO)) ?_)
 rintro _ _ ⟨rfl,rfl⟩;refine gz6 ?_;exact zA Ghost.clear rfl ⟨rfl,rfl⟩
theorem zwe [Tracks] {l:List Play} {trust:List Str} {week n:Int} (hT:Tracks.on=false) (hl:l.length<=1000000) (ht:trust.length<=1000000):ConP prog 80 [zbK l,eSs trust,.int .i64 week,.int .i64 n] (.tup [zbJ (zmT l trust week n),.int .i64 (zmS l trust week n)]):=by
 refine uOb func80 ntmps80 ?_;refine gz7 ?_;refine dq (uCl ca75 rfl (zkl (by assumption))) ?_;refine gz1 ?_;refine dq (uCl zDB rfl (zkm (by assumption))) ?_;refine dq (za (hs:=[_,_]) zg0 zhv rfl rfl (by decide) (by decide) rfl) ?_;refine dq (uCl zpt rfl (zdH (l:=[_,_]) (by simp))) ?_;refine gz6 ?_;refine uCo (fun h1=> ?_) fun h2=> ?_
 refine gz6 ?_;exact zbV rfl (zbM (by rw [zmT,if_pos (by simpa using h1)];exact zD 3) (by rw [zmS,if_pos (by simpa using h1)];exact Weak.refl _));refine gz5 ?_;refine dq (uCl zli rfl zcL) ?_;refine gz3 ?_;refine uGr rfl (fun hc=>uCl zj6 rfl zbO) ?_;refine gz3 ?_;refine uCo (fun h3=> ?_) fun h4=> ?_
 refine gz5 ?_;exact zbV rfl (zbM (by rw [zmT,if_neg (by simpa using h2),if_pos uSa];exact zD 3) (by rw [zmS,if_neg (by simpa using h2),if_pos uSa];exact Weak.refl _));refine gz7 ?_;refine dq (uCl zHa rfl (zwf hT (zme (okPT h2).1).1 ht (zei (okPT h2).1))) ?_;refine gz6 ?_
 (refine zu rfl ?_
  rw [zmT,zmS,if_neg (by simpa using h2),if_neg uSa,if_neg (by simpa using h2),if_neg uSa])
end
end Go.Proofs.YtabpobhnedkkeaaGreatDoor
namespace Go.Proofs
section
open Go.Shelf
def Tryz.lays190_ren:Go.Shelf.Ren:=⟨fun|190=>197|125=>220|258=>275|128=>289|129=>290|302=>325|303=>326|304=>327|305=>328|306=>329|307=>330|308=>331|309=>332|310=>333|333=>379|329=>339|330=>340|334=>380|335=>381|336=>336|344=>403|n=>n,fun|31=>33|9=>9|3=>3|46=>271|0=>0|51=>339|53=>341|4=>4|183=>333|182=>332|131=>221|5=>5|218=>379|222=>383|228=>425|229=>426|n=>n,fun|n=>n⟩
theorem zv0:Go.Proofs.Lays.n190 Tryz.prog Tryz.lays190_ren:={
 mixed:=by kernel_rfl
 f125:=Tryz.func220.trans (congrArg some (by kernel_rfl))
 f128:=Tryz.func289.trans (congrArg some (by kernel_rfl))
 f129:=Tryz.func290.trans (congrArg some (by kernel_rfl))
 f190:=Tryz.func197.trans (congrArg some (by kernel_rfl))
 f258:=Tryz.func275.trans (congrArg some (by kernel_rfl))
 f302:=Tryz.func325.trans (congrArg some (by kernel_rfl))
 f303:=Tryz.func326.trans (congrArg some (by kernel_rfl))
 f304:=Tryz.func327.trans (congrArg some (by kernel_rfl))
 f305:=Tryz.func328.trans (congrArg some (by kernel_rfl))
 f306:=Tryz.func329.trans (congrArg some (by kernel_rfl))
 f307:=Tryz.func330.trans (congrArg some (by kernel_rfl))
 f308:=Tryz.func331.trans (congrArg some (by kernel_rfl))
 f309:=Tryz.func332.trans (congrArg some (by kernel_rfl))
 f310:=Tryz.func333.trans (congrArg some (by kernel_rfl))
 f329:=Tryz.func339.trans (congrArg some (by kernel_rfl))
 f330:=Tryz.func340.trans (congrArg some (by kernel_rfl))
 f333:=Tryz.func379.trans (congrArg some (by kernel_rfl))
 f334:=Tryz.func380.trans (congrArg some (by kernel_rfl))
 f335:=Tryz.func381.trans (congrArg some (by kernel_rfl))
 f336:=Tryz.func336.trans (congrArg some (by kernel_rfl))
 f344:=Tryz.func403.trans (congrArg some (by kernel_rfl))
 t0:=Tryz.underlying0
 a0:=Tryz.isAgg0
 z0:=Tryz.sizeOf0
 v0:=Tryz.zeroValue0
 t3:=Tryz.underlying3
 a3:=Tryz.isAgg3
 z3:=Tryz.sizeOf3
 v3:=Tryz.zeroValue3
 t4:=Tryz.underlying4
 a4:=Tryz.isAgg4
 z4:=Tryz.sizeOf4
 v4:=Tryz.zeroValue4
 t5:=Tryz.underlying5
 a5:=Tryz.isAgg5
 z5:=Tryz.sizeOf5
 v5:=Tryz.zeroValue5
 t9:=Tryz.underlying9
 a9:=Tryz.isAgg9
 z9:=Tryz.sizeOf9
 v9:=Tryz.zeroValue9
 t31:=Tryz.underlying33
 a31:=Tryz.isAgg33
 z31:=Tryz.sizeOf33
 v31:=Tryz.zeroValue33
 t46:=Tryz.underlying271
 a46:=Tryz.isAgg271
 z46:=Tryz.sizeOf271
 v46:=Tryz.zeroValue271
 t51:=Tryz.underlying339
 a51:=Tryz.isAgg339
 z51:=Tryz.sizeOf339
 v51:=Tryz.zeroValue339
 t53:=Tryz.underlying341
 a53:=Tryz.isAgg341
 z53:=Tryz.sizeOf341
 v53:=Tryz.zeroValue341
 t131:=Tryz.underlying221
 a131:=Tryz.isAgg221
 z131:=Tryz.sizeOf221
 v131:=Tryz.zeroValue221
 t182:=Tryz.underlying332
 a182:=Tryz.isAgg332
 z182:=Tryz.sizeOf332
 v182:=Tryz.zeroValue332
 t183:=Tryz.underlying333
 a183:=Tryz.isAgg333
 z183:=Tryz.sizeOf333
 v183:=Tryz.zeroValue333
 t218:=Tryz.underlying379
 a218:=Tryz.isAgg379
 z218:=Tryz.sizeOf379
 v218:=Tryz.zeroValue379
 t222:=Tryz.underlying383
 a222:=Tryz.isAgg383
 z222:=Tryz.sizeOf383
 v222:=Tryz.zeroValue383
 t228:=Tryz.underlying425
 a228:=Tryz.isAgg425
 z228:=Tryz.sizeOf425
 v228:=Tryz.zeroValue425
 t229:=Tryz.underlying426
 a229:=Tryz.isAgg426
 z229:=Tryz.sizeOf426
 v229:=Tryz.zeroValue426}
def Tryz.lays194_ren:Go.Shelf.Ren:=⟨fun|194=>265|n=>n,fun|31=>33|9=>9|3=>3|4=>4|0=>0|n=>n,fun|n=>n⟩
theorem zo4:Go.Proofs.Lays.n194 Tryz.prog Tryz.lays194_ren:={
 mixed:=by kernel_rfl
 f194:=Tryz.func265.trans (congrArg some (by kernel_rfl))
 t0:=Tryz.underlying0
 a0:=Tryz.isAgg0
 z0:=Tryz.sizeOf0
 v0:=Tryz.zeroValue0
 t3:=Tryz.underlying3
 a3:=Tryz.isAgg3
 z3:=Tryz.sizeOf3
 v3:=Tryz.zeroValue3
 t4:=Tryz.underlying4
 a4:=Tryz.isAgg4
 z4:=Tryz.sizeOf4
 v4:=Tryz.zeroValue4
 t9:=Tryz.underlying9
 a9:=Tryz.isAgg9
 z9:=Tryz.sizeOf9
 v9:=Tryz.zeroValue9
 t31:=Tryz.underlying33
 a31:=Tryz.isAgg33
 z31:=Tryz.sizeOf33
 v31:=Tryz.zeroValue33}
def Tryz.lays189_ren:Go.Shelf.Ren:=⟨fun|189=>260|125=>220|257=>316|128=>289|129=>290|294=>367|295=>368|296=>369|297=>370|298=>371|299=>372|216=>373|300=>374|301=>375|328=>399|329=>339|330=>340|331=>400|332=>401|215=>206|343=>415|n=>n,fun|28=>22|3=>3|46=>271|0=>0|51=>339|53=>341|4=>4|183=>333|182=>332|131=>221|5=>5|9=>9|218=>379|222=>383|228=>425|229=>426|n=>n,fun|n=>n⟩
theorem zo3:Go.Proofs.Lays.n189 Tryz.prog Tryz.lays189_ren:={
 mixed:=by kernel_rfl
 f125:=Tryz.func220.trans (congrArg some (by kernel_rfl))
 f128:=Tryz.func289.trans (congrArg some (by kernel_rfl))
 f129:=Tryz.func290.trans (congrArg some (by kernel_rfl))
 f189:=Tryz.func260.trans (congrArg some (by kernel_rfl))
 f215:=Tryz.func206.trans (congrArg some (by kernel_rfl))
 f216:=Tryz.func373.trans (congrArg some (by kernel_rfl))
 f257:=Tryz.func316.trans (congrArg some (by kernel_rfl))
 f294:=Tryz.func367.trans (congrArg some (by kernel_rfl))
 f295:=Tryz.func368.trans (congrArg some (by kernel_rfl))
 f296:=Tryz.func369.trans (congrArg some (by kernel_rfl))
 f297:=Tryz.func370.trans (congrArg some (by kernel_rfl))
 f298:=Tryz.func371.trans (congrArg some (by kernel_rfl))
 f299:=Tryz.func372.trans (congrArg some (by kernel_rfl))
 f300:=Tryz.func374.trans (congrArg some (by kernel_rfl))
 f301:=Tryz.func375.trans (congrArg some (by kernel_rfl))
 f328:=Tryz.func399.trans (congrArg some (by kernel_rfl))
 f329:=Tryz.func339.trans (congrArg some (by kernel_rfl))
 f330:=Tryz.func340.trans (congrArg some (by kernel_rfl))
 f331:=Tryz.func400.trans (congrArg some (by kernel_rfl))
 f332:=Tryz.func401.trans (congrArg some (by kernel_rfl))
 f343:=Tryz.func415.trans (congrArg some (by kernel_rfl))
 t0:=Tryz.underlying0
 a0:=Tryz.isAgg0
 z0:=Tryz.sizeOf0
 v0:=Tryz.zeroValue0
 t3:=Tryz.underlying3
 a3:=Tryz.isAgg3
 z3:=Tryz.sizeOf3
 v3:=Tryz.zeroValue3
 t4:=Tryz.underlying4
 a4:=Tryz.isAgg4
 z4:=Tryz.sizeOf4
 v4:=Tryz.zeroValue4
 t5:=Tryz.underlying5
 a5:=Tryz.isAgg5
 z5:=Tryz.sizeOf5
 v5:=Tryz.zeroValue5
 t9:=Tryz.underlying9
 a9:=Tryz.isAgg9
 z9:=Tryz.sizeOf9
 v9:=Tryz.zeroValue9
 t28:=Tryz.underlying22
 a28:=Tryz.isAgg22
 z28:=Tryz.sizeOf22
 v28:=Tryz.zeroValue22
 t46:=Tryz.underlying271
 a46:=Tryz.isAgg271
 z46:=Tryz.sizeOf271
 v46:=Tryz.zeroValue271
 t51:=Tryz.underlying339
 a51:=Tryz.isAgg339
 z51:=Tryz.sizeOf339
 v51:=Tryz.zeroValue339
 t53:=Tryz.underlying341
 a53:=Tryz.isAgg341
 z53:=Tryz.sizeOf341
 v53:=Tryz.zeroValue341
 t131:=Tryz.underlying221
 a131:=Tryz.isAgg221
 z131:=Tryz.sizeOf221
 v131:=Tryz.zeroValue221
 t182:=Tryz.underlying332
 a182:=Tryz.isAgg332
 z182:=Tryz.sizeOf332
 v182:=Tryz.zeroValue332
 t183:=Tryz.underlying333
 a183:=Tryz.isAgg333
 z183:=Tryz.sizeOf333
 v183:=Tryz.zeroValue333
 t218:=Tryz.underlying379
 a218:=Tryz.isAgg379
 z218:=Tryz.sizeOf379
 v218:=Tryz.zeroValue379
 t222:=Tryz.underlying383
 a222:=Tryz.isAgg383
 z222:=Tryz.sizeOf383
 v222:=Tryz.zeroValue383
 t228:=Tryz.underlying425
 a228:=Tryz.isAgg425
 z228:=Tryz.sizeOf425
 v228:=Tryz.zeroValue425
 t229:=Tryz.underlying426
 a229:=Tryz.isAgg426
 z229:=Tryz.sizeOf426
 v229:=Tryz.zeroValue426}
def Tryz.lays220_ren:Go.Shelf.Ren:=⟨fun|20=>261|n=>n,fun|22=>22|3=>3|4=>4|0=>0|n=>n,fun|n=>n⟩
theorem zo5:Go.Proofs.Lays2.n20 Tryz.prog Tryz.lays220_ren:={
 mixed:=by kernel_rfl
 f20:=Tryz.func261.trans (congrArg some (by kernel_rfl))
 t0:=Tryz.underlying0
 a0:=Tryz.isAgg0
 z0:=Tryz.sizeOf0
 v0:=Tryz.zeroValue0
 t3:=Tryz.underlying3
 a3:=Tryz.isAgg3
 z3:=Tryz.sizeOf3
 v3:=Tryz.zeroValue3
 t4:=Tryz.underlying4
 a4:=Tryz.isAgg4
 z4:=Tryz.sizeOf4
 v4:=Tryz.zeroValue4
 t22:=Tryz.underlying22
 a22:=Tryz.isAgg22
 z22:=Tryz.sizeOf22
 v22:=Tryz.zeroValue22
 i3:=by kernel_rfl}
end
end Go.Proofs
