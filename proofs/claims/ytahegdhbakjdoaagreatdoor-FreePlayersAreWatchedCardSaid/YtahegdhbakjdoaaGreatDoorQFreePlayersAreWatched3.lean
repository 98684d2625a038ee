/- Part 3 of the proof: a program logic, contracts of functions and plain facts; no conditions. -/
import Derived.Test.YtahegdhbakjdoaaGreatDoorQFreePlayersAreWatched2
import Derived.Ground.GgzProg
import Derived.Ground.Names2Prog
import Derived.Ground.SlgmProg
import Derived.Ground.SlmcProg
import Derived.Ground.SlsfProg
import Derived.Lib.AppendStr
import Derived.Lib.UnsafeStr
import Derived.Shelf.SlIter.Collect
import Derived.Shelf.SlIter.Keys
import Derived.Shelf.SlIter.Sorted
import Derived.Shelf.SlMaps.Clone
import Derived.Shelf.SlSortCmp.NoneTotal
import Derived.Shelf.Slices.CompactI
import Derived.Shelf.Slices.CompactS
import Derived.Shelf.Slices.Delete
import Derived.Shelf.Slices.In.SortNone
import Derived.Shelf.Small.Wraps
import Derived.Shelf.Sort.Plain
import Derived.Shelf.SortM.Plain
import Derived.Shelf.SortM.SortNone
import Derived.Shelf.Spec.SlicesInsert
import Derived.Shelf.Spec.SlicesInsertGrow
import Derived.Shelf.Strconv.Atoi
import Derived.Shelf.Strconv.Itoa3
import Derived.Shelf.Strings.Builder1
import Derived.Shelf.Strings.Cut
import Derived.Shelf.Strings.FieldsFuncAny
import Derived.Shelf.Strings.OnBuilder
import Derived.Shelf.Strings.Prefix
import Derived.Shelf.Strings.Search3
import Derived.Shelf.Strings.Split
import Derived.Shelf.Unicode.ValidAny
import Derived.Test.YtahegdhbakjdoaaGreatDoorProg
set_option linter.unusedVariables false
set_option linter.unusedSimpArgs false
set_option maxHeartbeats 16000000
namespace Go.HL
section
open Go.Proofs Go.RowKit Go.Maps Go.Sort Go.Shelf
section
variable {P:Program}
def zoS (H:Type):Value->Option (DataW H×List MemPlace):=fun _=>some (.nil,[])
theorem zvS {I:Imm} {w:World} {b:Nat} {α:Type} {f:α->HVal} {L:List (Str×α)} (hm:MSat I w (.map b (sk (em f L)))):
 ∃es clk,w.heap[b]? =some (.map es clk)/\BornOk es clk/\es.size=L.length/\es.toList.map (·.key)=L.map fun p=>encStr p.1:=by
 obtain ⟨es,clk,h1,⟨h2,h4⟩,h3⟩:=hm;have hl:es.size=L.length:=by rw [h2];simp [sk]
 refine ⟨es,clk,h1,h4,hl,BI fun i=> ?_⟩
 rw [Ag,Ag]
 rcases Az i L.length with h|h
 have a1:L[i]? =some L[i]:=Aa h;have a2:es[i]? =some es[i]:=Aj (by omega);have a3:(sk (em f L))[i]? =some (.str L[i].1,f L[i].2):=by simp [sk,a1]
 have a4:=(h3 i _ _ a3 a2).1.str_inv;rw [a1,AS,a2];simp only [AH,As];rw [a4]
 try rfl
 rw [Ax h,Ax (by rw [AN];omega)];rfl
theorem ztR {es:Array MapEntry} {clk:Nat} (h:BornOk es clk):(es.toList.map (·.born)).Nodup:=by
 refine List.pairwise_iff_getElem.2 fun i j hi hj hij e=> ?_
 rw [List.getElem_map,List.getElem_map] at e;rw [Ah,AN] at hi hj;have:=h.2 i j es[i] es[j] (Aj hi) (Aj hj) (by simpa using e)
 omega
theorem zsp {I:Imm} {w:World} {b:Nat} {α:Type} {f:α->HVal} {L:List (Str×α)} {k:TypeId} (hk:P.underlying k=some .string) (hm:MSat I w (.map b (sk (em f L)))) (hn:ANodup L)
 (hl: ∀p∈L,p.1.length<=1000000) (hs:L.length<=1000000): ∃D:DataW Unit,w.ownsMap P k (zoS Unit) b L.length D/\(strKeys D).Perm (L.map (·.1))/\Maps.size D=L.length:=by
 obtain ⟨es,clk,h1,h2,h3,h4⟩:=zvS hm;have hx: ∀x∈es.toList,∃p∈L,x.key=encStr p.1:=fun x hx=>by
  have:=BC (f:=(·.key)) hx;rw [h4] at this;obtain ⟨p,hp,e⟩:=List.mem_map.1 this;exact ⟨p,hp,e.symm⟩
 have hrd: ∀x∈es.toList,∀p∈L,x.key=encStr p.1->WideElems.rd P k (zoS Unit) x=some (.string p.1,.nil):=fun x _ p hp e=>by
  have:=hl p hp;have hm:maxLen=9223372036854775807:=by rfl
  simp [WideElems.rd,keyOf,hk,e,mapKey,encStr,zoS,hm]
  rw [if_pos (by show p.1.toArray.size<=_;simp;omega)]
  rfl
 have hkeys:es.toList.map (fun x=>strOf (WideElems.rg P k (zoS Unit) x).1)=L.map (·.1):=by
  have e2:es.toList.map (fun x=>strOf (WideElems.rg P k (zoS Unit) x).1)=(es.toList.map (·.key)).map fun v=>match v with| .string s=>s.data.toList|_=>[]:=by
   rw [AX];refine List.map_congr_left fun x hx'=> ?_
   obtain ⟨p,hp,e⟩:=hx x hx';rw [WideElems.rg_of (hrd x hx' p hp e)]
   simp [e,encStr,strOf]
  rw [e2,h4,AX];refine List.map_congr_left fun p _=> ?_
  simp [encStr]
 have hml:maxLen=9223372036854775807:=by rfl
 refine ⟨_,⟨es,clk,h1,⟨by omega,⟨fun x hx'=> ?_,ztR h2,?_⟩,fun x hx'=> ?_⟩,by omega,rfl⟩,?_,?_⟩
 obtain ⟨i,hi⟩:=Bg hx';exact h2.1 i x (by simpa using hi);rw [h4];have:(L.map fun p=>encStr p.1)=(L.map (·.1)).map encStr:=by rw [AX];rfl
 rw [this];exact List.Pairwise.map encStr (fun a b hab e=>hab (encStr_inj e)) hn;obtain ⟨p,hp,e⟩:=hx x hx';exact ⟨_,hrd x hx' p hp e⟩
 show ((List.foldr DataW.insert [] _).map fun p=>strOf p.1).Perm _
 rw [<-hkeys];have:=(WideShapes.sorted_perm (es.toList.map (WideElems.rg P k (zoS Unit)))).map fun p=>strOf p.1
 rw [AX] at this;exact this
 show (List.foldr DataW.insert [] _).length=_
 rw [(WideShapes.sorted_perm _).length_eq,Ah,AN,h3]
theorem zvx [Tracks] {ρ:Ren} (L:SlLaysZ.n7 P ρ) {b:Nat}:Con P (ρ.f 7) [.raw (.map (some b))] [] fun x M'=> ∃bx,x= .fn (.func (ρ.f 10)) [] [.raw (.pointer (some ⟨bx,0,none⟩))]/\M'=[.cells bx [.raw (.map (some b))]]:=by
 intro I F w args ha hs
 obtain ⟨u,rfl,hu⟩:=ha.one;obtain rfl:=hu.raw_inv;refine ((callsIn_wide (n:=1)).1 (AnyZ.keys_in L Fence.wide 1 trivial rfl (some b) w)).mono ?_;rintro _ w' ⟨rfl,rfl⟩;refine ⟨_,_,_,I,rfl,.refl I,⟨w.heap.size,rfl,rfl⟩,.fn rfl rfl (fun j c v h _=>by simp at h) (fun j c v h1 h2=> ?_),?_⟩
 exact (VL.cons (.raw _ rfl) VL.nil:VL I [.raw (.pointer (some ⟨w.heap.size,0,none⟩))] [.pointer (some ⟨w.heap.size,0,none⟩)]).2 j c v h1 (by simpa using h2);exact hs.new_own _ _ rfl ⟨#[.map (some b)],ρ.t 23,(0,0),by simp,Free.zero _,VL.cons (.raw _ rfl) VL.nil⟩
theorem ztz [Tracks] (hT:Tracks.on=false) {ρ ρk:Ren} (L:SlLaysZ.n6 P ρ) (Lk:SlLaysZ.n7 P ρk) (hsort: ∀m,AnyZ.SortsIn P ρ Fence.wide m)
 (e9: ∀args w,(callFunc (ρ.f 9) args).run P w= .ok (.enter (ρ.f 9) args) w) (eg: ∀args w,(callFunc (ρk.f 10) args).run P w= .ok (.enter (ρk.f 10) args) w)
 {α:Type} {f:α->HVal} {l:List (Str×α)} (hn:ANodup l) (hl: ∀p∈l,p.1.length<=1000000) (hs:l.length<=1000000) {b bx:Nat}:
 Con P (ρ.f 6) [.fn (.func (ρk.f 10)) [] [.raw (.pointer (some ⟨bx,0,none⟩))]] [.cells bx [.raw (.map (some b))],.map b (sk (em f l))] fun x M'=> ∃v,x= .raw v/\M'=[.arr v 1 ((za8 (l.map (·.1))).map .str),.map b (sk (em f l))]:=by
 intro I F w args ha hsat
 obtain ⟨u,rfl,hu⟩:=ha.one;obtain ⟨v1,v2,rfl,hv1,hv2,hc⟩: ∃v1 v2,u= .func (.func (ρk.f 10)) v1 v2/\v1= #[]/\v2.size=1/\∀(j:Nat) (c:HVal) (v:Value),[HVal.raw (.pointer (some ⟨bx,0,none⟩))][j]? =some c->v2[j]? =some v->V I c v:=by
  cases hu with
  |fn h1 h2 h3 h4=>exact ⟨_,_,rfl,BE (by simpa using h1),by simpa using h2,h4⟩
 subst hv1;obtain rfl:v2= #[.pointer (some ⟨bx,0,none⟩)]:=by
  match v2,hv2 with
  |⟨[y]⟩,_=>have:=(hc 0 _ y rfl rfl).raw_inv;rw [this]
 obtain ⟨rc,el,fr,c1,c2,c3⟩:=hsat.obj (.cells bx [.raw (.map (some b))]) (by simp);have hmap:=hsat.obj (.map b (sk (em f l))) (by simp);obtain ⟨D,d1,d2,d3⟩:=zsp (k:=ρk.t 26) (by exact Lk.t26) hmap hn hl hs;have hbx:bx<w.heap.size:=(Array.getElem?_eq_some_iff.1 c1).1;have hcell:w.cell? ⟨bx,0,none⟩=some (.map (some b)):=by
  have:=c3.1
  match rc,this,c1,c3 with
  |⟨[y]⟩,_,c1,c3=>
    have hy:=c3.head.raw_inv;subst hy
    simp [World.cell?,c1]
 have hseq:=AnyZ.keys_gives (ρ:=ρk) {Lk with} Fence.wide 2 trivial rfl (by omega) bx b l.length D w hbx hcell d1;have cS:=AnyZ.sorted_in L Fence.wide 5 trivial trivial trivial trivial rfl (by omega) (hsort _) e9 (ρk.f 10) #[.pointer (some ⟨bx,0,none⟩)] trivial eg _ _ (by rw [d3];exact Ay hs (by decide)) (by rw [d3];omega) w hseq;refine ((callsIn_wide (n:=5)).1 cS).mono ?_;rintro e w' ⟨v,ss,rfl,hS,hrow,hnil,hb⟩;have hss:(ss.mergeSort fun x y=>decide (x<=y))=za8 (l.map (·.1)):=mergeSort_of_perm (hS.trans d2);rw [hss] at hrow;have hlen:ss.length=(za8 (l.map (·.1))).length:=by rw [zjt,(hS.trans d2).length_eq]
 have hmem:MSat I w' (.arr v 1 ((za8 (l.map (·.1))).map .str)):=by
  rcases hrow.2 with ⟨rfl,hz⟩|⟨gb,cap,cur,rfl,hbase,hgb,r1,r2,r3,r4⟩
  refine .inl ⟨rfl,?_⟩
  have:za8 (l.map (·.1))=[]:=List.length_eq_zero_iff.1 (by omega);rw [this];rfl;refine .inr ⟨gb,0,cap,cur,_,_,by rw [Ah,<-hlen],hgb,Free.zero _,fun e he=> ?_,⟨by rw [Ah];omega,Ay r2 (by decide)⟩,by omega,fun i j e c y h1 h2 h3=> ?_⟩
  obtain ⟨s,_,rfl⟩:=List.mem_map.1 he;rfl;rw [Ag] at h1
  cases hq:(za8 (l.map (·.1)))[i]? with
  |none=>rw [hq] at h1;cases h1
  |some s=>
    rw [hq] at h1;simp only [AH,As] at h1;subst h1;have hj:j=0:=by
     cases j with
     |zero=>rfl
     |succ j=>simp [zb] at h2
    subst hj;simp only [zb,AV,As] at h2;subst h2;have hi:=zl hq;have h4:(cur.toList.take (ss.length*1))[i]? =some (encStr s):=by rw [r4,Ag,hq];rfl
    rw [AC (by omega),AS] at h4;have e0:0+i*1+0=i:=by omega
    rw [e0,h4] at h3
    cases h3
    exact .str s
 have hown: ∀k,v.ownBlock=some k->w.heap.size<=k/\k<w'.heap.size:=hrow.lt
 refine ⟨v,.raw v,_,I,rfl,.refl I,⟨v,rfl,rfl⟩,?_,?_⟩
 rcases hrow.2 with ⟨rfl,_⟩|⟨gb,cap,cur,rfl,_⟩
 exact .raw _ rfl;exact .raw _ rfl;refine hsat.change (m':= .arr v 1 _) (fun k hk _=>hb.block k hk) (fun k hk=> .inr ?_) ?_ hmem hb.os hb.output hb.tape (fun ht=>by rw [hT] at ht;cases ht)
 rcases hrow.2 with ⟨rfl,_⟩|⟨gb,cap,cur,rfl,hbase,_⟩
 simp [MObj.blocks] at hk
 simp [MObj.blocks] at hk;omega
 rcases hrow.2 with ⟨rfl,_⟩|⟨gb,cap,cur,rfl,hbase,_⟩<;>simp [MObj.blocks]
theorem zqx [Tracks] (hT:Tracks.on=false) {ρ ρk:Ren} (L:SlLaysZ.n6 P ρ) (Lk:SlLaysZ.n7 P ρk) (hsort: ∀m,AnyZ.SortsIn P ρ Fence.wide m)
 (e9: ∀args w,(callFunc (ρ.f 9) args).run P w= .ok (.enter (ρ.f 9) args) w) (eg: ∀args w,(callFunc (ρk.f 10) args).run P w= .ok (.enter (ρk.f 10) args) w)
 {S:List Str} (hn:S.Nodup) (hl: ∀s∈S,s.length<=1000000) (hs:S.length<=1000000) {b bx:Nat}:
 Con P (ρ.f 6) [.fn (.func (ρk.f 10)) [] [.raw (.pointer (some ⟨bx,0,none⟩))]] [.cells bx [.raw (.map (some b))],.map b (sk (zbj S))] fun x M'=> ∃v,x= .raw v/\M'=[.arr v 1 ((za8 S).map .str),.map b (sk (zbj S))]:=by
 have e1:zbj S=em HVal.bool (S.map fun s=>(s,true)):=by simp [zbj]
 have e2:(S.map fun s=>(s,true)).map (·.1)=S:=by simp [Function.comp_def]
 have:=ztz hT L Lk hsort e9 eg (f:=HVal.bool) (l:=S.map fun s=>(s,true)) (by unfold ANodup;rw [e2];exact hn) (fun p hp=>by obtain ⟨s,hs,rfl⟩:=List.mem_map.1 hp;exact hl s hs) (by simpa using hs) (b:=b) (bx:=bx);rw [e2,<-e1] at this;exact this
end
end
section
open Go.Proofs Go.RowKit Go.Sort Go.Shelf
variable {P:Program}
theorem Sat.below [Tracks] (hT:Tracks.on=false) {I:Imm} {M:List MObj} {w w':World} (hs:Sat P I M w) (hb:Below w.heap.size w w'):Sat P I M w':=by
 obtain ⟨h1,h2⟩:=hs.lt;exact hs.of_same (fun b hb'=>hb.block b (h1 b hb')) (fun b hb'=>hb.block b (h2 b hb')) hb.os hb.output hb.tape (fun h=>by rw [hT] at h;cases h)
theorem zuv [Tracks] (hT:Tracks.on=false) {ρ:Ren} (L:Lays.n196 P ρ) (h3:P.globalNamed "unicode/utf8.first" =some (ρ.g 3)) (h4:P.globalNamed "unicode/utf8.acceptRanges" =some (ρ.g 4)) {s:Str} (hs:s.length<=1000000):
 ConP P (ρ.f 196) [.str s] (.bool (Lib.validD s)):=by
 intro I F w args ha hsat
 obtain ⟨u,rfl,hu⟩:=ha.one;obtain rfl:=hu.str_inv;refine (Any.utf8_ValidString L ⟨s.toArray⟩ w (by show s.toArray.size<=_;simp;omega) (hsat.utf8 h3 h4)).mono ?_;rintro e w' ⟨rfl,hb⟩;exact ⟨_,.bool _,[],I,rfl,.refl I,⟨by simp,rfl⟩,.bool _,hsat.below hT hb⟩
theorem zs8 {I:Imm} {w':World} {B:Nat} {t:TypeId} {v:Value} {l:List Str} (hl:l.length<=1000000) (hrow:w'.ownsRow B t 1 v l.length (l.map encStr)):MSat I w' (.arr v 1 (l.map .str)):=by
 rcases hrow.2 with ⟨rfl,hz⟩|⟨gb,cap,cur,rfl,hbase,hgb,r1,r2,r3,r4⟩
 refine .inl ⟨rfl,?_⟩
 rw [List.length_eq_zero_iff.1 hz];rfl;refine .inr ⟨gb,0,cap,cur,_,_,by rw [Ah],hgb,Free.zero _,fun e he=> ?_,⟨by rw [Ah];omega,Ay r2 (by decide)⟩,by omega,fun i j e c y h1 h2 h3=> ?_⟩
 obtain ⟨s,_,rfl⟩:=List.mem_map.1 he;rfl;rw [Ag] at h1
 cases hq:l[i]? with
 |none=>rw [hq] at h1;cases h1
 |some s=>
   rw [hq] at h1;simp only [AH,As] at h1;subst h1;have hj:j=0:=by
    cases j with
    |zero=>rfl
    |succ j=>simp [zb] at h2
   subst hj;simp only [zb,AV,As] at h2;subst h2;have hi:=zl hq;have h4:(cur.toList.take (l.length*1))[i]? =some (encStr s):=by rw [r4,Ag,hq];rfl
   rw [AC (by omega),AS] at h4;have e0:0+i*1+0=i:=by omega
   rw [e0,h4] at h3
   cases h3
   exact .str s
theorem ztx [Tracks] (hT:Tracks.on=false) {ρ:Ren} (L:Lays.n229 P ρ) (g:Nat) (eg: ∀args w,(callFunc g args).run P w= .ok (.enter g args) w) (p:Nat->Bool) {s:Str} (hs:s.length<=1000000) (hp: ∀w,PredAt P g #[] encR p w)
 (hi154:(P.info? (ρ.t 154)).map (fun i=>(i.zero,i.size,i.bytes))=some (some (.agg #[.int .i64 0,.int .i64 0]),2,16))
 (hi9:(P.info? (ρ.t 9)).map (fun i=>(i.zero,i.size,i.bytes))=some (some (.string ⟨#[]⟩),1,16))
 {l:List Str} (hl:l.length<=1000000) (hf:Lib.goFieldsP p ⟨s.toArray⟩=l.map fun x=>⟨x.toArray⟩):
 Con P (ρ.f 229) [.str s,.fn (.func g) [] []] [] fun x M'=> ∃v,x= .raw v/\M'=[.arr v 1 (l.map .str)]:=by
 intro I F w args ha hsat
 obtain ⟨u1,u2,rfl,hu1,hu2⟩: ∃u1 u2,args=[u1,u2]/\V I (.str s) u1/\V I (.fn (.func g) [] []) u2:=by
  match args,ha with
  |[u1,u2],h=>exact ⟨u1,u2,rfl,h.2 0 _ _ rfl rfl,h.2 1 _ _ rfl rfl⟩
  |[],h=>exact absurd h.1 (by simp)
  |[_],h=>exact absurd h.1 (by simp)
  |_::_::_::_,h=>exact absurd h.1 (by simp)
 obtain rfl:=hu1.str_inv;obtain ⟨v1,v2,rfl,hv1,hv2⟩: ∃v1 v2,u2= .func (.func g) v1 v2/\v1= #[]/\v2= #[]:=by
  cases hu2 with
  |fn h1 h2 h3 h4=>exact ⟨_,_,rfl,BE (by simpa using h1),BE (by simpa using h2)⟩
 subst hv1 hv2;refine (Any.strings_FieldsFunc L g #[] eg p ⟨s.toArray⟩ w (by show s.toArray.size<=_;simp;omega) (hp w) hi154 hi9).mono ?_;rintro e w' ⟨A,rfl,hA,hrow,hb⟩;have e1:(Lib.goFieldsP p ⟨s.toArray⟩).length=l.length:=by rw [hf,Ah]
 have e2:(Lib.goFieldsP p ⟨s.toArray⟩).map Value.string=l.map encStr:=by rw [hf,AX];rfl
 rw [e1,e2] at hrow;rw [e1];have hmem:=zs8 (I:=I) hl hrow;refine ⟨_,.raw _,_,I,rfl,.refl I,⟨_,rfl,rfl⟩,.raw _ rfl,?_⟩
 refine (zne 1 hsat).change (m':= .arr _ 1 _) (fun k hk _=>hb.block k hk) (fun k hk=> .inr ?_) ?_ hmem hb.os hb.output hb.tape (fun ht=>by rw [hT] at ht;cases ht)
 simp [MObj.blocks] at hk;omega
 simp [MObj.blocks]
end
section
open Go.Proofs Go.RowKit Go.Sort Go.Shelf
variable {P:Program}
theorem zqy [Tracks] {ρ:Ren} (L:Lays.n144 P ρ) (hg:P.globalNamed "internal/bytealg.MaxLen" =some (ρ.g 1)) {s t:Str} (hs:s.length<4294967281):
 ConP P (ρ.f 144) [.str s,.str t] (.bool (Lib.contains s t)):=by
 intro I F w args ha hs0
 obtain ⟨u,v,rfl,hu,hv⟩: ∃u v,args=[u,v]/\V I (.str s) u/\V I (.str t) v:=by
  match args,ha with
  |[u,v],h=>exact ⟨u,v,rfl,h.2 0 _ _ rfl rfl,h.2 1 _ _ rfl rfl⟩
  |[],h=>exact absurd h.1 (by simp)
  |[_],h=>exact absurd h.1 (by simp)
  |_::_::_::_,h=>exact absurd h.1 (by simp)
 obtain rfl:=hu.str_inv;obtain rfl:=hv.str_inv;obtain ⟨m,hm⟩:=hs0.maxLen hg;refine (Any.strings_Contains L ⟨s.toArray⟩ ⟨t.toArray⟩ m w (by show s.toArray.size<_;simpa using hs) hm).mono ?_;rintro _ w' ⟨rfl,rfl⟩;exact ⟨_,.bool _,[],I,rfl,.refl I,⟨rfl,rfl⟩,.bool _,hs0⟩
theorem zsh [Tracks] (hT:Tracks.on=false) {ρ:Ren} (L:Lays.n229 P ρ) (g:Nat) (eg: ∀args w,(callFunc g args).run P w= .ok (.enter g args) w) (p:Nat->Bool) {s:Str} (hs:s.length<=1000000) (hp: ∀w,PredAt P g #[] encR p w)
 (hi154:(P.info? (ρ.t 154)).map (fun i=>(i.zero,i.size,i.bytes))=some (some (.agg #[.int .i64 0,.int .i64 0]),2,16))
 (hi9:(P.info? (ρ.t 9)).map (fun i=>(i.zero,i.size,i.bytes))=some (some (.string ⟨#[]⟩),1,16))
 {l:List Str} (hl:l.length<=1000000) (hf:Lib.goFieldsP p ⟨s.toArray⟩=l.map fun x=>⟨x.toArray⟩):
 ConP P (ρ.f 229) [.str s,.fn (.func g) [] []] (.slice 1 (l.map .str)):=by
 intro I F w args ha hsat
 refine (ztx hT L g eg p hs hp hi154 hi9 hl hf I F w args ha hsat).mono ?_;rintro e w' ⟨u,x,M',K,rfl,hk,⟨v,rfl,rfl⟩,h3,h4⟩;obtain ⟨J,hl',hs',hv⟩:=h4.freeze_arr;have:=h3.raw_inv;subst this;exact ⟨_,_,[],J,rfl,hk.trans hl',⟨rfl,rfl⟩,hv,hs'⟩
end
section
open Op
theorem zqY {x c:UInt8}:((x.toNat:Nat):Int)=((c.toNat:Nat):Int)↔x=c:=by
 constructor
 intro h;exact UInt8.toNat_inj.1 (by omega)
 intro h;rw [h]
theorem zon {s:Str} (h:s∈zb5):s.length<=60:=by
 have:=zmi h
 simp [out] at this
 omega
theorem zom {s:Str} (h:s∈zb5) {c:UInt8} (hc:c∈s): ¬c.toNat<32/\c.toNat≠127:=by
 revert c;revert h;revert s;decide
theorem zm9 {s:Str} (h:s∈zb5):Lib.validD s=true:=by
 revert h;revert s
 have:(zb5.all fun s=>Lib.validD s)=true:=by kernel_rfl
 intro s h;exact List.all_eq_true.1 this s h
theorem ztQ {s:Str} (h:s∈zb5):(zcO (· ==32) s).dropWhile (· ==32)=s:=by
 have:(zb5.all fun s=>(zcO (· ==32) s).dropWhile (· ==32)==s)=true:=by kernel_rfl
 simpa using List.all_eq_true.1 this s h
theorem ztP {s:Str} (h:s∈zb5):Lib.contains s [32,32]=false:=by
 have:(zb5.all fun s=> !Lib.contains s [32,32])=true:=by kernel_rfl
 simpa using List.all_eq_true.1 this s h
theorem zrJ {s:Str} (h:s∈zb5):(spl 32 s).length<=60/\Lib.goFieldsP (fun r=>decide ((r:Int)=32)) ⟨s.toArray⟩=(spl 32 s).map (fun x=>⟨x.toArray⟩)/\jn 32 (spl 32 s)=s:=by
 have h1:(zb5.all fun s=>decide ((spl 32 s).length<=60))=true:=by kernel_rfl
 have h2:(zb5.all fun s=>(Lib.goFieldsP (fun r=>decide ((r:Int)=32)) ⟨s.toArray⟩).map (fun x=>x.data.toList)==spl 32 s)=true:=by kernel_rfl
 have h3:(zb5.all fun s=>jn 32 (spl 32 s)==s)=true:=by kernel_rfl
 refine ⟨by simpa using List.all_eq_true.1 h1 s h,?_,by simpa using List.all_eq_true.1 h3 s h⟩
 have h4:(Lib.goFieldsP (fun r=>decide ((r:Int)=32)) ⟨s.toArray⟩).map (fun x=>x.data.toList)=spl 32 s:=by simpa using List.all_eq_true.1 h2 s h
 rw [<-h4,AX]
 conv=>lhs;rw [<-List.map_id (Lib.goFieldsP (fun r=>decide ((r:Int)=32)) ⟨s.toArray⟩)]
 exact List.map_congr_left fun x _=>by cases x;simp
end
end Go.HL
namespace Go.Proofs
section
open Go.Shelf
def Tryz.lays144_ren:Go.Shelf.Ren:=⟨fun|144=>317|143=>349|219=>366|217=>277|225=>365|224=>364|267=>370|266=>316|314=>371|n=>n,fun|9=>9|4=>4|3=>3|5=>5|46=>284|146=>422|51=>332|n=>n,fun|1=>0|n=>n⟩
theorem zq2:Go.Proofs.Lays.n144 Tryz.prog Tryz.lays144_ren:={
 mixed:=by kernel_rfl
 f143:=Tryz.func349.trans (congrArg some (by kernel_rfl))
 f144:=Tryz.func317.trans (congrArg some (by kernel_rfl))
 f217:=Tryz.func277.trans (congrArg some (by kernel_rfl))
 f219:=Tryz.func366.trans (congrArg some (by kernel_rfl))
 f224:=Tryz.func364.trans (congrArg some (by kernel_rfl))
 f225:=Tryz.func365.trans (congrArg some (by kernel_rfl))
 f266:=Tryz.func316.trans (congrArg some (by kernel_rfl))
 f267:=Tryz.func370.trans (congrArg some (by kernel_rfl))
 f314:=Tryz.func371.trans (congrArg some (by kernel_rfl))
 t3:=Tryz.underlying3
 a3:=Tryz.isAgg3
 z3:=Tryz.sizeOf3
 v3:=Tryz.zeroValue3
 t4:=Tryz.underlying4
 a4:=Tryz.isAgg4
 z4:=Tryz.sizeOf4
 v4:=Tryz.zeroValue4
 t5:=Tryz.underlying5
 a5:=Tryz.isAgg5
 z5:=Tryz.sizeOf5
 v5:=Tryz.zeroValue5
 t9:=Tryz.underlying9
 a9:=Tryz.isAgg9
 z9:=Tryz.sizeOf9
 v9:=Tryz.zeroValue9
 t46:=Tryz.underlying284
 a46:=Tryz.isAgg284
 z46:=Tryz.sizeOf284
 v46:=Tryz.zeroValue284
 t51:=Tryz.underlying332
 a51:=Tryz.isAgg332
 z51:=Tryz.sizeOf332
 v51:=Tryz.zeroValue332
 t146:=Tryz.underlying422
 a146:=Tryz.isAgg422
 z146:=Tryz.sizeOf422
 v146:=Tryz.zeroValue422
 g1:=by kernel_rfl}
def Tryz.lays196_ren:Go.Shelf.Ren:=⟨fun|196=>263|259=>308|n=>n,fun|9=>9|4=>4|3=>3|5=>5|12=>12|119=>369|0=>0|46=>284|139=>372|138=>371|53=>334|n=>n,fun|3=>1|4=>2|n=>n⟩
theorem zq5:Go.Proofs.Lays.n196 Tryz.prog Tryz.lays196_ren:={
 mixed:=by kernel_rfl
 f196:=Tryz.func263.trans (congrArg some (by kernel_rfl))
 f259:=Tryz.func308.trans (congrArg some (by kernel_rfl))
 t0:=Tryz.underlying0
 a0:=Tryz.isAgg0
 z0:=Tryz.sizeOf0
 v0:=Tryz.zeroValue0
 t3:=Tryz.underlying3
 a3:=Tryz.isAgg3
 z3:=Tryz.sizeOf3
 v3:=Tryz.zeroValue3
 t4:=Tryz.underlying4
 a4:=Tryz.isAgg4
 z4:=Tryz.sizeOf4
 v4:=Tryz.zeroValue4
 t5:=Tryz.underlying5
 a5:=Tryz.isAgg5
 z5:=Tryz.sizeOf5
 v5:=Tryz.zeroValue5
 t9:=Tryz.underlying9
 a9:=Tryz.isAgg9
 z9:=Tryz.sizeOf9
 v9:=Tryz.zeroValue9
 t12:=Tryz.underlying12
 a12:=Tryz.isAgg12
 z12:=Tryz.sizeOf12
 v12:=Tryz.zeroValue12
 t46:=Tryz.underlying284
 a46:=Tryz.isAgg284
 z46:=Tryz.sizeOf284
 v46:=Tryz.zeroValue284
 t53:=Tryz.underlying334
 a53:=Tryz.isAgg334
 z53:=Tryz.sizeOf334
 v53:=Tryz.zeroValue334
 t119:=Tryz.underlying369
 a119:=Tryz.isAgg369
 z119:=Tryz.sizeOf369
 t138:=Tryz.underlying371
 a138:=Tryz.isAgg371
 z138:=Tryz.sizeOf371
 v138:=Tryz.zeroValue371
 t139:=Tryz.underlying372
 a139:=Tryz.isAgg372
 z139:=Tryz.sizeOf372
 v139:=Tryz.zeroValue372
 g3:=by kernel_rfl
 g4:=by kernel_rfl}
def Tryz.lays229_ren:Go.Shelf.Ren:=⟨fun|229=>265|n=>n,fun|9=>9|40=>338|31=>33|152=>383|3=>3|0=>0|4=>4|21=>21|154=>385|n=>n,fun|n=>n⟩
theorem zq7:Go.Proofs.Lays.n229 Tryz.prog Tryz.lays229_ren:={
 mixed:=by kernel_rfl
 f229:=Tryz.func265.trans (congrArg some (by kernel_rfl))
 t0:=Tryz.underlying0
 a0:=Tryz.isAgg0
 z0:=Tryz.sizeOf0
 v0:=Tryz.zeroValue0
 t3:=Tryz.underlying3
 a3:=Tryz.isAgg3
 z3:=Tryz.sizeOf3
 v3:=Tryz.zeroValue3
 t4:=Tryz.underlying4
 a4:=Tryz.isAgg4
 z4:=Tryz.sizeOf4
 v4:=Tryz.zeroValue4
 t9:=Tryz.underlying9
 a9:=Tryz.isAgg9
 z9:=Tryz.sizeOf9
 v9:=Tryz.zeroValue9
 t21:=Tryz.underlying21
 a21:=Tryz.isAgg21
 z21:=Tryz.sizeOf21
 v21:=Tryz.zeroValue21
 t31:=Tryz.underlying33
 a31:=Tryz.isAgg33
 z31:=Tryz.sizeOf33
 v31:=Tryz.zeroValue33
 t40:=Tryz.underlying338
 a40:=Tryz.isAgg338
 z40:=Tryz.sizeOf338
 v40:=Tryz.zeroValue338
 t152:=Tryz.underlying383
 a152:=Tryz.isAgg383
 z152:=Tryz.sizeOf383
 v152:=Tryz.zeroValue383
 t154:=Tryz.underlying385
 a154:=Tryz.isAgg385
 z154:=Tryz.sizeOf385
 v154:=Tryz.zeroValue385}
def Tryz.lays156_ren:Go.Shelf.Ren:=⟨fun|156=>264|165=>309|166=>310|169=>311|240=>344|241=>345|276=>361|277=>362|n=>n,fun|31=>33|9=>9|3=>3|4=>4|0=>0|20=>20|72=>376|76=>380|70=>373|37=>374|75=>379|127=>409|164=>417|5=>5|80=>382|n=>n,fun|n=>n⟩
theorem zq3:Go.Proofs.Lays.n156 Tryz.prog Tryz.lays156_ren:={
 mixed:=by kernel_rfl
 f156:=Tryz.func264.trans (congrArg some (by kernel_rfl))
 f165:=Tryz.func309.trans (congrArg some (by kernel_rfl))
 f166:=Tryz.func310.trans (congrArg some (by kernel_rfl))
 f169:=Tryz.func311.trans (congrArg some (by kernel_rfl))
 f240:=Tryz.func344.trans (congrArg some (by kernel_rfl))
 f241:=Tryz.func345.trans (congrArg some (by kernel_rfl))
 f276:=Tryz.func361.trans (congrArg some (by kernel_rfl))
 f277:=Tryz.func362.trans (congrArg some (by kernel_rfl))
 t0:=Tryz.underlying0
 a0:=Tryz.isAgg0
 z0:=Tryz.sizeOf0
 v0:=Tryz.zeroValue0
 t3:=Tryz.underlying3
 a3:=Tryz.isAgg3
 z3:=Tryz.sizeOf3
 v3:=Tryz.zeroValue3
 t4:=Tryz.underlying4
 a4:=Tryz.isAgg4
 z4:=Tryz.sizeOf4
 v4:=Tryz.zeroValue4
 t9:=Tryz.underlying9
 a9:=Tryz.isAgg9
 z9:=Tryz.sizeOf9
 v9:=Tryz.zeroValue9
 t20:=Tryz.underlying20
 a20:=Tryz.isAgg20
 z20:=Tryz.sizeOf20
 v20:=Tryz.zeroValue20
 t31:=Tryz.underlying33
 a31:=Tryz.isAgg33
 z31:=Tryz.sizeOf33
 v31:=Tryz.zeroValue33
 t37:=Tryz.underlying374
 a37:=Tryz.isAgg374
 z37:=Tryz.sizeOf374
 v37:=Tryz.zeroValue374
 t70:=Tryz.underlying373
 a70:=Tryz.isAgg373
 z70:=Tryz.sizeOf373
 v70:=Tryz.zeroValue373
 t72:=Tryz.underlying376
 a72:=Tryz.isAgg376
 z72:=Tryz.sizeOf376
 v72:=Tryz.zeroValue376
 t75:=Tryz.underlying379
 a75:=Tryz.isAgg379
 z75:=Tryz.sizeOf379
 v75:=Tryz.zeroValue379
 t76:=Tryz.underlying380
 a76:=Tryz.isAgg380
 z76:=Tryz.sizeOf380
 v76:=Tryz.zeroValue380
 t127:=Tryz.underlying409
 a127:=Tryz.isAgg409
 z127:=Tryz.sizeOf409
 v127:=Tryz.zeroValue409
 t164:=Tryz.underlying417
 a164:=Tryz.isAgg417
 z164:=Tryz.sizeOf417
 v164:=Tryz.zeroValue417}
end
end Go.Proofs
namespace Go.HL
section

end
section
variable {P:Program}
section
variable {e:Env} {dst:Option Tmp} {ty:TypeId} {pos:String} {af:Array Edge} {g:Option (Nat×Bool)} {M:List MObj} {K:HVal->List MObj->Prop}
end
end
section
open Go.Proofs Go.Shelf
variable {P:Program}
section
variable {e:Env} {dst:Option Tmp} {ty:TypeId} {pos:String} {af:Array Edge} {g:Option (Nat×Bool)} {M:List MObj} {K:HVal->List MObj->Prop}
end
end
section
open Go.Proofs Go.Shelf Go.RowKit
variable {P:Program}
theorem VL.two {I:Imm} {c d:HVal} {vs:List Value} (h:VL I [c,d] vs): ∃u v,vs=[u,v]/\V I c u/\V I d v:=by
 match vs,h with
 |[u,v],h=>exact ⟨u,v,rfl,h.head,h.tail.head⟩
 |[],h=>have:=h.1;simp at this
 |[_],h=>have:=h.1;simp at this
 |_::_::_::_,h=>have:=h.1;simp at this
theorem zuw [Tracks] {ρ:Ren} (hT:Tracks.on=false) (L:Lays.n156 P ρ) (X:Builder.Extra P ρ) {l:List Str} {c:UInt8} (hl:(jn c l).length<=1000000000) (hn:l.length<=1000000000):ConP P (ρ.f 156) [.slice 1 (l.map .str),.str [c]] (.str (jn c l)):=by
 intro I F w args ha hs0
 obtain ⟨u,v,rfl,hu,hv⟩:=ha.two;obtain rfl:=hv.str_inv
 rcases hu.slice_inv with ⟨h0,a,cap,rfl⟩|⟨b,off,cap,rc,el,fr,rfl,h3,h4,h5,h6,h7⟩
 have:l=[]:=by simpa using h0
 subst this;refine (Any.strings_Join_none L X a cap ⟨[c].toArray⟩ w).mono ?_;rintro _ w' ⟨rfl,rfl⟩;exact ⟨_,_,[],I,rfl,.refl I,⟨rfl,rfl⟩,.str [],hs0⟩;have hb:=hs0.imm _ _ h3
 let xs:List ByteArray:=l.map fun s=>⟨s.toArray⟩
 have hx:xs.map (·.data.toList)=l:=by simp [xs,AX,Function.comp_def]
 have hxl:xs.length=l.length:=by simp [xs]
 have hlt:b<w.heap.size:=by
  rcases Az b w.heap.size with h'|h'
  exact h'
  simp [Ak h'] at hb
 have hsz:(l.map HVal.str).length=xs.length:=by simp [xs]
 rw [hsz] at h5 h6⊢;refine (Any.strings_Join L X b off cap xs ⟨[c].toArray⟩ w (fun j x hj=> ?_) hlt (by omega) h5 (by rw [hx];show (Lib.join l [c]).length<=_;rw [zpb];omega)).mono ?_;have hq:l[j]? =some x.data.toList:=by rw [<-hx,Ag,hj];rfl
 have hj':=zl hj;have hr:off+j<rc.size:=by omega
 have h8:=h7 j 0 (.str x.data.toList) (.str x.data.toList) rc[off+j] (by rw [Ag,hq];rfl) rfl (by rw [Nat.mul_one,Bz];exact Aj hr);rw [zbF hb,Aj hr,h8.str_inv];rintro _ w' ⟨rfl,hbw⟩;refine ⟨_,_,[],I,rfl,.refl I,⟨rfl,rfl⟩,?_,?_⟩
 rw [hx,show ((⟨[c].toArray⟩:ByteArray).data.toList:Str)=[c] from rfl,zpb];exact .str _;obtain ⟨h1,h2⟩:=hs0.lt;exact hs0.of_same (fun k hk=>hbw.block k (h1 k hk)) (fun k hk=>hbw.block k (h2 k hk)) hbw.os hbw.output hbw.tape (fun h=>by rw [hT] at h;cases h)
end
end Go.HL
namespace Go.Proofs.YtahegdhbakjdoaaGreatDoor
set_option maxRecDepth 100000
set_option linter.unusedVariables false
set_option linter.unusedSimpArgs false
section
open Go.Proofs.Tryz
open Go.HL
theorem zhe [Tracks] (hT:Tracks.on=false) {s:Str} (hs:s.length<=1000000):ConP prog 263 [.str s] (.bool (Lib.validD s)):=
 zuv hT zq5 (by kernel_rfl) (by kernel_rfl) hs
theorem zls [Tracks] {s t:Str} (hs:s.length<4294967281):ConP prog 317 [.str s,.str t] (.bool (Lib.contains s t)):=
 zqy zq2 (by kernel_rfl) hs
theorem zxC [Tracks] (w:World):PredAt prog 266 #[] encR (fun r=>decide ((r:Int)=32)) w:=fun W r _=>by
 unfold FnGives
 go_enter func266,ntmps266
 go_wp2
 go_ret
 exact ⟨rfl,0,rfl⟩
theorem zj7 [Tracks] (hT:Tracks.on=false) {s:Str} (hs:s.length<=1000000) {l:List Str} (hl:l.length<=1000000) (hf:Lib.goFieldsP (fun r=>decide ((r:Int)=32)) ⟨s.toArray⟩=l.map fun x=>⟨x.toArray⟩):ConP prog 265 [.str s,.fn (.func 266) [] []] (.slice 1 (l.map .str)):=
 zsh hT zq7 _ (enters_of func266 (by kernel_rfl) rfl) _ hs zxC (by kernel_rfl) (by kernel_rfl) hl hf
theorem zo2 [Tracks] (hT:Tracks.on=false) {l:List Str} {c:UInt8} (hl:(jn c l).length<=1000000000) (hn:l.length<=1000000000):ConP prog 264 [.slice 1 (l.map .str),.str [c]] (.str (jn c l)):=
 zuw hT zq3 {t5:=underlying5,a5:=fun w=>by kernel_rfl,z5:=fun w=>by kernel_rfl,v5:=fun w=>by kernel_rfl,infoByte:=by kernel_rfl,cellsByte:=by kernel_rfl,sizeByte:=by kernel_rfl,neB5:=by decide,sizeBuilder:=by kernel_rfl,liesBuilder:=by kernel_rfl} hl hn
theorem zjN [Tracks] {s:Str} {c:UInt8} (hl:s.length<=1000000):ConP prog 270 [.str s,.int .u8 c.toNat] (.str (s.dropWhile (· ==c))):=by
 refine uOb func270 ntmps270 ?_;refine gz5 ?_;refine uU1 [0,1,5,11] (fun (t:Str)=>[(0,.str t)]) (fun (t:Str)=>[]) (fun (t:Str)=>t.length<=s.length/\s.dropWhile (· ==c)=t.dropWhile (· ==c)) (fun (t:Str)=>t.length) (s) ?_ ?_;exact ⟨Ae _,rfl⟩;rintro t ⟨ht,hg⟩;refine gz7 ?_;refine dg rfl rfl (fun hc=>by
  have hc0:t≠[]:=by (rintro rfl;simp at hc)
  exact ⟨_,OpenTo.upd (t:=9) rfl (hc) (OpenTo.refl _),zaG (j:=0) (b:=t.headD 0) ty9 rfl rfl rfl (hd0 hc0)⟩) ?_
 refine gz4 ?_;refine uCo (fun h1=> ?_) fun h2=> ?_
 obtain ⟨x,u,rfl⟩: ∃x u,t=x::u:=by cases t with|nil=>simp at h1|cons x u=>exact ⟨x,u,rfl⟩
 have hlen:(x::u).length=u.length+1:=rfl;refine gz5 ?_;refine dq (zgm (l:=1) ty9 rfl ⟨_,_,rfl,rfl⟩ rfl uO uO) ?_;refine gz3 ?_;refine ⟨_,?_,?_,⟨rfl,trivial⟩,uK,Ab _⟩
 refine ⟨by simp at ht⊢;omega,?_⟩
 rw [hg];simp_all [A3,zqY]
 dsimp only;simp
 refine gz2 ?_;refine zt ?_;refine gz7 ?_;refine zw rfl ?_
 show HVal.str _=_
 rw [hg]
 cases t with
 |nil=>rfl
 |cons x u=>simp_all [A3,zqY]
theorem zi4 [Tracks] {s:Str} {c:UInt8} (hl:s.length<=1000000):ConP prog 271 [.str s,.int .u8 c.toNat] (.str (zcO (· ==c) s)):=by
 refine uOb func271 ntmps271 ?_;refine gz5 ?_;refine uU1 [0,1,5,17] (fun (t:Str)=>[(0,.str t)]) (fun (t:Str)=>[]) (fun (t:Str)=>t.length<=s.length/\zcO (· ==c) s=zcO (· ==c) t) (fun (t:Str)=>t.length) (s) ?_ ?_;exact ⟨Ae _,rfl⟩;rintro t ⟨ht,hg⟩;refine zan ?_;refine dg rfl rfl (fun hc=>by
  have hc0:0<t.length:=by (simp at hc;omega)
  exact ⟨_,OpenTo.upd (t:=12) rfl (hc) (OpenTo.upd (t:=9) rfl (hc) (OpenTo.refl _)),zaG (j:=t.length-1) (b:=t.getD (t.length-1) 0) ty9 rfl rfl uO (getD_some uO)⟩) ?_
 refine gz4 ?_;refine uCo (fun h1=> ?_) fun h2=> ?_
 obtain ⟨u,x,rfl⟩: ∃u x,t=u++[x]:=⟨_,_,(Bj (by intro h0;subst h0;simp at h1)).symm⟩
 have hlen:(u++[x]).length=u.length+1:=by simp
 refine gz8 ?_;refine dq (zgm (l:=0) (h:=u.length) ty9 rfl rfl ⟨_,_,rfl,by omega⟩ uO uO) ?_;refine gz3 ?_;refine ⟨_,?_,?_,⟨rfl,trivial⟩,uK,Ab _⟩
 refine ⟨by simp at ht⊢;omega,?_⟩
 rw [hg,zfe,if_pos (by simp_all [zqY])];simp
 dsimp only;simp
 refine gz2 ?_;refine zt ?_;refine gz7 ?_;refine zw rfl ?_
 show HVal.str _=_
 rw [hg]
 rcases List.eq_nil_or_concat t with rfl|⟨u,x,rfl⟩
 rfl
 rw [List.concat_eq_append] at*;rw [zfe,if_neg (by simp_all [zqY])]
theorem znZ [Tracks] {s:Str} {c:UInt8} (hs:s.length<=1000000) (hc7:c.toNat<128):ConP prog 216 [.str s,.str [c]] (.str ((zcO (· ==c) s).dropWhile (· ==c))):=by
 refine uOb func216 ntmps216 ?_;refine zdC ?_;refine uCo (fun h1=> ?_) fun h2=> ?_
 refine gz5 ?_;refine zw rfl ?_
 show HVal.str _=_
 (simp_all [zcO])
 refine gz9 ?_;refine uGr rfl (fun hc=>zaG (j:=0) (b:=c) ty9 rfl rfl rfl rfl) ?_;refine gz3 ?_;refine zaB rfl (fun h3=> ?_) (fun h3=> ?_)
 try simp at h3
 refine uDr mixed ?_;refine gz2 ?_;refine uB 2 rfl (zaG (j:=0) (b:=c) ty9 rfl rfl rfl rfl) ?_;refine uB 3 rfl (uCl zAo rfl (zi4 (c:=c) hs)) ?_;refine gz1 ?_;refine uB 5 rfl (zaG (j:=0) (b:=c) ty9 rfl rfl rfl rfl) ?_;refine uB 6 rfl (uCl zAn rfl (zjN (c:=c) (Ay (zp5 _ _) hs))) ?_;refine gz3 ?_;refine zw rfl ?_
 show HVal.str _=_
 rfl
 exfalso
 try simp at h3
 omega
theorem zrf [Tracks] {s:Str} (hT:Tracks.on=false) (hs:s∈zb5):ConP prog 278 [.str s] (.bool true):=by
 have hsl:=zon hs;have hv:=zm9 hs;have ht6:=ztQ hs;have hc6:=ztP hs;refine uOb func278 ntmps278 ?_;refine zan ?_;refine uT1 [2,2,6,14] (fun k=>[(6,.int .i64 (k:Int))]) (fun k=>[]) (fun k=>k<=s.length) (fun k=>s.length-k) (0) ?_ ?_;exact Ad _
 intro k hk
 refine gz4 ?_;refine uCo (fun h1=> ?_) fun h2=> ?_
 obtain ⟨x,hx⟩: ∃x,s[k]? =some x:=⟨_,Aa uO⟩
 obtain ⟨hx1,hx2⟩:=zom hs (Ac hx);refine zcC ?_;refine dq (zaG (j:=k) (b:=x) ty9 rfl rfl rfl hx) ?_;refine gz4 ?_;refine uGr rfl (fun hc=>zaG (j:=k) (b:=x) ty9 rfl rfl rfl hx) ?_;refine gz3 ?_;refine zaB rfl (fun h3=> ?_) (fun h3=> ?_)
 exfalso
 try simp at h3
 omega
 try simp at h3
 refine gz7 ?_;refine ⟨k+1,?_,?_,⟨rfl,trivial⟩,uK,Ab _⟩
 omega
 dsimp only;omega
 refine gz2 ?_;refine zt ?_;refine gz4 ?_;refine dq (uCl zwZ rfl (zhe hT uO)) ?_;refine gz2 ?_;refine uGr rfl (fun hc=>by have hq:=hc;(try simp at hq);exact uCl zwS rfl (znZ (s:=s) (c:=32) uO (by decide))) ?_;refine gz5 ?_;refine uGr rfl (fun hc=>by have hq:=hc;(try simp at hq);exact uCl zAB rfl (zls (s:=s) (t:=[32,32]) uO)) ?_;refine gz5 ?_;refine zw rfl ?_
 show HVal.bool _=_
 simp_all
theorem zmT [Tracks] {s:Str} (hT:Tracks.on=false) (hs:s∈zb5):ConP prog 204 [.str s] (.bool true):=by
 have hsl:=zon hs;have hv:=zm9 hs;obtain ⟨hf1,hf2,hf3⟩:=zrJ hs;refine uOb func204 ntmps204 ?_;refine gz6 ?_;refine dq (uCl zwZ rfl (zhe hT uO)) ?_;refine gz4 ?_;refine uGr rfl (fun hc=>by have hq:=hc;(try simp at hq);exact uCl zAk rfl (zj7 hT (s:=s) uO (l:=spl 32 s) uO hf2)) ?_;refine uGr rfl (fun hc=>by have hq:=hc;(try simp at hq);exact uCl zAj rfl (zo2 hT (l:=spl 32 s) (c:=32) (by rw [hf3];omega) uO)) ?_;refine gz3 ?_;refine zaB rfl (fun h1=> ?_) (fun h1=> ?_)
 exfalso
 try simp at h1
 (clear hf1 hf2 hs;simp_all)
 try simp at h1
 refine gz3 ?_
 clear hf1 hf2 hf3
 try clear h1
 try clear h2
 refine gz6 ?_;refine uT1 [2,2,16,14] (fun k=>[(16,.int .i64 (k:Int))]) (fun k=>[]) (fun k=>k<=s.length) (fun k=>s.length-k) (0) ?_ ?_;exact Ad _
 intro k hk
 refine gz4 ?_;refine uCo (fun h2=> ?_) fun h3=> ?_
 obtain ⟨x,hx⟩: ∃x,s[k]? =some x:=⟨_,Aa uO⟩
 obtain ⟨hx1,hx2⟩:=zom hs (Ac hx);refine zcC ?_;refine dq (zaG (j:=k) (b:=x) ty9 rfl rfl rfl hx) ?_;refine gz4 ?_;refine uGr rfl (fun hc=>zaG (j:=k) (b:=x) ty9 rfl rfl rfl hx) ?_;refine gz3 ?_;refine zaB rfl (fun h4=> ?_) (fun h4=> ?_)
 exfalso
 try simp at h4
 omega
 try simp at h4
 refine gz7 ?_;refine ⟨k+1,?_,?_,⟨rfl,trivial⟩,uK,Ab _⟩
 omega
 dsimp only;omega
 refine gz2 ?_;refine zt ?_;refine gz6 ?_;refine zw rfl ?_
 show HVal.bool _=_
 rfl
end
end Go.Proofs.YtahegdhbakjdoaaGreatDoor
namespace Go.HL
section

end
section
structure Hall where
 Teams:List Str
 Players:List Str
 Budget:Int
 Places:Int
structure Sale where
 Player:Str
 Team:Str
 Price:Int
def zk5:List Sale->Str->Int
 |[],_=>0
 |x::r,t=>(if x.Team=t then x.Price else 0)+zk5 r t
def zgj:List Sale->Str->Int
 |[],_=>0
 |x::r,t=>(if x.Team=t then 1 else 0)+zgj r t
theorem ztY (l:List Sale) (x:Sale) (t:Str):zk5 (l++[x]) t=zk5 l t+(if x.Team=t then x.Price else 0):=by
 induction l with
 |nil=>simp [zk5]
 |cons y r ih=>simp only [AY,zk5,ih];omega
theorem zuT (l:List Sale) (x:Sale) (t:Str):zgj (l++[x]) t=zgj l t+(if x.Team=t then 1 else 0):=by
 induction l with
 |nil=>simp [zgj]
 |cons y r ih=>simp only [AY,zgj,ih];omega
abbrev zf1:=List (Str×HVal)
def lkI (L:zf1) (t:Str):HVal:=match zS t L with|some p=>p.2|none=> .int .i64 0
theorem zhI {s t:Str} {v:HVal}: ∀{L:zf1},zS s L=none->zS t (L++[(s,v)])=if t=s then some (L.length,v) else zS t L
 |[],_=>by by_cases h:t=s<;>simp [zS,h]
 |(k,h)::r,hn=>by
   simp only [zS] at hn
   by_cases hk:s=k
   rw [if_pos hk] at hn;cases hn;rw [if_neg hk] at hn;have hr:zS s r=none:=by cases hq:zS s r with
    |none=>rfl
    |some p=>rw [hq] at hn;cases hn
   have ih:=zhI (t:=t) (v:=v) hr;simp only [AY,zS]
   by_cases ht:t=k
   have: ¬t=s:=fun e=>hk (e▸ht)
   rw [if_pos ht,if_neg this,if_pos ht];rw [if_neg ht,ih]
   by_cases hs:t=s
   rw [if_pos hs,if_pos hs];simp;rw [if_neg hs,if_neg hs,if_neg ht]
theorem zqa {s t:Str} {v:HVal}: ∀{L:zf1} {j:Nat} {h:HVal},zS s L=some (j,h)->(zS t (L.set j (s,v)))=if t=s then some (j,v) else zS t L
 |[],j,h,hh=>by simp [zS] at hh
 |(k,x)::r,j,h,hh=>by
   simp only [zS] at hh
   by_cases hk:s=k
   rw [if_pos hk] at hh;simp only [As,Prod.mk.injEq] at hh;obtain ⟨rfl,rfl⟩:=hh;subst hk;simp only [List.set_cons_zero,zS]
   by_cases ht:t=s
   rw [if_pos ht,if_pos ht];rw [if_neg ht,if_neg ht,if_neg ht];rw [if_neg hk] at hh
   cases hq:zS s r with
   |none=>rw [hq] at hh;cases hh
   |some p=>
     rw [hq] at hh;simp only [AH,As,Prod.mk.injEq] at hh;obtain ⟨rfl,rfl⟩:=hh;have ih:=zqa (t:=t) (v:=v) (L:=r) (j:=p.1) (h:=p.2) (by rw [hq]);simp only [BX,zS]
     by_cases ht:t=k
     have: ¬t=s:=fun e=>hk (e▸ht)
     rw [if_pos ht,if_neg this,if_pos ht];rw [if_neg ht,ih,if_neg ht]
     by_cases hs:t=s
     rw [if_pos hs,if_pos hs];rfl;rw [if_neg hs,if_neg hs]
theorem zp9 (s t:Str) (v:HVal) (L:zf1):(zS t (sput s v L)).map (·.2)=if t=s then some v else (zS t L).map (·.2):=by
 unfold sput
 cases hq:zS s L with
 |none=>simp only [];rw [zhI hq];split<;>rfl
 |some p=>obtain ⟨j,h⟩:=p;simp only [];rw [zqa hq];split<;>rfl
theorem zuS (L:zf1) (t:Str):lkI L t=((zS t L).map (·.2)).getD (.int .i64 0):=by
 unfold lkI;cases zS t L<;>rfl
theorem zsQ (s t:Str) (v:HVal) (L:zf1):lkI (sput s v L) t=if t=s then v else lkI L t:=by
 rw [zuS,zp9,zuS];split<;>rfl
structure AucOk (h:Hall) (l:List Sale) (S:List Str) (L H:zf1):Prop where
 sold: ∀s,S.contains s=l.any (fun y=>y.Player==s)
 left: ∀t,h.Teams.contains t=true->lkI L t= .int .i64 (h.Budget-zk5 l t)
 got: ∀t,lkI H t= .int .i64 (zgj l t)
theorem zlm (s t:Str) (l:List Str):(zcj s l).contains t=(l.contains t||s==t):=by
 unfold zcj
 by_cases hc:l.contains s=true
 rw [if_pos hc]
 by_cases h:s=t
 subst h;rw [hc];simp;have:(s==t)=false:=by simpa using h
 simp [this]
 rw [if_neg hc,List.contains_eq_any_beq,List.any_append,<-List.contains_eq_any_beq]
 congr 1
 simp only [Br,List.any_nil,Bc];rw [AL,beq_iff_eq,beq_iff_eq];exact eq_comm
theorem AucOk.add {h:Hall} {l:List Sale} {S:List Str} {L H:zf1} (ok:AucOk h l S L H) (x:Sale) (hx:h.Teams.contains x.Team=true):
 AucOk h (l++[x]) (zcj x.Player S) (sput x.Team (.int .i64 (h.Budget-zk5 l x.Team-x.Price)) L) (sput x.Team (.int .i64 (zgj l x.Team+1)) H) where
 sold s:=by rw [zlm,ok.sold,List.any_append];simp
 left t ht:=by
  rw [zsQ,ztY]
  by_cases e:t=x.Team
  subst e;rw [if_pos rfl,if_pos rfl];congr 1;omega;rw [if_neg e,if_neg (fun q=>e q.symm),ok.left t ht];congr 1;omega
 got t:=by
  rw [zsQ,zuT]
  by_cases e:t=x.Team
  subst e;rw [if_pos rfl,if_pos rfl];rw [if_neg e,if_neg (fun q=>e q.symm),ok.got t];congr 1;omega
end
section
/-! numbers in decimal-/
def dig (c:UInt8):Bool:=decide (48<=c.toNat)&&decide (c.toNat<=57)
def zgI (s:Str):Str:=match s with|45::r=>r|_=>s
def numC (s:Str) (n:Int):Bool:=decide ((zgI s=[]\/n<((zgI s).length:Int))\/((((zgI s).head?).getD 0).toNat:Int)=48/\((1:Int)<((zgI s).length:Int)\/(zgI s).length<s.length))
def numB (s:Str) (n:Int):Bool:= !(numC s n)&&(zgI s).all dig
def numV (s:Str):Int:=(Lib.atoi s).getD 0
def numR (s:Str) (n:Int):Int:=if numB s n then numV s else 0
def LimOk (l:List PairS) (L:zf1):Prop:= ∀t,(zS t L).map (·.2)=(l.find? (fun p=>p.Name==t)).map (fun p=> .int .i64 (numR p.Val 9))
theorem LimOk.add {l:List PairS} {L:zf1} (ok:LimOk l L) (x:PairS) (hx:l.any (fun y=>y.Name==x.Name)=false):LimOk (l++[x]) (sput x.Name (.int .i64 (numR x.Val 9)) L):=fun t=>by
 rw [zp9,List.find?_append,ok t]
 by_cases e:t=x.Name
 subst e;rw [if_pos rfl];have:l.find? (fun p=>p.Name==x.Name)=none:=by
  rw [List.find?_eq_none];intro y hy;have:=List.any_eq_false.1 hx y hy
  simpa using this
 rw [this];simp;rw [if_neg e];have hn:(x.Name==t)=false:=by simpa using fun q=>e q.symm
 cases l.find? (fun p=>p.Name==t) with
 |none=>simp [List.find?,hn]
 |some p=>simp
structure Top where
 team:Str
 first:Int
 second:Int
def Top.step (q:Top) (t:Str) (n:Int):Top:=if q.first<n then ⟨t,n,q.first⟩ else ⟨q.team,q.first,max q.second n⟩
end
section
section
variable {h:Hall} {l:List Sale} {x:Sale} (h6:x.Player∈h.Players/\x.Team∈h.Teams) (h8: ∀y∈l,¬y.Player=x.Player)
include h6 h8
end
end
section

end
section
theorem Ghost.clear [Tracks] {e:Env}: ∀{M:List MObj},Ghost e M e []
 |[]=>Ghost.perm (Ab _)
 |_::_=>Ghost.trans Ghost.drop Ghost.clear
theorem znH [Tracks] {e:Env} {m:MObj}: ∀{R:List MObj},Ghost e (R++[m]) e [m]
 |[]=>Ghost.perm (Ab _)
 |x::R=>Ghost.trans (M':=R++[m]) Ghost.drop znH
theorem Ghost.only [Tracks] {e:Env} {M:List MObj} {i:Nat} {m:MObj} (h:M[i]? =some m):Ghost e M e [m]:=
 Ghost.trans (Ghost.perm ((zh1 h).trans (List.perm_append_comm (l₁:=[m]) (l₂:=M.eraseIdx i)))) znH
end
section
theorem zlw [Tracks] {e:Env} {M:List MObj}: ∀{R:List MObj},Ghost e (R++M) e M
 |[]=>Ghost.perm (Ab _)
 |x::R=>Ghost.trans (M':=R++M) Ghost.drop zlw
section
variable {P:Program} {e:Env} {dst:Option Tmp} {ty:TypeId} {pos:String} {af:Array Edge} {g:Option (Nat×Bool)} {M:List MObj} {K:HVal->List MObj->Prop}
end
end
end Go.HL
namespace Go.Proofs.YtahegdhbakjdoaaGreatDoor
set_option maxRecDepth 100000
set_option linter.unusedVariables false
set_option linter.unusedSimpArgs false
section
open Go.Proofs.Tryz
open Go.HL
theorem zqQ [Tracks]:KeyOk prog 243 zgJ:=zgg (cs:=fun x:Num=>zb (zgJ x)) zk7 zAG (fun x y=>⟨rfl,⟨_,_,_,_,ty9,rfl⟩,⟨rfl,⟨_,_,_,_,ty3,rfl⟩,trivial⟩⟩)
 (fun x y=>by obtain ⟨a,b⟩:=x;obtain ⟨c,d⟩:=y;show (_&&(_&&true))=_;rw [AL];simp [eqH,Prod.mk.injEq]) (fun x=>rfl)
theorem ztS [Tracks]:KeyOk prog 245 eOf:=zgg (cs:=fun x:Of2=>zb (eOf x)) zoK zAH (fun x y=>⟨rfl,⟨_,_,_,_,ty9,rfl⟩,⟨rfl,⟨_,_,_,_,ty9,rfl⟩,trivial⟩⟩)
 (fun x y=>by obtain ⟨a,b⟩:=x;obtain ⟨c,d⟩:=y;show (_&&(_&&true))=_;rw [AL];simp [eqH,Prod.mk.injEq]) (fun x=>rfl)
theorem zcl [Tracks] {n:Int}:ConP prog 74 [.int .i64 n] (.bool (zbd n)):=by
 refine uOb func74 ntmps74 ?_;refine gz5 ?_;refine dq (uCl zbu rfl zac) ?_;refine gz4 ?_;refine zw rfl ?_
 rfl
theorem znp [Tracks] {p:Play}:ConP prog 159 [zai p] (.int .i64 (playFault p)):=by
 refine uOb func159 ntmps159 ?_;refine gz9 ?_;refine dq (uCl zcp rfl zah) ?_;refine gz3 ?_;refine uCo (fun h1=> ?_) fun h2=> ?_
 refine gz4 ?_;refine uRp ?_
 simp_all [playFault]
 refine gz3 ?_;refine dq (uCl zbu rfl zac) ?_;refine gz3 ?_;refine uGr rfl (fun hc=>uCl zhx rfl zaZ) ?_;refine gz5 ?_;refine uGr rfl (fun hc=>uCl zkI rfl zcl) ?_;refine gz4 ?_;refine uCo (fun h3=> ?_) fun h4=> ?_
 refine gz4 ?_;refine uRp ?_
 simp_all [playFault]
 refine gz3 ?_;refine dq (uCl zcp rfl zah) ?_;refine gz4 ?_;refine uGr rfl (fun hc=>uCl zcp rfl zah) ?_;refine gz5 ?_;refine uGr rfl (fun hc=>uCl zcp rfl zah) ?_;refine gz4 ?_;refine uCo (fun h5=> ?_) fun h6=> ?_
 refine gz4 ?_;refine uRp ?_
 simp_all [playFault]
 refine gz3 ?_;refine dq (uCl zbu rfl zac) ?_;refine gz5 ?_;have hN:=zeu (n:=p.No) (lo:=1) (hi:=3000) uSa;refine gz1 ?_;refine uGr rfl (fun hc=>uCl zbu rfl zac) ?_;refine gz3 ?_;refine uCo (fun h7=> ?_) fun h8=> ?_
 refine gz4 ?_;refine uRp ?_
 simp_all [playFault]
 refine zcC ?_;refine uCo (fun h9=> ?_) fun h10=> ?_
 refine gz4 ?_;refine uRp ?_
 simp_all [playFault]
 refine gz7 ?_;refine uRp ?_
 simp_all [playFault]
theorem zsd [Tracks] {a b:Play}:ConP prog 160 [zai a,zai b] (.int .i64 (byNo a b)):=by
 refine uOb func160 ntmps160 ?_;refine gz5 ?_;refine uDr mixed ?_;refine gz4 ?_;refine uB 4 rfl (uCl zbV rfl zJ) ?_;refine gz4 ?_;refine uB 9 rfl (uCl zcw rfl zP) ?_;refine uB 10 rfl (za (hs:=[_,_]) z6 ty3 rfl rfl (by decide) (by decide) rfl) ?_;refine uB 11 rfl (uCl ze6 rfl (za0 (l:=[_,_]) (by simp))) ?_;refine gz3 ?_;refine zw rfl ?_
 rfl
theorem zhG [Tracks] {l:List Play} (hl:l.length<=1000000):ConP prog 82 [zbC l] (.int .i64 (zb7 l)):=by
 refine uOb func82 ntmps82 ?_;refine gz9 ?_;refine uCo (fun h1=> ?_) fun h2=> ?_
 refine gz4 ?_;refine zae Ghost.clear rfl ⟨?_,rfl⟩
 show HVal.int .i64 _=_
 (rw [zb7,if_pos uO])
 refine gz3 ?_;refine de rfl (zaM fun m14=> ?_)
 refine de rfl (zaM fun m15=> ?_)
 refine zeN ?_;refine uT1 [2,1,5,6,18,45] (fun k=>[(18,.int .i64 k),(5,.bool (za4 (l.take k)).c)]) (fun k=>[.map m15 (sk (em (.int .i64) (za4 (l.take k)).W)),.map m14 (sk (zbj (za4 (l.take k)).S))]) (fun k=>k<=l.length/\(zbz l 0 l=zbz l k (l.drop k))) (fun k=>l.length-k) (0) ?_ ?_;exact ⟨Ad _,rfl⟩;rintro k ⟨hk,hg⟩;refine gz4 ?_;refine uCo (fun h3=> ?_) fun h4=> ?_
 obtain ⟨x,hx⟩: ∃x,l[k]? =some x:=⟨_,Aa h3⟩
 have hdx:=zg hx;rw [hdx] at hg;refine gz8 ?_;refine de rfl (zj zbs rfl fun b7=> ?_)
 refine gz1 ?_;refine de0 (zo zbs rfl rfl rfl rfl rfl ?_)
 refine gz1 ?_;refine zf (zp 7 rfl) ?_;refine gz3 ?_;refine dq (uCl zzo rfl znp) ?_;refine gz6 ?_;refine uCo (fun h5=> ?_) fun h6=> ?_
 refine gz5 ?_;refine zae Ghost.clear rfl ⟨?_,rfl⟩
 show HVal.int .i64 _=_
 (rw [zjp uO (by rw [hg,zbz,if_pos (by simpa using h5)]) (by simpa using h5)])
 refine gz3 ?_;refine uDr mixed ?_;refine gz7 ?_;refine uGy 7 rfl rfl (fun hc=>by have hq:=hc;(try simp at hq);exact zD (j:=k-1) (a:=l.getD (k-1) zkX) zhE zbs rfl rfl uO (getD_some uO)) ?_;refine gz1 ?_;refine uGy 9 rfl rfl (fun hc=>uCl zzp rfl zsd) ?_;refine gz3 ?_;refine uCo (fun h7=> ?_) fun h8=> ?_
 refine gz4 ?_;refine zae Ghost.clear rfl ⟨?_,rfl⟩
 show HVal.int .i64 _=_
 (rw [zjp (c:=7) uO (by rw [hg,zbz,if_neg (by simpa using h6),if_pos (by obtain ⟨qa,qb⟩:=h7;exact ⟨by omega,by simpa using qb⟩)]) (by decide)])
 refine gz6 ?_;refine de0 (zgK (i:=1) zoJ ty9 rfl rfl rfl rfl ?_)
 refine gz6 ?_;refine de rfl (ziG (i:=0) (z0:=(0:Int)) zdO ty9 ty3 rfl rfl rfl rfl ?_)
 refine ziK ?_;refine uCo (fun h9=> ?_) fun h10=> ?_
 refine zan ?_;refine de0 (zcU (i:=0) zdO ty9 rfl rfl rfl rfl ?_)
 refine gz7 ?_;refine ⟨k+1,⟨by omega,?_⟩,uD,⟨rfl,?_,trivial⟩,uK,?_⟩
 rw [hg,zkY (by simpa using h6) (fun hk0=>by simp_all)];rw [zd5 hx];exact congrArg (fun b=>some (HVal.bool b)) (by simp_all [zgH]);exact zu (by dsimp only;rw [zd5 hx];rfl);refine gz8 ?_;refine de0 (zcU (i:=0) zdO ty9 rfl rfl rfl rfl ?_)
 refine gz7 ?_;refine ⟨k+1,⟨by omega,?_⟩,uD,⟨rfl,?_,trivial⟩,uK,?_⟩
 rw [hg,zkY (by simpa using h6) (fun hk0=>by simp_all)];rw [zd5 hx];exact congrArg (fun b=>some (HVal.bool b)) (by simp_all [zgH]);exact zu (by dsimp only;rw [zd5 hx];rfl);have hnk:l.length<=k:=by omega
 obtain rfl:k=l.length:=by omega
 rw [zH (Ae _)] at hg;rw [An];refine gz2 ?_;refine zt ?_;refine gz4 ?_;have e1:(sk (zbj (za4 l).S)).length=(za4 l).S.length:=by simp [sk,zbj]
 have e2:(sk (em (HVal.int .i64) (za4 l).W)).length=(za4 l).W.length:=by simp [sk]
 refine gz2 ?_;refine de rfl (zhP (i:=1) zoJ rfl rfl ?_)
 refine gz3 ?_;refine dgl rfl rfl (fun hc=>⟨_,OpenTo.upd (t:=68) rfl (hc) (OpenTo.refl _),zhP (i:=0) zdO rfl rfl ⟨rfl,rfl⟩⟩) ?_;refine gz4 ?_;refine uCo (fun h11=> ?_) fun h12=> ?_
 refine gz4 ?_;refine zae Ghost.clear rfl ⟨?_,rfl⟩
 show HVal.int .i64 _=_
 (rw [zel uO hg,zd0,if_pos uO])
 refine gz4 ?_;refine uCo (fun h13=> ?_) fun h14=> ?_
 refine gz4 ?_;refine zae Ghost.clear rfl ⟨?_,rfl⟩
 show HVal.int .i64 _=_
 (rw [zel uO hg,zd0,if_neg uO,if_pos (by assumption)])
 refine gz7 ?_;refine zae Ghost.clear rfl ⟨?_,rfl⟩
 show HVal.int .i64 _=_
 (rw [zel uO hg,zd0,if_neg uO,if_neg uSa])
theorem zhH [Tracks] {l:List Str} (hl:l.length<=1000000):ConP prog 83 [eSs l] (.int .i64 (zcf l)):=by
 refine uOb func83 ntmps83 ?_;refine gz9 ?_;refine uCo (fun h1=> ?_) fun h2=> ?_
 refine gz4 ?_;refine uRp ?_
 (rw [zcf,if_pos uO])
 refine gz9 ?_;refine uT1 [2,3,10,14] (fun k=>[(10,.int .i64 k)]) (fun k=>[]) (fun k=>k<=l.length/\(zcf l=zdn l k (l.drop k))) (fun k=>l.length-k) (0) ?_ ?_;refine ⟨Ad _,?_⟩
 rw [zcf,if_neg uO];rfl;rintro k ⟨hk,hg⟩;refine gz4 ?_;refine uCo (fun h3=> ?_) fun h4=> ?_
 obtain ⟨x,hx⟩: ∃x,l[k]? =some x:=⟨_,Aa h3⟩
 have hdx:=zg hx;rw [hdx] at hg;refine zdS ?_;refine dq (uCl zcp rfl zah) ?_;refine gz2 ?_;refine uCo (fun h5=> ?_) fun h6=> ?_
 refine gz4 ?_;refine uRp ?_
 (rw [hg];simp_all [zdn])
 refine gz5 ?_;refine dq (zaL zk ty9 rfl rfl ⟨_,_,rfl,rfl⟩ uO uO) ?_;refine gz1 ?_;refine dq (uCl zeG rfl (zv uSo)) ?_;refine gz1 ?_;refine uCo (fun h7=> ?_) fun h8=> ?_
 refine gz4 ?_;refine uRp ?_
 (rw [hg];simp_all [zdn])
 refine gz7 ?_;refine ⟨k+1,?_,?_,⟨rfl,trivial⟩,uK,Ab _⟩
 refine ⟨by omega,?_⟩
 rw [hg];simp_all [zdn]
 dsimp only;omega
 have hnk:l.length<=k:=by omega
 obtain rfl:k=l.length:=by omega
 rw [zH (Ae _)] at hg;refine gz2 ?_;refine zt ?_;refine gz6 ?_;refine uRp ?_
 (rw [hg];simp_all [zdn])
theorem zse [Tracks] {l:List Play} {trust:List Str} {n:Int} (hl:l.length<=1000000) (ht:trust.length<=1000000):Con prog 161 [zbC l,eSs trust,.int .i64 n] [] (fun x M'=> ∃b O,x= .raw (.map (some b))/\ANodup O/\(∀m,alk m O=zmQ l trust n m)/\M'=[.map b (sk (em .str O))]):=by
 refine uOb func161 ntmps161 ?_;refine gz4 ?_;refine de rfl (zaM fun m16=> ?_)
 refine gz9 ?_;refine uT1 [9,4,19,35] (fun k=>[(19,.int .i64 k)]) (fun k=>[.map m16 (sk (em (.int .i64) (zeq (l.take k) trust n)))]) (fun k=>k<=l.length/\(True)) (fun k=>l.length-k) (0) ?_ ?_;exact ⟨Ad _,trivial⟩;rintro k ⟨hk,-⟩;refine gz4 ?_;refine uCo (fun h1=> ?_) fun h2=> ?_
 obtain ⟨x,hx⟩: ∃x,l[k]? =some x:=⟨_,Aa h1⟩
 have hdx:=zg hx;refine gz7 ?_;refine de rfl (zj zbs rfl fun b9=> ?_)
 refine de0 (zo zbs rfl rfl rfl rfl rfl ?_)
 refine gz1 ?_;refine zf (zp 9 rfl) ?_;refine gz4 ?_;refine dq (uCl ca32 rfl (zdQ uO)) ?_;refine zeN ?_;refine uCo (fun h3=> ?_) fun h4=> ?_
 refine gz8 ?_;exact ⟨k+1,⟨by omega,trivial⟩,uD,⟨rfl,trivial⟩,uK,zu (by dsimp only;rw [zkp hx,zdy,if_pos (by simpa using h3)];try rfl)⟩;refine gz6 ?_;refine de rfl (ziG (i:=0) (z0:=(0:Int)) zdO ty9 ty3 rfl rfl rfl rfl ?_)
 refine ziK ?_;refine uCo (fun h5=> ?_) fun h6=> ?_
 refine gz5 ?_;refine de0 (zcU (i:=0) zdO ty9 rfl rfl rfl rfl ?_)
 refine gz7 ?_;exact ⟨k+1,⟨by omega,trivial⟩,uD,⟨rfl,trivial⟩,uK,zu (by dsimp only;rw [zkp hx,zdy,if_neg (by simp_all;try omega),if_pos (by simpa using h5)];try rfl)⟩;refine gz7 ?_;exact ⟨k+1,⟨by omega,trivial⟩,uD,⟨rfl,trivial⟩,uK,zu (by dsimp only;rw [zkp hx,zdy,if_neg (by simp_all;try omega),if_neg (by simp_all;try omega)];try rfl)⟩;have hnk:l.length<=k:=by omega
 obtain rfl:k=l.length:=by omega
 refine gz2 ?_;refine zt ?_;refine gz2 ?_;rw [An];refine gz1 ?_;refine de rfl (zaM fun m54=> ?_)
 refine gz5 ?_;refine de rfl (zpE (i:=1) zdO rfl rfl fun r=> ?_)
 refine gz2 ?_;refine uU2 [14,2,57,11] (fun (vis:List Nat) (E:List (Str×Int))=>[]) (fun (vis:List Nat) (E:List (Str×Int))=>[.map m54 (sk (em .str (zoH trust E))),.iter r m16 (sk (em (.int .i64) (zeq l trust n))) vis]) (fun (vis:List Nat) (E:List (Str×Int))=>VisOk ((zeq l trust n)) vis E/\(True)) (fun (vis:List Nat) (E:List (Str×Int))=>((zeq l trust n)).length-vis.length) ([]) ([]) ?_ ?_;exact ⟨VisOk.nil _,trivial⟩;rintro vis E ⟨hvis,-⟩;refine gz1 ?_;refine de rfl (zpD (i:=1) (L:=(zeq l trust n)) (enc:=(fun p:Str×Int=>(HVal.str p.1,HVal.int .i64 p.2))) rfl rfl (zxd _ _) hvis.nd hvis.lt fun cb R vis' hnx=> ?_)
 refine gz3 ?_;refine uCo (fun h7=> ?_) fun h8=> ?_
 obtain ⟨j,q,hq,hj,rfl⟩:=hnx.t h7;have hroom:=hvis.room hq hj;have hstep:=hvis.step hq hj;have hqm:=Ac hq;refine gz4 ?_;refine de rfl (zn9 (i:=1) (L:=(zeq l trust n)) (enc:=(fun p:Str×Int=>(HVal.str p.1,HVal.int .i64 p.2))) rfl rfl (zxd _ _) hq ?_)
 refine zan ?_;obtain ⟨hq0,hq1⟩:=zs9 hqm;refine dq (zD (j:=q.2.toNat) (a:=trust.getD q.2.toNat []) zk ty9 rfl rfl uO (getD_some uO)) ?_;refine gz1 ?_;refine de0 (zcU (i:=0) (v:=trust.getD q.2.toNat []) zgr ty9 rfl rfl rfl rfl ?_)
 refine gz2 ?_;exact ⟨_,E++[q],⟨hstep,trivial⟩,by dsimp only;rw [AA];simp only [Ai,AG];omega,trivial,uK,zu (by dsimp only;rw [zvg hvis (zkq _ _ _) hq hj];rfl)⟩;obtain ⟨rfl,hlen⟩:=hnx.f h8;have hEp:=hvis.done hlen;refine gz2 ?_;refine zL ?_;refine gz2 ?_;refine zf (Ghost.only (i:=0) rfl) ?_;refine gz5 ?_;exact z7 rfl ⟨_,_,rfl,zt4 hEp,zwi hEp,rfl⟩
end
end Go.Proofs.YtahegdhbakjdoaaGreatDoor
namespace Go.HL
section
variable {P:Program}
abbrev hsm (L:zf1):HVal:= .hmap (L.map fun p=> .str p.1) (L.map (·.2))
abbrev ztI (S:List (List UInt8)):HVal:=hsm (zbj S)
theorem zyO (L:zf1):(sk L).map (·.1)=L.map fun p=>HVal.str p.1:=by simp [sk,Function.comp_def]
theorem zyP (L:zf1):(sk L).map (·.2)=L.map (·.2):=by simp [sk,Function.comp_def]
section
variable {e:Env} {dst:Option Tmp} {ty:TypeId} {pos:String} {af:Array Edge} {g:Option (Nat×Bool)}
end
inductive Bow (M:List MObj):HVal->HVal->Prop
 |weak {h h':HVal} (hw:Weak h h'):Bow M h h'
 |arr {i:Nat} {v:Value} {sz:Nat} {es:List HVal} (hm:M[i]? =some (.arr v sz es)):Bow M (.raw v) (.slice sz es)
 |cells {i b off:Nat} {cs cs':List HVal} (hm:M[i]? =some (.cells b cs)) (hl:cs.length=cs'.length) (h: ∀(j:Nat) (c c':HVal),cs[j]? =some c->cs'[j]? =some c'->Bow M c c'):Bow M (.raw (.pointer (some ⟨b,off,none⟩))) (.vptr cs' off)
 |map {i b:Nat} {L:zf1} (hm:M[i]? =some (.map b (sk L))):Bow M (.raw (.map (some b))) (hsm L)
 |vptr {off:Nat} {l l':List HVal} (hl:l.length=l'.length) (h: ∀(j:Nat) (c c':HVal),l[j]? =some c->l'[j]? =some c'->Bow M c c'):Bow M (.vptr l off) (.vptr l' off)
 |fn {f:Fn} {c1 l l':List HVal} (hl:l.length=l'.length) (h: ∀(j:Nat) (c c':HVal),l[j]? =some c->l'[j]? =some c'->Bow M c c'):Bow M (.fn f c1 l) (.fn f c1 l')
theorem Bow.refl {M:List MObj} {h:HVal}:Bow M h h:= .weak (Weak.refl _)
theorem V.vptr_inv' {I:Imm} {cs:List HVal} {off:Nat} {v:Value} (h:V I (.vptr cs off) v): ∃b base rc el fr,v= .pointer (some ⟨b,base+off,none⟩)/\I.heap b=some (.cells rc el fr)/\base+cs.length<=rc.size/\
 ∀(j:Nat) (c:HVal) (v:Value),cs[j]? =some c->rc[base+j]? =some v->V I c v:=by
 cases h with
 |vptr h1 h2 h3=>exact ⟨_,_,_,_,_,rfl,h1,h2,h3⟩
theorem Bow.v [Tracks] {M:List MObj} {I:Imm} {F:List MObj} {w:World} {h h':HVal} (hb:Bow M h h') (hs:Sat P I (M++F) w): ∀{v:Value},V I h v->V (zbX w) h' v:=by
 induction hb with
 |weak hw=>intro v hv;exact hw _ _ (hv.mono hs.le_all)
 |arr hm=>intro v hv;exact (Bor.arr hm).v hs hv
 | @cells i b off cs cs' hm hl _ ih=>
   intro v hv
   rw [hv.raw_inv];obtain ⟨rc,el,fr,h2,h3,h4⟩:=hs.obj _ (Al _ (Ac hm));have:=V.vptr (I:=zbX w) (cs:=cs') (off:=off) (base:=0) h2 (by have:=h4.1;simp at this;omega) fun j c v a1 a2=>by
    have hj:=zl a1;have hj':=Aa (l:=cs) (i:=j) (by omega);exact ih j _ c hj' a1 (h4.2 j _ v hj' (by simpa using a2))
   rwa [Bb] at this
 | @map i b L hm=>
   intro v hv
   rw [hv.raw_inv];obtain ⟨es,clk,h1,h2,h3⟩:=hs.obj _ (Al _ (Ac hm));have hn:es.size=L.length:=by simpa [sk] using h2.1
   refine .hmap (I:=zbX w) h1 (by simp [hn]) (by simp [hn]) (fun j c m a1 a2=> ?_) (fun j c m a1 a2=> ?_)
   rw [<-zyO,Ag] at a1
   cases hq:(sk L)[j]? with
   |none=>rw [hq] at a1;simp at a1
   |some p=>rw [hq] at a1;simp at a1;subst a1;exact ((h3 j p m hq a2).1).mono hs.le_all
   rw [<-zyP,Ag] at a1
   cases hq:(sk L)[j]? with
   |none=>rw [hq] at a1;simp at a1
   |some p=>rw [hq] at a1;simp at a1;subst a1;exact ((h3 j p m hq a2).2).mono hs.le_all
 | @vptr off l l' hl _ ih=>
   intro v hv
   obtain ⟨b,base,rc,el,fr,rfl,h1,h2,h3⟩:=hv.vptr_inv';refine .vptr (I:=zbX w) (hs.imm _ _ h1) (by omega) fun j c u a1 a2=> ?_
   have hj:=zl a1;have hj':=Aa (l:=l) (i:=j) (by omega);exact ih j _ c hj' a1 (h3 j _ u hj' a2)
 | @fn f c1 l l' hl _ ih=>
   intro v hv
   cases hv with
   |fn g1 g2 g3 g4=>
     refine .fn g1 (by omega) (fun j c u a1 a2=>(g3 j c u a1 a2).mono hs.le_all) fun j c u a1 a2=> ?_
     have hj:=zl a1;have hj':=Aa (l:=l) (i:=j) (by omega);exact ih j _ c hj' a1 (g4 j _ u hj' a2)
end
section
open Go
variable {P:Program} {e:Env} {dst:Option Tmp} {ty:TypeId} {pos:String} {af:Array Edge} {g:Option (Nat×Bool)}
theorem zv5 [Tracks] {x:Operand} {t:TypeId} {m:Int} (hx:ze e x=some (.int .u64 m)):POp P e ⟨dst,.unOp .neg t x,ty,pos,af,g⟩ (.int .u64 (IntKind.wrap .u64 (-m))):=
 zx fun I a w ho=>⟨.int .u64 (IntKind.wrap .u64 (-m)),by
  have h1:=(ho.one (x:=x) (by simp [Op.operands]) hx).int_inv;simp only [execOp,h1,Op.unary,Op.intArith,Sem.run_bind,Sem.run_pure,Result.andThen_ok];rw [Int.zero_sub],.int _ _⟩
theorem zxk {n:Int} (h1: -9223372036854775808<=n) (h2:n<=9223372036854775807):IntKind.wrap .u64 n=if n<0 then n+18446744073709551616 else n:=by
 unfold IntKind.wrap
 split<;>simp [IntKind.bits,IntKind.signed]<;>omega
end
end Go.HL
namespace Go.Proofs.YtahegdhbakjdoaaGreatDoor
set_option maxRecDepth 100000
set_option linter.unusedVariables false
set_option linter.unusedSimpArgs false
section
open Go.Proofs.Tryz
open Go.HL
theorem zis [Tracks] {l:List Str} (hl:l.length<=1000000):ConP prog 241 [eSs l] (.int .i64 (zgO l)):=by
 refine uOb func241 ntmps241 ?_;refine zcC ?_;refine uCo (fun h1=> ?_) fun h2=> ?_
 refine gz4 ?_;refine uRp ?_;unfold zgO
 (try clear hdx hg);(try simp only [Af]);focus first|rfl|(simp_all;done)|((repeat' split)<;>focus first|rfl|(exfalso;omega)|(simp_all;done)|(exfalso;rcases ‹_\/_› with q|q<;>simp_all;done)|(exfalso;simp_all;omega))
 refine gz6 ?_;refine uCo (fun h3=> ?_) fun h4=> ?_
 refine gz4 ?_;refine uRp ?_;unfold zgO
 (try clear hdx hg);(try simp only [Af]);focus first|rfl|(simp_all;done)|((repeat' split)<;>focus first|rfl|(exfalso;omega)|(simp_all;done)|(exfalso;rcases ‹_\/_› with q|q<;>simp_all;done)|(exfalso;simp_all;omega))
 refine gz5 ?_;refine dq (uCl zts rfl (zhu (by assumption))) ?_;refine gz3 ?_;refine uRp ?_;unfold zgO
 (try clear hdx hg);(try simp only [Af]);focus first|rfl|(simp_all;done)|((repeat' split)<;>focus first|rfl|(exfalso;omega)|(simp_all;done)|(exfalso;rcases ‹_\/_› with q|q<;>simp_all;done)|(exfalso;simp_all;omega))
theorem zqm [Tracks] {n d:Int} (hn: -1000000000000<=n/\n<=1000000000000) (hd:1<=d/\d<=1000000000000):ConP prog 297 [.agg [.int .i64 n,.int .i64 d]] (.bool (znx n d)):=by
 refine uOb func297 ntmps297 ?_;refine gz4 ?_;refine uDr mixed ?_;refine gz2 ?_;refine uB 2 rfl (zau (zcH ty3 zqX rfl) (congrArg (HVal.int .u64) (zxk uO uO))) ?_;refine gz2 ?_;refine uB 5 rfl (zau (zcH ty3 zqX rfl) (congrArg (HVal.int .u64) (show IntKind.wrap .u64 d=((d.natAbs:Nat):Int) by rw [zxk uO uO,if_neg uO];omega))) ?_;refine gz3 ?_;refine uVj [3,1,11,5] (fun (z0:Unit)=>[(3,.int .u64 ((n.natAbs:Nat):Int))]) (fun (z0:Unit)=>[]) (fun (z0:Unit)=>True) ?_ ?_
 skip
 refine gz5 ?_;refine uCo (fun h1=> ?_) fun h2=> ?_
 refine gz2 ?_;refine dq (zau (zv5 rfl) (congrArg (HVal.int .u64) (show IntKind.wrap .u64 (-(if n<0 then n+18446744073709551616 else n))=((n.natAbs:Nat):Int) by rw [if_pos (by assumption),zyT uO uO];omega))) ?_;refine gz2 ?_;exact ⟨(),trivial,⟨rfl,trivial⟩,uK,Ab _⟩;refine gz1 ?_;exact ⟨(),trivial,⟨congrArg (fun q=>some (HVal.int .u64 q)) (show (if n<0 then n+18446744073709551616 else n)=((n.natAbs:Nat):Int) by rw [if_neg uO];omega),trivial⟩,uK,Ab _⟩
 intro z0 _
 refine gz2 ?_;refine uT2 [3,2,16,6] (fun a b=>[(3,.int .u64 ((a:Nat):Int)),(4,.int .u64 ((b:Nat):Int))]) (fun a b=>[]) (fun a b=>Nat.gcd a b=Nat.gcd n.natAbs d.natAbs) (fun a b=>b) (n.natAbs) (d.natAbs) ?_ ?_
 rfl
 intro a b hg
 refine gz5 ?_;refine uCo (fun h3=> ?_) fun h4=> ?_
 have hb0:0<b:=by omega
 refine gz3 ?_;refine zlb mixed ?_;refine gz3 ?_;refine uB 3 rfl (zau (zc1 rfl rfl uO) (congrArg (HVal.int .u64) (zr4 a b))) ?_;refine gz4 ?_;refine ⟨b,a%b,?_,?_,⟨rfl,rfl,trivial⟩,uK,Ab _⟩
 exact zpL.trans hg
 dsimp only;exact BO _ hb0
 obtain rfl:b=0:=by omega
 rw [Nat.gcd_zero_right] at hg;refine gz2 ?_;refine zL ?_;refine gz8 ?_;refine zw rfl ?_
 show HVal.bool _=_
 unfold znx;rw [<-hg]
 congr 1
 rw [AL]
 simp
 try omega
theorem zht [Tracks] {n d most:Int} (hn: -1000000000<=n/\n<=1000000000) (hd: -1000000000<=d/\d<=1000000000) (hm:0<=most/\most<=1000000):ConP prog 239 [.agg [.int .i64 n,.int .i64 d],.int .i64 most] (.int .i64 (zcA n d most)):=by
 refine uOb func239 ntmps239 ?_;refine zdC ?_;refine dg rfl rfl (fun hc=>by
  have hd1:1<=d:=by (have q:=hc;simp at q;omega)
  exact ⟨_,OpenTo.upd (t:=10) rfl (hc) (OpenTo.refl _),uCl zAz rfl (zqm (n:=n) (d:=d) uO uO)⟩) ?_
 refine gz4 ?_;refine uCo (fun h1=> ?_) fun h2=> ?_
 refine gz4 ?_;refine uRp ?_;unfold zcA
 (rw [if_pos uSa])
 have hd1:1<=d:=by (first|omega|(simp_all;omega))
 have hmd:=zrI (a:=most) (b:=d) (A:=1000000) (B:=1000000000) uO uO uO uO;have hmn: -most*d= -(most*d):=Int.neg_mul _ _;refine gz3 ?_;refine dq (zc1 rfl rfl uO) ?_;refine gz5 ?_;refine uGr rfl (fun hc=>by have hq:=hc;(try simp at hq);exact zmk rfl uO uO) ?_;refine gz2 ?_;refine uGr rfl (fun hc=>by have hq:=hc;(try simp at hq);exact zfX rfl rfl uO uO) ?_;refine gz3 ?_;refine uGr rfl (fun hc=>by have hq:=hc;(try simp at hq);exact zfX rfl rfl uO uO) ?_;refine uGr rfl (fun hc=>uCl zbu rfl zac) ?_;refine gz3 ?_;refine uCo (fun h3=> ?_) fun h4=> ?_
 refine gz4 ?_;refine uRp ?_;unfold zcA
 (rw [if_neg uSa,if_pos uSa])
 refine gz7 ?_;refine uRp ?_;unfold zcA
 (rw [if_neg uSa,if_neg uSa])
theorem zc5 [Tracks] {l:List PlayerS} {s:Str} {fid:FuncId} (hca:Callable prog fid) (hp: ∀x:PlayerS,ConP prog fid [zcY x,.str s] (.int .i64 (zU x.Key s))) (hl:l.length<=1000000) (hs:SortedS (l.map (·.Key))):ConP prog 151 [zaA l,.str s,.fn (.func fid) [] []] (.tup [.int .i64 (zdb (l.map (·.Key)) s),.bool ((l.map (·.Key)).contains s)]):=by
 have hLl:(l.map (·.Key)).length=l.length:=Ah _;refine uOb func151 ntmps151 ?_;refine zo9 ?_;refine uT2 [9,3,15,20] (fun i j=>[(9,.int .i64 i),(10,.int .i64 j)]) (fun i j=>[]) (fun i j=>i<=j/\j<=(l.map (·.Key)).length/\(∀(k:Nat) (x:Str),k<i->(l.map (·.Key))[k]? =some x->Op.bytesLess x s=true)/\(∀(k:Nat) (x:Str),j<=k->(l.map (·.Key))[k]? =some x->Op.bytesLess x s=false)) (fun i j=>j-i) (0) (l.length) ?_ ?_;exact ⟨Ad _,by rw [hLl];exact Ae _,fun k x h=>by omega,fun k x h1 h2=>by have:=zl h2;omega⟩;rintro i j ⟨hij,hjl,ha,hb⟩;rw [hLl] at hjl;refine gz6 ?_;refine uCo (fun h1=> ?_) fun h2=> ?_
 obtain ⟨x,hx⟩: ∃x,l[(i+j)/2]? =some x:=⟨_,Aa uO⟩
 have hxL:(l.map (·.Key))[(i+j)/2]? =some x.Key:=by rw [Ag,hx];rfl
 have hm:(i+j)/2<j/\i<=(i+j)/2:=by omega
 refine gz7 ?_;refine dq (zcH ty3 zmS rfl) ?_;refine dq (zsU rfl rfl uO) ?_;refine dq (zau (zcH zmS ty3 rfl) (zuW (i:=i) (j:=j) uO)) ?_;refine gz6 ?_;refine dq (zD (j:=(i+j)/2) (a:=x) zfl zeY rfl rfl rfl hx) ?_;refine gz2 ?_;refine dq (zaw hca rfl rfl (WeakL.refl _) (hp _)) ?_;refine gz2 ?_;refine uCo (fun h3=> ?_) fun h4=> ?_
 refine gz6 ?_;exact ⟨(i+j)/2+1,j,⟨by omega,by rw [hLl];exact hjl,zwq hs hxL (zo7.1 h3),hb⟩,uD,⟨rfl,rfl,trivial⟩,uK,Ab _⟩;refine gz5 ?_;exact ⟨i,(i+j)/2,⟨by omega,by omega,ha,zta hs hxL (by have q:=fun e=>(show ¬zU x.Key s<0 by omega) (zo7.2 e);simpa using q)⟩,uD,⟨rfl,rfl,trivial⟩,uK,Ab _⟩;obtain rfl:i=j:=by omega
 have hjl2:i<=(l.map (·.Key)).length:=by rw [hLl];exact hjl
 refine gz2 ?_;refine zL ?_;refine zcC ?_;refine uGr rfl (fun hc=>by have hq:=hc;(try simp at hq);exact zD (j:=i) (a:=l.getD i zdl) zfl zeY rfl rfl rfl (getD_some uO)) ?_;refine gz2 ?_;refine uGr rfl (fun hc=>zaw hca rfl rfl (WeakL.refl _) (hp _)) ?_;refine gz6 ?_;refine zw rfl ?_;rw [zmO hjl2 ha hb,<-zrv hs hjl2 ha hb,<-zun]
theorem znT [Tracks] {x:PlayerS} {s:Str}:ConP prog 279 [zcY x,.str s] (.int .i64 (zU x.Key s)):=by
 refine uOb func279 ntmps279 ?_;refine gz8 ?_;refine dq (uCl zbV rfl zJ) ?_;refine gz3 ?_;refine zw rfl ?_
 rfl
theorem zhv [Tracks] {l:List PlayerS} {s:Str} (hl:l.length<=1000000) (hs:SortedS (l.map (·.Key))):ConP prog 221 [zaA l,.str s] (.int .i64 (zfa (l.map (·.Key)) s)):=by
 refine uOb func221 ntmps221 ?_;refine gz6 ?_;refine dq (uCl zwE rfl (zc5 (l:=l) zAu (fun _=>znT) hl hs)) ?_;refine zcC ?_;refine uCo (fun h1=> ?_) fun h2=> ?_
 refine gz4 ?_;refine uRp ?_;unfold zfa
 simp_all
 refine gz7 ?_;refine uRp ?_;unfold zfa
 simp_all
theorem zfU [Tracks] {l:List PlayerS} (hT:Tracks.on=false) (hl:l.length<=1000000) (hn: ∀p∈l,p.Name∈zb5) (hp: ∀p∈l,p.Positions.length<=1000000):ConP prog 220 [zaA l] (.int .i64 (zbA l)):=by
 refine uOb func220 ntmps220 ?_;refine gz9 ?_;refine uCo (fun h1=> ?_) fun h2=> ?_
 refine gz4 ?_;refine uRp ?_
 (refine congrArg _ (zb9 ?_)
  omega)
 refine gz9 ?_;refine uT1 [2,4,11,42] (fun k=>[(11,.int .i64 k)]) (fun k=>[]) (fun k=>k<=l.length/\(zaR zch zdl l 0 l=zaR zch zdl l k (l.drop k))) (fun k=>l.length-k) (0) ?_ ?_;exact ⟨Ad _,rfl⟩;rintro k ⟨hk,hg⟩;refine gz4 ?_;refine uCo (fun h3=> ?_) fun h4=> ?_
 obtain ⟨x,hx⟩: ∃x,l[k]? =some x:=⟨_,Aa h3⟩
 have hdx:=zg hx;rw [hdx] at hg;refine gz8 ?_;refine de rfl (zj zeY rfl fun b4=> ?_)
 refine gz1 ?_;refine de0 (zo zeY rfl rfl rfl rfl rfl ?_)
 refine gz1 ?_;refine zf (zp 4 rfl) ?_;refine gz5 ?_;refine dq (uCl zcp rfl zah) ?_;refine gz3 ?_;refine uCo (fun h5=> ?_) fun h6=> ?_
 refine gz4 ?_;refine uRp ?_
 (refine congrArg _ (zG (e:=5) ?_ hg ?_ ?_)
  omega
  unfold zch;exact uT
  first|decide|assumption)
 refine uDr mixed ?_;refine gz8 ?_;refine uGy 8 rfl rfl (fun hc=>by have hq:=hc;(try simp at hq);exact zD (j:=k-1) (a:=l.getD (k-1) zdl) zfl zeY rfl rfl uO (getD_some uO)) ?_;refine gz6 ?_;refine uCo (fun h7=> ?_) fun h8=> ?_
 refine gz4 ?_;refine uRp ?_
 (refine congrArg _ (zG (e:=7) ?_ hg ?_ ?_)
  omega
  unfold zch;exact uT
  first|decide|assumption)
 have hn6:=zmi (hn x (Ac hx));refine gz3 ?_;refine dq (uCl zAt rfl (zrf hT (hn x (Ac hx)))) ?_;refine gz5 ?_;refine uGr rfl (fun hc=>uCl zbu rfl zac) ?_;refine gz3 ?_;refine zaB rfl (fun h9=> ?_) (fun h9=> ?_)
 exfalso
 try simp at h9
 simp_all
 try simp at h9
 refine gz6 ?_;refine dq (uCl zwW rfl (zis (hp x (Ac hx)))) ?_;refine gz6 ?_;refine uCo (fun h10=> ?_) fun h11=> ?_
 refine gz5 ?_;refine uRp ?_
 (refine congrArg _ (zG (e:=(zgO x.Positions)) ?_ hg ?_ ?_)
  omega
  unfold zch;exact uT
  first|decide|assumption)
 refine gz7 ?_;refine ⟨k+1,?_,?_,⟨rfl,trivial⟩,uK,Ab _⟩
 refine ⟨by omega,?_⟩
 rw [hg,zaP (by unfold zch;(try clear hdx hg);(try simp only [Af]);focus first|(simp_all;done)|((repeat' split)<;>focus first|rfl|(exfalso;omega)|(simp_all;done)|(exfalso;rcases ‹_\/_› with q|q<;>simp_all;done)|(exfalso;simp_all;omega)))]
 dsimp only;omega
 have hnk:l.length<=k:=by omega
 obtain rfl:k=l.length:=by omega
 rw [zH (Ae _)] at hg;refine gz2 ?_;refine zt ?_;refine gz6 ?_;refine uRp ?_
 (refine congrArg _ (zbS ?_ hg)
  omega)
theorem zf4 [Tracks] {L:List PlayerS} {l:List StintS} (hT:Tracks.on=false) (hL:L.length<=1000000) (hn: ∀p∈L,p.Name∈zb5) (hp: ∀p∈L,p.Positions.length<=1000000) (hl:l.length<=1000000):ConP prog 155 [zaA L,zcy l] (.int .i64 (zgq L l)):=by
 refine uOb func155 ntmps155 ?_;refine gz6 ?_;refine dq (uCl zwU rfl (zfU (l:=L) hT hL hn hp)) ?_;refine gz6 ?_;refine uCo (fun h1=> ?_) fun h2=> ?_
 refine gz5 ?_;refine uRp ?_
 try rw [hE]
 (rw [zgq,if_pos (by assumption)])
 refine gz3 ?_;have hz:zbA L=0:=by first|assumption|simp_all
 have hE:zgq L l=zhC L l:=by rw [zgq,if_neg (by simp [hz])]
 refine gz5 ?_;refine uCo (fun h3=> ?_) fun h4=> ?_
 refine gz4 ?_;refine uRp ?_
 try rw [hE]
 (refine congrArg _ (zb9 ?_)
  omega)
 refine gz9 ?_;refine uT1 [4,1,6,2,18,53] (fun k=>[(18,.int .i64 k)]) (fun k=>[]) (fun k=>k<=l.length/\(zaR (zc8 L) zeg l 0 l=zaR (zc8 L) zeg l k (l.drop k))) (fun k=>l.length-k) (0) ?_ ?_;exact ⟨Ad _,rfl⟩;rintro k ⟨hk,hg⟩;refine gz4 ?_;refine uCo (fun h5=> ?_) fun h6=> ?_
 obtain ⟨x,hx⟩: ∃x,l[k]? =some x:=⟨_,Aa h5⟩
 have hdx:=zg hx;rw [hdx] at hg;refine gz8 ?_;refine de rfl (zj zbP rfl fun b7=> ?_)
 refine gz1 ?_;refine de0 (zo zbP rfl rfl rfl rfl rfl ?_)
 refine gz1 ?_;refine zf (zp 7 rfl) ?_;refine gz1 ?_;have hfn:zfa (L.map (·.Key)) x.Player<0↔zbl L x.Player=false:=zhi;refine gz4 ?_;refine dq (uCl ztp rfl (zhv (l:=L) hL (zh2 hz))) ?_;refine gz3 ?_;refine uCo (fun h7=> ?_) fun h8=> ?_
 refine gz4 ?_;refine uRp ?_
 try rw [hE]
 (refine congrArg _ (zG (e:=8) ?_ hg ?_ ?_)
  omega
  unfold zc8;exact uT
  first|decide|assumption)
 refine gz7 ?_;refine uGr rfl (fun hc=>uCl zcp rfl zah) ?_;refine gz4 ?_;refine uCo (fun h9=> ?_) fun h10=> ?_
 refine gz4 ?_;refine uRp ?_
 try rw [hE]
 (refine congrArg _ (zG (e:=5) ?_ hg ?_ ?_)
  omega
  unfold zc8;exact uT
  first|decide|assumption)
 refine gz3 ?_;refine dq (uCl zkI rfl zcl) ?_;refine gz3 ?_;refine uCo (fun h11=> ?_) fun h12=> ?_
 refine gz4 ?_;refine uRp ?_
 try rw [hE]
 (refine congrArg _ (zG (e:=1) ?_ hg ?_ ?_)
  omega
  unfold zc8;exact uT
  first|decide|assumption)
 refine uDr mixed ?_;refine gz8 ?_;refine uGy 8 rfl rfl (fun hc=>by have hq:=hc;(try simp at hq);exact zD (j:=k-1) (a:=l.getD (k-1) zeg) zfm zbP rfl rfl uO (getD_some uO)) ?_;refine gz2 ?_;refine uGy 11 rfl rfl (fun hc=>uCl zbV rfl zJ) ?_;refine gz5 ?_;refine uGy 17 rfl rfl (fun hc=>by have hq:=hc;(try simp at hq);exact zD (j:=k-1) (a:=l.getD (k-1) zeg) zfm zbP rfl rfl uO (getD_some uO)) ?_;refine gz2 ?_;refine uGy 20 rfl rfl (fun hc=>uCl zcw rfl zP) ?_;refine uGy 21 rfl rfl (fun hc=>za (hs:=[_,_]) z6 ty3 rfl rfl (by decide) (by decide) rfl) ?_;refine uGy 22 rfl rfl (fun hc=>uCl ze6 rfl (za0 (l:=[_,_]) (by simp))) ?_;refine gz4 ?_;refine uCo (fun h13=> ?_) fun h14=> ?_
 refine gz4 ?_;refine uRp ?_
 try rw [hE]
 (refine congrArg _ (zG (e:=7) ?_ hg ?_ ?_)
  omega
  unfold zc8;exact uT
  first|decide|assumption)
 refine gz8 ?_;refine ⟨k+1,?_,?_,⟨rfl,trivial⟩,uK,Ab _⟩
 refine ⟨by omega,?_⟩
 rw [hg,zaP (by unfold zc8;(try clear hdx hg);(try simp only [Af]);focus first|(simp_all;done)|((repeat' split)<;>focus first|rfl|(exfalso;omega)|(simp_all;done)|(exfalso;rcases ‹_\/_› with q|q<;>simp_all;done)|(exfalso;simp_all;omega)))]
 dsimp only;omega
 have hnk:l.length<=k:=by omega
 obtain rfl:k=l.length:=by omega
 rw [zH (Ae _)] at hg;refine gz2 ?_;refine zt ?_;refine gz6 ?_;refine uRp ?_
 try rw [hE]
 (refine congrArg _ (zbS ?_ hg)
  omega)
theorem zfq [Tracks] {l:List FixS} (hl:l.length<=1000000):ConP prog 156 [zfz l] (.int .i64 (zgL l)):=by
 refine uOb func156 ntmps156 ?_;refine gz9 ?_;refine uCo (fun h1=> ?_) fun h2=> ?_
 refine gz4 ?_;refine uRp ?_
 (refine congrArg _ (zb9 ?_)
  omega)
 refine gz9 ?_;refine uT1 [2,4,11,59] (fun k=>[(11,.int .i64 k)]) (fun k=>[]) (fun k=>k<=l.length/\(zaR zeM zjP l 0 l=zaR zeM zjP l k (l.drop k))) (fun k=>l.length-k) (0) ?_ ?_;exact ⟨Ad _,rfl⟩;rintro k ⟨hk,hg⟩;refine gz4 ?_;refine uCo (fun h3=> ?_) fun h4=> ?_
 obtain ⟨x,hx⟩: ∃x,l[k]? =some x:=⟨_,Aa h3⟩
 have hdx:=zg hx;rw [hdx] at hg;refine gz8 ?_;refine de rfl (zj zaf rfl fun b4=> ?_)
 refine gz1 ?_;refine de0 (zo zaf rfl rfl rfl rfl rfl ?_)
 refine gz1 ?_;refine zf (zp 4 rfl) ?_;refine gz5 ?_;refine dq (uCl zkI rfl zcl) ?_;refine gz4 ?_;refine uGr rfl (fun hc=>uCl zhx rfl zaZ) ?_;refine gz4 ?_;refine uCo (fun h5=> ?_) fun h6=> ?_
 refine gz4 ?_;refine uRp ?_
 (refine congrArg _ (zG (e:=1) ?_ hg ?_ ?_)
  omega
  unfold zeM;exact uT
  first|decide|assumption)
 refine gz3 ?_;refine dq (uCl zcp rfl zah) ?_;refine gz4 ?_;refine uGr rfl (fun hc=>uCl zcp rfl zah) ?_;refine gz4 ?_;refine uCo (fun h7=> ?_) fun h8=> ?_
 refine gz4 ?_;refine uRp ?_
 (refine congrArg _ (zG (e:=5) ?_ hg ?_ ?_)
  omega
  unfold zeM;exact uT
  first|decide|assumption)
 refine gz8 ?_;refine uCo (fun h9=> ?_) fun h10=> ?_
 refine gz4 ?_;refine uRp ?_
 (refine congrArg _ (zG (e:=6) ?_ hg ?_ ?_)
  omega
  unfold zeM;exact uT
  first|decide|assumption)
 refine gz8 ?_;refine uCo (fun h11=> ?_) fun h12=> ?_
 refine gz8 ?_;refine ⟨k+1,?_,?_,⟨rfl,trivial⟩,uK,Ab _⟩
 refine ⟨by omega,?_⟩
 rw [hg,zaP (by unfold zeM;(try clear hdx hg);(try simp only [Af]);focus first|(simp_all;done)|((repeat' split)<;>focus first|rfl|(exfalso;omega)|(simp_all;done)|(exfalso;rcases ‹_\/_› with q|q<;>simp_all;done)|(exfalso;simp_all;omega)))]
 dsimp only;omega
 refine gz6 ?_;refine dq (zD (j:=k-1) (a:=l.getD (k-1) zjP) zbI zaf rfl rfl uO (getD_some uO)) ?_;refine gz1 ?_;refine de rfl (zj zaf rfl fun b5=> ?_)
 refine de0 (zo zaf rfl rfl rfl rfl rfl ?_)
 refine gz1 ?_;refine zf (zp 5 rfl) ?_;refine uDr mixed ?_;refine gz4 ?_;refine uB 4 rfl (uCl zcw rfl zP) ?_;refine gz4 ?_;refine uB 9 rfl (uCl zcw rfl zP) ?_;refine gz4 ?_;refine uB 14 rfl (uCl zbV rfl zJ) ?_;refine uB 15 rfl (za (hs:=[_,_,_]) z6 ty3 rfl rfl (by decide) (by decide) rfl) ?_;refine uB 16 rfl (uCl ze6 rfl (za0 (l:=[_,_,_]) (by simp))) ?_;refine gz2 ?_;refine uCo (fun h13=> ?_) fun h14=> ?_
 refine gz4 ?_;refine uRp ?_
 (refine congrArg _ (zG (e:=7) ?_ hg ?_ ?_)
  omega
  unfold zeM;exact uT
  first|decide|assumption)
 refine gz7 ?_;refine ⟨k+1,?_,?_,⟨rfl,trivial⟩,uK,Ab _⟩
 refine ⟨by omega,?_⟩
 rw [hg,zaP (by unfold zeM;(try clear hdx hg);(try simp only [Af]);focus first|(simp_all;done)|((repeat' split)<;>focus first|rfl|(exfalso;omega)|(simp_all;done)|(exfalso;rcases ‹_\/_› with q|q<;>simp_all;done)|(exfalso;simp_all;omega)))]
 dsimp only;omega
 have hnk:l.length<=k:=by omega
 obtain rfl:k=l.length:=by omega
 rw [zH (Ae _)] at hg;refine gz2 ?_;refine zt ?_;refine gz6 ?_;refine uRp ?_
 (refine congrArg _ (zbS ?_ hg)
  omega)
theorem zf3 [Tracks] {L:List PlayerS} {l:List HealthS} (hT:Tracks.on=false) (hL:L.length<=1000000) (hn: ∀p∈L,p.Name∈zb5) (hp: ∀p∈L,p.Positions.length<=1000000) (hl:l.length<=1000000) (hw: ∀x∈l,-1000000000000000<=x.To/\x.To<=1000000000000000):ConP prog 144 [zaA L,zbo l] (.int .i64 (ziL L l)):=by
 refine uOb func144 ntmps144 ?_;refine gz6 ?_;refine dq (uCl zwU rfl (zfU (l:=L) hT hL hn hp)) ?_;refine gz6 ?_;refine uCo (fun h1=> ?_) fun h2=> ?_
 refine gz5 ?_;refine uRp ?_
 try rw [hE]
 (rw [ziL,if_pos (by assumption)])
 refine gz3 ?_;have hz:zbA L=0:=by first|assumption|simp_all
 have hE:ziL L l=zpa L l:=by rw [ziL,if_neg (by simp [hz])]
 refine gz5 ?_;refine uCo (fun h3=> ?_) fun h4=> ?_
 refine gz4 ?_;refine uRp ?_
 try rw [hE]
 (refine congrArg _ (zb9 ?_)
  omega)
 refine gz9 ?_;refine uT1 [4,1,6,3,19,60] (fun k=>[(19,.int .i64 k)]) (fun k=>[]) (fun k=>k<=l.length/\(zaR (zbw L) zfd l 0 l=zaR (zbw L) zfd l k (l.drop k))) (fun k=>l.length-k) (0) ?_ ?_;exact ⟨Ad _,rfl⟩;rintro k ⟨hk,hg⟩;refine gz4 ?_;refine uCo (fun h5=> ?_) fun h6=> ?_
 obtain ⟨x,hx⟩: ∃x,l[k]? =some x:=⟨_,Aa h5⟩
 have hdx:=zg hx;rw [hdx] at hg;refine gz8 ?_;refine de rfl (zj zbE rfl fun b7=> ?_)
 refine gz1 ?_;refine de0 (zo zbE rfl rfl rfl rfl rfl ?_)
 refine gz1 ?_;refine zf (zp 7 rfl) ?_;refine gz2 ?_;have hfn:zfa (L.map (·.Key)) x.Player<0↔zbl L x.Player=false:=zhi;have hwx:=hw x (Ac hx);refine gz4 ?_;refine dq (uCl ztp rfl (zhv (l:=L) hL (zh2 hz))) ?_;refine gz3 ?_;refine uCo (fun h7=> ?_) fun h8=> ?_
 refine gz4 ?_;refine uRp ?_
 try rw [hE]
 (refine congrArg _ (zG (e:=8) ?_ hg ?_ ?_)
  omega
  unfold zbw;exact uT
  first|decide|assumption)
 refine gz3 ?_;refine dq (uCl zbu rfl zac) ?_;refine gz6 ?_;refine uGr rfl (fun hc=>uCl zbu rfl zac) ?_;refine gz3 ?_;refine uCo (fun h9=> ?_) fun h10=> ?_
 refine gz4 ?_;refine uRp ?_
 try rw [hE]
 (refine congrArg _ (zG (e:=1) ?_ hg ?_ ?_)
  omega
  unfold zbw;exact uT
  first|decide|assumption)
 refine gz3 ?_;refine dq (uCl zbu rfl zac) ?_;refine gz2 ?_;refine uCo (fun h11=> ?_) fun h12=> ?_
 refine gz4 ?_;refine uRp ?_
 try rw [hE]
 (refine congrArg _ (zG (e:=4) ?_ hg ?_ ?_)
  omega
  unfold zbw;exact uT
  first|decide|assumption)
 refine gz8 ?_;refine uCo (fun h13=> ?_) fun h14=> ?_
 refine gz8 ?_;refine ⟨k+1,?_,?_,⟨rfl,trivial⟩,uK,Ab _⟩
 refine ⟨by omega,?_⟩
 rw [hg,zaP (by unfold zbw;(try clear hdx hg);(try simp only [Af]);focus first|(simp_all;done)|((repeat' split)<;>focus first|rfl|(exfalso;omega)|(simp_all;done)|(exfalso;rcases ‹_\/_› with q|q<;>simp_all;done)|(exfalso;simp_all;omega)))]
 dsimp only;omega
 refine gz2 ?_;have hk0:0<k:=by omega
 have hpl:zbl L x.Player=true:=by
  cases hq:zbl L x.Player with
  |true=>rfl
  |false=>have:=hfn.2 hq;omega
 refine gz4 ?_;refine dq (zD (j:=k-1) (a:=l.getD (k-1) zfd) zgW zbE rfl rfl uO (getD_some uO)) ?_;refine gz1 ?_;refine de rfl (zj zbE rfl fun b8=> ?_)
 refine de0 (zo zbE rfl rfl rfl rfl rfl ?_)
 refine gz1 ?_;refine zf (zp 8 rfl) ?_;refine gz1 ?_;refine uDr mixed ?_;refine gz4 ?_;refine uB 4 rfl (uCl zbV rfl zJ) ?_;refine gz4 ?_;refine uB 9 rfl (uCl zcw rfl zP) ?_;refine uB 10 rfl (za (hs:=[_,_]) z6 ty3 rfl rfl (by decide) (by decide) rfl) ?_;refine uB 11 rfl (uCl ze6 rfl (za0 (l:=[_,_]) (by simp))) ?_;refine gz2 ?_;refine uCo (fun h15=> ?_) fun h16=> ?_
 refine gz4 ?_;refine uRp ?_
 try rw [hE]
 (refine congrArg _ (zG (e:=7) ?_ hg ?_ ?_)
  omega
  unfold zbw;exact uT
  first|decide|assumption)
 refine zo9 ?_;refine uCo (fun h17=> ?_) fun h18=> ?_
 refine gz4 ?_;refine uRp ?_
 try rw [hE]
 (refine congrArg _ (zG (e:=13) ?_ hg ?_ ?_)
  omega
  unfold zbw;exact uT
  first|decide|assumption)
 refine gz7 ?_;refine ⟨k+1,?_,?_,⟨rfl,trivial⟩,uK,Ab _⟩
 refine ⟨by omega,?_⟩
 rw [hg,zaP (by unfold zbw;(try clear hdx hg);(try simp only [Af]);focus first|(simp_all;done)|((repeat' split)<;>focus first|rfl|(exfalso;omega)|(simp_all;done)|(exfalso;rcases ‹_\/_› with q|q<;>simp_all;done)|(exfalso;simp_all;omega)))]
 dsimp only;omega
 have hnk:l.length<=k:=by omega
 obtain rfl:k=l.length:=by omega
 rw [zH (Ae _)] at hg;refine gz2 ?_;refine zt ?_;refine gz6 ?_;refine uRp ?_
 try rw [hE]
 (refine congrArg _ (zbS ?_ hg)
  omega)
theorem zlQ [Tracks] {l:List RuleS} (hl:l.length<=1000000) (hb: ∀x∈l,((-1000000000<=x.Num/\x.Num<=1000000000)/\ -1000000000<=x.Den/\x.Den<=1000000000)):ConP prog 179 [ziF l] (.int .i64 (ziR l)):=by
 refine uOb func179 ntmps179 ?_;refine gz9 ?_;refine uCo (fun h1=> ?_) fun h2=> ?_
 refine gz4 ?_;refine uRp ?_
 (refine congrArg _ (zb9 ?_)
  omega)
 refine gz9 ?_;refine uT1 [2,5,12,75] (fun k=>[(12,.int .i64 k)]) (fun k=>[]) (fun k=>k<=l.length/\(zaR zds zjr l 0 l=zaR zds zjr l k (l.drop k))) (fun k=>l.length-k) (0) ?_ ?_;exact ⟨Ad _,rfl⟩;rintro k ⟨hk,hg⟩;refine gz4 ?_;refine uCo (fun h3=> ?_) fun h4=> ?_
 obtain ⟨x,hx⟩: ∃x,l[k]? =some x:=⟨_,Aa h3⟩
 have hdx:=zg hx;rw [hdx] at hg;refine gz8 ?_;refine de rfl (zj zg1 rfl fun b4=> ?_)
 refine gz1 ?_;refine de0 (zo zg1 rfl rfl rfl rfl rfl ?_)
 refine gz1 ?_;refine zf (zp 4 rfl) ?_;refine gz5 ?_;refine dq (uCl zcp rfl zah) ?_;refine gz4 ?_;refine uGr rfl (fun hc=>uCl zcp rfl zah) ?_;refine gz9 ?_;refine uGr rfl (fun hc=>uCl zcp rfl zah) ?_;refine gz5 ?_;refine uCo (fun h5=> ?_) fun h6=> ?_
 refine gz4 ?_;refine uRp ?_
 (refine congrArg _ (zG (e:=5) ?_ hg ?_ ?_)
  omega
  unfold zds;exact uT
  first|decide|assumption)
 refine uDr mixed ?_;refine gz8 ?_;refine uGy 8 rfl rfl (fun hc=>by have hq:=hc;(try simp at hq);exact zD (j:=k-1) (a:=l.getD (k-1) zjr) zr5 zg1 rfl rfl uO (getD_some uO)) ?_;refine gz6 ?_;refine uCo (fun h7=> ?_) fun h8=> ?_
 refine gz4 ?_;refine uRp ?_
 (refine congrArg _ (zG (e:=7) ?_ hg ?_ ?_)
  omega
  unfold zds;exact uT
  first|decide|assumption)
 refine gz3 ?_;refine dq (uCl zbu rfl zac) ?_;refine gz2 ?_;refine uCo (fun h9=> ?_) fun h10=> ?_
 refine gz4 ?_;refine uRp ?_
 (refine congrArg _ (zG (e:=4) ?_ hg ?_ ?_)
  omega
  unfold zds;exact uT
  first|decide|assumption)
 refine zdC ?_;refine dq (zau (h':= .bool (zqP x.Kind)) (zh3 rfl) rfl) ?_;refine gz7 ?_;refine uGr rfl (fun hc=>uCl zbu rfl zac) ?_;refine zcC ?_;refine uCo (fun h11=> ?_) fun h12=> ?_
 refine gz4 ?_;refine uRp ?_
 (refine congrArg _ (zG (e:=1) ?_ hg ?_ ?_)
  omega
  unfold zds;exact uT
  first|decide|assumption)
 refine gz4 ?_;refine dq (zau (h':= .agg [.int .i64 x.Num,.int .i64 x.Den]) (zaY za9 rfl rfl (Ao rfl)) rfl) ?_;refine dq (uCl ztq rfl (zht (n:=x.Num) (d:=x.Den) (most:=10000) (hb x (Ac hx)).1 (hb x (Ac hx)).2 uO)) ?_;refine gz6 ?_;refine uCo (fun h13=> ?_) fun h14=> ?_
 refine gz5 ?_;refine uRp ?_
 (refine congrArg _ (zG (e:=(zcA x.Num x.Den 10000)) ?_ hg ?_ ?_)
  omega
  unfold zds;exact uT
  first|decide|assumption)
 refine gz7 ?_;refine ⟨k+1,?_,?_,⟨rfl,trivial⟩,uK,Ab _⟩
 refine ⟨by omega,?_⟩
 rw [hg,zaP (by unfold zds;(try clear hdx hg);(try simp only [Af]);focus first|(simp_all;done)|((repeat' split)<;>focus first|rfl|(exfalso;omega)|(simp_all;done)|(exfalso;rcases ‹_\/_› with q|q<;>simp_all;done)|(exfalso;simp_all;omega)))]
 dsimp only;omega
 have hnk:l.length<=k:=by omega
 obtain rfl:k=l.length:=by omega
 rw [zH (Ae _)] at hg;refine gz2 ?_;refine zt ?_;refine gz6 ?_;refine uRp ?_
 (refine congrArg _ (zbS ?_ hg)
  omega)
theorem zeE [Tracks] {l:List SlotS} {fid:FuncId} {caps:List HVal} {p:SlotS->Bool} (hca:Callable prog fid) (hp: ∀x,ConP prog fid ([za6 x]++caps) (.bool (p x))) (hl:l.length<=1000000):ConP prog 268 [.slice 2 (l.map za6),.fn (.func fid) [] caps] (.int .i64 (zab p l 0)):=by
 refine uOb func268 ntmps268 ?_;refine zan ?_;refine uT1 [4,2,8,11] (fun k=>[(8,.int .i64 k)]) (fun k=>[]) (fun k=>k<=l.length/\(zab p l 0=zab p (l.drop k) k)) (fun k=>l.length-k) (0) ?_ ?_;exact ⟨Ad _,rfl⟩;rintro k ⟨hk,hg⟩;refine gz4 ?_;refine uCo (fun h1=> ?_) fun h2=> ?_
 obtain ⟨x,hx⟩: ∃x,l[k]? =some x:=⟨_,Aa h1⟩
 have hdx:=zg hx;rw [hdx] at hg;refine zdS ?_;refine dq (zaw hca rfl rfl (WeakL.refl _) (hp _)) ?_;refine gz1 ?_;refine uCo (fun h3=> ?_) fun h4=> ?_
 refine gz5 ?_;refine uRp ?_
 (rw [hg];simp_all [zab])
 refine gz7 ?_;refine ⟨k+1,?_,?_,⟨rfl,trivial⟩,uK,Ab _⟩
 refine ⟨by omega,?_⟩
 rw [hg,zab,if_neg uSa];rfl
 dsimp only;omega
 have hnk:l.length<=k:=by omega
 obtain rfl:k=l.length:=by omega
 rw [zH (Ae _)] at hg;refine gz2 ?_;refine zt ?_;refine gz6 ?_;refine uRp ?_
 (rw [hg];rfl)
theorem zca [Tracks] {l:List SlotS} {fid:FuncId} {caps:List HVal} {p:SlotS->Bool} (hca:Callable prog fid) (hp: ∀x,ConP prog fid ([za6 x]++caps) (.bool (p x))) (hl:l.length<=1000000):ConP prog 208 [.slice 2 (l.map za6),.fn (.func fid) [] caps] (.bool (l.any p)):=by
 refine uOb func208 ntmps208 ?_;refine gz6 ?_;refine dq (uCl zAl rfl (zeE hca hp hl)) ?_;refine gz4 ?_;refine zw rfl ?_
 congr 1;exact zcW p l 0 uO
theorem zkE [Tracks] {y x:SlotS}:ConP prog 240 [za6 y,.vptr (zb (za6 x)) 0] (.bool (y.Key==x.Key)):=by
 refine uOb func240 ntmps240 ?_;refine zeN ?_;refine zw rfl ?_
 rfl
theorem zlR [Tracks] {l:List SlotS} (hl:l.length<=1000000) (hp: ∀x∈l,x.Positions.length<=1000000):ConP prog 180 [zft l] (.int .i64 (zdE l)):=by
 refine uOb func180 ntmps180 ?_;refine zcC ?_;refine uCo (fun h1=> ?_) fun h2=> ?_
 ·refine gz4 ?_;refine uRp ?_
  (unfold zdE;simp_all;done)
 ·refine gz6 ?_;refine uCo (fun h3=> ?_) fun h4=> ?_
  ·refine gz4 ?_;refine uRp ?_
   (rw [zdE,if_neg (by first|omega|simp_all),if_pos uO];done)
  ·refine zan ?_;refine uT1 [2,4,16,23] (fun k=>[(16,.int .i64 k)]) (fun k=>[]) (fun k=>k<=l.length/\(zb8 l 0 l=zb8 l k (l.drop k))) (fun k=>l.length-k) (0) ?_ ?_
   ·exact ⟨Ad _,rfl⟩
   ·rintro k ⟨hk,hg⟩;refine gz4 ?_;refine uCo (fun h5=> ?_) fun h6=> ?_
    ·obtain ⟨x,hx⟩: ∃x,l[k]? =some x:=⟨_,Aa h5⟩
     have hdx:=zg hx;rw [hdx] at hg;refine gz8 ?_;refine de rfl (zj zdc rfl fun b4=> ?_)
     refine gz1 ?_;refine de0 (zo zdc rfl rfl rfl rfl rfl ?_)
     refine gz1 ?_;refine zf (zp 4 rfl) ?_;refine gz5 ?_;refine dq (uCl zcp rfl zah) ?_;refine gz3 ?_;refine uCo (fun h7=> ?_) fun h8=> ?_
     ·refine gz4 ?_;refine uRp ?_
      (refine congrArg _ (zgS (e:=5) ?_ ?_ hg ?_)
       ·first|omega|simp_all
       ·omega
       ·rw [zb8]
        simp_all
        done)
     ·refine gz3 ?_;refine dq (zaL zdF zdc rfl rfl ⟨_,_,rfl,rfl⟩ uO uO) ?_;refine gz1 ?_;refine dq (uCl zwO rfl (zca (l:=l.take k) (p:=fun y=>y.Key==x.Key) zAa (fun _=>zkE) (by rw [AD];omega))) ?_;refine gz2 ?_;refine uCo (fun h9=> ?_) fun h10=> ?_
      ·refine gz4 ?_;refine uRp ?_
       (refine congrArg _ (zgS (e:=6) ?_ ?_ hg ?_)
        ·first|omega|simp_all
        ·omega
        ·rw [zb8]
         simp_all
         done)
      ·refine gz6 ?_;refine dq (uCl zwW rfl (zis (hp x (Ac hx)))) ?_;refine gz6 ?_;refine uCo (fun h11=> ?_) fun h12=> ?_
       ·refine gz5 ?_;refine uRp ?_
        (refine congrArg _ (zgS (e:=(zgO x.Positions)) ?_ ?_ hg ?_)
         ·first|omega|simp_all
         ·omega
         ·rw [zb8]
          simp_all
          done)
       ·refine gz7 ?_;refine ⟨k+1,?_,?_,⟨rfl,trivial⟩,uK,Ab _⟩
        ·refine ⟨by omega,?_⟩
         rw [hg,zb8,if_neg uSa,if_neg uSa,if_neg uSa]
        ·dsimp only;omega
    ·have hnk:l.length<=k:=by omega
     obtain rfl:k=l.length:=by omega
     rw [zH (Ae _)] at hg;refine gz2 ?_;refine zt ?_;refine gz6 ?_;refine uRp ?_
     (refine congrArg _ (zrZ ?_ ?_ hg)<;>first|omega|simp_all)
theorem zf5 [Tracks] {b:BoundS}:ConP prog 147 [zdR b] (.int .i64 (zbZ b)):=by
 refine uOb func147 ntmps147 ?_;refine gz8 ?_;refine dq (uCl zbu rfl zac) ?_;refine gz3 ?_;refine uGr rfl (fun hc=>uCl zbu rfl zac) ?_;refine gz4 ?_;refine uGr rfl (fun hc=>uCl zbu rfl zac) ?_;refine gz4 ?_;refine uGr rfl (fun hc=>uCl zbu rfl zac) ?_;refine gz2 ?_;refine uCo (fun h1=> ?_) fun h2=> ?_
 refine gz4 ?_;refine uRp ?_;unfold zbZ
 (rw [if_pos uSa])
 refine gz6 ?_;refine uRp ?_;unfold zbZ
 (rw [if_neg uSa])
theorem zm2 [Tracks] {a b:MoveS}:ConP prog 218 [zcx a,zcx b] (.int .i64 (zfw a b)):=by
 refine uOb func218 ntmps218 ?_;refine gz5 ?_;refine uDr mixed ?_;refine gz4 ?_;refine uB 4 rfl (uCl zcw rfl zP) ?_;refine gz4 ?_;refine uB 9 rfl (uCl zbV rfl zJ) ?_;refine gz4 ?_;refine uB 14 rfl (uCl zbV rfl zJ) ?_;refine gz4 ?_;refine uB 19 rfl (uCl zcw rfl zP) ?_;refine uB 20 rfl (za (hs:=[_,_,_,_]) z6 ty3 rfl rfl (by decide) (by decide) rfl) ?_;refine uB 21 rfl (uCl ze6 rfl (za0 (l:=[_,_,_,_]) (by simp))) ?_;refine gz3 ?_;refine zw rfl ?_
 rfl
theorem zgB [Tracks] {l:List MoveS} (hl:l.length<=1000000):ConP prog 142 [zbH l] (.int .i64 (zcN l)):=by
 refine uOb func142 ntmps142 ?_;refine gz9 ?_;refine uCo (fun h1=> ?_) fun h2=> ?_
 refine gz4 ?_;refine uRp ?_
 (refine congrArg _ (zb9 ?_)
  omega)
 refine gz9 ?_;refine uT1 [2,3,10,39] (fun k=>[(10,.int .i64 k)]) (fun k=>[]) (fun k=>k<=l.length/\(zaR zdJ zhZ l 0 l=zaR zdJ zhZ l k (l.drop k))) (fun k=>l.length-k) (0) ?_ ?_;exact ⟨Ad _,rfl⟩;rintro k ⟨hk,hg⟩;refine gz4 ?_;refine uCo (fun h3=> ?_) fun h4=> ?_
 obtain ⟨x,hx⟩: ∃x,l[k]? =some x:=⟨_,Aa h3⟩
 have hdx:=zg hx;rw [hdx] at hg;refine gz8 ?_;refine de rfl (zj zz rfl fun b4=> ?_)
 refine gz1 ?_;refine de0 (zo zz rfl rfl rfl rfl rfl ?_)
 refine gz1 ?_;refine zf (zp 4 rfl) ?_;refine gz4 ?_;refine dq (uCl zhx rfl zaZ) ?_;refine gz3 ?_;refine uCo (fun h5=> ?_) fun h6=> ?_
 refine gz4 ?_;refine uRp ?_
 (refine congrArg _ (zG (e:=1) ?_ hg ?_ ?_)
  omega
  unfold zdJ;exact uT
  first|decide|assumption)
 refine gz3 ?_;refine dq (uCl zbu rfl zac) ?_;refine gz2 ?_;refine uCo (fun h7=> ?_) fun h8=> ?_
 refine gz4 ?_;refine uRp ?_
 (refine congrArg _ (zG (e:=4) ?_ hg ?_ ?_)
  omega
  unfold zdJ;exact uT
  first|decide|assumption)
 refine gz3 ?_;refine dq (uCl zcp rfl zah) ?_;refine gz4 ?_;refine uGr rfl (fun hc=>uCl zcp rfl zah) ?_;refine gz4 ?_;refine uCo (fun h9=> ?_) fun h10=> ?_
 refine gz4 ?_;refine uRp ?_
 (refine congrArg _ (zG (e:=5) ?_ hg ?_ ?_)
  omega
  unfold zdJ;exact uT
  first|decide|assumption)
 refine uDr mixed ?_;refine gz7 ?_;refine uGy 7 rfl rfl (fun hc=>by have hq:=hc;(try simp at hq);exact zD (j:=k-1) (a:=l.getD (k-1) zhZ) zbB zz rfl rfl uO (getD_some uO)) ?_;refine gz1 ?_;refine uGy 9 rfl rfl (fun hc=>uCl zzV rfl zm2) ?_;refine gz4 ?_;refine uCo (fun h11=> ?_) fun h12=> ?_
 refine gz4 ?_;refine uRp ?_
 (refine congrArg _ (zG (e:=7) ?_ hg ?_ ?_)
  omega
  unfold zdJ;exact uT
  first|decide|assumption)
 refine gz8 ?_;refine ⟨k+1,?_,?_,⟨rfl,trivial⟩,uK,Ab _⟩
 refine ⟨by omega,?_⟩
 rw [hg,zaP (by unfold zdJ;(try clear hdx hg);(try simp only [Af]);focus first|(simp_all;done)|((repeat' split)<;>focus first|rfl|(exfalso;omega)|(simp_all;done)|(exfalso;rcases ‹_\/_› with q|q<;>simp_all;done)|(exfalso;simp_all;omega)))]
 dsimp only;omega
 have hnk:l.length<=k:=by omega
 obtain rfl:k=l.length:=by omega
 rw [zH (Ae _)] at hg;refine gz2 ?_;refine zt ?_;refine gz6 ?_;refine uRp ?_
 (refine congrArg _ (zbS ?_ hg)
  omega)
theorem zlO [Tracks] {l:List Str} (hl:l.length<=1000000):ConP prog 242 [eSs l] (.int .i64 (zct l)):=by
 refine uOb func242 ntmps242 ?_;refine zcC ?_;refine uCo (fun h1=> ?_) fun h2=> ?_
 refine gz4 ?_;refine uRp ?_
 (rw [zct,if_pos uO])
 refine gz6 ?_;refine uCo (fun h3=> ?_) fun h4=> ?_
 refine gz4 ?_;refine uRp ?_
 (rw [zct,if_neg uO,if_pos uO])
 refine gz5 ?_;refine dq (uCl zts rfl (zhu (by assumption))) ?_;refine gz3 ?_;refine uRp ?_
 (rw [zct,if_neg uO,if_neg uO])
theorem zoY [Tracks] {a b:GameS}:ConP prog 244 [zaJ a,zaJ b] (.int .i64 (ze2 a b)):=by
 refine uOb func244 ntmps244 ?_;refine gz5 ?_;refine uDr mixed ?_;refine gz4 ?_;refine uB 4 rfl (uCl zcw rfl zP) ?_;refine gz4 ?_;refine uB 9 rfl (uCl zbV rfl zJ) ?_;refine gz4 ?_;refine uB 14 rfl (uCl zbV rfl zJ) ?_;refine uB 15 rfl (za (hs:=[_,_,_]) z6 ty3 rfl rfl (by decide) (by decide) rfl) ?_;refine uB 16 rfl (uCl ze6 rfl (za0 (l:=[_,_,_]) (by simp))) ?_;refine gz3 ?_;refine zw rfl ?_
 rfl
theorem zlo [Tracks] {x:GameS} (hb:((-1000000000<=x.FNum/\x.FNum<=1000000000)/\ -1000000000<=x.FDen/\x.FDen<=1000000000)/\((-1000000000<=x.ONum/\x.ONum<=1000000000)/\ -1000000000<=x.ODen/\x.ODen<=1000000000)):ConP prog 243 [zaJ x] (.int .i64 (zge x)):=by
 refine uOb func243 ntmps243 ?_;refine zan ?_;refine uCo (fun h1=> ?_) fun h2=> ?_
 refine gz3 ?_;refine dq (zau (h':= .agg [.int .i64 x.FNum,.int .i64 x.FDen]) (zaY za9 rfl rfl (Ao rfl)) rfl) ?_;refine dq (zI (cs:=[_,_]) za9 zkW rfl) ?_;refine dq (zho za9 zqM rfl rfl ⟨rfl,⟨_,_,_,_,ty3,rfl⟩,⟨rfl,⟨_,_,_,_,ty3,rfl⟩,trivial⟩⟩) ?_;refine gz2 ?_;refine uGr rfl (fun hc=>zau (h':= .agg [.int .i64 x.ONum,.int .i64 x.ODen]) (zaY za9 rfl rfl (Ao rfl)) rfl) ?_;refine uGr rfl (fun hc=>zI (cs:=[_,_]) za9 zkW rfl) ?_;refine uGr rfl (fun hc=>zho za9 zqM rfl rfl ⟨rfl,⟨_,_,_,_,ty3,rfl⟩,⟨rfl,⟨_,_,_,_,ty3,rfl⟩,trivial⟩⟩) ?_;refine gz2 ?_;refine uCo (fun h3=> ?_) fun h4=> ?_
 simp [zaO,zeL,eqH] at h3
 refine gz4 ?_;refine uRp ?_;unfold zge
 (try clear hdx hg);(try simp only [Af]);focus first|rfl|(simp_all;done)|((repeat' split)<;>focus first|rfl|(exfalso;omega)|(simp_all;done)|(exfalso;rcases ‹_\/_› with q|q<;>simp_all;done)|(exfalso;simp_all;omega))
 refine gz2 ?_
 simp [zaO,zeL,eqH] at h4
 refine gz4 ?_;refine uRp ?_;unfold zge
 (try clear hdx hg);(try simp only [Af]);focus first|rfl|(simp_all;done)|((repeat' split)<;>focus first|rfl|(exfalso;omega)|(simp_all;done)|(exfalso;rcases ‹_\/_› with q|q<;>simp_all;done)|(exfalso;simp_all;omega))
 refine gz2 ?_;refine uDr mixed ?_;refine gz1 ?_;refine uB 1 rfl (zau (h':= .agg [.int .i64 x.FNum,.int .i64 x.FDen]) (zaY za9 rfl rfl (Ao rfl)) rfl) ?_;refine uB 2 rfl (uCl ztq rfl (zht (n:=x.FNum) (d:=x.FDen) (most:=1000000) hb.1.1 hb.1.2 uO)) ?_;refine gz1 ?_;refine uB 4 rfl (zau (h':= .agg [.int .i64 x.ONum,.int .i64 x.ODen]) (zaY za9 rfl rfl (Ao rfl)) rfl) ?_;refine uB 5 rfl (uCl ztq rfl (zht (n:=x.ONum) (d:=x.ODen) (most:=1000000) hb.2.1 hb.2.2 uO)) ?_;refine zdC ?_;refine uCo (fun h5=> ?_) fun h6=> ?_
 refine gz4 ?_;refine uRp ?_;unfold zge
 (try clear hdx hg);(try simp only [Af]);focus first|rfl|(simp_all;done)|((repeat' split)<;>focus first|rfl|(exfalso;omega)|(simp_all;done)|(exfalso;rcases ‹_\/_› with q|q<;>simp_all;done)|(exfalso;simp_all;omega))
 refine gz5 ?_;refine dq (za (hs:=[_,_]) zdN zfP rfl rfl (by decide) (by decide) rfl) ?_;refine dq (uCl zkJ rfl (zb0 (l:=[_,_]) (by simp))) ?_;refine gz3 ?_;refine uRp ?_;unfold zge
 (try clear hdx hg);(try simp only [Af]);focus first|rfl|(simp_all;done)|((repeat' split)<;>focus first|rfl|(exfalso;omega)|(simp_all;done)|(exfalso;rcases ‹_\/_› with q|q<;>simp_all;done)|(exfalso;simp_all;omega))
end
end Go.Proofs.YtahegdhbakjdoaaGreatDoor
namespace Go.HL
section
open Go Go.Proofs Go.Shelf
variable {P:Program} {ρ:Ren}
theorem zdk (b:Nat) (el:TypeId) (fr:Nat×Nat): ∀(vs:List Value) (o:Nat) (w:World) (rc:Array Value),w.heap[b]? =some (.cells rc el fr)->o+vs.length<=rc.size->
 ∃rc',(w.setCells b o vs).heap[b]? =some (.cells rc' el fr)/\rc'.size=rc.size/\(∀x,rc'[x]? =if o<=x/\x<o+vs.length then vs[x-o]? else rc[x]?)/\(∀k,k≠b->(w.setCells b o vs).heap[k]? =w.heap[k]?)/\
  (w.setCells b o vs).heap.size=w.heap.size/\(w.setCells b o vs).os=w.os/\(w.setCells b o vs).output=w.output/\(w.setCells b o vs).tape=w.tape/\(w.setCells b o vs).drawn=w.drawn
 |[],o,w,rc,hw,_=>⟨rc,hw,rfl,fun x=>by rw [if_neg (by simp)],fun _ _=>rfl,rfl,rfl,rfl,rfl,rfl⟩
 |v::vs,o,w,rc,hw,hle=>by
   simp only [Ai] at hle;have ztI:(w.setCell ⟨b,o,none⟩ v).heap[b]? =some (.cells (rc.setIfInBounds o v) el fr):=by simp [World.setCell,AI,hw]
   obtain ⟨rc',h1,h2,h3,h4,h5,h6,h7,h8,h9⟩:=zdk b el fr vs (o+1) (w.setCell ⟨b,o,none⟩ v) (rc.setIfInBounds o v) ztI (by simp;omega);refine ⟨rc',h1,by rw [h2];simp,fun x=> ?_,fun k hk=> ?_,by rw [World.setCells,h5];simp [World.setCell],by rw [World.setCells,h6];rfl,by rw [World.setCells,h7];rfl,by rw [World.setCells,h8];rfl,by rw [World.setCells,h9];rfl⟩
   rw [h3 x];simp only [Ai]
   by_cases e1:x=o
   subst e1;rw [if_neg (by omega),if_pos (by omega),Array.getElem?_setIfInBounds,if_pos rfl,if_pos (by omega)]
   simp
   by_cases e2:o+1<=x/\x<o+1+vs.length
   rw [if_pos e2,if_pos (by omega),show x-o=(x-(o+1))+1 by omega,AO];rw [if_neg e2,if_neg (by omega),Array.getElem?_setIfInBounds,if_neg (fun h=>e1 h.symm)];rw [World.setCells,h4 k hk];simp only [World.setCell,AI];rw [if_neg (fun h=>hk h.symm)]
theorem zpi {w:World} {o:Obj}:(w.heap.push o)[w.heap.size]? =some o:=by simp
theorem zpj {w:World} {o:Obj} {k:Nat} (hk:k<w.heap.size):(w.heap.push o)[k]? =w.heap[k]?:=by rw [AM,if_neg (by omega)]
def zbb (s:Str):Value:= .string ⟨s.toArray⟩
def zev (l:List Str) (i:Nat) (s:Str):List Str:=l.take i++s::l.drop i
theorem zml {l:List Str} {i:Nat} (hi:i<=l.length) (s:Str) (p:Nat):(zev l i s)[p]? =if p<i then l[p]? else if p=i then some s else l[p-1]?:=by
 unfold zev;have ht:(l.take i).length=i:=by simp;omega
 split
 rename_i h;rw [Aq (by omega),AC h]
 rename_i h
 rw [Ap (by omega),ht]
 split
 rename_i e;subst e;simp
 rename_i e
 rw [show p-i=(p-i-1)+1 by omega,AO,AJ,show i+(p-i-1)=p-1 by omega]
theorem zu3 {l:List Str} {i:Nat} (hi:i<=l.length) (s:Str):(zev l i s).length=l.length+1:=by unfold zev;simp;omega
theorem zp0 {I:Imm} {w:World} {b off n cap:Nat} {rc:Array Value} {el:TypeId} {fr:Nat×Nat} {l:List Str} (hn:n=l.length) (hw:w.heap[b]? =some (.cells rc el fr)) (hf:Free fr rc.size) (hc:n<=cap/\cap<=9223372036854775807) (ho:off+cap<=rc.size)
 (hv: ∀(p:Nat) (x:Str),l[p]? =some x->rc[off+p]? =some (zbb x)):MSat I w (.arr (.slice (some ⟨b,off,none⟩) n cap) 1 (l.map .str)):=by
 refine .inr ⟨b,off,cap,rc,el,fr,by simp [hn],hw,hf,fun e he=> ?_,by simp only [Ah];omega,by omega,fun i j e c v a1 a2 a3=> ?_⟩
 obtain ⟨a,_,rfl⟩:=List.mem_map.1 he;rfl;rw [Ag] at a1
 cases hq:l[i]? with
 |none=>rw [hq] at a1;cases a1
 |some s=>
   rw [hq] at a1;obtain rfl:HVal.str s=e:=Aw a1;have hj:j=0:=by have:=zl a2;simp [zb] at this;omega
   subst hj;obtain rfl:HVal.str s=c:=Aw a2;rw [show off+i*1+0=off+i by omega,hv i s hq] at a3;rw [<-Aw a3];exact .str s
theorem zty [Tracks] (L:Lays2.n22 P ρ) {v:Value} {l:List Str} {s:Str} {i ub:Nat} {el2:TypeId} (hi:i<=l.length) (hl:l.length<=1000000):
 Con P (ρ.f 22) [.raw v,.int .i64 i,.raw (.slice (some ⟨ub,0,none⟩) 1 1)] [.arr v 1 (l.map .str),.obj ub (.cells #[zbb s] el2 (0,0))]
  fun x M'=> ∃v',x= .raw v'/\M'=[.arr v' 1 ((zev l i s).map .str),.obj ub (.cells #[zbb s] el2 (0,0))]:=by
 intro I F w args hA hS
 obtain ⟨v1,r1,rfl,hv1,hr1⟩: ∃v1 r1,args=v1::r1/\V I (.raw v) v1/\VL I [.int .i64 i,.raw (.slice (some ⟨ub,0,none⟩) 1 1)] r1:=by
  cases args with
  |nil=>have:=hA.1;simp at this
  |cons a r=>exact ⟨a,r,rfl,hA.head,hA.tail⟩
 obtain ⟨v2,r2,rfl,hv2,hr2⟩: ∃v2 r2,r1=v2::r2/\V I (.int .i64 i) v2/\VL I [.raw (.slice (some ⟨ub,0,none⟩) 1 1)] r2:=by
  cases r1 with
  |nil=>have:=hr1.1;simp at this
  |cons a r=>exact ⟨a,r,rfl,hr1.head,hr1.tail⟩
 obtain ⟨v3,rfl,hv3⟩: ∃v3,r2=[v3]/\V I (.raw (.slice (some ⟨ub,0,none⟩) 1 1)) v3:=by
  cases r2 with
  |nil=>have:=hr2.1;simp at this
  |cons a r=>cases r with
    |nil=>exact ⟨a,rfl,hr2.head⟩
    |cons b r=>have:=hr2.1;simp at this
 have hv1:=hv1.raw_inv;have hv2:=hv2.int_inv;have hv3:=hv3.raw_inv;subst hv1 hv2 hv3;have hu:w.heap[ub]? =some (.cells #[zbb s] el2 (0,0)):=hS.obj (.obj ub _) (by simp);have hvs: ∀(j:Nat) (u:Value),[zbb s][j]? =some u->w.cell? ⟨ub,0+j,none⟩=some u:=fun j u hj=>by
  rw [zbF hu,Bb];simpa using hj
 have h1v: ∀u∈[zbb s],u.oneCell'=true:=fun u h=>by simp at h;subst h;rfl
 have h1c: ∀u∈l.map zbb,u.oneCell'=true:=fun u h=>by obtain ⟨a,_,rfl⟩:=List.mem_map.1 h;rfl
 have hcl:(l.map zbb).length=l.length:=by simp
 have hplen:=zu3 hi s
 
 have fresh: ∀(w':World) (rc:Array Value) (el:TypeId) (cap:Nat),w'.heap[w.heap.size]? =some (.cells rc el (0,0))->(l.length+1<=cap/\cap<=9223372036854775807)->cap<=rc.size->
  (∀(p:Nat) (x:Str),(zev l i s)[p]? =some x->rc[p]? =some (zbb x))->(∀k,k<w.heap.size->w'.heap[k]? =w.heap[k]?)->w'.os=w.os->w'.output=w.output->w'.tape=w.tape->w.drawn<=w'.drawn->
  Sat P I ([.arr (.slice (some ⟨w.heap.size,0,none⟩) (l.length+1) cap) 1 ((zev l i s).map .str),.obj ub (.cells #[zbb s] el2 (0,0))]++F) w':=fun w' rc el cap g1 g2 g3 g4 g5 g6 g7 g8 g9=>
  hS.change (m':= .arr (.slice (some ⟨w.heap.size,0,none⟩) (l.length+1) cap) 1 ((zev l i s).map .str)) (fun k hk _=>g5 k hk) (fun k hk=>by simp [MObj.blocks] at hk;exact .inr (by omega)) (by simp [MObj.blocks])
   (zp0 hplen.symm g1 (Free.zero _) g2 (by omega) fun p x hx=>by rw [Bb];exact g4 p x hx) g6 g7 g8 (fun _=>g9)
 rcases hS.obj _ (Am) with ⟨rfl,hnil⟩|⟨b,off,cap,rc,el,fr,rfl,h2,h3,h4,h5,h6,h7⟩
 
 obtain rfl:l=[]:=List.map_eq_nil_iff.1 hnil;obtain rfl:i=0:=by simpa using hi
 refine (Any2.slices_Insert_string_end_grow L none 0 0 ub 0 1 1 [] [zbb s] w (by omega) (by omega) (by omega) (by omega) rfl rfl (fun _=>rfl) (fun a h=>by cases h) hvs h1v).mono ?_;rintro e w' ⟨rfl,rfl⟩;have hge:=grownCap_ge w (0+1) 0 (ρ.t 9);have hle:=grownCap_le_maxLen w (0+1) 0 (ρ.t 9) (by unfold maxLen;omega);refine ⟨_,.raw _,_,I,rfl,.refl I,⟨_,rfl,rfl⟩,.raw _ rfl,fresh _ _ _ _ zpi ⟨by simpa using hge,by unfold maxLen at hle;exact hle⟩ ?_ ?_ ?_ rfl rfl rfl (Bt _)⟩
 simp [Builtin.zeroCells,Value.cells];omega
 intro p x hx
 have hp:=zl hx;rw [hplen] at hp;obtain rfl:p=0:=by simpa using hp
 simp [zev] at hx;subst hx
 rw [AE (by simp)];simp
 intro k hk;exact zpj hk
 simp only [Ah] at h5 h6⊢;have hlt:b<w.heap.size:=by
  rcases Az b w.heap.size with h|h
  exact h
  simp [Ak h] at h2
 have hrow: ∀(j:Nat) (x:Str),l[j]? =some x->rc[off+j]? =some (zbb x):=fun j x hx=>by
  have hj:=zl hx;have hr:off+j<rc.size:=by omega
  have:=h7 j 0 (.str x) (.str x) rc[off+j] (by rw [Ag,hx];rfl) rfl (by simp [Aj hr]);rw [Aj hr,this.str_inv];rfl
 have hcs: ∀(j:Nat) (u:Value),(l.map zbb)[j]? =some u->w.cell? ⟨b,off+j,none⟩=some u:=fun j u hj=>by
  rw [Ag] at hj
  cases hq:l[j]? with
  |none=>rw [hq] at hj;cases hj
  |some x=>rw [hq] at hj;rw [zbF h2,hrow j x hq];exact hj
 have hfz: ∀j,off+j<rc.size->w.frozen? ⟨b,off+j,none⟩=false:=fun j hj=>by
  have:=h3 (off+j) hj;simp only [World.frozen?,h2]
  simpa using this
 have hsome: ∀j,off+j<rc.size->(w.cell? ⟨b,off+j,none⟩).isSome=true:=fun j hj=>by rw [zbF h2,Aj hj];rfl
 have hne:ub≠b:=fun e=>by
  have:=hS.nodup;subst e
  simp [blocks,MObj.blocks] at this
 have inplace: ∀(w':World) (rc':Array Value),w'.heap[b]? =some (.cells rc' el fr)->rc'.size=rc.size->l.length+1<=cap->
  (∀(p:Nat) (x:Str),(zev l i s)[p]? =some x->rc'[off+p]? =some (zbb x))->(∀k,k≠b->w'.heap[k]? =w.heap[k]?)->w'.os=w.os->w'.output=w.output->w'.tape=w.tape->w.drawn<=w'.drawn->
  Sat P I ([.arr (.slice (some ⟨b,off,none⟩) (l.length+1) cap) 1 ((zev l i s).map .str),.obj ub (.cells #[zbb s] el2 (0,0))]++F) w':=fun w' rc' g1 g2 g3 g4 g5 g6 g7 g8 g9=>
  hS.change (m':= .arr (.slice (some ⟨b,off,none⟩) (l.length+1) cap) 1 ((zev l i s).map .str)) (fun k _ hk=>g5 k (by simpa [MObj.blocks] using hk)) (fun k hk=> .inl (by simpa [MObj.blocks] using hk)) (by simp [MObj.blocks])
   (zp0 hplen.symm g1 (by rw [g2];exact h3) ⟨g3,h5.2⟩ (by omega) g4) g6 g7 g8 (fun _=>g9)
 rcases Az i l.length with hin|hin
 rcases Az cap (l.length+1) with hroom|hroom
 
 refine (Any2.slices_Insert_string_grow L b off l.length cap i ub 0 1 1 (l.map zbb) [zbb s] w hin (by omega) h5.1 hroom (by omega) hcl rfl hcs hvs h1c h1v).mono ?_;rintro e w' ⟨rfl,rfl⟩;have hge:=grownCap_ge w (l.length+1) cap (ρ.t 9);have hle:=grownCap_le_maxLen w (l.length+1) cap (ρ.t 9) (by unfold maxLen;omega)
 generalize hG:grownCap w (l.length+1) cap (ρ.t 9)=G at*
 let r0:Array Value:=((l.map zbb).take i).toArray++Builtin.zeroCells (Value.string ⟨#[]⟩).cells (l.length+1-i)++Builtin.zeroCells (Value.string ⟨#[]⟩).cells (G-(l.length+1))
 have hz: ∀k,(Builtin.zeroCells (Value.string ⟨#[]⟩).cells k).size=k:=fun k=>by simp [Builtin.zeroCells,Value.cells]
 have hr0:r0.size=G:=by simp only [r0,Array.size_append,hz];simp;omega
 have ha:(w.alloc (.cells r0 (ρ.t 9))).drew.heap[w.heap.size]? =some (.cells r0 (ρ.t 9) (0,0)):=zpi;obtain ⟨r1,a1,a2,a3,a4,a5,a6,a7,a8,a9⟩:=zdk w.heap.size (ρ.t 9) (0,0) [zbb s] i (w.alloc (.cells r0 (ρ.t 9))).drew r0 ha (by simp only [Ai,AG];omega);obtain ⟨r2,b1,b2,b3,b4,b5,b6,b7,b8,b9⟩:=zdk w.heap.size (ρ.t 9) (0,0) ((l.map zbb).drop i) (i+1) ((w.alloc (.cells r0 (ρ.t 9))).drew.setCells w.heap.size i [zbb s]).drew r1 a1 (by simp;omega);refine ⟨_,.raw _,_,I,rfl,.refl I,⟨_,rfl,rfl⟩,.raw _ rfl,fresh _ r2 _ _ b1 ⟨hge,by unfold maxLen at hle;exact hle⟩ (by omega) (fun p x hx=> ?_) (fun k hk=> ?_) (b6.trans a6) (b7.trans a7) (b8.trans a8) (by rw [b9];exact Ay (Cd a9.symm|>fun h=>Ay (Bt _) h) (Bt _))⟩
 rw [b3,a3];rw [zml hi] at hx;simp only [Bd,Ah,Ai,AG]
 split at hx
 rename_i q
 rw [if_neg (by omega),if_neg (by omega)];have hq:p<((l.map zbb).take i).toArray.size:=by simp;omega
 simp only [r0];rw [Array.append_assoc,AE hq]
 simp [q,hx]
 split at hx
 rename_i q;subst q
 rw [if_neg (by omega),if_pos (by omega)]
 cases hx;simp
 rename_i q1 q2
 have hp:=zl hx;rw [if_pos (by omega),AJ,show i+(p-(i+1))=p-1 by omega,Ag,hx];rfl;rw [b4 k (by omega)];exact (a4 k (by omega)).trans (zpj hk)
 
 refine (Any2.slices_Insert_string_shift L b off l.length cap i ub 0 1 1 (l.map zbb) [zbb s] w hin (by omega) hroom h5.2 hne hcl rfl hcs (fun j hj=>hsome j (by omega)) (fun j hj=>hfz j (by omega)) hvs h1c h1v el2 el 1 rc.size (by simp [World.shape?,hu]) (by simp [World.shape?,h2]) (by omega) (by simp [World.frozen?,hu]) (by simp [World.frozen?,hu])).mono ?_;rintro e w' ⟨rfl,rfl⟩;obtain ⟨r1,a1,a2,a3,a4,a5,a6,a7,a8,a9⟩:=zdk b el fr ((l.map zbb).drop i) (off+(i+1)) w.drew rc h2 (by simp;omega);obtain ⟨r2,b1,b2,b3,b4,b5,b6,b7,b8,b9⟩:=zdk b el fr [zbb s] (off+i) _ r1 a1 (by simp;omega);refine ⟨_,.raw _,_,I,rfl,.refl I,⟨_,rfl,rfl⟩,.raw _ rfl,inplace _ r2 b1 (b2.trans a2) hroom (fun p x hx=> ?_) (fun k hk=>(b4 k hk).trans (a4 k hk)) (b6.trans a6) (b7.trans a7) (b8.trans a8) (by rw [b9,a9];exact Bt _)⟩
 rw [b3,a3];rw [zml hi] at hx;simp only [Bd,Ah,Ai,AG]
 split at hx
 rw [if_neg (by omega),if_neg (by omega)];exact hrow p x hx
 split at hx
 rename_i q;subst q
 rw [if_pos (by omega)]
 cases hx;simp
 have hp:=zl hx;rw [if_neg (by omega),if_pos (by omega),AJ,show i+(off+p-(off+(i+1)))=p-1 by omega,Ag,hx];rfl;obtain rfl:i=l.length:=by omega
 have hput: ∀(p:Nat) (x:Str),(zev l l.length s)[p]? =some x->(p<l.length/\l[p]? =some x)\/p=l.length/\x=s:=fun p x hx=>by
  rw [zml hi] at hx
  split at hx
  rename_i q;exact .inl ⟨q,hx⟩
  split at hx
  rename_i q;exact .inr ⟨q,(Aw hx).symm⟩
  have:=zl hx;omega
 rcases Az cap (l.length+1) with hroom|hroom
 
 refine (Any2.slices_Insert_string_end_grow L (some ⟨b,off,none⟩) l.length cap ub 0 1 1 (l.map zbb) [zbb s] w (by omega) h5.1 hroom (by omega) hcl rfl (fun h=>by cases h) (fun a h j u hj=>by cases h;rw [Addr.add_lit];exact hcs j u hj) hvs h1v).mono ?_;rintro e w' ⟨rfl,rfl⟩;have hge:=grownCap_ge w (l.length+1) cap (ρ.t 9);have hle:=grownCap_le_maxLen w (l.length+1) cap (ρ.t 9) (by unfold maxLen;omega);have hz: ∀k,(Builtin.zeroCells (Value.string ⟨#[]⟩).cells k).size=k:=fun k=>by simp [Builtin.zeroCells,Value.cells]
 refine ⟨_,.raw _,_,I,rfl,.refl I,⟨_,rfl,rfl⟩,.raw _ rfl,fresh _ _ _ _ zpi ⟨hge,by unfold maxLen at hle;exact hle⟩ ?_ ?_ ?_ rfl rfl rfl (Bt _)⟩
 rw [Array.size_append,hz];simp;omega
 intro p x hx
 rw [AE (by simp;rcases hput p x hx with ⟨q,_⟩|⟨q,_⟩<;>omega)]
 rcases hput p x hx with ⟨q,hx⟩|⟨rfl,rfl⟩
 simp only [A6];rw [Aq (by simpa using q),Ag,hx];rfl;simp only [A6];rw [Ap (by simp)];simp
 intro k hk;exact zpj hk
 
 refine (Any2.slices_Insert_string_end_room L b off l.length cap ub 0 1 1 [zbb s] w (by omega) hroom h5.2 rfl (fun j hj=>by rw [AZ];exact hsome _ (by omega)) (fun j hj=>by rw [AZ];exact hfz _ (by omega)) hvs h1v).mono ?_;rintro e w' ⟨rfl,rfl⟩;obtain ⟨r1,a1,a2,a3,a4,a5,a6,a7,a8,a9⟩:=zdk b el fr [zbb s] (off+l.length) w rc h2 (by simp;omega);refine ⟨_,.raw _,_,I,rfl,.refl I,⟨_,rfl,rfl⟩,.raw _ rfl,inplace _ r1 a1 a2 hroom (fun p x hx=> ?_) a4 a6 a7 a8 (by rw [a9];exact Ae _)⟩
 rw [a3]
 rcases hput p x hx with ⟨q,hx⟩|⟨rfl,rfl⟩
 rw [if_neg (by omega)];exact hrow p x hx;rw [if_pos (by simp)];simp
end
section
variable {P:Program}
end
section
open Op
theorem zhh (x y:MoveS):zeL [.int .i64 x.At,.int .i64 x.Kind,.str x.Team,.str x.Player] [.int .i64 y.At,.int .i64 y.Kind,.str y.Team,.str y.Player]=true↔x=y:=by
 obtain ⟨a1,a2,a3,a4⟩:=x;obtain ⟨b1,b2,b3,b4⟩:=y
 show (_&&(_&&(_&&(_&&true))))=true↔_
 simp [eqH]
instance decMoveS:DecidableEq MoveS:=fun x y=>decidable_of_iff _ (zhh x y)
theorem zi7:Cmp zfw fun _=>True:=by
 have h:=zdi (ze8 MoveS.At) (zdi (zfW MoveS.Team) (zdi (zfW MoveS.Player) (ze8 MoveS.Kind)));have e:zfw=fun a b=>if zY a.At b.At≠0 then zY a.At b.At else if zU a.Team b.Team≠0 then zU a.Team b.Team else if zU a.Player b.Player≠0 then zU a.Player b.Player else zY a.Kind b.Kind:=by
  funext a b;unfold zfw;rw [zd7,zd7,zeR]
 rw [e];exact h
theorem zpz:Cmp zi5 fun _=>True:=by
 have h:=zdi (zfW ChoiceS.Team) (zdi (ze8 ChoiceS.Week) (ze8 ChoiceS.At));have e:zi5=fun a b=>if zU a.Team b.Team≠0 then zU a.Team b.Team else if zY a.Week b.Week≠0 then zY a.Week b.Week else zY a.At b.At:=by
  funext a b;unfold zi5;rw [zd7,zeR]
 rw [e];exact h
theorem zi6:Cmp ze2 fun _=>True:=by
 have h:=zdi (ze8 GameS.Week) (zdi (zfW GameS.Home) (zfW GameS.Away));have e:ze2=fun a b=>if zY a.Week b.Week≠0 then zY a.Week b.Week else if zU a.Home b.Home≠0 then zU a.Home b.Home else zU a.Away b.Away:=by
  funext a b;unfold ze2;rw [zd7,zeR]
 rw [e];exact h
end
section
open Op
def zgl (s l:Str):Bool:=s.all fun c=>decide (0<=Lib.indexByte l c)
theorem zux (c:UInt8):decide (0<=Lib.indexByte zfy c)=zfC c:=by
 have:=zq9 (p:=fun c=>decide (0<=Lib.indexByte zfy c)==zfC c) (by kernel_rfl) c
 simpa using this
theorem zvM (s:Str):key s=((!(out s.length 1 40)&&zgl (s.take 1) zim)&&zgl s zfy):=by
 unfold zgl;have:(fun c=>decide (0<=Lib.indexByte zfy c))=zfC:=funext zux;rw [this];unfold key zjj
 cases s with
 |nil=>simp [out]
 |cons x r=>
   simp only [BR,List.take_zero,BP,List.all_nil,Bool.and_true,List.headD_cons];rw [zoF];have h1:(!(out ((x::r).length:Int) 1 40))=decide ((x::r).length<=40):=by
    simp only [out,Ai];rw [AL];simp;omega
   rw [h1];have h2:((x::r) !=[])=true:=rfl;rw [h2];have hb: ∀a c d b:Bool,(true&&a&&c&&d&&b)=(a&&(c&&d)&&b):=by decide
   exact hb _ _ _ _
theorem zph (l:List Str):zgO l=if l.length=0 then 8 else if 10<l.length then 2 else zdm l:=rfl
def zmI {α:Type} (f:α->Str) (d:α) (l:List α) (k:Nat):Str:=if k=0 then [] else f (l.getD (k-1) d)
theorem zsO {α:Type} {f:α->Str} {d:α} {l:List α} {k:Nat} {x:α} (hx:key (f x)=true):(leB (f x) (zmI f d l k)=true)↔(0<k/\leB (f x) (f (l.getD (k-1) d))=true):=by
 unfold zmI
 by_cases h:k=0
 subst h;rw [if_pos rfl,zxJ hx];simp;rw [if_neg h]
 constructor
 intro q;exact ⟨by omega,q⟩
 intro q;exact q.2
theorem zpV {α:Type} {f:α->Str} {d:α} {l:List α} {k:Nat} {x:α} (hx:l[k]? =some x):zmI f d l (k+1)=f x:=by
 unfold zmI;rw [if_neg (by omega),Nat.add_sub_cancel,Af,hx];rfl
theorem zfN {a b:Int}:zk3 (a-b)=zY a b:=zwf
theorem zkr {a b:MoveS}:zfw a b=if a.At≠b.At then zY a.At b.At else if a.Team≠b.Team then zU a.Team b.Team else if a.Player≠b.Player then zU a.Player b.Player else zY a.Kind b.Kind:=by
 unfold zfw;rw [zd7,zd7,zeR];have e1:zY a.At b.At≠0↔a.At≠b.At:=not_congr zcT;have e2:zU a.Team b.Team≠0↔a.Team≠b.Team:=not_congr zcq;have e3:zU a.Player b.Player≠0↔a.Player≠b.Player:=not_congr zcq;simp only [e1,e2,e3]
theorem znk {a b:GameS}:ze2 a b=if a.Week≠b.Week then zY a.Week b.Week else if a.Home≠b.Home then zU a.Home b.Home else zU a.Away b.Away:=by
 unfold ze2;rw [zd7,zeR];have e1:zY a.Week b.Week≠0↔a.Week≠b.Week:=not_congr zcT;have e2:zU a.Home b.Home≠0↔a.Home≠b.Home:=not_congr zcq;simp only [e1,e2]
theorem zvT {x p:MoveS}:(0<=zfw p x)↔zfw x p<=0:=by
 have f1:=zi7.flip p x trivial trivial;have f2:=zi7.flip x p trivial trivial
 omega
theorem zvD {x p:GameS}:(0<=ze2 p x)↔ze2 x p<=0:=by
 have f1:=zi6.flip p x trivial trivial;have f2:=zi6.flip x p trivial trivial
 omega
theorem zvu {x p:ChoiceS}:(0<=zi5 p x)↔zi5 x p<=0:=by
 have f1:=zpz.flip p x trivial trivial;have f2:=zpz.flip x p trivial trivial
 omega
def zmv (a b:Int):List Int->Int
 |[]=>0
 |e::r=>if a=e\/b=e then e else zmv a b r
def zwk (a b:Int):Int:=zmv a b [3,1]
theorem zra {n d m:Int}:zcA n d m=0\/zcA n d m=1\/zcA n d m=3:=by
 unfold zcA;split
 omega
 split<;>omega
theorem zvC {x:GameS} (h:x.Played=true):zge x=zwk (zcA x.FNum x.FDen 1000000) (zcA x.ONum x.ODen 1000000):=by
 unfold zge zwk;rw [if_neg (by rw [h];simp),zmv,zmv,zmv];have h1:=zra (n:=x.FNum) (d:=x.FDen) (m:=1000000);have h2:=zra (n:=x.ONum) (d:=x.ODen) (m:=1000000)
 split
 rfl
 rename_i h3
 rw [zeR]
 (repeat' split)<;>omega
theorem zwh {a b:Int}:Nat.gcd b.natAbs (a.tmod b).natAbs=Nat.gcd a.natAbs b.natAbs:=by
 rw [Int.natAbs_tmod];exact zpL
theorem zr3 {a b:Int} (hb:b≠0): -b.natAbs<a.tmod b/\a.tmod b<b.natAbs/\(a.tmod b).natAbs<b.natAbs:=by
 have h:=BO a.natAbs (show 0<b.natAbs by omega);rw [<-Int.natAbs_tmod] at h
 omega
theorem zyJ {l:Str} {x:UInt8} {r:Str} (h:Lib.indexByte l x<0):zgl (x::r) l=false:=by
 unfold zgl;rw [BP];have:decide (0<=Lib.indexByte l x)=false:=by simpa using h
 rw [this];rfl
theorem zyK {l:Str} {x:UInt8} {r:Str} (h:0<=Lib.indexByte l x):zgl (x::r) l=zgl r l:=by
 unfold zgl;rw [BP];have:decide (0<=Lib.indexByte l x)=true:=by simpa using h
 rw [this];rfl
theorem pts3 {n d:Int} (h:d<1\/¬((Nat.gcd n.natAbs d.natAbs:Nat):Int)=1):d<1\/znx n d=false:=by
 rcases h with h|h
 exact .inl h;refine .inr ?_;unfold znx;rw [beq_eq_false_iff_ne]
 intro e;rw [e] at h;exact h rfl
theorem pts0 {n d:Int} (h:((Nat.gcd n.natAbs d.natAbs:Nat):Int)=1):znx n d=true:=by
 unfold znx;rw [beq_iff_eq];omega
theorem pts1 {n d m:Int} (h:(¬Int.tmod 100 d=0\/n< -m*d)\/m*d<n):Int.tmod 100 d≠0\/out n (-m*d) (m*d)=true:=by
 have e: -m*d= -(m*d):=Int.neg_mul _ _;rw [e] at h⊢
 rcases h with (h|h)|h
 exact .inl h;refine .inr ?_;simp [out];omega
 refine .inr ?_;simp [out];omega
theorem pts2 {n d m:Int} (h:(Int.tmod 100 d=0/\ -m*d<=n)/\n<=m*d): ¬(Int.tmod 100 d≠0\/out n (-m*d) (m*d)=true):=by
 have e: -m*d= -(m*d):=Int.neg_mul _ _;rw [e] at h⊢;obtain ⟨⟨h1,h2⟩,h3⟩:=h;rintro (q|q);exact q h1
 simp [out] at q;omega
theorem zvH {f t:Int} (h:out f 1 (t-1)=true\/61<t):out t 2 61=true\/out f 1 (t-1)=true:=by
 rcases h with h|h
 exact .inr h;refine .inl ?_;simp [out];omega
theorem zvG {f t:Int} (h:out f 1 (t-1)=false/\t<=61): ¬(out t 2 61=true\/out f 1 (t-1)=true):=by
 rintro (q|q);have h1:=h.1
 simp [out] at q h1;omega
 rw [h.1] at q;cases q
theorem zyz {k:Int} (h: ¬k=1/\¬k=2):out k 1 2=true:=by simp [out];omega
theorem zyy {k:Int} (h: ¬k=1->k=2):out k 1 2=false:=by simp [out];omega
structure MovB (x:MoveS):Prop where
 at': -1000000000000000<=x.At/\x.At<=1000000000000000
 kind: -1000000000000000<=x.Kind/\x.Kind<=1000000000000000
structure GamB (x:GameS):Prop where
 week: -1000000000000000<=x.Week/\x.Week<=1000000000000000
 fr:(-1000000000<=x.FNum/\x.FNum<=1000000000)/\ -1000000000<=x.FDen/\x.FDen<=1000000000
 ot:(-1000000000<=x.ONum/\x.ONum<=1000000000)/\ -1000000000<=x.ODen/\x.ODen<=1000000000
end
section

end
section
def znl (a b:Of2):Int:=orI [zU a.1 b.1,zU a.2 b.2]
theorem zxl (a b:Of2):znl a b=if zU a.1 b.1≠0 then zU a.1 b.1 else zU a.2 b.2:=by unfold znl;rw [zeR]
theorem zup (a b:Of2):znl a b= -znl b a:=by
 unfold znl;rw [zeI a.1,zeI a.2,zrL]
theorem zvp:Cmp znl (fun _=>True) where
 flip x y _ _:=by rw [zup x y];omega
 trans x y z _ _ _ h1 h2:=by
  rw [zxl] at*;have k1:zU x.1 y.1<=0:=by split at h1<;>omega
  have k2:zU y.1 z.1<=0:=by split at h2<;>omega
  have k3:=zhO k1 k2
  split
  exact k3
  rename_i hz
  have hz':zU x.1 z.1=0:=by simpa using hz
  obtain ⟨e1,e2⟩:=zqw k1 k2 hz';rw [if_neg (by simp [e1])] at h1;rw [if_neg (by simp [e2])] at h2;exact zhO h1 h2
def OLt (a b:Of2):Prop:=znl a b<0
structure DisS where
 S:List Str
 c:List ((Str×Of2)×Int)
def zrr (p:Play):Str×Of2:=(p.Source,(p.Player,p.Stat))
def zyo (q:DisS) (p:Play):List ((Str×Of2)×Int):=zA (zrr p) ((alk (zrr p) q.c).getD 0+p.Count) q.c
end
section
section
variable {κ:Type}
abbrev GrM (κ:Type):=List (Str×(Nat×List (κ×Int)))
end
end
section
theorem zkm {α:Type} {s:Str} {v:α}: ∀{G:List (Str×α)},(zA s v G).map (·.1)=zcj s (G.map (·.1))
 |[]=>by simp [zA,zcj]
 |p::r=>by
   have ih:=zkm (s:=s) (v:=v) (G:=r);simp only [zA]
   by_cases h:s=p.1
   rw [if_pos h];unfold zcj;rw [if_pos (by simp [h])]
   simp [h]
   rw [if_neg h,Ar,ih];unfold zcj
   by_cases hc:(r.map (·.1)).contains s=true
   rw [if_pos hc,if_pos (by simp at hc⊢;exact .inr hc)];rfl;rw [if_neg hc,if_neg (by simp at hc⊢;exact ⟨h,hc⟩)];rfl
theorem zlz {α:Type} {s:Str} {v:α} {p:Str×α}: ∀{G:List (Str×α)},ANodup G->p∈zA s v G->p=(s,v)\/(p∈G/\p.1≠s)
 |[],_,h=>by simp [zA] at h;exact .inl h
 |q::r,hn,h=>by
   have h1:=List.nodup_cons.1 hn;simp only [zA] at h
   by_cases hs:s=q.1
   rw [if_pos hs] at h
   rcases List.mem_cons.1 h with h|h
   exact .inl h;refine .inr ⟨Au _ h,fun e=>h1.1 ?_⟩
   show q.1∈r.map (·.1)
   rw [<-hs,<-e];exact BC h;rw [if_neg hs] at h
   rcases List.mem_cons.1 h with h|h
   subst h;exact .inr ⟨by simp,fun e=>hs e.symm⟩
   rcases zlz h1.2 h with e|e
   exact .inl e;exact .inr ⟨Au _ e.1,e.2⟩
section
variable {κ:Type}
structure GrOk (S:List Str) (c:List ((Str×κ)×Int)) (G:GrM κ):Prop where
 keys:G.map (·.1)=S
 nodup:S.Nodup
 val: ∀p∈G,p.2.2=zcn c p.1
 inS: ∀e∈c,e.1.1∈S
theorem GrOk.anodup {S:List Str} {c:List ((Str×κ)×Int)} {G:GrM κ} (h:GrOk S c G):ANodup G:=by unfold ANodup;rw [h.keys];exact h.nodup
theorem GrOk.nil:GrOk ([]:List Str) ([]:List ((Str×κ)×Int)) []:=⟨rfl,Bv,(fun p h=>by cases h),(fun e h=>by cases h)⟩
theorem GrOk.get {S:List Str} {c:List ((Str×κ)×Int)} {G:GrM κ} (h:GrOk S c G) {s:Str} {b:Nat} {L:List (κ×Int)} (hq:alk s G=some (b,L)):L=zcn c s:=h.val _ (zbt hq)
theorem GrOk.none {S:List Str} {c:List ((Str×κ)×Int)} {G:GrM κ} (h:GrOk S c G) {s:Str}:alk s G=none↔s∉S:=by rw [zex,h.keys]
theorem zuM {S:List Str} {c:List ((Str×κ)×Int)} {s:Str} (h: ∀e∈c,e.1.1∈S) (hs:s∉S):zcn c s=[]:=by
 unfold zcn;rw [List.map_eq_nil_iff,List.filter_eq_nil_iff]
 intro e he hq
 exact hs ((eq_of_beq hq)▸h e he)
theorem GrOk.add {S:List Str} {c:List ((Str×κ)×Int)} {G:GrM κ} (h:GrOk S c G) {s:Str} (b:Nat) (hs:alk s G=Option.none):GrOk (zcj s S) c (zA s (b,[]) G):=by
 have hn:=h.none.1 hs;refine ⟨by rw [zkm,h.keys],zh7 h.nodup,fun p hp=> ?_,fun e he=>zkV.2 (.inr (h.inS e he))⟩
 rcases zlz h.anodup hp with rfl|⟨hp,_⟩
 exact (zuM h.inS hn).symm;exact h.val p hp
variable [DecidableEq κ]
theorem GrOk.put {S:List Str} {c:List ((Str×κ)×Int)} {G:GrM κ} (h:GrOk S c G) {s:Str} {b:Nat} {L:List (κ×Int)} (hq:alk s G=some (b,L)) (k:κ) (v:Int):GrOk S (zA (s,k) v c) (zA s (b,zA k v L) G):=by
 have hs:s∈S:=by
  refine Decidable.not_not.1 fun hn=> ?_
  have:=h.none.2 hn;rw [this] at hq;cases hq
 refine ⟨?_,h.nodup,fun p hp=> ?_,fun e he=> ?_⟩
 rw [zkm,h.keys];unfold zcj;rw [if_pos (by simpa using hs)];rw [zpR]
 rcases zlz h.anodup hp with rfl|⟨hp,hne⟩
 rw [if_pos rfl,<-h.get hq];rw [if_neg hne];exact h.val p hp
 rcases zcG he with rfl|he
 exact hs;exact h.inS e he
end
end
section

end
section
def zd9 (p:Option Of2):List Of2->List Of2
 |[]=>[]
 |x::r=>if p=some x then zd9 (some x) r else x::zd9 (some x) r
theorem OLt.trans {a b c:Of2} (h1:OLt a b) (h2:OLt b c):OLt a c:=zvp.lt_trans trivial trivial trivial h1 h2
end
section
def zAL (l:List Play) (trust:List Str) (n:Int) (x:Play):Bool:=decide (zmQ l trust n x.Match=some x.Source)
def kept (l:List Play) (trust:List Str) (n:Int):List Play:=l.filter (zAL l trust n)
end
section
structure ChkIs (q:ChkS) (l:List Play):Prop where
 sn:q.S.Nodup
 s: ∀s,s∈q.S↔∃x∈l,x.Source=s
 wn:ANodup q.W
 w: ∀m,m∈q.W.map (·.1)↔∃x∈l,x.Match=m
 wv: ∀m v,alk m q.W=some v->∃x∈l,x.Match=m/\x.Week=v
 c:q.c=false↔∀x∈l,∀y∈l,x.Match=y.Match->x.Week=y.Week
theorem ChkIs.step {q:ChkS} {l:List Play} (h:ChkIs q l) (p:Play):ChkIs (zgH q p) (l++[p]) where
 sn:=zh7 h.sn
 s s:=by
  show s∈zcj p.Source q.S↔_
  rw [zkV,h.s]
  constructor
  rintro (rfl|⟨x,hx,e⟩);exact ⟨p,by simp,rfl⟩;exact ⟨x,Al _ hx,e⟩;rintro ⟨x,hx,e⟩
  rcases List.mem_append.1 hx with hx|hx
  exact .inr ⟨x,hx,e⟩;rw [List.mem_singleton.1 hx] at e;exact .inl e.symm
 wn:=h.wn.put
 w m:=by
  show m∈(zA p.Match p.Week q.W).map (·.1)↔_
  rw [zly,h.w]
  constructor
  rintro (rfl|⟨x,hx,e⟩);exact ⟨p,by simp,rfl⟩;exact ⟨x,Al _ hx,e⟩;rintro ⟨x,hx,e⟩
  rcases List.mem_append.1 hx with hx|hx
  exact .inr ⟨x,hx,e⟩;rw [List.mem_singleton.1 hx] at e;exact .inl e.symm
 wv m v hv:=by
  have hv':alk m (zA p.Match p.Week q.W)=some v:=hv;rw [zcX] at hv'
  by_cases e:m=p.Match
  rw [if_pos e] at hv';cases hv';exact ⟨p,by simp,e.symm,rfl⟩;rw [if_neg e] at hv';obtain ⟨x,hx,e1⟩:=h.wv m v hv';exact ⟨x,Al _ hx,e1⟩
 c:=by
  show (q.c||((alk p.Match q.W).isSome&&((alk p.Match q.W).getD 0 !=p.Week)))=false↔_
  rw [BM,h.c]
  constructor
  rintro ⟨h1,h2⟩;have hp: ∀x∈l,x.Match=p.Match->x.Week=p.Week:=fun x hx e=>by
   have hk:p.Match∈q.W.map (·.1):=(h.w _).2 ⟨x,hx,e⟩;have hne: ¬alk p.Match q.W=none:=by rw [zex];exact fun z=>z hk
   obtain ⟨v,hv⟩:=Option.ne_none_iff_exists'.1 hne;rw [hv] at h2
   simp at h2
   obtain ⟨y,hy,e1,e2⟩:=h.wv _ _ hv;rw [h1 x hx y hy (by rw [e,e1]),e2,h2]
  intro x hx y hy e
  rcases List.mem_append.1 hx with hx|hx<;>rcases List.mem_append.1 hy with hy|hy
  exact h1 x hx y hy e;rw [List.mem_singleton.1 hy] at e⊢;exact hp x hx e;rw [List.mem_singleton.1 hx] at e⊢;exact (hp y hy e.symm).symm;rw [List.mem_singleton.1 hx,List.mem_singleton.1 hy]
  intro hall
  refine ⟨fun x hx y hy e=>hall x (Al _ hx) y (Al _ hy) e,?_⟩
  cases hv:alk p.Match q.W with
  |none=>rfl
  |some v=>
    obtain ⟨y,hy,e1,e2⟩:=h.wv _ _ hv;have:=hall y (Al _ hy) p (by simp) e1
    simp
    rw [<-e2,this]
theorem zym (l:List Play):ChkIs (za4 l) l:=by
 have key: ∀k,k<=l.length->ChkIs (za4 (l.take k)) (l.take k):=by
  intro k
  induction k with
  |zero=>
    intro _
    refine ⟨Bv,fun s=> ?_,ANodup.nil,fun m=> ?_,fun m v hv=> ?_,?_⟩
    simp [za4]
    simp [za4]
    simp [za4,alk] at hv
    simp [za4]
  |succ k ih=>
    intro hk
    have hx:=Aa (l:=l) (i:=k) (by omega);rw [zd5 hx,zaj hx];exact (ih (by omega)).step _
 have:=key l.length (Ae _)
 rwa [An] at this
end
section
theorem zyS {p:Play} (h:playFault p=0):1<=p.Week:=by
 have h1:=(zeS h).2.2.2.1;unfold zbd at h1;have:=zeu (n:=p.Week) (lo:=1) (hi:=60) (by simpa using h1)
 omega
theorem zxn {l:List Play} (hok: ∀y∈l,playFault y=0) {m:Str} {v:Int} (h:alk m (za4 l).W=some v):1<=v:=by
 obtain ⟨x,hx,_,rfl⟩:=(zym l).wv m v h;exact zyS (hok x hx)
theorem zxo {l:List Play} (hok: ∀y∈l,playFault y=0) (p:Play):
 ((za4 l).c||((alk p.Match (za4 l).W).getD 0 !=0&&(alk p.Match (za4 l).W).getD 0 !=p.Week))=(zgH (za4 l) p).c:=by
 unfold zgH
 dsimp only
 cases h:alk p.Match (za4 l).W with
 |none=>simp
 |some v=>
   have:=zxn hok h;have h0:(v !=0)=true:=by simp;omega
   simp [h0]
/-! statistics-/
def zpm (E:List (Str×Int)):List StatS:=(E.filter fun e=>e.2 !=0).map fun e=>⟨e.1,e.2⟩
end
section
def zcu (x:Play):Prop:=Sh x.Source/\Sh x.Match/\Sh x.Player/\Sh x.Stat
structure GoodPl (k:List Play):Prop where
 len:k.length<=15
 all: ∀x∈k,zcu x
structure GoodTr (t:List Str):Prop where
 len:t.length<=4
 all: ∀s∈t,Sh s
def zfk:List Str:=[[102,97],[102,98],[102,99]]
theorem zkh: ∀s∈zfk,Sh s:=fun s hs=>by simp [zfk] at hs;rcases hs with rfl|rfl|rfl<;>(unfold Sh;simp)
def zld:List Int:=[1,1,2]
def zee:List Str:=[[109,97],[109,98],[109,99]]
theorem zjm (k:Nat):Sh (zee.getD k []):=by
 match k with
 |0=>unfold Sh;simp [zee]
 |1=>unfold Sh;simp [zee]
 |2=>unfold Sh;simp [zee]
 |n+3=>unfold Sh;simp [zee]
theorem zqz {l:List Int} {z:Int}:l.contains z=l.any (· ==z):=by
 rw [AL,B8,B5]
 constructor
 intro h;exact ⟨z,h,by simp⟩
 rintro ⟨y,hy,e⟩;rw [beq_iff_eq] at e;exact e▸hy
end
section
section
variable {κ:Type} [DecidableEq κ] {β:Type}
end
section
variable {P:Program} {e:Env} {κ:Type} [DecidableEq κ] {β:Type} {eb:β->HVal}
end
end
section
/-! lines by their places,with mends-/
abbrev GrS:=List (Plc×List StatS)
def ztM (x:MendS) (l:List StatS):List StatS:=l.filter fun s=> !(s.Name==x.Stat)
def zjn (x:MendS) (l:List StatS):List StatS:=ztM x l++if x.Count≠0 then [⟨x.Stat,x.Count⟩] else []
def zhn (n:Int) (G:GrS) (x:MendS):GrS:=if n<x.At then G else zA (x.Player,x.Week) (zjn x ((alk (x.Player,x.Week) G).getD [])) G
def GLen (b:Nat) (G:GrS):Prop:= ∀q∈G,q.2.length<=b
theorem GLen.put {b:Nat} {G:GrS} {p:Plc} {l:List StatS} (h:GLen b G) (hl:l.length<=b):GLen b (zA p l G):=fun q hq=>by
 rcases zcG hq with rfl|hq
 exact hl;exact h q hq
theorem GLen.get {b:Nat} {G:GrS} (h:GLen b G) (p:Plc):((alk p G).getD []).length<=b:=by
 cases hq:alk p G with
 |none=>simp
 |some l=>exact h _ (zbt hq)
theorem GLen.up {b c:Nat} {G:GrS} (h:GLen b G) (hb:b<=c):GLen c G:=fun q hq=>Ay (h q hq) hb
theorem zuU (x:MendS) (l:List StatS):(ztM x l).length<=l.length:=AU _ _
theorem zuV (x:MendS) (l:List StatS):(zjn x l).length<=l.length+1:=by
 have:=zuU x l;unfold zjn;rw [AA];split;simp only [Ai,AG];omega;simp only [AG];omega
theorem GLen.step {b:Nat} {n:Int} {G:GrS} {x:MendS} (h:GLen b G):GLen (b+1) (zhn n G x):=by
 unfold zhn;split;exact h.up (by omega);refine (h.up (by omega)).put ?_;have h1:=zuV x ((alk (x.Player,x.Week) G).getD []);have h2:=h.get (x.Player,x.Week)
 omega
def GNm (G:GrS):Prop:= ∀q∈G,(q.2.map (·.Name)).Nodup
theorem GNm.put {G:GrS} {p:Plc} {l:List StatS} (h:GNm G) (hl:(l.map (·.Name)).Nodup):GNm (zA p l G):=fun q hq=>by
 rcases zcG hq with rfl|hq
 exact hl;exact h q hq
theorem GNm.get {G:GrS} (h:GNm G) (p:Plc):(((alk p G).getD []).map (·.Name)).Nodup:=by
 cases hq:alk p G with
 |none=>exact Bv
 |some l=>exact h _ (zbt hq)
theorem zm8 {x:MendS} {l:List StatS} (h:(l.map (·.Name)).Nodup):((zjn x l).map (·.Name)).Nodup:=by
 have h1:((ztM x l).map (·.Name)).Nodup:=h.sublist ((List.filter_sublist).map _);unfold zjn
 split
 rw [AB];refine List.nodup_append.2 ⟨h1,by simp,fun a ha b hb=> ?_⟩
 simp at hb;subst hb
 obtain ⟨s,hs,rfl⟩:=List.mem_map.1 ha;have:=(List.mem_filter.1 hs).2
 simpa using this
 rw [A9];exact h1
theorem GNm.step {n:Int} {G:GrS} {x:MendS} (h:GNm G):GNm (zhn n G x):=by
 unfold zhn;split;exact h;exact h.put (zm8 (h.get _))
theorem zxO {l:List StatS} (h:(l.map (·.Name)).Nodup) {x y:StatS} (hx:x∈l) (hy:y∈l) (e:x.Name=y.Name):x=y:=by
 obtain ⟨i,hi⟩:=Bg hx;obtain ⟨j,hj⟩:=Bg hy;have:=zny h (a:=x.Name) (i:=i) (j:=j) (by rw [Ag,hi];rfl) (by rw [Ag,hj,e];rfl);rw [this,hj] at hi;exact (Aw hi).symm
theorem or2z {a b:Int} (h:orI [a,b]=0):a=0/\b=0:=by rw [zeR] at h;exact zxU h
def zpf {κ α:Type} [DecidableEq κ] (D S:List (κ×α)):List (κ×α):=S.foldl (fun C p=>zA p.1 p.2 C) D
theorem zol {κ α:Type} [DecidableEq κ]: ∀{S D:List (κ×α)},ANodup D->ANodup (zpf D S)
 |[],_,h=>h
 |p::r,D,h=>zol (S:=r) (D:=zA p.1 p.2 D) h.put
end
section
/-! one list of statistics by name-/
abbrev stA (l:List StatS):List (Str×Int):=l.map fun s=>(s.Name,s.Count)
def sv (l:List StatS) (s:Str):Int:=(alk s (stA l)).getD 0
structure StOk (l:List StatS):Prop where
 nd:(l.map (·.Name)).Nodup
 nz: ∀x∈l,x.Count≠0
theorem zqd {l:List StatS} (h:(l.map (·.Name)).Nodup):ANodup (stA l):=by
 unfold ANodup;rw [AX];exact h
theorem StOk.nodup {l:List StatS} (h:StOk l):l.Nodup:=(List.pairwise_map.1 h.nd).imp fun h e=>h (congrArg _ e)
theorem zyh {l l':List StatS} (h:(l'.map (·.Name)).Nodup) (hp:l.Perm l') (s:Str):sv l s=sv l' s:=by
 unfold sv;rw [zq8 (hp.map _) (zqd h)]
theorem StOk.sort {l:List StatS} (h:StOk l):StOk (zal zey l) where
 nd:=((zbK zey l).map _).nodup_iff.2 h.nd
 nz x hx:=h.nz x ((zmd _).1 hx)
theorem StOk.put {x:MendS} {l:List StatS} (h:StOk l):StOk (zjn x l) where
 nd:=zm8 h.nd
 nz y hy:=by
  unfold zjn at hy
  rcases List.mem_append.1 hy with hy|hy
  exact h.nz y (List.mem_filter.1 hy).1
  split at hy
  rename_i hc;rw [List.mem_singleton.1 hy];exact hc
  cases hy
theorem StOk.nil:StOk []:=⟨Bv,fun x h=>by cases h⟩
/-! all lists by place-/
structure GSOk (G:GrS):Prop where
 nd:ANodup G
 ok: ∀q∈G,StOk q.2
theorem GSOk.get {G:GrS} (h:GSOk G) (p:Plc):StOk ((alk p G).getD []):=by
 cases hq:alk p G with
 |none=>exact StOk.nil
 |some l=>exact h.ok _ (zbt hq)
theorem GSOk.step {n:Int} {G:GrS} {x:MendS} (h:GSOk G):GSOk (zhn n G x):=by
 unfold zhn;split;exact h;refine ⟨h.nd.put,fun q hq=> ?_⟩
 rcases zcG hq with rfl|hq
 exact (h.get _).put;exact h.ok q hq
structure GVal (G:GrS):Prop where
 pl: ∀q∈G,key q.1.1=true/\zbd q.1.2=true
 st: ∀q∈G,∀s∈q.2,key s.Name=true/\(-100000<=s.Count/\s.Count<=100000)
theorem GVal.step {n:Int} {G:GrS} {x:MendS} (h:GVal G) (hx:zaH x=0):GVal (zhn n G x):=by
 obtain ⟨k1,k2,k3,k4,_⟩:=zrF hx;unfold zhn;split;exact h;refine ⟨fun q hq=> ?_,fun q hq s hs=> ?_⟩
 rcases zcG hq with rfl|hq
 exact ⟨k1,k3⟩;exact h.pl q hq
 rcases zcG hq with rfl|hq
 unfold zjn at hs
 rcases List.mem_append.1 hs with hs|hs
 have h1:=(List.mem_filter.1 hs).1
 cases ha:alk (x.Player,x.Week) G with
 |none=>rw [ha] at h1;cases h1
 |some l=>rw [ha] at h1;exact h.st _ (zbt ha) s h1
 split at hs
 rw [List.mem_singleton.1 hs];exact ⟨k2,k4⟩
 cases hs
 exact h.st q hq s hs
end
section
/-! mends as they are made up-/
def zfZ (x:MendS):Prop:=Sh x.Player/\Sh x.Stat/\Sh x.By
structure GoodMds (k:List MendS):Prop where
 len:k.length<=24
 all: ∀x∈k,zfZ x
def mp3:List Str:=[[97,110,110],[98,101,97],[122,111,101]]
def ms2:List Str:=[[103,111,97,108],[112,97,115,115]]
theorem zyE: ∀s∈mp3,Sh s:=fun s hs=>by
 simp [mp3] at hs;rcases hs with rfl|rfl|rfl<;>(unfold Sh;simp)
theorem zyF: ∀s∈ms2,Sh s:=fun s hs=>by
 simp [ms2] at hs;rcases hs with rfl|rfl<;>(unfold Sh;simp)
theorem GLok.mono {α:Type} {P:α->Prop} {n n' m m':Nat} {q:GL α} (h:GLok P n m q) (hn:n<=n') (hm:m<=m'):GLok P n' m' q:=⟨Ay h.len hn,h.all,Ay h.a hm⟩
/-! the lines of plays,with mends-/
end
section
open Op
structure BookC (b:BookS):Prop where
 bb:BookB b
 gw: ∀x∈b.League.Games,GamB x
 mb: ∀x∈b.Moves,MovB x
 hw: ∀x∈b.Health,-1000000000000000<=x.To/\x.To<=1000000000000000
 tr: ∀s∈b.League.Trust,Sh s
 pg: ∀x∈b.Plays,zcu x
 mg: ∀x∈b.Mends,zfZ x
 cs: ∀x∈b.Choices,(∀s∈x.Players,Sh s)/\Sh x.Captain
 l1:b.Moves.length<=100
 l2:b.Plays.length<=50
 l3:b.Mends.length<=50
 l4:b.Health.length<=10
 l5:b.Choices.length<=100
 tt:HasAB b.League.Teams
theorem zuX {s:Str}:(!(zby s))=(s !=[]&& !(key s)):=by
 unfold zby
 cases s with
 |nil=>rfl
 |cons x r=>cases key (x::r)<;>rfl
theorem zuY {l:List Str} {s:Str}:((l++[s]).all zby)= !((l.any fun x=> !(zby x))|| !(zby s)):=by
 rw [List.all_append,BP,List.all_nil,Bool.and_true,Bool.not_or,Bool.not_not,List.all_eq_not_any_not]
theorem zso {l:List Str} {c:Str} (h:(∃s,s∈l/\zby s=false)\/zby c=false):((l++[c]).all zby)=false:=by
 rcases h with ⟨s,hs,e⟩|e
 exact List.all_eq_false.2 ⟨s,Al _ hs,by rw [e];simp⟩;exact List.all_eq_false.2 ⟨c,Bo _ (List.mem_singleton.2 rfl),by rw [e];simp⟩
end
section
open Op
theorem ztd:Cmp (fun x y:{m:MoveS//MovB m}=>zfw x.1 y.1) fun _=>True where
 flip x y _ _:=zi7.flip x.1 y.1 trivial trivial
 trans x y z _ _ _ h1 h2:=zi7.trans x.1 y.1 z.1 trivial trivial trivial h1 h2
theorem ztc:Cmp (fun x y:{m:GameS//GamB m}=>ze2 x.1 y.1) fun _=>True where
 flip x y _ _:=zi6.flip x.1 y.1 trivial trivial
 trans x y z _ _ _ h1 h2:=zi6.trans x.1 y.1 z.1 trivial trivial trivial h1 h2
theorem zko {α:Type} {p:α->Prop} {l:List α} (h: ∀x∈l,p x):(l.attachWith p h).map Subtype.val=l:=by simp
theorem znN {α β:Type} {p:α->Prop} {l:List α} (h: ∀x∈l,p x) (f:α->β):(l.attachWith p h).map (fun x=>f x.1)=l.map f:=by
 have e:(l.attachWith p h).map (fun x=>f x.1)=((l.attachWith p h).map Subtype.val).map f:=by rw [AX];rfl
 rw [e,zko]
end
section
open Go
structure RosS where
 P:List (Str×List Str)
 H:List (Str×List Str)
 O:List (Str×Str)
 D:List (Str×Int)
 A:List ((Str×Int)×Int)
def zpo:RosS:=⟨[],[],[],[],[]⟩
def zeO (l:List Str) (s:Str):List Str:=l.take (zdb l s)++s::l.drop (zdb l s)
def zgN (l:List Str) (s:Str):List Str:=l.filter fun x=> !(x==s)
def rPl (k:RosS) (t:Str):List Str:=(alk t k.P).getD []
def rHu (k:RosS) (t:Str):List Str:=(alk t k.H).getD []
def zaK (k:RosS) (p:Str):Str:=(alk p k.O).getD []
def zjq (b:BoundS) (k:RosS) (p:Str) (n:Int):Bool:=match alk p k.D with|some d=>decide (n-d<b.Hold)|none=>false
def zaV (k:RosS) (w:Str×Int):Int:=(alk w k.A).getD 0
def zdg (b:BoundS) (k:RosS) (x:MoveS):Int:=
 if x.Kind=1 then
  if zaK k x.Player=x.Team then 6 else if zaK k x.Player≠[] then 13 else if zjq b k x.Player x.At=true then 11
  else if b.Adds<=zaV k (x.Team,Int.tdiv x.At 604800000) then 16 else if b.Most<=((rPl k x.Team).length:Int) then 12 else 0
 else if x.Kind=2 then if zaK k x.Player≠x.Team then 8 else 0
 else if x.Kind=3 then if (rPl k x.Team).contains x.Player=false then 8 else if b.Hurt<=((rHu k x.Team).length:Int) then 12 else 0
 else if x.Kind=4 then if (rHu k x.Team).contains x.Player=false then 8 else if b.Most<=((rPl k x.Team).length:Int) then 12 else 0
 else 0
def zgQ (b:BoundS) (k:RosS) (x:MoveS):RosS:=
 if zdg b k x≠0 then ⟨zA x.Team (rPl k x.Team) k.P,zA x.Team (rHu k x.Team) k.H,k.O,k.D,k.A⟩
 else if x.Kind=1 then ⟨zA x.Team (zeO (rPl k x.Team) x.Player) k.P,zA x.Team (rHu k x.Team) k.H,zA x.Player x.Team k.O,k.D,zA (x.Team,Int.tdiv x.At 604800000) (zaV k (x.Team,Int.tdiv x.At 604800000)+1) k.A⟩
 else if x.Kind=2 then ⟨zA x.Team (zgN (rPl k x.Team) x.Player) k.P,zA x.Team (zgN (rHu k x.Team) x.Player) k.H,zcb x.Player k.O,zA x.Player x.At k.D,k.A⟩
 else if x.Kind=3 then ⟨zA x.Team (zgN (rPl k x.Team) x.Player) k.P,zA x.Team (zeO (rHu k x.Team) x.Player) k.H,k.O,k.D,k.A⟩
 else ⟨zA x.Team (zeO (rPl k x.Team) x.Player) k.P,zA x.Team (zgN (rHu k x.Team) x.Player) k.H,k.O,k.D,k.A⟩
def zgP (b:BoundS) (n:Int) (k:RosS):List MoveS->RosS
 |[]=>k
 |x::r=>zgP b n (if x.At<=n then zgQ b k x else k) r
def zbM (b:BoundS) (l:List MoveS) (n:Int):RosS:=zgP b n zpo l
/-! lists that rise-/
theorem SortedS.nodup {l:List Str} (h:SortedS l):l.Nodup:=h.imp fun {a b} h e=>by subst e;rw [zar] at h;cases h
theorem zcE {l:List Str} {s x:Str}:x∈zgN l s↔x∈l/\x≠s:=by simp [zgN]
theorem zgZ {l:List Str} (h:SortedS l) (s:Str):SortedS (zgN l s):=h.sublist List.filter_sublist
theorem zkU (l:List Str) (s:Str):(zgN l s).length<=l.length:=AU _ _
theorem zfK {l:List Str} {s x:Str}:x∈zeO l s↔x=s\/x∈l:=by
 have e:x∈l↔x∈l.take (zdb l s)\/x∈l.drop (zdb l s):=by rw [<-List.mem_append,Bf]
 unfold zeO;rw [e];simp;constructor<;>(rintro (h|h|h)<;>simp [h])
theorem znu (l:List Str) (s:Str):(zeO l s).length=l.length+1:=by
 have h:=congrArg List.length (Bf (zdb l s) l);unfold zeO;simp only [AA,Ai] at*;omega
theorem zgY {s:Str}: ∀{l:List Str},SortedS l->s∉l->SortedS (zeO l s)
 |[],_,_=>List.pairwise_singleton _ _
 |a::r,h,hn=>by
   have hr:=List.pairwise_cons.1 h
   cases ha:Op.bytesLess a s with
   |true=>
     have e:zdb (a::r) s=zdb r s+1:=by unfold zdb;simp [List.countP_cons,ha]
     have e2:zeO (a::r) s=a::zeO r s:=by unfold zeO;rw [e];rfl
     rw [e2];refine List.pairwise_cons.2 ⟨fun x hx=> ?_,zgY hr.2 fun q=>hn (Au _ q)⟩
     rcases zfK.1 hx with rfl|q
     exact ha;exact hr.1 x q
   |false=>
     have e:zdb (a::r) s=0:=zmO (Ad _) (fun k x hk=>absurd hk (Nat.not_lt_zero _)) (zta h (m:=0) rfl ha);have e2:zeO (a::r) s=s::a::r:=by unfold zeO;rw [e];rfl
     have hs:Op.bytesLess s a=true:=by
      rcases zb4 s a with q|q|q
      exact q;exact absurd (by rw [q];exact Am) hn;rw [ha] at q;cases q
     rw [e2];refine List.pairwise_cons.2 ⟨fun x hx=> ?_,h⟩
     rcases List.mem_cons.1 hx with rfl|q
     exact hs;exact zdv hs (hr.1 x q)
/-! what holds of a book-/
theorem zsx {α:Type} {p q:Str} (h:q≠p): ∀l:List (Str×α),alk q (zcb p l)=alk q l
 |[]=>rfl
 |x::r=>by
   by_cases e:p=x.1
   have h1:zcb p (x::r)=r:=by rw [zcb,if_pos e]
   have h2:alk q (x::r)=alk q r:=by rw [alk,if_neg (by rw [<-e];exact h)]
   rw [h1,h2];have h1:zcb p (x::r)=x::zcb p r:=by rw [zcb,if_neg e]
   rw [h1]
   show (if q=x.1 then some x.2 else alk q (zcb p r))=(if q=x.1 then some x.2 else alk q r)
   rw [zsx h r]
theorem zsB {α:Type} {p:Str}: ∀{l:List (Str×α)} {x:Str×α},x∈zcb p l->x∈l
 |y::r,x,h=>by
   unfold zcb at h
   by_cases e:p=y.1
   rw [if_pos e] at h;exact Au _ h;rw [if_neg e] at h
   rcases List.mem_cons.1 h with rfl|q
   exact Am;exact Au _ (zsB q)
theorem zpk {κ α:Type} [DecidableEq κ] {k:κ} {v:α}: ∀{l:List (κ×α)} {x:κ×α},x∈zA k v l->x=(k,v)\/x∈l
 |[],x,h=> .inl (by simpa [zA] using h)
 |y::r,x,h=>by
   unfold zA at h
   by_cases e:k=y.1
   rw [if_pos e] at h
   rcases List.mem_cons.1 h with rfl|q
   exact .inl rfl;exact .inr (Au _ q);rw [if_neg e] at h
   rcases List.mem_cons.1 h with rfl|q
   exact .inr Am
   rcases zpk q with q|q
   exact .inl q;exact .inr (Au _ q)
structure RosOk (n:Nat) (k:RosS):Prop where
 sp: ∀t,SortedS (rPl k t)/\(rPl k t).length<=n/\∀p∈rPl k t,alk p k.O=some t
 sh: ∀t,SortedS (rHu k t)/\(rHu k t).length<=n/\∀p∈rHu k t,alk p k.O=some t
 dj: ∀t p,p∈rPl k t->p∉rHu k t
 ad: ∀w,0<=zaV k w/\zaV k w<=n
 dr: ∀q∈k.D,0<=q.2/\q.2<=345686399999
 ow: ∀q∈k.O,q.2≠[]
theorem zsX:RosOk 0 zpo:=⟨fun t=>⟨List.Pairwise.nil,Ae _,fun p h=>(by cases h)⟩,fun t=>⟨List.Pairwise.nil,Ae _,fun p h=>(by cases h)⟩,fun t p h=>(by cases h),fun w=>⟨Int.le_refl _,Int.le_refl _⟩,fun q h=>(by cases h),fun q h=>(by cases h)⟩
theorem RosOk.mono {n m:Nat} {k:RosS} (h:RosOk n k) (hm:n<=m):RosOk m k:=
 ⟨fun t=>⟨(h.sp t).1,by have:=(h.sp t).2.1;omega,(h.sp t).2.2⟩,fun t=>⟨(h.sh t).1,by have:=(h.sh t).2.1;omega,(h.sh t).2.2⟩,h.dj,fun w=>⟨(h.ad w).1,by have:=(h.ad w).2;omega⟩,h.dr,h.ow⟩
theorem zsW {T t:Str} {v:List Str} {P H:List (Str×List Str)} {O:List (Str×Str)} {D:List (Str×Int)} {A:List ((Str×Int)×Int)}:rPl ⟨zA T v P,H,O,D,A⟩ t=if t=T then v else (alk t P).getD []:=by
 unfold rPl;rw [zcX];split<;>rfl
theorem zsV {T t:Str} {v:List Str} {P H:List (Str×List Str)} {O:List (Str×Str)} {D:List (Str×Int)} {A:List ((Str×Int)×Int)}:rHu ⟨P,zA T v H,O,D,A⟩ t=if t=T then v else (alk t H).getD []:=by
 unfold rHu;rw [zcX];split<;>rfl
theorem RosOk.team {n:Nat} {k:RosS} (h:RosOk n k) {T:Str} {p h':List Str} {O:List (Str×Str)} {D:List (Str×Int)} {A:List ((Str×Int)×Int)}
 (hp:SortedS p/\p.length<=n+1/\∀x∈p,alk x O=some T) (hh:SortedS h'/\h'.length<=n+1/\∀x∈h',alk x O=some T) (hd: ∀x∈p,x∉h')
 (hO: ∀t x,t≠T->alk x k.O=some t->alk x O=some t) (hA: ∀w,0<=(alk w A).getD 0/\(alk w A).getD 0<=n+1) (hD: ∀q∈D,0<=q.2/\q.2<=345686399999) (hw: ∀q∈O,q.2≠[]):
 RosOk (n+1) ⟨zA T p k.P,zA T h' k.H,O,D,A⟩:=by
 refine ⟨fun t=> ?_,fun t=> ?_,fun t x=> ?_,fun w=>by have:=hA w;unfold zaV;simp only at*;omega,hD,hw⟩
 rw [zsW]
 split
 rename_i e;subst e;exact hp
 rename_i e;have:=h.sp t;unfold rPl at this;exact ⟨this.1,by omega,fun x hx=>hO t x e (this.2.2 x hx)⟩
 rw [zsV]
 split
 rename_i e;subst e;exact hh
 rename_i e;have:=h.sh t;unfold rHu at this;exact ⟨this.1,by omega,fun x hx=>hO t x e (this.2.2 x hx)⟩
 rw [zsW,zsV]
 split
 exact fun q=>hd x q
 have:=h.dj t x;unfold rPl rHu at this;exact this
theorem zrM {n:Nat} {k:RosS} (h:RosOk n k) {p:Str} (he:zaK k p=[]):alk p k.O=none:=by
 cases hq:alk p k.O with
 |none=>rfl
 |some t=>unfold zaK at he;rw [hq] at he;exact absurd he (h.ow _ (zbt hq))
theorem zvW {k:RosS} {p t:Str} (he:zaK k p=t) (ht:t≠[]):alk p k.O=some t:=by
 unfold zaK at he
 cases hq:alk p k.O with
 |none=>rw [hq] at he;exact absurd he.symm ht
 |some u=>rw [hq] at he;exact congrArg some he
theorem zx9 {n:Nat} {b:BoundS} {k:RosS} {x:MoveS} (h:RosOk n k) (ha:0<=x.At/\x.At<=345686399999) (hk:1<=x.Kind/\x.Kind<=4) (hT:x.Team≠[]):RosOk (n+1) (zgQ b k x):=by
 have hp:=h.sp x.Team;have hh:=h.sh x.Team;have hd:=h.dj x.Team;have hA: ∀w,0<=(alk w k.A).getD 0/\(alk w k.A).getD 0<=(n:Int)+1:=fun w=>by have:=h.ad w;unfold zaV at this;omega
 unfold zgQ
 by_cases hw:zdg b k x≠0
 rw [if_pos hw];exact h.team ⟨hp.1,by omega,hp.2.2⟩ ⟨hh.1,by omega,hh.2.2⟩ hd (fun _ _ _ e=>e) hA h.dr h.ow;rw [if_neg hw];have h0:zdg b k x=0:=Decidable.not_not.1 hw
 by_cases k1:x.Kind=1
 rw [if_pos k1];rw [zdg,if_pos k1] at h0;have ho:zaK k x.Player=[]:=by
  by_cases q:zaK k x.Player=x.Team
  rw [if_pos q] at h0;omega;rw [if_neg q] at h0
  by_cases q2:zaK k x.Player≠[]
  rw [if_pos q2] at h0;omega;exact Decidable.not_not.1 q2
 have hn:=zrM h ho;have hne: ∀y t,alk y k.O=some t->y≠x.Player:=fun y t e q=>by rw [q,hn] at e;cases e
 have hO: ∀y t,alk y k.O=some t->alk y (zA x.Player x.Team k.O)=some t:=fun y t e=>by rw [zcX,if_neg (hne y t e)];exact e
 refine h.team ⟨zgY hp.1 fun q=>hne _ _ (hp.2.2 _ q) rfl,by rw [znu];omega,fun y hy=> ?_⟩ ⟨hh.1,by omega,fun y hy=>hO y _ (hh.2.2 y hy)⟩ (fun y hy q=> ?_) (fun t y _ e=>hO y t e) (fun w=> ?_) h.dr (fun q hq=> ?_)
 rcases zfK.1 hy with rfl|q
 rw [zcX,if_pos rfl];exact hO y _ (hp.2.2 y q)
 rcases zfK.1 hy with rfl|q2
 exact hne _ _ (hh.2.2 _ q) rfl;exact hd y q2 q;rw [zcX]
 split
 have:=h.ad (x.Team,Int.tdiv x.At 604800000);simp only [B7];omega;exact hA w
 rcases zpk hq with rfl|q2
 exact hT;exact h.ow q q2;rw [if_neg k1];rw [zdg,if_neg k1] at h0
 by_cases k2:x.Kind=2
 rw [if_pos k2];rw [if_pos k2] at h0;have ho:alk x.Player k.O=some x.Team:=zvW (by
  by_cases q:zaK k x.Player≠x.Team
  rw [if_pos q] at h0;omega;exact Decidable.not_not.1 q) hT
 have hO: ∀y t,y≠x.Player->alk y k.O=some t->alk y (zcb x.Player k.O)=some t:=fun y t e q=>by rw [zsx e];exact q
 refine h.team ⟨zgZ hp.1 _,by have:=zkU (rPl k x.Team) x.Player;omega,fun y hy=> ?_⟩ ⟨zgZ hh.1 _,by have:=zkU (rHu k x.Team) x.Player;omega,fun y hy=> ?_⟩ (fun y hy q=>hd y (zcE.1 hy).1 (zcE.1 q).1) (fun t y ht e=>hO y t (fun q=> ?_) e) hA (fun q hq=> ?_) (fun q hq=>h.ow q (zsB hq))
 exact hO y _ (zcE.1 hy).2 (hp.2.2 y (zcE.1 hy).1);exact hO y _ (zcE.1 hy).2 (hh.2.2 y (zcE.1 hy).1);rw [q,ho] at e;exact ht (Aw e).symm
 rcases zpk hq with rfl|q2
 exact ha;exact h.dr q q2;rw [if_neg k2];rw [if_neg k2] at h0
 by_cases k3:x.Kind=3
 rw [if_pos k3];rw [if_pos k3] at h0;have hc:x.Player∈rPl k x.Team:=by
  by_cases q:(rPl k x.Team).contains x.Player=false
  rw [if_pos q] at h0;omega
  simpa using q
 exact h.team ⟨zgZ hp.1 _,by have:=zkU (rPl k x.Team) x.Player;omega,fun y hy=>hp.2.2 y (zcE.1 hy).1⟩ ⟨zgY hh.1 (hd _ hc),by rw [znu];omega,fun y hy=>by
  rcases zfK.1 hy with rfl|q
  exact hp.2.2 _ hc;exact hh.2.2 y q⟩ (fun y hy q=>by
  rcases zfK.1 q with rfl|q
  exact (zcE.1 hy).2 rfl;exact hd y (zcE.1 hy).1 q) (fun _ _ _ e=>e) hA h.dr h.ow
 rw [if_neg k3];rw [if_neg k3,if_pos (by omega)] at h0;have hc:x.Player∈rHu k x.Team:=by
  by_cases q:(rHu k x.Team).contains x.Player=false
  rw [if_pos q] at h0;omega
  simpa using q
 exact h.team ⟨zgY hp.1 (fun q=>hd _ q hc),by rw [znu];omega,fun y hy=>by
  rcases zfK.1 hy with rfl|q
  exact hh.2.2 _ hc;exact hp.2.2 y q⟩ ⟨zgZ hh.1 _,by have:=zkU (rHu k x.Team) x.Player;omega,fun y hy=>hh.2.2 y (zcE.1 hy).1⟩ (fun y hy q=>by
  rcases zfK.1 hy with rfl|q2
  exact (zcE.1 q).2 rfl;exact hd y q2 (zcE.1 q).1) (fun _ _ _ e=>e) hA h.dr h.ow
theorem zpl {b:BoundS} {m:Int}: ∀{l:List MoveS} {n:Nat} {k:RosS},RosOk n k->(∀x∈l,(0<=x.At/\x.At<=345686399999)/\(1<=x.Kind/\x.Kind<=4)/\x.Team≠[])->RosOk (n+l.length) (zgP b m k l)
 |[],n,k,h,_=>h
 |x::r,n,k,h,hl=>by
   obtain ⟨h1,h2,h3⟩:=hl x Am;unfold zgP;have:RosOk (n+1) (if x.At<=m then zgQ b k x else k):=by
    split
    exact zx9 h h1 h2 h3;exact h.mono (Bt n)
   have:=zpl (b:=b) (m:=m) this (l:=r) fun y hy=>hl y (Au _ hy)
   rw [Ai,show n+(r.length+1)=n+1+r.length by omega];exact this
def zgd (b:BoundS) (k:RosS) (n:Int) (l:List Str):List Str:=l.filter fun s=>decide (zaK k s=[])&& !zjq b k s n
theorem zrH {l:List MoveS} (h:zcN l=0):l.length<=2000/\∀x∈l,(0<=x.At/\x.At<=345686399999)/\(1<=x.Kind/\x.Kind<=4)/\(key x.Team=true/\key x.Player=true):=by
 obtain ⟨h1,h2⟩:=zmJ h;refine ⟨h1,fun x hx=> ?_⟩
 obtain ⟨i,hi,rfl⟩:=A4 hx;have:=h2 i l[i] (Aa hi)
 generalize l[i]=x at this
 unfold zdJ at this
 by_cases q1:zT x.At=false
 rw [if_pos q1] at this;omega;rw [if_neg q1] at this
 by_cases q2:out x.Kind 1 4=true
 rw [if_pos q2] at this;omega;rw [if_neg q2] at this
 by_cases q3:key x.Team=false\/key x.Player=false
 rw [if_pos q3] at this;omega;refine ⟨?_,?_,?_⟩
 simp [zT,out] at q1;omega
 simp [out] at q2;omega
 rw [not_or] at q3;simpa using q3
end
section
open Go
variable {P:Program}
theorem zn8 [Tracks] {e:Env} {dst:Option Tmp} {ty:TypeId} {pos:String} {af:Array Edge} {g:Option (Nat×Bool)} {M:List MObj} {K:HVal->List MObj->Prop} {t el:TypeId} {size bytes b2:Nat} {zero z2:Value} {d:TD} {x:Operand} {s:Str}
 (hf:Fits P t (.slice el) size bytes zero) (hel:Fits P el d 1 b2 z2) (hz:z2.cells.size=1) (hx:ze e x=some (.str s))
 (hk: ∀ub,K (.raw (.slice (some ⟨ub,0,none⟩) 1 1)) (.obj ub (.cells #[zbb s] el (0,0))::M)):EOp P e M ⟨dst,.buildSlice t 1 #[(0,x)],ty,pos,af,g⟩ K:=
 EOp.of_run fun I F a w ho hs'=>by
  have h1:=(ho.one (x:=x) (by simp [Op.operands]) hx).str_inv;refine ⟨.slice (some ⟨w.heap.size,0,none⟩) 1 1,.raw (.slice (some ⟨w.heap.size,0,none⟩) 1 1),_,push w (.cells #[zbb s] el (0,0)),I,?_,.refl I,hk _,.raw _ rfl,?_⟩
  simp only [execOp,Instr.buildSlice,Sem.run_bind,run_underlying hf.slice,Result.andThen_ok,hel.run_sizeOf];rw [if_neg (by decide)];simp only [Sem.run_pure,Result.andThen_ok];rw [if_neg (by decide)];simp only [Sem.run_bind,hel.run_zero,Result.andThen_ok,Sem.run_pure];obtain ⟨z,hzz⟩: ∃z,z2.cells= #[z]:=by
   rcases hq:z2.cells with ⟨l⟩
   rw [hq] at hz
   match l,hz with
   |[z],_=>exact ⟨z,rfl⟩
  rw [hzz];have hr:Array.range 1= #[0]:=by first|decide|simp [Array.range_succ]
  simp [Instr.fill,h1,newRow,Value.cells,zbb,push,hr]
  try rfl
  exact hs'.new_own (.cells #[zbb s] el (0,0)) (.obj w.heap.size (.cells #[zbb s] el (0,0))) rfl (by simp [MSat,push])
abbrev eWk (p:Str×Int):HVal:= .agg [.str p.1,.int .i64 p.2]
abbrev kBk (b:BoundS) (pb hb ob db ab:Nat):List HVal:=[.int .i64 b.Most,.int .i64 b.Hurt,.int .i64 b.Adds,.int .i64 b.Hold,.raw (.map (some pb)),.raw (.map (some hb)),.raw (.map (some ob)),.raw (.map (some db)),.raw (.map (some ab))]
abbrev zci (kb pb hb ob db ab:Nat) (b:BoundS) (k:RosS):List MObj:=[.cells kb (kBk b pb hb ob db ab),.map pb (sk (em eSs k.P)),.map hb (sk (em eSs k.H)),.map ob (sk (em .str k.O)),.map db (sk (em (.int .i64) k.D)),.map ab (kk eWk (em (.int .i64) k.A))]
end
section
section
variable {P:Program} {e:Env} {dst:Option Tmp} {ty:TypeId} {pos:String} {af:Array Edge} {g:Option (Nat×Bool)} {M:List MObj} {K:HVal->List MObj->Prop}
end
end
section
section
variable {P:Program} {e:Env} {dst:Option Tmp} {ty:TypeId} {pos:String} {af:Array Edge} {g:Option (Nat×Bool)}
end
section
variable {P:Program} {n:Nat} {e e':Env} {M M':List MObj} {Q Q':Exit->Env->List MObj->Prop} {c c':Code}
def zuf {α β γ δ:Type} (e:Env) (ks:List Nat) (W:α->β->γ->δ->List (Nat×HVal)) (MM:α->β->γ->δ->List MObj) (Iv:α->β->γ->δ->Prop) (μ:α->β->γ->δ->Nat) (x:α) (y:β) (u:γ) (v:δ) (Q:Exit->Env->List MObj->Prop):Exit->Env->List MObj->Prop
 | .normal,e',M=> ∃j k l m,Iv j k l m/\μ j k l m<μ x y u v/\zbQ e' (W j k l m)/\ze0 ks e e'/\M.Perm (MM j k l m)
 |z,e',M=>Q z e' M
theorem zvQ {α β γ δ:Type} {e0:Env} {ks:List Nat} {W:α->β->γ->δ->List (Nat×HVal)} {MM:α->β->γ->δ->List MObj} {Iv:α->β->γ->δ->Prop} {μ:α->β->γ->δ->Nat} {x:α} {y:β} {u:γ} {v:δ} {id:Nat} (h:Q (.exit id) e M):
 zuf e0 ks W MM Iv μ x y u v Q (.exit id) e M:=h
theorem zuK [Tracks] {α β γ δ:Type} (ks:List Nat) (W:α->β->γ->δ->List (Nat×HVal)) (MM:α->β->γ->δ->List MObj) (Iv:α->β->γ->δ->Prop) (μ:α->β->γ->δ->Nat) (x:α) (y:β) (u:γ) (v:δ) (h0:Iv x y u v) (hW:zbQ e (W x y u v)) (hM:M.Perm (MM x y u v))
 (hb: ∀x y u v,Iv x y u v->HWp P n c (loopE e ks (W x y u v)) (MM x y u v) (zuf e ks W MM Iv μ x y u v Q)):HWp P n (.loop c) e M Q:=by
 refine zgM (ι:=α×β×γ×δ) ks (fun p=>W p.1 p.2.1 p.2.2.1 p.2.2.2) (fun p=>MM p.1 p.2.1 p.2.2.1 p.2.2.2) (fun p=>Iv p.1 p.2.1 p.2.2.1 p.2.2.2) (fun p=>μ p.1 p.2.1 p.2.2.1 p.2.2.2) (x,y,u,v) h0 hW hM fun p hp=>zkc (hb p.1 p.2.1 p.2.2.1 p.2.2.2 hp) ?_
 intro z e1 M1 hq
 cases z with
 |normal=>obtain ⟨j,k,l,m,h⟩:=hq;exact ⟨(j,k,l,m),h⟩
 |_=>exact hq
end
end
section
variable {P:Program}
end
section
open Go
variable {P:Program}
theorem zuP {kt:TypeId} {s1 b1:Nat} {z1:Value} (hf:Fits P kt .str s1 b1 z1):KeyOk P kt HVal.str:=by
 haveI:Tracks:=⟨true⟩
 have hk: ∀x y:Str,zd8 .str (.str x) (.str y)=true:=fun x y=>rfl
 refine ⟨fun I x v b w hv=>ziS hf (hk x x) hv b 9999 w,fun I x y u v w hu hv=> ?_,fun I x v es w hv hes=> ?_,fun I x u v hu hv=> ?_⟩
 have:=zfL hf (hk x y) hu hv 9999 w
 show (Op.equalIn (9999+1) kt u v).run P w=_
 rw [this]
 show Result.ok (x==y) w=_
 congr 1
 rw [AL];simp;obtain rfl:=hv.str_inv;have key: ∀(es:List MapEntry) (i:Nat),(∀m∈es,∃y,V I (.str y) m.key)->∃r,Instr.findNow .string (.string ⟨x.toArray⟩) es i=some r/\(Instr.findAsking kt (.string ⟨x.toArray⟩) es i).run P w= .ok r w:=by
  intro es
  induction es with
  |nil=>intro i _;exact ⟨none,rfl,by simp [Instr.findAsking]⟩
  |cons m es ih=>
    intro i h
    obtain ⟨y,hy⟩:=h m Am;have hq:=zfL hf (hk x y) (V.str x) hy 9999 w;have hq':(Op.equal kt (.string ⟨x.toArray⟩) m.key).run P w= .ok (x==y) w:=hq;have hy':=hy.str_inv;have hb:((⟨x.toArray⟩:ByteArray)==⟨y.toArray⟩)=(x==y):=by rw [zg4,AL];simp
    by_cases e:x=y
    have e1:(x==y)=true:=by simpa using e
    refine ⟨some (i,m.val),?_,?_⟩
    simp only [Instr.findNow,Instr.sameNow,hy',hb,e1];simp only [Instr.findAsking,Sem.run_bind,hq',Result.andThen_ok,e1]
    simp
    obtain ⟨r,r1,r2⟩:=ih (i+1) fun m' hm'=>h m' (Au _ hm')
    have:(x==y)=false:=by simpa using e
    refine ⟨r,?_,?_⟩
    simp only [Instr.findNow,Instr.sameNow,hy',hb,this];exact r1;simp only [Instr.findAsking,Sem.run_bind,hq',Result.andThen_ok,this];exact r2
 obtain ⟨r,r1,r2⟩:=key es 0 hes;simp only [Instr.findKey,Sem.run_bind,run_underlying hf.strD,Result.andThen_ok,r1,Sem.run_pure,r2];obtain rfl:=hu.str_inv;obtain rfl:=hv.str_inv
 show Instr.sameBits (9999+1) _ _=true
 simp only [Instr.sameBits];rw [zg4];simp
section
variable {α:Type} {e:Env} {dst:Option Tmp} {ty:TypeId} {pos:String} {af:Array Edge} {g:Option (Nat×Bool)} {M:List MObj} {K:HVal->List MObj->Prop}
theorem zs5 [Tracks] {o:Oper} {K K':HVal->List MObj->Prop} (hk: ∀h M',K h M'->∃h2,Weak h h2/\K' h2 M') (h:EOp P e M o K):EOp P e M o K':=
 fun I F a w ho hs=>zaW (fun _ _ ⟨v,x,M',J,h1,h2,h3,h4,h5⟩=>by
  obtain ⟨y,g1,g2⟩:=hk _ _ h3;exact ⟨v,y,M',J,h1,h2,g2,g1 _ _ h4,h5⟩) (h I F a w ho hs)
theorem zek [Tracks] {x y:Operand} {t kt et:TypeId} {size bytes s2 b2 s3 b3:Nat} {zero z2 z3:Value} {d:TD} {i b:Nat} {f:α->HVal} {L:List (Str×α)} {s:Str} {z0:α}
 (hf:Fits P t (.map kt et) size bytes zero) (hkt:Fits P kt .str s2 b2 z2) (het:Fits P et d s3 b3 z3) (hx:ze e x=some (.raw (.map (some b)))) (hy:ze e y=some (.str s)) (hm:M[i]? =some (.map b (sk (em f L)))) (hz:Weak (zay z3) (f z0))
 (hk:K (f ((alk s L).getD z0)) M):EOp P e M ⟨dst,.lookup t x y false,ty,pos,af,g⟩ K:=by
 refine zs5 (K:=fun h M'=>Weak h (f ((alk s L).getD z0))/\M'=M) (fun h M' ⟨h1,h2⟩=>⟨_,h1,by rw [h2];exact hk⟩) ?_;refine zoa hf hkt het hx hy hm ?_;have h1:=zk2 f s L
 cases h:zS s (em f L) with
 |none=>
   rw [h] at h1;have:alk s L=none:=by cases q:alk s L with|none=>rfl|some _=>rw [q] at h1;cases h1
   rw [this];exact ⟨hz,rfl⟩
 |some p=>
   rw [h] at h1;obtain ⟨q,hq,hp⟩: ∃q,alk s L=some q/\p.2=f q:=by
    cases q:alk s L with
    |none=>rw [q] at h1;cases h1
    |some r=>rw [q] at h1;exact ⟨r,rfl,Aw h1⟩
   rw [hq];refine ⟨?_,rfl⟩
   show Weak p.2 (f q)
   rw [hp];exact Weak.refl _
theorem zlh [Tracks] {x y:Operand} {t kt et:TypeId} {size bytes s2 b2 s3 b3:Nat} {zero z2 z3:Value} {d:TD} {i b:Nat} {f:α->HVal} {L:List (Str×α)} {s:Str}
 (hf:Fits P t (.map kt et) size bytes zero) (hkt:Fits P kt .str s2 b2 z2) (het:Fits P et d s3 b3 z3) (hx:ze e x=some (.raw (.map (some b)))) (hy:ze e y=some (.str s)) (hm:M[i]? =some (.map b (sk (em f L))))
 (hk: ∀(j st:Nat),zbc s (zcD s (zay z3) (em f L))=some j->K (.tup [(klk s (em f L)).getD (zay z3),.int .i64 (st:Int)]) (M.set i (.mape b (kk HVal.str (zcD s (zay z3) (em f L))) j st))):EOp P e M ⟨dst,.mapEntry t x y,ty,pos,af,g⟩ K:=
 zl1 (ek:=HVal.str) hf (zuP hkt) het hx hy hm hk
theorem zjf [Tracks] {x y z:Operand} {t:TypeId} {i b j st:Nat} {f:α->HVal} {L:List (Str×α)} {s:Str} {h0:HVal} {v:α}
 (hx:ze e x=some (.raw (.map (some b)))) (hy:ze e y=some (.int .i64 (st:Int))) (hz:ze e z=some (f v)) (hm:M[i]? =some (.mape b (kk HVal.str (zcD s h0 (em f L))) j st)) (hj:zbc s (zcD s h0 (em f L))=some j)
 (hk:K .junk (M.set i (.map b (sk (em f (zA s v L)))))):EOp P e M ⟨dst,.entryStore t x y z,ty,pos,af,g⟩ K:=by
 refine zj9 (ek:=HVal.str) hx hy hz hm hj ?_;rw [zpT,zmH];exact hk
end
end
end Go.HL
namespace Go.Proofs
section
open Go.Shelf
def Tryz.lays222_ren:Go.Shelf.Ren:=⟨fun|22=>319|29=>351|30=>352|36=>367|17=>168|n=>n,fun|24=>33|9=>9|3=>3|4=>4|0=>0|n=>n,fun|n=>n⟩
theorem zq6:Go.Proofs.Lays2.n22 Tryz.prog Tryz.lays222_ren:={
 mixed:=by kernel_rfl
 f17:=Tryz.func168.trans (congrArg some (by kernel_rfl))
 f22:=Tryz.func319.trans (congrArg some (by kernel_rfl))
 f29:=Tryz.func351.trans (congrArg some (by kernel_rfl))
 f30:=Tryz.func352.trans (congrArg some (by kernel_rfl))
 f36:=Tryz.func367.trans (congrArg some (by kernel_rfl))
 t0:=Tryz.underlying0
 a0:=Tryz.isAgg0
 z0:=Tryz.sizeOf0
 v0:=Tryz.zeroValue0
 t3:=Tryz.underlying3
 a3:=Tryz.isAgg3
 z3:=Tryz.sizeOf3
 v3:=Tryz.zeroValue3
 t4:=Tryz.underlying4
 a4:=Tryz.isAgg4
 z4:=Tryz.sizeOf4
 v4:=Tryz.zeroValue4
 t9:=Tryz.underlying9
 a9:=Tryz.isAgg9
 z9:=Tryz.sizeOf9
 v9:=Tryz.zeroValue9
 t24:=Tryz.underlying33
 a24:=Tryz.isAgg33
 z24:=Tryz.sizeOf33
 v24:=Tryz.zeroValue33
 i9:=by kernel_rfl}
end
end Go.Proofs
namespace Go.Proofs.YtahegdhbakjdoaaGreatDoor
set_option maxRecDepth 100000
set_option linter.unusedVariables false
set_option linter.unusedSimpArgs false
section
open Go.Proofs.Tryz
open Go.HL
theorem zc6 [Tracks] {l:List Str} {fid:FuncId} {caps:List HVal} {p:Str->Bool} (hca:Callable prog fid) (hp: ∀x,ConP prog fid ([HVal.str x]++caps) (.bool (p x))) (hl:l.length<=1000000):ConP prog 148 [.slice 1 (l.map HVal.str),.fn (.func fid) [] caps] (.int .i64 (zab p l 0)):=by
 refine uOb func148 ntmps148 ?_;refine zan ?_;refine uT1 [4,2,8,11] (fun k=>[(8,.int .i64 k)]) (fun k=>[]) (fun k=>k<=l.length/\(zab p l 0=zab p (l.drop k) k)) (fun k=>l.length-k) (0) ?_ ?_;exact ⟨Ad _,rfl⟩;rintro k ⟨hk,hg⟩;refine gz4 ?_;refine uCo (fun h1=> ?_) fun h2=> ?_
 obtain ⟨x,hx⟩: ∃x,l[k]? =some x:=⟨_,Aa h1⟩
 have hdx:=zg hx;rw [hdx] at hg;refine zdS ?_;refine dq (zaw hca rfl rfl (WeakL.refl _) (hp _)) ?_;refine gz1 ?_;refine uCo (fun h3=> ?_) fun h4=> ?_
 refine gz5 ?_;refine uRp ?_
 (rw [hg];simp_all [zab])
 refine gz7 ?_;refine ⟨k+1,?_,?_,⟨rfl,trivial⟩,uK,Ab _⟩
 refine ⟨by omega,?_⟩
 rw [hg,zab,if_neg uSa];rfl
 dsimp only;omega
 have hnk:l.length<=k:=by omega
 obtain rfl:k=l.length:=by omega
 rw [zH (Ae _)] at hg;refine gz2 ?_;refine zt ?_;refine gz6 ?_;refine uRp ?_
 (rw [hg];rfl)
theorem zcv [Tracks] {l:List Str} {fid:FuncId} {caps:List HVal} {p:Str->Bool} (hca:Callable prog fid) (hp: ∀x,ConP prog fid ([HVal.str x]++caps) (.bool (p x))) (hl:l.length<=1000000):ConP prog 69 [.slice 1 (l.map HVal.str),.fn (.func fid) [] caps] (.bool (l.any p)):=by
 refine uOb func69 ntmps69 ?_;refine gz6 ?_;refine dq (uCl ztj rfl (zc6 hca hp hl)) ?_;refine gz4 ?_;refine zw rfl ?_
 congr 1;exact zcW p l 0 uO
theorem za3 [Tracks] {l:List Str} {fid:FuncId} {caps:List HVal} {p:Str->Bool} {v:Value} (hca:Callable prog fid) (hp: ∀x,ConP prog fid ([HVal.str x]++caps) (.bool (p x))) (hl:l.length<=1000000):Con prog 320 [.raw v,.fn (.func fid) [] caps] [.arr v 1 (l.map HVal.str)] (fun x M'=> ∃u,x= .raw u/\M'=[.arr u 1 ((l.filter (fun x=> !p x)).map HVal.str)]):=by
 refine uOb func320 ntmps320 ?_;refine gz6 ?_;refine de rfl (zlZ (hs':=[.slice 1 (l.map HVal.str),.fn (.func fid) [] caps]) ztj rfl ⟨.arr (i:=0) rfl,.weak (Weak.refl _),trivial⟩ (zc6 (p:=p) hca hp hl) rfl ?_)
 refine gz7 ?_;refine uCo (fun h1=> ?_) fun h2=> ?_
 ·refine gz5 ?_
  (refine z7 rfl ⟨_,rfl,?_⟩
   rw [zjg p l 0 uO h1]
   done)
 ·refine gz3 ?_;obtain ⟨i0,hi0,hil,⟨x0,hx0,hp0⟩,hb0⟩:=zhS p l 0 uO h2;rw [Int.zero_add] at hi0;obtain ⟨hD0,hn0⟩:=DelInv.start (p:=p) hil hx0 hp0 hb0;refine zcZ (i:=0) rfl (fun h0 he=> ?_) (fun b off cap hv hcap=> ?_)
  ·exfalso;have:=congrArg List.length he;simp at this;subst this;simp at hil
  rw [Ah] at hv hcap;subst hv;refine gz2 ?_;refine dq (zau (zbf rfl rfl (by rw [hi0];omega) (by rw [hi0];omega)) (congrArg _ (by rw [hi0]))) ?_;refine gz3 ?_;refine uV2 [5,3,16,20] (fun (j:Nat) (D:List Str)=>[(6,.int .i64 (j:Int)),(5,.int .i64 (((l.take j).filter (fun x=> !p x)).length:Int))]) (fun (j:Nat) (D:List Str)=>[.arr (.slice (some ⟨b,off,none⟩) l.length cap) 1 (D.map HVal.str)]) (fun (j:Nat) (D:List Str)=>DelInv p l j D) (fun (j:Nat) (D:List Str)=>l.length-j) (i0+1) (l) ?_ ?_ ?_ ?_
  ·exact hD0
  ·exact ⟨rfl,zN (by rw [hn0,hi0]),trivial⟩
  ·exact Ab _
  ·intro j D hD
   have hlt0:=hD.lt;have hle0:=hD.len;refine gz4 ?_;refine de rfl (za7 (i:=0) zk rfl rfl ?_)
   refine gz2 ?_;refine uCo (fun h3=> ?_) fun h4=> ?_
   ·obtain ⟨x,hx⟩: ∃x,l[j]? =some x:=⟨_,Aa uO⟩
    refine gz7 ?_;refine dq (zy (j:=j) zk ty9 rfl rfl rfl uO) ?_;refine de rfl (zaq (i:=0) (j:=j) 0 ty9 rfl rfl rfl (hD.get hx) rfl rfl ?_)
    refine gz5 ?_;refine dq (zaw hca rfl rfl (WeakL.refl _) (hp _)) ?_;refine gz2 ?_;refine uCo (fun h5=> ?_) fun h6=> ?_
    ·refine gz4 ?_;refine dq (zy (j:=((l.take j).filter (fun x=> !p x)).length) zk ty9 rfl rfl rfl (by have:=hD.lt;omega)) ?_;refine de0 (zaT (i:=0) (j:=((l.take j).filter (fun x=> !p x)).length) (y:=D[((l.take j).filter (fun x=> !p x)).length]'(by have:=hD.lt;have:=hD.len;omega)) (y':=x) ty9 rfl rfl rfl rfl (Aa _) rfl rfl rfl ?_)
     refine gz3 ?_;refine dq (zbf rfl rfl uO (by have:=hD.lt;omega)) ?_;refine gz9 ?_;exact ⟨j+1,_,(hD.keep hx uSa).1,uD,⟨rfl,zN (by rw [(hD.keep hx uSa).2];rfl),trivial⟩,uK,Ab _⟩
    ·refine gz8 ?_;exact ⟨j+1,_,(hD.skip hx uSa).1,uD,⟨rfl,zN (by rw [(hD.skip hx uSa).2]),trivial⟩,uK,Ab _⟩
   ·obtain rfl:j=l.length:=by have:=hD.jle;omega
    have hend:=hD.done;refine gz2 ?_;refine zL ?_;refine gz5 ?_;refine dq (zeT (l:=((l.take l.length).filter (fun x=> !p x)).length) zk ty9 rfl ⟨_,_,rfl,rfl⟩ rfl uO uO hcap) ?_;refine de0 (zeJ (i:=0) (m:=((l.take l.length).filter (fun x=> !p x)).length) (((l.take l.length).filter (fun x=> !p x)).length) zk ty9 rfl rfl rfl (ziU uO hcap) rfl uO (Ae _) (by rw [Ah,hD.len];omega) ?_)
    refine gz4 ?_;refine dq (zgn (h:=((l.take l.length).filter (fun x=> !p x)).length) zk ty9 rfl ⟨_,_,rfl,rfl⟩ uO) ?_;refine gz3 ?_
    (refine z7 rfl ⟨_,rfl,?_⟩
     rw [An,<-BQ,hend];rfl)
theorem zqR [Tracks]:KeyOk prog 350 eWk:=zgg (cs:=fun x:Str×Int=>zb (eWk x)) zt9 zAJ (fun x y=>⟨rfl,⟨_,_,_,_,ty9,rfl⟩,⟨rfl,⟨_,_,_,_,ty3,rfl⟩,trivial⟩⟩)
 (fun x y=>by obtain ⟨a,b⟩:=x;obtain ⟨c,d⟩:=y;show (_&&(_&&true))=_;rw [AL];simp [eqH,Prod.mk.injEq]) (fun x=>rfl)
theorem znW [Tracks] {v:Value} {l:List Str} {s:Str} {i ub:Nat} {el2:TypeId} (hi:i<=l.length) (hl:l.length<=1000000):
 Con prog 319 [.raw v,.int .i64 i,.raw (.slice (some ⟨ub,0,none⟩) 1 1)] [.arr v 1 (l.map .str),.obj ub (.cells #[zbb s] el2 (0,0))]
  fun x M'=> ∃v',x= .raw v'/\M'=[.arr v' 1 ((zev l i s).map .str),.obj ub (.cells #[zbb s] el2 (0,0))]:=zty zq6 hi hl
theorem zx8 [Tracks] (l:List Str) (s:Str):zdb l s<=l.length:=List.countP_le_length
theorem zer [Tracks] {x s:Str}:ConP prog 321 [.str x,.vptr [.str s] 0] (.bool (x==s)):=by
 refine uOb func321 ntmps321 ?_;refine zan ?_;refine zw rfl ?_
 rfl
theorem zfx [Tracks] {l:List Str} {s:Str} (hl:l.length<=1000000):ConP prog 282 [eSs l,.str s] (eSs (zgN l s)):=by
 refine uOb func282 ntmps282 ?_;refine gz6 ?_;refine de rfl (uCa zkH rfl (zad uS) fun v6=> ?_)
 refine gz1 ?_
 focus first
 |refine de rfl (uCx 0 zqI rfl rfl (za3 (l:=l) (p:=fun x=>x==s) zqJ (fun _=>zer) hl) ?_)
 |refine de rfl (uCx 1 zqI rfl rfl (za3 (l:=l) (p:=fun x=>x==s) zqJ (fun _=>zer) hl) ?_)
 |refine de rfl (uCx 2 zqI rfl rfl (za3 (l:=l) (p:=fun x=>x==s) zqJ (fun _=>zer) hl) ?_)
 |refine de rfl (uCx 3 zqI rfl rfl (za3 (l:=l) (p:=fun x=>x==s) zqJ (fun _=>zer) hl) ?_)
 rintro _ _ ⟨u8,rfl,rfl⟩;refine gz3 ?_;refine zae (zlv 4 rfl) rfl ⟨?_,rfl⟩
 rfl
theorem ziC [Tracks] {l:List Str} {s:Str} (hl:l.length<=1000000) (hs:SortedS l):ConP prog 281 [eSs l,.str s] (eSs (zeO l s)):=by
 refine uOb func281 ntmps281 ?_;refine gz6 ?_;refine dq (uCl zAC rfl (ze3 uS uS)) ?_;refine gz8 ?_;refine de rfl (uCa zkH rfl (zad uS) fun v14=> ?_)
 refine gz2 ?_;refine de rfl (zn8 zk ty9 rfl rfl fun ub=> ?_)
 refine de rfl (zaQ (M1:=[.arr v14 1 (l.map .str),.obj ub (.cells #[zbb s] _ (0,0))]) (R:=[]) zAD rfl (WeakL.refl _) (List.Perm.swap _ _ _) (znW (i:=zdb l s) (zx8 l s) hl) ?_)
 rintro _ _ ⟨v18,rfl,rfl⟩;refine gz3 ?_;refine zae ((zas 4 (i:=0) rfl rfl).trans Ghost.clear) rfl ⟨?_,rfl⟩
 rfl
theorem zhd [Tracks] {kb pb hb ob db ab:Nat} {b:BoundS} {k:RosS} {p:Str} {n:Int} (hn:0<=n/\n<=345686399999) (hD: ∀q∈k.D,0<=q.2/\q.2<=345686399999):Con prog 73 [.raw (.pointer (some ⟨kb,0,none⟩)),.str p,.int .i64 n] (zci kb pb hb ob db ab b k) (fun x M'=>x= .bool (zjq b k p n)/\M'=(zci kb pb hb ob db ab b k)):=by
 have hq0:0<=(alk p k.D).getD 0/\(alk p k.D).getD 0<=345686399999:=by
  cases hq:alk p k.D with
  |none=>simp
  |some d=>exact hD (p,d) (zbt hq)
 refine uOb func73 ntmps73 ?_;refine gz5 ?_;refine dq ((by first|exact zF rfl|exact zm rfl)) ?_;refine gz1 ?_;refine de rfl (uZ 0 ?_)
 refine gz1 ?_;refine de rfl (ziG (i:=4) (f:=HVal.int .i64) (z0:=(0:Int)) zdO ty9 ty3 rfl rfl rfl rfl ?_)
 refine zeN ?_;refine uGr rfl (fun hc=>(by first|exact zF rfl|exact zm rfl)) ?_;refine gz2 ?_;refine dgl rfl rfl (fun hc=>⟨_,OpenTo.upd (t:=26) rfl uC (OpenTo.refl _),z8 (i:=0) ty3 rfl rfl (.inl ⟨rfl,rfl⟩) ⟨rfl,rfl⟩⟩) ?_;refine gz5 ?_;refine z7 rfl ⟨?_,rfl⟩
 show HVal.bool _=_
 unfold zjq
 cases alk p k.D with
 |none=>rfl
 |some d=>simp
theorem zm1 [Tracks] {kb pb hb ob db ab:Nat} {b:BoundS} {k:RosS} {x:MoveS} (hx:0<=x.At/\x.At<=345686399999) (hD: ∀q∈k.D,0<=q.2/\q.2<=345686399999) (hP: ∀t,(rPl k t).length<=1000000) (hH: ∀t,(rHu k t).length<=1000000):Con prog 280 [.raw (.pointer (some ⟨kb,0,none⟩)),zcx x] (zci kb pb hb ob db ab b k) (fun x1 M'=>x1= .int .i64 (zdg b k x)/\M'=(zci kb pb hb ob db ab b k)):=by
 refine uOb func280 ntmps280 ?_;refine gz4 ?_;refine zbx (fun M=>M=(zci kb pb hb ob db ab b k)) [3,6,10,13,17,20] mixed ?_;refine gz1 ?_;refine uB 1 rfl ((by first|exact zF rfl|exact zm rfl)) ?_;refine gz1 ?_;refine uM 3 rfl rfl (fun M hM=>by subst hM;exact z8 (i:=0) zgr rfl rfl (.inl ⟨rfl,rfl⟩) ⟨rfl,rfl⟩) ?_;refine uB 4 rfl ((by first|exact zn zz rfl ty9 (by decide) rfl|exact zh zz rfl ty9 (by decide) rfl)) ?_;refine gz1 ?_;refine uM 6 rfl rfl (fun M hM=>by subst hM;exact zdA (i:=3) (f:=HVal.str) (z0:=([]:Str)) zgr ty9 ty9 rfl rfl rfl rfl ⟨rfl,rfl⟩) ?_;refine gz1 ?_;refine uB 8 rfl ((by first|exact zF rfl|exact zm rfl)) ?_;refine gz1 ?_;refine uM 10 rfl rfl (fun M hM=>by subst hM;exact z8 (i:=0) zcQ rfl rfl (.inl ⟨rfl,rfl⟩) ⟨rfl,rfl⟩) ?_;refine uB 11 rfl ((by first|exact zn zz rfl ty9 (by decide) rfl|exact zh zz rfl ty9 (by decide) rfl)) ?_;refine gz1 ?_;refine uM 13 rfl rfl (fun M hM=>by subst hM;exact zek (i:=1) (f:=eSs) (z0:=([]:List Str)) zcQ ty9 zk rfl rfl rfl (zQ 1) ⟨rfl,rfl⟩) ?_;refine gz1 ?_;refine uB 15 rfl ((by first|exact zF rfl|exact zm rfl)) ?_;refine gz1 ?_;refine uM 17 rfl rfl (fun M hM=>by subst hM;exact z8 (i:=0) zcQ rfl rfl (.inl ⟨rfl,rfl⟩) ⟨rfl,rfl⟩) ?_;refine uB 18 rfl ((by first|exact zn zz rfl ty9 (by decide) rfl|exact zh zz rfl ty9 (by decide) rfl)) ?_;refine gz1 ?_;refine uM 20 rfl rfl (fun M hM=>by subst hM;exact zek (i:=2) (f:=eSs) (z0:=([]:List Str)) zcQ ty9 zk rfl rfl rfl (zQ 1) ⟨rfl,rfl⟩) ?_;refine gz6 ?_;refine dq ((by first|exact zn zz rfl ty3 (by decide) rfl|exact zh zz rfl ty3 (by decide) rfl)) ?_;refine gz7 ?_;refine uCo (fun h1=> ?_) fun h2=> ?_
 refine gz3 ?_;refine dq ((by first|exact zn zz rfl ty9 (by decide) rfl|exact zh zz rfl ty9 (by decide) rfl)) ?_;refine gz4 ?_;refine uCo (fun h3=> ?_) fun h4=> ?_
 refine gz4 ?_;refine z7 rfl ⟨?_,rfl⟩
 show HVal.int .i64 _=_
 refine congrArg _ ?_;unfold zdg
 focus first
 |(simp_all [zaK,zaV,rPl,rHu];done)
 |(simp_all [zaK,zaV,rPl,rHu];(repeat' split)<;>first|rfl|(exfalso;omega)|omega)
 refine gz5 ?_;refine uCo (fun h5=> ?_) fun h6=> ?_
 refine gz4 ?_;refine z7 rfl ⟨?_,rfl⟩
 show HVal.int .i64 _=_
 refine congrArg _ ?_;unfold zdg
 focus first
 |(simp_all [zaK,zaV,rPl,rHu];done)
 |(simp_all [zaK,zaV,rPl,rHu];(repeat' split)<;>first|rfl|(exfalso;omega)|omega)
 refine gz2 ?_;refine dq ((by first|exact zn zz rfl ty9 (by decide) rfl|exact zh zz rfl ty9 (by decide) rfl)) ?_;refine gz1 ?_;refine dq ((by first|exact zn zz rfl ty3 (by decide) rfl|exact zh zz rfl ty3 (by decide) rfl)) ?_;refine gz1 ?_;refine de rfl (zaQ (M1:=(zci kb pb hb ob db ab b k)) (R:=[]) ca73 rfl (WeakL.refl _) (by rw [A9]) (zhd hx hD) ?_)
 rintro _ _ ⟨rfl,rfl⟩;refine gz2 ?_;refine uCo (fun h7=> ?_) fun h8=> ?_
 refine gz4 ?_;refine z7 rfl ⟨?_,rfl⟩
 show HVal.int .i64 _=_
 refine congrArg _ ?_;unfold zdg
 focus first
 |(simp_all [zaK,zaV,rPl,rHu];done)
 |(simp_all [zaK,zaV,rPl,rHu];(repeat' split)<;>first|rfl|(exfalso;omega)|omega)
 refine zbx (fun M=>M=(zci kb pb hb ob db ab b k)) [3,10,15] mixed ?_;refine gz1 ?_;refine uB 1 rfl ((by first|exact zF rfl|exact zm rfl)) ?_;refine gz1 ?_;refine uM 3 rfl rfl (fun M hM=>by subst hM;exact z8 (i:=0) zia rfl rfl (.inl ⟨rfl,rfl⟩) ⟨rfl,rfl⟩) ?_;refine uB 4 rfl ((by first|exact zn zz rfl ty9 (by decide) rfl|exact zh zz rfl ty9 (by decide) rfl)) ?_;refine gz1 ?_;refine uB 6 rfl ((by first|exact zn zz rfl ty3 (by decide) rfl|exact zh zz rfl ty3 (by decide) rfl)) ?_;refine gz1 ?_;refine uB 8 rfl (zfY rfl rfl uO uO uO) ?_;refine uB 9 rfl (zI (cs:=[_,_]) zt9 zxc rfl) ?_;refine uM 10 rfl rfl (fun M hM=>by subst hM;exact zeK (i:=5) (s:=(x.Team,Int.tdiv x.At 604800000)) (f:=HVal.int .i64) (z0:=(0:Int)) zia zqR ty3 rfl rfl rfl rfl ⟨rfl,rfl⟩) ?_;refine gz1 ?_;refine uB 12 rfl ((by first|exact zF rfl|exact zm rfl)) ?_;refine gz2 ?_;refine uM 15 rfl rfl (fun M hM=>by subst hM;exact z8 (i:=0) ty3 rfl rfl (.inl ⟨rfl,rfl⟩) ⟨rfl,rfl⟩) ?_;refine gz3 ?_;refine uCo (fun h9=> ?_) fun h10=> ?_
 refine gz4 ?_;refine z7 rfl ⟨?_,rfl⟩
 show HVal.int .i64 _=_
 refine congrArg _ ?_;unfold zdg
 focus first
 |(simp_all [zaK,zaV,rPl,rHu];done)
 |(simp_all [zaK,zaV,rPl,rHu];(repeat' split)<;>first|rfl|(exfalso;omega)|omega)
 refine gz2 ?_;refine dq (zao (f:=HVal.str) (l:=rPl k x.Team) zk rfl) ?_;refine gz1 ?_;refine dq ((by first|exact zF rfl|exact zm rfl)) ?_;refine gz2 ?_;refine de rfl (uZ 0 ?_)
 refine gz3 ?_;refine uCo (fun h11=> ?_) fun h12=> ?_
 refine gz4 ?_;refine z7 rfl ⟨?_,rfl⟩
 show HVal.int .i64 _=_
 refine congrArg _ ?_;unfold zdg
 focus first
 |(simp_all [zaK,zaV,rPl,rHu];done)
 |(simp_all [zaK,zaV,rPl,rHu];(repeat' split)<;>first|rfl|(exfalso;omega)|omega)
 refine gz8 ?_;refine z7 rfl ⟨?_,rfl⟩
 show HVal.int .i64 _=_
 refine congrArg _ ?_;unfold zdg
 focus first
 |(simp_all [zaK,zaV,rPl,rHu];done)
 |(simp_all [zaK,zaV,rPl,rHu];(repeat' split)<;>first|rfl|(exfalso;omega)|omega)
 refine gz4 ?_;refine uCo (fun h13=> ?_) fun h14=> ?_
 refine gz2 ?_;refine dq ((by first|exact zn zz rfl ty9 (by decide) rfl|exact zh zz rfl ty9 (by decide) rfl)) ?_;refine gz3 ?_;refine uCo (fun h15=> ?_) fun h16=> ?_
 refine gz4 ?_;refine z7 rfl ⟨?_,rfl⟩
 show HVal.int .i64 _=_
 refine congrArg _ ?_;unfold zdg
 focus first
 |(simp_all [zaK,zaV,rPl,rHu];done)
 |(simp_all [zaK,zaV,rPl,rHu];(repeat' split)<;>first|rfl|(exfalso;omega)|omega)
 refine gz7 ?_;refine z7 rfl ⟨?_,rfl⟩
 show HVal.int .i64 _=_
 refine congrArg _ ?_;unfold zdg
 focus first
 |(simp_all [zaK,zaV,rPl,rHu];done)
 |(simp_all [zaK,zaV,rPl,rHu];(repeat' split)<;>first|rfl|(exfalso;omega)|omega)
 refine gz4 ?_;refine uCo (fun h17=> ?_) fun h18=> ?_
 refine gz3 ?_;refine dq ((by first|exact zn zz rfl ty9 (by decide) rfl|exact zh zz rfl ty9 (by decide) rfl)) ?_;refine gz1 ?_;refine dq (uCl zeG rfl (zv (l:=rPl k x.Team) (by have:=hP x.Team;omega))) ?_;refine gz3 ?_;refine uCo (fun h19=> ?_) fun h20=> ?_
 refine gz4 ?_;refine z7 rfl ⟨?_,rfl⟩
 show HVal.int .i64 _=_
 refine congrArg _ ?_;unfold zdg
 focus first
 |(simp_all [zaK,zaV,rPl,rHu];done)
 |(simp_all [zaK,zaV,rPl,rHu];(repeat' split)<;>first|rfl|(exfalso;omega)|omega)
 refine gz2 ?_;refine dq (zao (f:=HVal.str) (l:=rHu k x.Team) zk rfl) ?_;refine gz1 ?_;refine dq ((by first|exact zF rfl|exact zm rfl)) ?_;refine gz2 ?_;refine de rfl (uZ 0 ?_)
 refine gz3 ?_;refine uCo (fun h21=> ?_) fun h22=> ?_
 refine gz4 ?_;refine z7 rfl ⟨?_,rfl⟩
 show HVal.int .i64 _=_
 refine congrArg _ ?_;unfold zdg
 focus first
 |(simp_all [zaK,zaV,rPl,rHu];done)
 |(simp_all [zaK,zaV,rPl,rHu];(repeat' split)<;>first|rfl|(exfalso;omega)|omega)
 refine gz8 ?_;refine z7 rfl ⟨?_,rfl⟩
 show HVal.int .i64 _=_
 refine congrArg _ ?_;unfold zdg
 focus first
 |(simp_all [zaK,zaV,rPl,rHu];done)
 |(simp_all [zaK,zaV,rPl,rHu];(repeat' split)<;>first|rfl|(exfalso;omega)|omega)
 refine gz4 ?_;refine uCo (fun h23=> ?_) fun h24=> ?_
 refine gz3 ?_;refine dq ((by first|exact zn zz rfl ty9 (by decide) rfl|exact zh zz rfl ty9 (by decide) rfl)) ?_;refine gz1 ?_;refine dq (uCl zeG rfl (zv (l:=rHu k x.Team) (by have:=hH x.Team;omega))) ?_;refine gz3 ?_;refine uCo (fun h25=> ?_) fun h26=> ?_
 refine gz4 ?_;refine z7 rfl ⟨?_,rfl⟩
 show HVal.int .i64 _=_
 refine congrArg _ ?_;unfold zdg
 focus first
 |(simp_all [zaK,zaV,rPl,rHu];done)
 |(simp_all [zaK,zaV,rPl,rHu];(repeat' split)<;>first|rfl|(exfalso;omega)|omega)
 refine gz2 ?_;refine dq (zao (f:=HVal.str) (l:=rPl k x.Team) zk rfl) ?_;refine gz1 ?_;refine dq ((by first|exact zF rfl|exact zm rfl)) ?_;refine gz2 ?_;refine de rfl (uZ 0 ?_)
 refine gz3 ?_;refine uCo (fun h27=> ?_) fun h28=> ?_
 refine gz4 ?_;refine z7 rfl ⟨?_,rfl⟩
 show HVal.int .i64 _=_
 refine congrArg _ ?_;unfold zdg
 focus first
 |(simp_all [zaK,zaV,rPl,rHu];done)
 |(simp_all [zaK,zaV,rPl,rHu];(repeat' split)<;>first|rfl|(exfalso;omega)|omega)
 refine gz8 ?_;refine z7 rfl ⟨?_,rfl⟩
 show HVal.int .i64 _=_
 refine congrArg _ ?_;unfold zdg
 focus first
 |(simp_all [zaK,zaV,rPl,rHu];done)
 |(simp_all [zaK,zaV,rPl,rHu];(repeat' split)<;>first|rfl|(exfalso;omega)|omega)
 refine gz7 ?_;refine z7 rfl ⟨?_,rfl⟩
 show HVal.int .i64 _=_
 refine congrArg _ ?_;unfold zdg
 focus first
 |(simp_all [zaK,zaV,rPl,rHu];done)
 |(simp_all [zaK,zaV,rPl,rHu];(repeat' split)<;>first|rfl|(exfalso;omega)|omega)
end
end Go.Proofs.YtahegdhbakjdoaaGreatDoor
namespace Go.HL
section
open Go
theorem zmm {b:BoundS} {n:Int} {x:MoveS}: ∀{l:List MoveS} {i:Nat} {k:RosS},l[i]? =some x->zgP b n k (l.take (i+1))=if x.At<=n then zgQ b (zgP b n k (l.take i)) x else zgP b n k (l.take i)
 |[],i,k,h=>by cases i<;>cases h
 |y::r,0,k,h=>by
   obtain rfl:=Aw h
   rfl
 |y::r,i+1,k,h=>by
   show zgP b n _ (r.take (i+1))=if x.At<=n then zgQ b (zgP b n _ (r.take i)) x else zgP b n _ (r.take i)
   exact zmm (l:=r) h
structure RosW (k:RosS):Prop where
 p: ∀t,SortedS (rPl k t)/\(rPl k t).length<=100000
 h: ∀t,SortedS (rHu k t)/\(rHu k t).length<=100000
 a: ∀w,0<=zaV k w/\zaV k w<=100000
 dr: ∀q∈k.D,0<=q.2/\q.2<=345686399999
 dj: ∀t p,p∈rPl k t->p∉rHu k t
theorem RosOk.w {n:Nat} {k:RosS} (h:RosOk n k) (hn:n<=100000):RosW k:=
 ⟨fun t=>⟨(h.sp t).1,by have:=(h.sp t).2.1;omega⟩,fun t=>⟨(h.sh t).1,by have:=(h.sh t).2.1;omega⟩,fun w=>by have:=h.ad w;omega,h.dr,h.dj⟩
theorem zu8 {b:BoundS} {l:List MoveS} {n:Int} (hl: ∀x∈l,(0<=x.At/\x.At<=345686399999)/\(1<=x.Kind/\x.Kind<=4)/\x.Team≠[]) (hn:l.length<=2000) (i:Nat):RosW (zgP b n zpo (l.take i)):=
 (zpl (b:=b) (m:=n) zsX (l:=l.take i) fun x hx=>hl x (AR hx)).w (by rw [AD];omega)
def zjy (b:BoundS) (l:List MoveS) (p:Str) (n:Int):Int:=if orI [zbZ b,zcN l]≠0 then orI [zbZ b,zcN l] else if key p=false then 5 else if zT n=false then 1 else 0
def frE (b:BoundS) (l:List MoveS) (ps:List Str) (n:Int):Int:=
 if orI [zbZ b,zcN l]≠0 then orI [zbZ b,zcN l] else if 500<ps.length then 2 else if (ps.any fun s=> !key s)=true then 5 else if zT n=false then 1 else 0
theorem zyl {b:BoundS} {l:List MoveS} {p:Str} {n:Int} (h:zjy b l p n=0):zcN l=0/\key p=true/\zT n=true:=by
 unfold zjy at h
 by_cases h1:orI [zbZ b,zcN l]≠0
 rw [if_pos h1] at h;exact absurd h h1;rw [if_neg h1] at h
 by_cases h2:key p=false
 rw [if_pos h2] at h;cases h;rw [if_neg h2] at h
 by_cases h3:zT n=false
 rw [if_pos h3] at h;cases h;exact ⟨(or2z (Decidable.not_not.1 h1)).2,by simpa using h2,by simpa using h3⟩
theorem zAK {b:BoundS} {l:List MoveS} {ps:List Str} {n:Int} (h:frE b l ps n=0):zcN l=0/\zT n=true:=by
 unfold frE at h
 by_cases h1:orI [zbZ b,zcN l]≠0
 rw [if_pos h1] at h;exact absurd h h1;rw [if_neg h1] at h
 by_cases h2:500<ps.length
 rw [if_pos h2] at h;cases h;rw [if_neg h2] at h
 by_cases h4:(ps.any fun s=> !key s)=true
 rw [if_pos h4] at h;cases h;rw [if_neg h4] at h
 by_cases h3:zT n=false
 rw [if_pos h3] at h;cases h;exact ⟨(or2z (Decidable.not_not.1 h1)).2,by simpa using h3⟩
theorem zsE {b:BoundS} {l:List MoveS} {ps:List Str} {n:Int} (h1:orI [zbZ b,zcN l]=0) (h2: ¬500<ps.length) (h3:(ps.any fun s=> !key s)=false) (h4:zT n=true):frE b l ps n=0:=by
 unfold frE;rw [if_neg (fun q=>q h1),if_neg h2,if_neg (by rw [h3];simp),if_neg (by rw [h4];simp)]
theorem fr1 {b:BoundS} {l:List MoveS} {ps:List Str} {n:Int} (h1: ¬orI [zbZ b,zcN l]=0):frE b l ps n=orI [zbZ b,zcN l]:=by unfold frE;rw [if_pos h1]
theorem fr2 {b:BoundS} {l:List MoveS} {ps:List Str} {n:Int} (h1:orI [zbZ b,zcN l]=0) (h2:500<ps.length):frE b l ps n=2:=by unfold frE;rw [if_neg (fun q=>q h1),if_pos h2]
theorem fr3 {b:BoundS} {l:List MoveS} {ps:List Str} {n:Int} (h1:orI [zbZ b,zcN l]=0) (h2: ¬500<ps.length) (h3:(ps.any fun s=> !key s)=true):frE b l ps n=5:=by unfold frE;rw [if_neg (fun q=>q h1),if_neg h2,if_pos h3]
theorem fr4 {b:BoundS} {l:List MoveS} {ps:List Str} {n:Int} (h1:orI [zbZ b,zcN l]=0) (h2: ¬500<ps.length) (h3:(ps.any fun s=> !key s)=false) (h4:zT n=false):frE b l ps n=1:=by unfold frE;rw [if_neg (fun q=>q h1),if_neg h2,if_neg (by rw [h3];simp),if_pos h4]
theorem zpp {b:BoundS} {l:List MoveS} {n:Int} (hm:zcN l=0):RosW (zbM b l n):=by
 obtain ⟨hl,hml⟩:=zrH hm;have:=zu8 (b:=b) (n:=n) (l:=l) (fun x hx=>⟨(hml x hx).1,(hml x hx).2.1,fun e=>by have:=(hml x hx).2.2.1;rw [e] at this;cases this⟩) hl l.length;rw [An] at this;exact this
theorem zpZ {n:Int} (h:zT n=true):0<=n/\n<=345686399999:=by
 simp [zT,out] at h;omega
theorem zpI (b:BoundS) (k:RosS) (n:Int) (l:List Str):(zgd b k n l).length<=l.length:=AU _ _
theorem zoe {b:BoundS} {k:RosS} {n:Int} {l:List Str} {i:Nat} {x:Str} (hx:l[i]? =some x):
 zgd b k n (l.take (i+1))=if (decide (zaK k x=[])&& !zjq b k x n)=true then zgd b k n (l.take i)++[x] else zgd b k n (l.take i):=by
 unfold zgd;rw [zaj hx,Bn]
 split
 rename_i h;rw [List.filter_cons_of_pos (p:=fun s=>decide (zaK k s=[])&& !zjq b k s n) h];rfl
 rename_i h;rw [List.filter_cons_of_neg (p:=fun s=>decide (zaK k s=[])&& !zjq b k s n) h];simp
end
end Go.HL
namespace Go.Proofs.YtahegdhbakjdoaaGreatDoor
set_option maxRecDepth 100000
set_option linter.unusedVariables false
set_option linter.unusedSimpArgs false
section
open Go.Proofs.Tryz
open Go.HL
theorem zkC [Tracks] {kb pb hb ob db ab:Nat} {b:BoundS} {k:RosS} {x:MoveS} (hx:0<=x.At/\x.At<=345686399999) (hk:1<=x.Kind/\x.Kind<=4) (hP: ∀t,SortedS (rPl k t)/\(rPl k t).length<=100000) (hH: ∀t,SortedS (rHu k t)/\(rHu k t).length<=100000) (hA: ∀w,0<=zaV k w/\zaV k w<=100000) (hD: ∀q∈k.D,0<=q.2/\q.2<=345686399999) (hd: ∀t p,p∈rPl k t->p∉rHu k t):Con prog 223 [.raw (.pointer (some ⟨kb,0,none⟩)),zcx x] (zci kb pb hb ob db ab b k) (fun x1 M'=>x1= .int .i64 (zdg b k x)/\M'=(zci kb pb hb ob db ab b (zgQ b k x))):=by
 refine uOb func223 ntmps223 ?_;refine gz7 ?_;refine de rfl (zaQ (M1:=(zci kb pb hb ob db ab b k)) (R:=[]) zAv rfl (WeakL.refl _) (by rw [A9]) (zm1 hx hD (fun t=>by have:=(hP t).2;omega) (fun t=>by have:=(hH t).2;omega)) ?_)
 rintro _ _ ⟨rfl,rfl⟩;refine gz2 ?_;refine zbx (fun M=>M=(zci kb pb hb ob db ab b k)) [3,6,10,13] mixed ?_;refine gz1 ?_;refine uB 1 rfl ((by first|exact zF rfl|exact zm rfl)) ?_;refine gz1 ?_;refine uM 3 rfl rfl (fun M hM=>by subst hM;exact z8 (i:=0) zcQ rfl rfl (.inl ⟨rfl,rfl⟩) ⟨rfl,rfl⟩) ?_;refine uB 4 rfl ((by first|exact zn zz rfl ty9 (by decide) rfl|exact zh zz rfl ty9 (by decide) rfl)) ?_;refine gz1 ?_;refine uM 6 rfl rfl (fun M hM=>by subst hM;exact zek (i:=1) (f:=eSs) (z0:=([]:List Str)) zcQ ty9 zk rfl rfl rfl (zQ 1) ⟨rfl,rfl⟩) ?_;refine gz1 ?_;refine uB 8 rfl ((by first|exact zF rfl|exact zm rfl)) ?_;refine gz1 ?_;refine uM 10 rfl rfl (fun M hM=>by subst hM;exact z8 (i:=0) zcQ rfl rfl (.inl ⟨rfl,rfl⟩) ⟨rfl,rfl⟩) ?_;refine uB 11 rfl ((by first|exact zn zz rfl ty9 (by decide) rfl|exact zh zz rfl ty9 (by decide) rfl)) ?_;refine gz1 ?_;refine uM 13 rfl rfl (fun M hM=>by subst hM;exact zek (i:=2) (f:=eSs) (z0:=([]:List Str)) zcQ ty9 zk rfl rfl rfl (zQ 1) ⟨rfl,rfl⟩) ?_;refine gz3 ?_;refine uVj [6,2,25,76] (fun (q:RosS×List Str×List Str)=>[(6,eSs q.2.1),(7,eSs q.2.2)]) (fun (q:RosS×List Str×List Str)=>(zci kb pb hb ob db ab b q.1)) (fun (q:RosS×List Str×List Str)=>zgQ b k x=⟨zA x.Team q.2.1 q.1.P,zA x.Team q.2.2 q.1.H,q.1.O,q.1.D,q.1.A⟩) ?_ ?_
 skip
 refine gz4 ?_;refine uCo (fun h1=> ?_) fun h2=> ?_
 refine gz1 ?_;refine dq ((by first|exact zn zz rfl ty3 (by decide) rfl|exact zh zz rfl ty3 (by decide) rfl)) ?_;refine gz7 ?_;refine zaB rfl (fun h3=> ?_) (fun h4=> ?_)
 try simp at h3
 refine gz2 ?_;refine dq ((by first|exact zn zz rfl ty9 (by decide) rfl|exact zh zz rfl ty9 (by decide) rfl)) ?_;refine gz1 ?_;refine dq (uCl ztr rfl (ziC (l:=(rPl k x.Team)) (by have:=(hP x.Team).2;omega) (hP x.Team).1)) ?_;refine gz2 ?_;refine zbx (fun M=>M=(zci kb pb hb ob db ab b k)) [3] mixed ?_;refine gz1 ?_;refine uB 1 rfl ((by first|exact zF rfl|exact zm rfl)) ?_;refine gz1 ?_;refine uM 3 rfl rfl (fun M hM=>by subst hM;exact z8 (i:=0) zgr rfl rfl (.inl ⟨rfl,rfl⟩) ⟨rfl,rfl⟩) ?_;refine uB 4 rfl ((by first|exact zn zz rfl ty9 (by decide) rfl|exact zh zz rfl ty9 (by decide) rfl)) ?_;refine gz1 ?_;refine uB 6 rfl ((by first|exact zn zz rfl ty9 (by decide) rfl|exact zh zz rfl ty9 (by decide) rfl)) ?_;refine gz1 ?_;refine uF 8 ?_;refine zK (zcU (i:=3) (f:=HVal.str) (L:=k.O) (v:=x.Team) zgr ty9 rfl rfl rfl rfl ?_)
 refine ⟨uE,?_⟩
 refine gz1 ?_;refine za1 (fun M=>M=(zci kb pb hb ob db ab b (⟨k.P,k.H,zA x.Player x.Team k.O,k.D,k.A⟩:RosS))\/∃j st,zbc (x.Team,Int.tdiv x.At 604800000) (zcD (x.Team,Int.tdiv x.At 604800000) (HVal.int .i64 0) (em (HVal.int .i64) k.A))=some j/\M=[MObj.cells kb (kBk b pb hb ob db ab),MObj.map pb (sk (em eSs k.P)),MObj.map hb (sk (em eSs k.H)),MObj.map ob (sk (em HVal.str (zA x.Player x.Team k.O))),MObj.map db (sk (em (HVal.int .i64) k.D)),MObj.mape ab (kk eWk (zcD (x.Team,Int.tdiv x.At 604800000) (HVal.int .i64 0) (em (HVal.int .i64) k.A))) j st]) [3,10] mixed ?_;refine gz1 ?_;refine uB 1 rfl ((by first|exact zF rfl|exact zm rfl)) ?_;refine gz1 ?_;refine uM 3 rfl (.inl rfl) (fun M hM=>by
 rcases hM with rfl|⟨j,st,hj,rfl⟩
 exact z8 (i:=0) zia rfl rfl (.inl ⟨rfl,rfl⟩) ⟨rfl,rfl⟩;exact z8 (i:=0) zia rfl rfl (.inl ⟨rfl,rfl⟩) ⟨rfl,rfl⟩) ?_
 refine uB 4 rfl ((by first|exact zn zz rfl ty9 (by decide) rfl|exact zh zz rfl ty9 (by decide) rfl)) ?_;refine gz1 ?_;refine uB 6 rfl ((by first|exact zn zz rfl ty3 (by decide) rfl|exact zh zz rfl ty3 (by decide) rfl)) ?_;refine gz1 ?_;refine uB 8 rfl (zfY rfl rfl uO uO uO) ?_;refine uB 9 rfl (zI (cs:=[_,_]) zt9 zxc rfl) ?_;refine uM 10 rfl (.inl rfl) (fun M hM=>by
 rcases hM with rfl|⟨j,st,hj,rfl⟩
 exact zeK (i:=5) (s:=(x.Team,Int.tdiv x.At 604800000)) (z0:=(0:Int)) (f:=HVal.int .i64) zia zqR ty3 rfl rfl rfl rfl ⟨rfl,rfl⟩;exact zl0 (i:=5) (s:=(x.Team,Int.tdiv x.At 604800000)) (z0:=(0:Int)) (f:=HVal.int .i64) zia zqR ty3 rfl rfl rfl rfl ⟨rfl,rfl⟩) ?_
 refine uB 11 rfl (zbf rfl rfl (by have:=hA (x.Team,Int.tdiv x.At 604800000);unfold zaV at this;dsimp only;omega) (by have:=hA (x.Team,Int.tdiv x.At 604800000);unfold zaV at this;dsimp only;omega)) ?_;refine uF 12 ?_;refine zq rfl (zlg (i:=5) (s:=(x.Team,Int.tdiv x.At 604800000)) (z0:=(0:Int)) (f:=HVal.int .i64) zia zqR ty3 rfl rfl rfl rfl fun j55 st55 hj55=> ?_)
 refine ⟨fun _=> .inl (.inr ⟨j55,st55,hj55,rfl⟩),?_⟩
 refine gz1 ?_;refine uF 14 ?_;refine zK (zje (i:=5) (s:=(x.Team,Int.tdiv x.At 604800000)) (f:=HVal.int .i64) (z0:=(0:Int)) (v:=zaV k (x.Team,Int.tdiv x.At 604800000)+1) rfl rfl rfl rfl hj55 ?_)
 refine ⟨uE,?_⟩
 refine gz2 ?_;exact ⟨((⟨k.P,k.H,zA x.Player x.Team k.O,k.D,zA (x.Team,Int.tdiv x.At 604800000) (zaV k (x.Team,Int.tdiv x.At 604800000)+1) k.A⟩:RosS),zeO (rPl k x.Team) x.Player,(rHu k x.Team)),by rw [zgQ,if_neg (by simpa using h1),if_pos (by assumption)],⟨rfl,rfl,trivial⟩,uK,Ab _⟩
 try simp at h4
 refine gz4 ?_;refine uCo (fun h5=> ?_) fun h6=> ?_
 refine uDr mixed ?_;refine gz1 ?_;refine uB 1 rfl ((by first|exact zn zz rfl ty9 (by decide) rfl|exact zh zz rfl ty9 (by decide) rfl)) ?_;refine gz1 ?_;refine uB 3 rfl (uCl zqG rfl (zfx (l:=(rPl k x.Team)) (by have:=(fun t=>(hP t).2) x.Team;omega))) ?_;refine gz1 ?_;refine uB 5 rfl ((by first|exact zn zz rfl ty9 (by decide) rfl|exact zh zz rfl ty9 (by decide) rfl)) ?_;refine gz1 ?_;refine uB 7 rfl (uCl zqG rfl (zfx (l:=(rHu k x.Team)) (by have:=(fun t=>(hH t).2) x.Team;omega))) ?_;refine gz3 ?_;refine zbx (fun M=>M=(zci kb pb hb ob db ab b k)) [3] mixed ?_;refine gz1 ?_;refine uB 1 rfl ((by first|exact zF rfl|exact zm rfl)) ?_;refine gz1 ?_;refine uM 3 rfl rfl (fun M hM=>by subst hM;exact z8 (i:=0) zgr rfl rfl (.inl ⟨rfl,rfl⟩) ⟨rfl,rfl⟩) ?_;refine uB 4 rfl ((by first|exact zn zz rfl ty9 (by decide) rfl|exact zh zz rfl ty9 (by decide) rfl)) ?_;refine gz1 ?_;refine uF 6 ?_;refine zK (ztB (i:=3) (f:=HVal.str) (L:=k.O) (s:=x.Player) zgr ty9 rfl rfl rfl ?_)
 refine ⟨uE,?_⟩
 refine gz1 ?_;refine za1 (fun M=>M=(zci kb pb hb ob db ab b (⟨k.P,k.H,zcb x.Player k.O,k.D,k.A⟩:RosS))) [3] mixed ?_;refine gz1 ?_;refine uB 1 rfl ((by first|exact zF rfl|exact zm rfl)) ?_;refine gz1 ?_;refine uM 3 rfl rfl (fun M hM=>by subst hM;exact z8 (i:=0) zdO rfl rfl (.inl ⟨rfl,rfl⟩) ⟨rfl,rfl⟩) ?_;refine uB 4 rfl ((by first|exact zn zz rfl ty9 (by decide) rfl|exact zh zz rfl ty9 (by decide) rfl)) ?_;refine gz1 ?_;refine uB 6 rfl ((by first|exact zn zz rfl ty3 (by decide) rfl|exact zh zz rfl ty3 (by decide) rfl)) ?_;refine gz1 ?_;refine uF 8 ?_;refine zK (zcU (i:=4) (f:=HVal.int .i64) (L:=k.D) (v:=x.At) zdO ty9 rfl rfl rfl rfl ?_)
 refine ⟨uE,?_⟩
 refine gz2 ?_;exact ⟨((⟨k.P,k.H,zcb x.Player k.O,zA x.Player x.At k.D,k.A⟩:RosS),zgN (rPl k x.Team) x.Player,zgN (rHu k x.Team) x.Player),by rw [zgQ,if_neg (by simpa using h1),if_neg (by assumption),if_pos (by assumption)],⟨rfl,rfl,trivial⟩,uK,Ab _⟩;refine gz4 ?_;refine uCo (fun h7=> ?_) fun h8=> ?_
 refine zlb mixed ?_;refine gz1 ?_;refine uB 1 rfl ((by first|exact zn zz rfl ty9 (by decide) rfl|exact zh zz rfl ty9 (by decide) rfl)) ?_;refine gz1 ?_;refine uB 3 rfl (uCl zqG rfl (zfx (l:=(rPl k x.Team)) (by have:=(fun t=>(hP t).2) x.Team;omega))) ?_;refine gz1 ?_;refine uB 5 rfl ((by first|exact zn zz rfl ty9 (by decide) rfl|exact zh zz rfl ty9 (by decide) rfl)) ?_;refine gz1 ?_;refine uB 7 rfl (uCl ztr rfl (ziC (l:=(rHu k x.Team)) (by have:=(hH x.Team).2;omega) (hH x.Team).1)) ?_;refine gz4 ?_;exact ⟨(k,zgN (rPl k x.Team) x.Player,zeO (rHu k x.Team) x.Player),by rw [zgQ,if_neg (by simpa using h1),if_neg (by assumption),if_neg (by assumption),if_pos (by assumption)],⟨rfl,rfl,trivial⟩,uK,Ab _⟩;refine gz4 ?_;refine zaB rfl (fun h9=> ?_) (fun h9=> ?_)
 try simp at h9
 refine zlb mixed ?_;refine gz1 ?_;refine uB 1 rfl ((by first|exact zn zz rfl ty9 (by decide) rfl|exact zh zz rfl ty9 (by decide) rfl)) ?_;refine gz1 ?_;refine uB 3 rfl (uCl ztr rfl (ziC (l:=(rPl k x.Team)) (by have:=(hP x.Team).2;omega) (hP x.Team).1)) ?_;refine gz1 ?_;refine uB 5 rfl ((by first|exact zn zz rfl ty9 (by decide) rfl|exact zh zz rfl ty9 (by decide) rfl)) ?_;refine gz1 ?_;refine uB 7 rfl (uCl zqG rfl (zfx (l:=(rHu k x.Team)) (by have:=(fun t=>(hH t).2) x.Team;omega))) ?_;refine gz4 ?_;exact ⟨(k,zeO (rPl k x.Team) x.Player,zgN (rHu k x.Team) x.Player),by rw [zgQ,if_neg (by simpa using h1),if_neg (by assumption),if_neg (by assumption),if_neg (by assumption)],⟨rfl,rfl,trivial⟩,uK,Ab _⟩
 exfalso
 try simp at h9
 omega
 refine gz1 ?_;exact ⟨(k,(rPl k x.Team),(rHu k x.Team)),by rw [zgQ,if_pos (by simpa using h2)],⟨rfl,rfl,trivial⟩,uK,Ab _⟩
 intro q hq
 refine zbx (fun M=>M=(zci kb pb hb ob db ab b q.1)) [3,9] mixed ?_;refine gz1 ?_;refine uB 1 rfl ((by first|exact zF rfl|exact zm rfl)) ?_;refine gz1 ?_;refine uM 3 rfl rfl (fun M hM=>by subst hM;exact z8 (i:=0) zcQ rfl rfl (.inl ⟨rfl,rfl⟩) ⟨rfl,rfl⟩) ?_;refine uB 4 rfl ((by first|exact zn zz rfl ty9 (by decide) rfl|exact zh zz rfl ty9 (by decide) rfl)) ?_;refine gz2 ?_;refine uB 7 rfl ((by first|exact zF rfl|exact zm rfl)) ?_;refine gz1 ?_;refine uM 9 rfl rfl (fun M hM=>by subst hM;exact z8 (i:=0) zcQ rfl rfl (.inl ⟨rfl,rfl⟩) ⟨rfl,rfl⟩) ?_;refine uB 10 rfl ((by first|exact zn zz rfl ty9 (by decide) rfl|exact zh zz rfl ty9 (by decide) rfl)) ?_;refine gz3 ?_;refine uF 14 ?_;refine zq rfl (zlh (i:=1) (s:=x.Team) (f:=eSs) (L:=q.1.P) zcQ ty9 zk rfl rfl rfl fun j115 st115 hj115=> ?_)
 refine ⟨uE,?_⟩
 refine gz1 ?_;refine uF 16 ?_;refine zK (zjf (i:=1) (s:=x.Team) (f:=eSs) (L:=q.1.P) (v:=q.2.1) rfl rfl rfl rfl hj115 ?_)
 refine ⟨uE,?_⟩
 refine uF 17 ?_;refine zq rfl (zlh (i:=2) (s:=x.Team) (f:=eSs) (L:=q.1.H) zcQ ty9 zk rfl rfl rfl fun j117 st117 hj117=> ?_)
 refine ⟨uE,?_⟩
 refine gz1 ?_;refine uF 19 ?_;refine zK (zjf (i:=2) (s:=x.Team) (f:=eSs) (L:=q.1.H) (v:=q.2.2) rfl rfl rfl rfl hj117 ?_)
 refine ⟨uE,?_⟩
 refine gz6 ?_;refine z7 rfl ⟨rfl,?_⟩
 rw [hq];rfl
theorem zqu [Tracks] {i e:Int}:ConP prog 150 [.int .i64 i,.int .i64 e] (.tup []):=by
 refine uOb func150 ntmps150 ?_;refine gz1 ?_;refine ztX rfl ?_
 rfl
theorem znV [Tracks] {b:BoundS} {l:List MoveS} {n:Int} {fid:FuncId} (hm:zcN l=0) (hca:Callable prog fid) (hp: ∀i e:Int,ConP prog fid [.int .i64 i,.int .i64 e] (.tup [])):Con prog 149 [zdR b,zbH l,.int .i64 n,.fn (.func fid) [] []] [] (fun x M'=> ∃kb pb hb ob db ab:Nat,x= .raw (.pointer (some ⟨kb,0,none⟩))/\M'=(zci kb pb hb ob db ab b (zbM b l n))):=by
 obtain ⟨hl,hml⟩:=zrH hm;have hmk: ∀x∈l,(0<=x.At/\x.At<=345686399999)/\(1<=x.Kind/\x.Kind<=4)/\x.Team≠[]:=fun x hx=>⟨(hml x hx).1,(hml x hx).2.1,fun e=>by have:=(hml x hx).2.2.1;rw [e] at this;cases this⟩
 refine uOb func149 ntmps149 ?_;refine gz6 ?_;refine de rfl (zaM fun m13=> ?_)
 refine de rfl (zaM fun m14=> ?_)
 refine de rfl (zaM fun m15=> ?_)
 refine de rfl (zaM fun m16=> ?_)
 refine de rfl (zaM fun m17=> ?_)
 refine dq (zI (cs:=[_,_,_,_,_,_,_,_,_]) zxg zAT rfl) ?_;refine de rfl (zsC rfl rfl fun kb=> ?_)
 refine gz2 ?_;refine zf (Ghost.perm (M':=zci kb m13 m14 m15 m16 m17 b zpo) uQ) ?_;refine gz7 ?_;refine uT1 [10,2,22,16] (fun i=>[(22,.int .i64 i)]) (fun i=>zci kb m13 m14 m15 m16 m17 b (zgP b n zpo (l.take i))) (fun i=>i<=l.length/\(True)) (fun i=>l.length-i) (0) ?_ ?_;exact ⟨Ad _,trivial⟩;rintro i ⟨hi,-⟩;refine gz4 ?_;refine uCo (fun h1=> ?_) fun h2=> ?_
 obtain ⟨x,hx⟩: ∃x,l[i]? =some x:=⟨_,Aa h1⟩
 have hdx:=zg hx;obtain ⟨hx1,hx2,_⟩:=hmk x (Ac hx);have hok:=zu8 (b:=b) (n:=n) hmk hl i;refine gz8 ?_;refine de rfl (zj zz rfl fun b11=> ?_)
 refine gz1 ?_;refine de0 (zo zz rfl rfl rfl rfl rfl ?_)
 refine gz1 ?_;refine zf (zp 11 rfl) ?_;refine gz6 ?_;refine uCo (fun h3=> ?_) fun h4=> ?_
 refine gz5 ?_;refine de rfl (zaQ (M1:=zci kb m13 m14 m15 m16 m17 b (zgP b n zpo (l.take i))) (R:=[]) zzY rfl (WeakL.refl _) (by rw [A9]) (zkC hx1 hx2 hok.p hok.h hok.a hok.dr hok.dj) ?_)
 rintro _ _ ⟨rfl,rfl⟩;refine dq (zaw hca rfl rfl (WeakL.refl _) (hp _ _)) ?_;refine gz7 ?_;exact ⟨i+1,⟨by omega,trivial⟩,uD,⟨rfl,trivial⟩,uK,zu (by dsimp only;rw [zmm hx,if_pos (by assumption)];try rfl)⟩;refine gz7 ?_;exact ⟨i+1,⟨by omega,trivial⟩,uD,⟨rfl,trivial⟩,uK,zu (by dsimp only;rw [zmm hx,if_neg uO];try rfl)⟩;have hni:l.length<=i:=by omega
 obtain rfl:i=l.length:=by omega
 rw [An];refine gz2 ?_;refine zt ?_;refine gz7 ?_;exact z7 rfl ⟨_,_,_,_,_,_,rfl,rfl⟩
theorem zm6 [Tracks] {b:BoundS} {l:List MoveS} {n:Int} (hm:zcN l=0):Con prog 72 [zdR b,zbH l,.int .i64 n] [] (fun x M'=> ∃kb pb hb ob db ab:Nat,x= .raw (.pointer (some ⟨kb,0,none⟩))/\M'=(zci kb pb hb ob db ab b (zbM b l n))):=by
 refine uOb func72 ntmps72 ?_;refine gz8 ?_;refine de rfl (zaQ (M1:=[]) (R:=[]) zzi rfl (WeakL.refl _) (Ab _) (znV hm zzj (fun _ _=>zqu)) ?_)
 rintro _ _ ⟨kb,pb,hb,ob,db,ab,rfl,rfl⟩;refine gz3 ?_;exact z7 rfl ⟨_,_,_,_,_,_,rfl,rfl⟩
theorem zj4 [Tracks] {b:BoundS} {l:List MoveS} (hl:l.length<=1000000):ConP prog 68 [zdR b,zbH l] (.int .i64 (orI [zbZ b,zcN l])):=by
 refine uOb func68 ntmps68 ?_;refine gz6 ?_;refine dq (uCl zwD rfl zf5) ?_;refine gz1 ?_;refine dq (uCl zwB rfl (zgB uS)) ?_;refine dq (za (hs:=[_,_]) zdN zfP rfl rfl (by decide) (by decide) rfl) ?_;refine dq (uCl zkJ rfl (zb0 (l:=[_,_]) (by simp))) ?_;refine gz3 ?_;refine zw rfl ?_
 rfl
theorem zlp [Tracks] {b:BoundS} {l:List MoveS} {p:Str} {n:Int} (hl:l.length<=1000000):ConP prog 75 [zdR b,zbH l,.str p,.int .i64 n] (.int .i64 (zjy b l p n)):=by
 refine uOb func75 ntmps75 ?_;refine gz8 ?_;refine dq (uCl ca68 rfl (zj4 uS)) ?_;refine gz6 ?_;refine uCo (fun h1=> ?_) fun h2=> ?_
 refine gz5 ?_;refine uRp ?_;unfold zjy
 simp_all
 refine gz6 ?_;refine dq (uCl zcp rfl zah) ?_;refine gz3 ?_;refine uCo (fun h3=> ?_) fun h4=> ?_
 refine gz4 ?_;refine uRp ?_;unfold zjy
 simp_all
 refine gz2 ?_;refine dq (uCl zhx rfl zaZ) ?_;refine gz3 ?_;refine uCo (fun h5=> ?_) fun h6=> ?_
 refine gz4 ?_;refine uRp ?_;unfold zjy
 simp_all
 refine gz7 ?_;refine uRp ?_;unfold zjy
 simp_all
theorem znU [Tracks] {s:Str}:ConP prog 70 [.str s] (.bool (!key s)):=by
 refine uOb func70 ntmps70 ?_;refine gz5 ?_;refine dq (uCl zcp rfl zah) ?_;refine gz4 ?_;refine zw rfl ?_
 rfl
theorem zqt [Tracks] {b:BoundS} {l:List MoveS} {ps:List Str} {n:Int} (hl:l.length<=1000000) (hps:ps.length<=1000000):ConP prog 27 [zdR b,zbH l,eSs ps,.int .i64 n] (.tup [eSs (if frE b l ps n≠0 then [] else zgd b (zbM b l n) n ps),.int .i64 (frE b l ps n)]):=by
 refine uOb func27 ntmps27 ?_;refine gz9 ?_;refine dq (uCl ca68 rfl (zj4 uS)) ?_;refine gz6 ?_;refine uCo (fun h1=> ?_) fun h2=> ?_
 refine gz6 ?_
 focus first
 |exact za5 rfl (zW (by rw [if_pos (by rw [fr1 h1];first|exact h1|decide)];exact zQ 1) (by rw [fr1 h1];exact Weak.refl _))
 |exact za5 rfl (zW (by rw [if_pos (by rw [fr2 (by simpa using h2) uO];first|exact h1|decide)];exact zQ 1) (by rw [fr2 (by simpa using h2) uO];exact Weak.refl _))
 |exact za5 rfl (zW (by rw [if_pos (by rw [fr3 (by simpa using h2) uO (by simpa using h5)];first|exact h1|decide)];exact zQ 1) (by rw [fr3 (by simpa using h2) uO (by simpa using h5)];exact Weak.refl _))
 |exact za5 rfl (zW (by rw [if_pos (by rw [fr4 (by simpa using h2) uO (by simpa using h6) (by simpa using h7)];first|exact h1|decide)];exact zQ 1) (by rw [fr4 (by simpa using h2) uO (by simpa using h6) (by simpa using h7)];exact Weak.refl _))
 | (refine zae ((zas 8 (i:=6) rfl rfl).trans Ghost.clear) rfl ⟨?_,rfl⟩
    show HVal.tup _=_
    rw [if_neg (fun q=>q hz0),hz0];rfl)
 refine zan ?_;refine uCo (fun h3=> ?_) fun h4=> ?_
 refine gz5 ?_
 focus first
 |exact za5 rfl (zW (by rw [if_pos (by rw [fr1 h1];first|exact h1|decide)];exact zQ 1) (by rw [fr1 h1];exact Weak.refl _))
 |exact za5 rfl (zW (by rw [if_pos (by rw [fr2 (by simpa using h2) uO];first|exact h1|decide)];exact zQ 1) (by rw [fr2 (by simpa using h2) uO];exact Weak.refl _))
 |exact za5 rfl (zW (by rw [if_pos (by rw [fr3 (by simpa using h2) uO (by simpa using h5)];first|exact h1|decide)];exact zQ 1) (by rw [fr3 (by simpa using h2) uO (by simpa using h5)];exact Weak.refl _))
 |exact za5 rfl (zW (by rw [if_pos (by rw [fr4 (by simpa using h2) uO (by simpa using h6) (by simpa using h7)];first|exact h1|decide)];exact zQ 1) (by rw [fr4 (by simpa using h2) uO (by simpa using h6) (by simpa using h7)];exact Weak.refl _))
 | (refine zae ((zas 8 (i:=6) rfl rfl).trans Ghost.clear) rfl ⟨?_,rfl⟩
    show HVal.tup _=_
    rw [if_neg (fun q=>q hz0),hz0];rfl)
 refine gz2 ?_;refine dq (uCl zvt rfl (zcv (l:=ps) (p:=fun s=> !key s) ca70 (fun _=>znU) hps)) ?_;refine gz2 ?_;refine uCo (fun h5=> ?_) fun h6=> ?_
 refine gz5 ?_
 focus first
 |exact za5 rfl (zW (by rw [if_pos (by rw [fr1 h1];first|exact h1|decide)];exact zQ 1) (by rw [fr1 h1];exact Weak.refl _))
 |exact za5 rfl (zW (by rw [if_pos (by rw [fr2 (by simpa using h2) uO];first|exact h1|decide)];exact zQ 1) (by rw [fr2 (by simpa using h2) uO];exact Weak.refl _))
 |exact za5 rfl (zW (by rw [if_pos (by rw [fr3 (by simpa using h2) uO (by simpa using h5)];first|exact h1|decide)];exact zQ 1) (by rw [fr3 (by simpa using h2) uO (by simpa using h5)];exact Weak.refl _))
 |exact za5 rfl (zW (by rw [if_pos (by rw [fr4 (by simpa using h2) uO (by simpa using h6) (by simpa using h7)];first|exact h1|decide)];exact zQ 1) (by rw [fr4 (by simpa using h2) uO (by simpa using h6) (by simpa using h7)];exact Weak.refl _))
 | (refine zae ((zas 8 (i:=6) rfl rfl).trans Ghost.clear) rfl ⟨?_,rfl⟩
    show HVal.tup _=_
    rw [if_neg (fun q=>q hz0),hz0];rfl)
 refine gz2 ?_;refine dq (uCl zhx rfl zaZ) ?_;refine gz3 ?_;refine uCo (fun h7=> ?_) fun h8=> ?_
 refine gz5 ?_
 focus first
 |exact za5 rfl (zW (by rw [if_pos (by rw [fr1 h1];first|exact h1|decide)];exact zQ 1) (by rw [fr1 h1];exact Weak.refl _))
 |exact za5 rfl (zW (by rw [if_pos (by rw [fr2 (by simpa using h2) uO];first|exact h1|decide)];exact zQ 1) (by rw [fr2 (by simpa using h2) uO];exact Weak.refl _))
 |exact za5 rfl (zW (by rw [if_pos (by rw [fr3 (by simpa using h2) uO (by simpa using h5)];first|exact h1|decide)];exact zQ 1) (by rw [fr3 (by simpa using h2) uO (by simpa using h5)];exact Weak.refl _))
 |exact za5 rfl (zW (by rw [if_pos (by rw [fr4 (by simpa using h2) uO (by simpa using h6) (by simpa using h7)];first|exact h1|decide)];exact zQ 1) (by rw [fr4 (by simpa using h2) uO (by simpa using h6) (by simpa using h7)];exact Weak.refl _))
 | (refine zae ((zas 8 (i:=6) rfl rfl).trans Ghost.clear) rfl ⟨?_,rfl⟩
    show HVal.tup _=_
    rw [if_neg (fun q=>q hz0),hz0];rfl)
 refine gz3 ?_;have hz0:frE b l ps n=0:=zsE (by simpa using h2) uO (by simpa using h6) (by simpa using h8);obtain ⟨hm0,hn0⟩:=zAK hz0;have hok:=zpp (b:=b) (n:=n) hm0;have hn1:=zpZ hn0;refine gz4 ?_;refine de rfl (zaQ (M1:=[]) (R:=[]) ca72 rfl (WeakL.refl _) (Ab _) (zm6 (b:=b) (l:=l) (n:=n) hm0) ?_)
 rintro _ _ ⟨kb,pb,hb,ob,db,ab,rfl,rfl⟩;refine gz5 ?_;refine zf (zM 1) ?_;refine gz7 ?_;refine uV2 [12,1,14,1,38,23] (fun (i:Nat) (u:Value)=>[(38,.int .i64 i),(12,.raw u)]) (fun (i:Nat) (u:Value)=>(zci kb pb hb ob db ab b (zbM b l n))++[.arr u 1 ((zgd b (zbM b l n) n (ps.take i)).map .str)]) (fun (i:Nat) (u:Value)=>i<=ps.length/\(True)) (fun (i:Nat) (u:Value)=>ps.length-i) (0) (.slice none 0 0) ?_ ?_ ?_ ?_;exact ⟨Ad _,trivial⟩;exact ⟨rfl,rfl,trivial⟩;exact uQ
 intro i u hinv
 obtain ⟨hi,-⟩:=hinv;refine gz4 ?_;refine uCo (fun h9=> ?_) fun h10=> ?_
 obtain ⟨x,hx⟩: ∃x,ps[i]? =some x:=⟨_,Aa h9⟩
 have hdx:=zg hx;refine zcC ?_;refine dq ((by first|exact zF rfl|exact zm rfl)) ?_;refine gz1 ?_;refine de rfl (uZ 0 ?_)
 refine gz1 ?_;refine de rfl (zdA (i:=3) (f:=HVal.str) (z0:=([]:Str)) zgr ty9 ty9 rfl rfl rfl rfl ?_)
 refine gz5 ?_;refine dgl (h:= .bool (zjq b (zbM b l n) x n)) rfl rfl (fun hc=>⟨_,OpenTo.upd (t:=52) rfl uC (OpenTo.upd (t:=51) rfl uC (OpenTo.upd (t:=50) rfl uC (OpenTo.refl _))),zaQ (M1:=(zci kb pb hb ob db ab b (zbM b l n))) (R:=[_]) ca73 rfl (WeakL.refl _) (Ab _) (zhd hn1 hok.dr) (by rintro _ _ ⟨rfl,rfl⟩;exact ⟨rfl,rfl⟩)⟩) ?_;refine gz3 ?_;refine uCo (fun h11=> ?_) fun h12=> ?_
 refine gz3 ?_;refine dq (za (hs:=[_]) zk ty9 rfl rfl (by decide) (by decide) rfl) ?_;refine de rfl (zO (i:=6) zk ty9 rfl rfl rfl rfl rfl (by simp [zax,zb]) (by have:=zpI b (zbM b l n) n (ps.take i);simp only [Ah,Ai,AG,AD] at*;omega) fun v59=> ?_)
 refine gz8 ?_;exact ⟨i+1,v59,⟨by omega,trivial⟩,uD,⟨rfl,rfl,trivial⟩,uK,zu (by dsimp only;rw [zoe hx,if_pos (by simp [zaK,h11.1,h11.2]),AB];rfl)⟩;refine gz7 ?_;exact ⟨i+1,u,⟨by omega,trivial⟩,uD,⟨rfl,rfl,trivial⟩,uK,zu (by dsimp only;rw [zoe hx,if_neg (by intro q;simp [zaK] at q;have q1:=h12 (of_decide_eq_true q.1);rw [q.2] at q1;cases q1)])⟩;have hni:ps.length<=i:=by omega
 obtain rfl:i=ps.length:=by omega
 rw [An];refine gz2 ?_;refine zL ?_;refine gz8 ?_
 focus first
 |exact za5 rfl (zW (by rw [if_pos (by rw [fr1 h1];first|exact h1|decide)];exact zQ 1) (by rw [fr1 h1];exact Weak.refl _))
 |exact za5 rfl (zW (by rw [if_pos (by rw [fr2 (by simpa using h2) uO];first|exact h1|decide)];exact zQ 1) (by rw [fr2 (by simpa using h2) uO];exact Weak.refl _))
 |exact za5 rfl (zW (by rw [if_pos (by rw [fr3 (by simpa using h2) uO (by simpa using h5)];first|exact h1|decide)];exact zQ 1) (by rw [fr3 (by simpa using h2) uO (by simpa using h5)];exact Weak.refl _))
 |exact za5 rfl (zW (by rw [if_pos (by rw [fr4 (by simpa using h2) uO (by simpa using h6) (by simpa using h7)];first|exact h1|decide)];exact zQ 1) (by rw [fr4 (by simpa using h2) uO (by simpa using h6) (by simpa using h7)];exact Weak.refl _))
 | (refine zae ((zas 8 (i:=6) rfl rfl).trans Ghost.clear) rfl ⟨?_,rfl⟩
    show HVal.tup _=_
    rw [if_neg (fun q=>q hz0),hz0];rfl)
end
end Go.Proofs.YtahegdhbakjdoaaGreatDoor
namespace Go.Proofs
section
open Go.Shelf
def Tryz.g227_ren:Go.Shelf.Ren:=⟨fun|7=>227|10=>284|n=>n,fun|23=>225|26=>9|3=>4|28=>307|0=>0|27=>306|33=>144|4=>4|n=>n,fun|n=>n⟩
theorem zpw:Go.Proofs.SlLaysZ.n7 Tryz.prog Tryz.g227_ren:={
 mixed:=by kernel_rfl
 f7:=⟨Tryz.f227.name,by decide,Tryz.func227.trans (congrArg some (by kernel_rfl))⟩
 f10:=⟨Tryz.f284.name,by decide,Tryz.func284.trans (congrArg some (by kernel_rfl))⟩
 t0:=Tryz.underlying0
 a0:=Tryz.isAgg0
 z0:=Tryz.sizeOf0
 v0:=Tryz.zeroValue0
 t4:=Tryz.underlying4
 a4:=Tryz.isAgg4
 z4:=Tryz.sizeOf4
 v4:=Tryz.zeroValue4
 t23:=Tryz.underlying225
 a23:=Tryz.isAgg225
 z23:=Tryz.sizeOf225
 v23:=Tryz.zeroValue225
 t26:=Tryz.underlying9
 a26:=Tryz.isAgg9
 z26:=Tryz.sizeOf9
 v26:=Tryz.zeroValue9
 t27:=Tryz.underlying306
 a27:=Tryz.isAgg306
 z27:=Tryz.sizeOf306
 v27:=Tryz.zeroValue306
 t28:=Tryz.underlying307
 a28:=Tryz.isAgg307
 z28:=Tryz.sizeOf307
 v28:=Tryz.zeroValue307
 t33:=Tryz.underlying144
 a33:=Tryz.isAgg144
 z33:=Tryz.sizeOf144
 v33:=Tryz.zeroValue144}
def Tryz.g226_ren:Go.Shelf.Ren:=⟨fun|6=>226|8=>283|9=>172|11=>322|13=>198|12=>235|23=>258|24=>259|14=>288|15=>289|16=>290|17=>291|18=>292|19=>293|20=>294|21=>295|22=>296|25=>339|26=>303|27=>304|28=>340|29=>341|30=>300|31=>359|n=>n,fun|26=>9|28=>307|24=>33|0=>0|3=>3|37=>284|48=>332|50=>334|4=>4|40=>326|39=>325|45=>122|5=>5|9=>9|51=>362|55=>366|57=>406|58=>407|33=>144|n=>n,fun|n=>n⟩
theorem zuh:Go.Proofs.SlLaysZ.n6 Tryz.prog Tryz.g226_ren:={
 mixed:=by kernel_rfl
 f6:=⟨Tryz.f226.name,by decide,Tryz.func226.trans (congrArg some (by kernel_rfl))⟩
 f8:=⟨Tryz.f283.name,by decide,Tryz.func283.trans (congrArg some (by kernel_rfl))⟩
 f11:=⟨Tryz.f322.name,by decide,Tryz.func322.trans (congrArg some (by kernel_rfl))⟩
 t0:=Tryz.underlying0
 a0:=Tryz.isAgg0
 z0:=Tryz.sizeOf0
 v0:=Tryz.zeroValue0
 t24:=Tryz.underlying33
 a24:=Tryz.isAgg33
 z24:=Tryz.sizeOf33
 v24:=Tryz.zeroValue33
 t26:=Tryz.underlying9
 a26:=Tryz.isAgg9
 z26:=Tryz.sizeOf9
 v26:=Tryz.zeroValue9
 t28:=Tryz.underlying307
 a28:=Tryz.isAgg307
 z28:=Tryz.sizeOf307
 v28:=Tryz.zeroValue307
 i26:=by kernel_rfl}
def Tryz.g172_ren:Go.Shelf.Ren:=⟨fun|6=>172|8=>198|9=>235|19=>258|20=>259|21=>288|22=>289|23=>290|24=>291|25=>292|26=>293|27=>294|28=>295|29=>296|36=>339|31=>303|32=>304|37=>340|38=>341|39=>300|41=>359|n=>n,fun|27=>33|29=>9|3=>3|32=>284|26=>33|0=>0|44=>332|46=>334|4=>4|36=>326|35=>325|41=>122|5=>5|9=>9|53=>362|57=>366|63=>406|64=>407|n=>n,fun|n=>n⟩
theorem zpv:Go.Proofs.SlLaysM.n6 Tryz.prog Tryz.g172_ren:={
 mixed:=by kernel_rfl
 f6:=⟨Tryz.f172.name,by decide,Tryz.func172.trans (congrArg some (by kernel_rfl))⟩
 f8:=Tryz.func198.trans (congrArg some (by kernel_rfl))
 f9:=⟨Tryz.f235.name,by decide,Tryz.func235.trans (congrArg some (by kernel_rfl))⟩
 f19:=Tryz.func258.trans (congrArg some (by kernel_rfl))
 f20:=Tryz.func259.trans (congrArg some (by kernel_rfl))
 f21:=⟨Tryz.f288.name,by decide,Tryz.func288.trans (congrArg some (by kernel_rfl))⟩
 f22:=⟨Tryz.f289.name,by decide,Tryz.func289.trans (congrArg some (by kernel_rfl))⟩
 f23:=⟨Tryz.f290.name,by decide,Tryz.func290.trans (congrArg some (by kernel_rfl))⟩
 f24:=⟨Tryz.f291.name,by decide,Tryz.func291.trans (congrArg some (by kernel_rfl))⟩
 f25:=⟨Tryz.f292.name,by decide,Tryz.func292.trans (congrArg some (by kernel_rfl))⟩
 f26:=⟨Tryz.f293.name,by decide,Tryz.func293.trans (congrArg some (by kernel_rfl))⟩
 f27:=⟨Tryz.f294.name,by decide,Tryz.func294.trans (congrArg some (by kernel_rfl))⟩
 f28:=⟨Tryz.f295.name,by decide,Tryz.func295.trans (congrArg some (by kernel_rfl))⟩
 f29:=⟨Tryz.f296.name,by decide,Tryz.func296.trans (congrArg some (by kernel_rfl))⟩
 f31:=Tryz.func303.trans (congrArg some (by kernel_rfl))
 f32:=Tryz.func304.trans (congrArg some (by kernel_rfl))
 f36:=⟨Tryz.f339.name,by decide,Tryz.func339.trans (congrArg some (by kernel_rfl))⟩
 f37:=⟨Tryz.f340.name,by decide,Tryz.func340.trans (congrArg some (by kernel_rfl))⟩
 f38:=⟨Tryz.f341.name,by decide,Tryz.func341.trans (congrArg some (by kernel_rfl))⟩
 f39:=⟨Tryz.f300.name,by decide,Tryz.func300.trans (congrArg some (by kernel_rfl))⟩
 f41:=⟨Tryz.f359.name,by decide,Tryz.func359.trans (congrArg some (by kernel_rfl))⟩
 t0:=Tryz.underlying0
 a0:=Tryz.isAgg0
 z0:=Tryz.sizeOf0
 v0:=Tryz.zeroValue0
 t3:=Tryz.underlying3
 a3:=Tryz.isAgg3
 z3:=Tryz.sizeOf3
 v3:=Tryz.zeroValue3
 t4:=Tryz.underlying4
 a4:=Tryz.isAgg4
 z4:=Tryz.sizeOf4
 v4:=Tryz.zeroValue4
 t5:=Tryz.underlying5
 a5:=Tryz.isAgg5
 z5:=Tryz.sizeOf5
 v5:=Tryz.zeroValue5
 t9:=Tryz.underlying9
 a9:=Tryz.isAgg9
 z9:=Tryz.sizeOf9
 v9:=Tryz.zeroValue9
 t26:=Tryz.underlying33
 a26:=Tryz.isAgg33
 z26:=Tryz.sizeOf33
 v26:=Tryz.zeroValue33
 t27:=Tryz.underlying33
 a27:=Tryz.isAgg33
 z27:=Tryz.sizeOf33
 v27:=Tryz.zeroValue33
 t29:=Tryz.underlying9
 a29:=Tryz.isAgg9
 z29:=Tryz.sizeOf9
 v29:=Tryz.zeroValue9
 t32:=Tryz.underlying284
 a32:=Tryz.isAgg284
 z32:=Tryz.sizeOf284
 v32:=Tryz.zeroValue284
 t35:=Tryz.underlying325
 a35:=Tryz.isAgg325
 z35:=Tryz.sizeOf325
 v35:=Tryz.zeroValue325
 t36:=Tryz.underlying326
 a36:=Tryz.isAgg326
 z36:=Tryz.sizeOf326
 v36:=Tryz.zeroValue326
 t41:=Tryz.underlying122
 a41:=Tryz.isAgg122
 z41:=Tryz.sizeOf122
 v41:=Tryz.zeroValue122
 t44:=Tryz.underlying332
 a44:=Tryz.isAgg332
 z44:=Tryz.sizeOf332
 v44:=Tryz.zeroValue332
 t46:=Tryz.underlying334
 a46:=Tryz.isAgg334
 z46:=Tryz.sizeOf334
 v46:=Tryz.zeroValue334
 t53:=Tryz.underlying362
 a53:=Tryz.isAgg362
 z53:=Tryz.sizeOf362
 v53:=Tryz.zeroValue362
 t57:=Tryz.underlying366
 a57:=Tryz.isAgg366
 z57:=Tryz.sizeOf366
 v57:=Tryz.zeroValue366
 t63:=Tryz.underlying406
 a63:=Tryz.isAgg406
 z63:=Tryz.sizeOf406
 v63:=Tryz.zeroValue406
 t64:=Tryz.underlying407
 a64:=Tryz.isAgg407
 z64:=Tryz.sizeOf407
 v64:=Tryz.zeroValue407}
def Tryz.g112_ren:Go.Shelf.Ren:=⟨fun|6=>112|15=>198|14=>197|28=>258|29=>259|20=>250|21=>251|22=>252|23=>253|24=>254|25=>255|26=>256|27=>257|46=>302|47=>303|48=>304|49=>305|50=>306|57=>343|n=>n,fun|22=>34|24=>204|25=>206|3=>3|39=>284|0=>0|53=>332|55=>334|4=>4|46=>326|45=>325|50=>122|5=>5|9=>9|66=>362|70=>366|76=>406|77=>407|n=>n,fun|n=>n⟩
theorem zug:Go.Proofs.SlLaysF0.n6 Tryz.prog Tryz.g112_ren:={
 mixed:=by kernel_rfl
 f6:=⟨Tryz.f112.name,by decide,Tryz.func112.trans (congrArg some (by kernel_rfl))⟩
 f14:=⟨Tryz.f197.name,by decide,Tryz.func197.trans (congrArg some (by kernel_rfl))⟩
 f15:=Tryz.func198.trans (congrArg some (by kernel_rfl))
 f20:=⟨Tryz.f250.name,by decide,Tryz.func250.trans (congrArg some (by kernel_rfl))⟩
 f21:=⟨Tryz.f251.name,by decide,Tryz.func251.trans (congrArg some (by kernel_rfl))⟩
 f22:=⟨Tryz.f252.name,by decide,Tryz.func252.trans (congrArg some (by kernel_rfl))⟩
 f23:=⟨Tryz.f253.name,by decide,Tryz.func253.trans (congrArg some (by kernel_rfl))⟩
 f24:=⟨Tryz.f254.name,by decide,Tryz.func254.trans (congrArg some (by kernel_rfl))⟩
 f25:=⟨Tryz.f255.name,by decide,Tryz.func255.trans (congrArg some (by kernel_rfl))⟩
 f26:=⟨Tryz.f256.name,by decide,Tryz.func256.trans (congrArg some (by kernel_rfl))⟩
 f27:=⟨Tryz.f257.name,by decide,Tryz.func257.trans (congrArg some (by kernel_rfl))⟩
 f28:=Tryz.func258.trans (congrArg some (by kernel_rfl))
 f29:=Tryz.func259.trans (congrArg some (by kernel_rfl))
 f46:=⟨Tryz.f302.name,by decide,Tryz.func302.trans (congrArg some (by kernel_rfl))⟩
 f47:=Tryz.func303.trans (congrArg some (by kernel_rfl))
 f48:=Tryz.func304.trans (congrArg some (by kernel_rfl))
 f49:=⟨Tryz.f305.name,by decide,Tryz.func305.trans (congrArg some (by kernel_rfl))⟩
 f50:=⟨Tryz.f306.name,by decide,Tryz.func306.trans (congrArg some (by kernel_rfl))⟩
 f57:=⟨Tryz.f343.name,by decide,Tryz.func343.trans (congrArg some (by kernel_rfl))⟩
 t0:=Tryz.underlying0
 a0:=Tryz.isAgg0
 z0:=Tryz.sizeOf0
 v0:=Tryz.zeroValue0
 t3:=Tryz.underlying3
 a3:=Tryz.isAgg3
 z3:=Tryz.sizeOf3
 v3:=Tryz.zeroValue3
 t4:=Tryz.underlying4
 a4:=Tryz.isAgg4
 z4:=Tryz.sizeOf4
 v4:=Tryz.zeroValue4
 t5:=Tryz.underlying5
 a5:=Tryz.isAgg5
 z5:=Tryz.sizeOf5
 v5:=Tryz.zeroValue5
 t9:=Tryz.underlying9
 a9:=Tryz.isAgg9
 z9:=Tryz.sizeOf9
 v9:=Tryz.zeroValue9
 t22:=Tryz.underlying34
 a22:=Tryz.isAgg34
 z22:=Tryz.sizeOf34
 v22:=Tryz.zeroValue34
 t25:=Tryz.underlying206
 a25:=Tryz.isAgg206
 z25:=Tryz.sizeOf206
 v25:=Tryz.zeroValue206
 t39:=Tryz.underlying284
 a39:=Tryz.isAgg284
 z39:=Tryz.sizeOf284
 v39:=Tryz.zeroValue284
 t45:=Tryz.underlying325
 a45:=Tryz.isAgg325
 z45:=Tryz.sizeOf325
 v45:=Tryz.zeroValue325
 t46:=Tryz.underlying326
 a46:=Tryz.isAgg326
 z46:=Tryz.sizeOf326
 v46:=Tryz.zeroValue326
 t50:=Tryz.underlying122
 a50:=Tryz.isAgg122
 z50:=Tryz.sizeOf122
 v50:=Tryz.zeroValue122
 t53:=Tryz.underlying332
 a53:=Tryz.isAgg332
 z53:=Tryz.sizeOf332
 v53:=Tryz.zeroValue332
 t55:=Tryz.underlying334
 a55:=Tryz.isAgg334
 z55:=Tryz.sizeOf334
 v55:=Tryz.zeroValue334
 t66:=Tryz.underlying362
 a66:=Tryz.isAgg362
 z66:=Tryz.sizeOf362
 v66:=Tryz.zeroValue362
 t70:=Tryz.underlying366
 a70:=Tryz.isAgg366
 z70:=Tryz.sizeOf366
 v70:=Tryz.zeroValue366
 t76:=Tryz.underlying406
 a76:=Tryz.isAgg406
 z76:=Tryz.sizeOf406
 v76:=Tryz.zeroValue406
 t77:=Tryz.underlying407
 a77:=Tryz.isAgg407
 z77:=Tryz.sizeOf407
 v77:=Tryz.zeroValue407}
def Tryz.g228_ren:Go.Shelf.Ren:=⟨fun|6=>228|15=>198|14=>285|28=>258|29=>259|20=>323|21=>324|22=>325|23=>326|24=>327|25=>328|26=>329|27=>330|46=>353|47=>303|48=>304|49=>354|50=>355|57=>368|n=>n,fun|22=>107|24=>304|25=>310|3=>3|39=>284|0=>0|53=>332|55=>334|4=>4|46=>326|45=>325|50=>122|5=>5|9=>9|66=>362|70=>366|76=>406|77=>407|n=>n,fun|n=>n⟩
theorem zui:Go.Proofs.SlLaysF0.n6 Tryz.prog Tryz.g228_ren:={
 mixed:=by kernel_rfl
 f6:=⟨Tryz.f228.name,by decide,Tryz.func228.trans (congrArg some (by kernel_rfl))⟩
 f14:=⟨Tryz.f285.name,by decide,Tryz.func285.trans (congrArg some (by kernel_rfl))⟩
 f15:=Tryz.func198.trans (congrArg some (by kernel_rfl))
 f20:=⟨Tryz.f323.name,by decide,Tryz.func323.trans (congrArg some (by kernel_rfl))⟩
 f21:=⟨Tryz.f324.name,by decide,Tryz.func324.trans (congrArg some (by kernel_rfl))⟩
 f22:=⟨Tryz.f325.name,by decide,Tryz.func325.trans (congrArg some (by kernel_rfl))⟩
 f23:=⟨Tryz.f326.name,by decide,Tryz.func326.trans (congrArg some (by kernel_rfl))⟩
 f24:=⟨Tryz.f327.name,by decide,Tryz.func327.trans (congrArg some (by kernel_rfl))⟩
 f25:=⟨Tryz.f328.name,by decide,Tryz.func328.trans (congrArg some (by kernel_rfl))⟩
 f26:=⟨Tryz.f329.name,by decide,Tryz.func329.trans (congrArg some (by kernel_rfl))⟩
 f27:=⟨Tryz.f330.name,by decide,Tryz.func330.trans (congrArg some (by kernel_rfl))⟩
 f28:=Tryz.func258.trans (congrArg some (by kernel_rfl))
 f29:=Tryz.func259.trans (congrArg some (by kernel_rfl))
 f46:=⟨Tryz.f353.name,by decide,Tryz.func353.trans (congrArg some (by kernel_rfl))⟩
 f47:=Tryz.func303.trans (congrArg some (by kernel_rfl))
 f48:=Tryz.func304.trans (congrArg some (by kernel_rfl))
 f49:=⟨Tryz.f354.name,by decide,Tryz.func354.trans (congrArg some (by kernel_rfl))⟩
 f50:=⟨Tryz.f355.name,by decide,Tryz.func355.trans (congrArg some (by kernel_rfl))⟩
 f57:=⟨Tryz.f368.name,by decide,Tryz.func368.trans (congrArg some (by kernel_rfl))⟩
 t0:=Tryz.underlying0
 a0:=Tryz.isAgg0
 z0:=Tryz.sizeOf0
 v0:=Tryz.zeroValue0
 t3:=Tryz.underlying3
 a3:=Tryz.isAgg3
 z3:=Tryz.sizeOf3
 v3:=Tryz.zeroValue3
 t4:=Tryz.underlying4
 a4:=Tryz.isAgg4
 z4:=Tryz.sizeOf4
 v4:=Tryz.zeroValue4
 t5:=Tryz.underlying5
 a5:=Tryz.isAgg5
 z5:=Tryz.sizeOf5
 v5:=Tryz.zeroValue5
 t9:=Tryz.underlying9
 a9:=Tryz.isAgg9
 z9:=Tryz.sizeOf9
 v9:=Tryz.zeroValue9
 t22:=Tryz.underlying107
 a22:=Tryz.isAgg107
 z22:=Tryz.sizeOf107
 v22:=Tryz.zeroValue107
 t25:=Tryz.underlying310
 a25:=Tryz.isAgg310
 z25:=Tryz.sizeOf310
 v25:=Tryz.zeroValue310
 t39:=Tryz.underlying284
 a39:=Tryz.isAgg284
 z39:=Tryz.sizeOf284
 v39:=Tryz.zeroValue284
 t45:=Tryz.underlying325
 a45:=Tryz.isAgg325
 z45:=Tryz.sizeOf325
 v45:=Tryz.zeroValue325
 t46:=Tryz.underlying326
 a46:=Tryz.isAgg326
 z46:=Tryz.sizeOf326
 v46:=Tryz.zeroValue326
 t50:=Tryz.underlying122
 a50:=Tryz.isAgg122
 z50:=Tryz.sizeOf122
 v50:=Tryz.zeroValue122
 t53:=Tryz.underlying332
 a53:=Tryz.isAgg332
 z53:=Tryz.sizeOf332
 v53:=Tryz.zeroValue332
 t55:=Tryz.underlying334
 a55:=Tryz.isAgg334
 z55:=Tryz.sizeOf334
 v55:=Tryz.zeroValue334
 t66:=Tryz.underlying362
 a66:=Tryz.isAgg362
 z66:=Tryz.sizeOf362
 v66:=Tryz.zeroValue362
 t70:=Tryz.underlying366
 a70:=Tryz.isAgg366
 z70:=Tryz.sizeOf366
 v70:=Tryz.zeroValue366
 t76:=Tryz.underlying406
 a76:=Tryz.isAgg406
 z76:=Tryz.sizeOf406
 v76:=Tryz.zeroValue406
 t77:=Tryz.underlying407
 a77:=Tryz.isAgg407
 z77:=Tryz.sizeOf407
 v77:=Tryz.zeroValue407}
end
end Go.Proofs
namespace Go.HL
section
variable {P:Program}
open Go.Sort Go.Proofs Go.Shelf Go.RowKit
theorem zrx [Tracks] {w w':World} {J:Imm} {M:List MObj} (hT:Tracks.on=true) (hl:Le (zbX w) J) (hs:Sat P J M w'): ∃q os,w'=grow (w.drewN q) os:=by
 have hb:=zlD hl hs;have hd:w.drawn<=w'.drawn:=Ay (hl.low hT) (hs.low hT);refine ⟨w'.drawn-w.drawn,w'.heap.extract w.heap.size w'.heap.size,?_⟩
 have hh:w'.heap=w.heap++w'.heap.extract w.heap.size w'.heap.size:=by
  apply Array.ext_getElem?
  intro i
  by_cases hi:i<w.heap.size
  rw [AE hi];exact hb.block i hi;rw [Array.getElem?_append_right (by omega),Array.getElem?_extract];have:=hb.size
  split
  congr 1;omega
  rw [Ak (by omega)]
 have h1:=hb.os;have h2:=hb.tape;have h3:=hb.output;obtain ⟨a1,a2,a3,a4,a5⟩:=w';obtain ⟨b1,b2,b3,b4,b5⟩:=w;simp only at h1 h2 h3 hd hh;subst h1 h2 h3;simp only [grow,World.drewN,World.mk.injEq];exact ⟨hh,trivial,by omega,trivial,trivial⟩
theorem ConP.calls [Tracks] {f:FuncId} {hargs:List HVal} {h:HVal} (hT:Tracks.on=true) (hc:ConP P f hargs h) {w:World} (ht:TabI P (zbX w)) {args:List Value} (ha:VL (zbX w) hargs args):
 Calls P f args.toArray w fun e w'=> ∃v,e= .returned v/\V (zbX w') h v/\∃q os,w'=grow (w.drewN q) os:=by
 refine (hc (zbX w) [] w args ha (zs0 ht)).mono ?_;rintro e w' ⟨v,x,M',J,rfl,hle,⟨rfl,rfl⟩,hV,hs⟩;exact ⟨v,rfl,hV.mono hs.le_all,zrx hT hle hs⟩
@[reducible] def zki:Tracks:=⟨true⟩
abbrev zen {A:Type} (I:Imm) (e:A->HVal) (k:Nat):Type:={p:A×List Value//p.2.length=k/\(∀v∈p.2,v.oneCell'=true)/\VL I (zb (e p.1)) p.2}
theorem zsY [Tracks] {A:Type} {I:Imm} {e:A->HVal} {k:Nat} (hk: ∀x,(zb (e x)).length=k) (hf: ∀x,zax (zb (e x))=true) {rc:Array Value}: ∀(l:List A) (off:Nat),off+l.length*k<=rc.size->
 (∀(i j:Nat) (x:A) (c:HVal) (v:Value),l[i]? =some x->(zb (e x))[j]? =some c->rc[off+i*k+j]? =some v->V I c v)->
 ∃d:List (zen I e k),d.map (·.1.1)=l/\∀(i j:Nat) (p:zen I e k),d[i]? =some p->j<k->rc[off+i*k+j]? =p.1.2[j]?
 |[],off,_,_=>⟨[],rfl,fun i j p h=>by simp at h⟩
 |x::l,off,hb,hV=>by
   have hb':off+k+l.length*k<=rc.size:=by simp [AP] at hb;omega
   obtain ⟨d,h1,h2⟩:=zsY hk hf l (off+k) hb' fun i j y c v a1 a2 a3=>hV (i+1) j y c v (by simpa using a1) a2 (by rw [AP,Nat.one_mul];rw [show off+(i*k+k)+j=off+k+i*k+j by omega];exact a3)
   have hlen:(rc.extract off (off+k)).toList.length=k:=by simp;omega
   have hg: ∀j,j<k->(rc.extract off (off+k)).toList[j]? =rc[off+j]?:=fun j hj=>by
    rw [AS,Array.getElem?_extract,if_pos (by omega)]
   have hvl:VL I (zb (e x)) (rc.extract off (off+k)).toList:=⟨by rw [hlen,hk],fun j c v a1 a2=>by
    have hj:j<k:=by have:=zl a1;rw [hk] at this;exact this
    rw [hg j hj] at a2;exact hV 0 j x c v rfl a1 (by simpa using a2)⟩
   refine ⟨⟨(x,(rc.extract off (off+k)).toList),hlen,zkO hvl (hf x),hvl⟩::d,by simp [h1],fun i j p hp hj=> ?_⟩
   cases i with
   |zero=>
     simp only [AV,As] at hp;subst hp;simp only [Nat.zero_mul,Bz];exact (hg j hj).symm
   |succ i=>
     simp only [AO] at hp;rw [<-h2 i j p hp hj,AP,Nat.one_mul]
     congr 1;omega
section
variable {A:Type} {e:A->HVal} {k:Nat}
theorem zqc {α:Type} [Inhabited α] {enc:α->List Value} {w:World} {b off m:Nat} {dk:Array α} {os:Array Obj} {c:Nat} (hc:c<w.heap.size) (hb:c≠b):(sortWorldK enc k w b off m dk os).heap[c]? =w.heap[c]?:=by
 simp only [sortWorldK,grow,putRowK,putRow,mapBlock,Sort.ahead];rw [AE (by simpa using hc),AI,if_neg (Ne.symm hb)]
theorem zmu {α:Type} [Inhabited α] {enc:α->List Value} {w:World} {b off m:Nat} {dk:Array α} {os:Array Obj} {rc:Array Value} {el:TypeId} {fr:Nat×Nat} (hb:w.heap[b]? =some (.cells rc el fr)):
 (sortWorldK enc k w b off m dk os).heap[b]? =some (.cells (putCells id off (flatK enc k dk) rc) el fr):=by
 have hlt:b<w.heap.size:=lt_of_get' hb;simp only [sortWorldK,grow,putRowK,putRow,mapBlock,Sort.ahead];rw [AE (by simpa using hlt),AI,if_pos rfl,hb]
 rfl
where
 lt_of_get' {α:Type} {a:Array α} {i:Nat} {x:α} (h:a[i]? =some x):i<a.size:=by
  rcases Az i a.size with h'|h'
  exact h'
  simp [Ak h'] at h
theorem zpH {α:Type} [Inhabited α] {enc:α->List Value} (hk: ∀x,(enc x).length=k) {dk:Array α} {i j:Nat} {x:α} (hx:dk[i]? =some x) (hj:j<k):some ((flatK enc k dk)[i*k+j]!)=(enc x)[j]?:=by
 have hi:i<dk.size:=by
  rcases Az i dk.size with h'|h'
  exact h'
  simp [Ak h'] at hx
 have hle:(i+1)*k<=dk.size*k:=Av _ hi;rw [AP,Nat.one_mul] at hle;rw [get_flatK enc k dk _ (by omega)];have e1:(i*k+j)/k=i:=by rw [BA,Nat.mul_add_div (by omega),Nat.div_eq_of_lt hj];rfl
 have e2:(i*k+j)%k=j:=by rw [BA,Nat.mul_add_mod,Nat.mod_eq_of_lt hj]
 rw [e1,e2];have e3:dk[i]! =x:=by rw [getElem!_pos dk i hi];rw [Aj hi] at hx;exact Aw hx
 rw [e3];have hjl:j<(enc x).length:=by rw [hk];exact hj
 rw [Aa hjl,getElem!_pos (enc x) j hjl]
theorem zpC [Tracks] {ρ:Ren} (L:SlLaysF0.n6 P ρ) (aE: ∀w,(isAgg (ρ.t 24)).run P w= .ok true w) (zE: ∀w,(Go.sizeOf (ρ.t 24)).run P w= .ok k w) (hk: ∀x,(zb (e x)).length=k) (ha: ∀x,e x= .agg (zb (e x))) (hf: ∀x,zax (zb (e x))=true)
 {c:A->A->Int} (hO:SWO (ltOf c)) {g:FuncId} (hg:Callable P g) {cap:List HVal} (hc: ∀x y, @ConP zki P g (e x::e y::cap) (.int .i64 (c x y))) {l:List A} (hl:l.length<=1000000) {v:Value}:
 Con P (ρ.f 6) [.raw v,.fn (.func g) [] cap] [.arr v k (l.map e)] fun x M'=> ∃l':List A,x= .tup []/\l'.Perm l/\l'.Pairwise (fun a b=> ¬c b a<0)/\M'=[.arr v k (l'.map e)]:=by
 intro I F w args hargs hs
 obtain ⟨n1,n2⟩:=hargs
 match args,n1,n2 with
 |[u,fv],_,n2=>
   obtain rfl:u=v:=(n2 0 _ _ rfl rfl).raw_inv;obtain ⟨f1,cb,rfl,f2,f3⟩:=(n2 1 _ _ rfl rfl).fn_inv;have hf1:f1= #[]:=by have:=f2.1;simp at this;exact this
   subst hf1
   by_cases h0:l=[]
   subst h0;have hu: ∃p cp,u= .slice p 0 cp:=by
    rcases hs.obj (.arr u k (([]:List A).map e)) (by simp) with ⟨rfl,_⟩|⟨b,off,cp,rc,el,fr,rfl,_⟩
    exact ⟨_,_,rfl⟩;exact ⟨_,_,rfl⟩
   obtain ⟨p,cp,rfl⟩:=hu;refine (AnyF.slices_SortFunc_none L p cp _ w).mono ?_;rintro _ _ ⟨rfl,rfl⟩;exact ⟨_,.tup [],_,I,rfl,.refl I,⟨[],rfl,.refl _,.nil,rfl⟩,.tup (by simp) (fun j c v h _=>by simp at h),hs⟩
   rcases hs.obj (.arr u k (l.map e)) (by simp) with ⟨_,hn⟩|⟨b,off,cp,rc,el,fr,rfl,_⟩
   simp at hn;exact absurd hn h0
   rw [Ah] at hs⊢;obtain ⟨_,rc,el,fr,h2,h3,h4,h5,h6,h7⟩:=zir hs;rw [Ah] at h5;have hblt:b<w.heap.size:=zmu.lt_of_get' h2;have hsz:off+l.length*k<=rc.size:=by
    have:l.length*k<=cp*k:=Av _ h5.1
    omega
   obtain ⟨d,d1,d2⟩:=zsY (I:=I) (e:=e) hk hf (rc:=rc) l off hsz fun i j x c v a1 a2 a3=>h7 i j (e x) c v (by simp [a1]) a2 a3
   have dl:d.length=l.length:=by rw [<-d1];simp
   obtain ⟨p0,hp0⟩: ∃p,d[0]? =some p:=⟨_,Aa (by have:=List.length_pos_iff.2 h0;omega)⟩
   haveI:Inhabited (zen I e k):=⟨p0⟩
   have hkr: ∀x:zen I e k,(x.1.2).length=k:=fun x=>x.2.1
   have hH:HoldsK (fun x:zen I e k=>x.1.2) k w b off d.toArray:=fun j hj=>by
    simp only [size_flatK,Bs,dl] at hj;have hk0:0<k:=by rcases A0 k with h|h;(subst h;simp at hj);exact h
    have hi:j/k<d.length:=by rw [dl];exact Nat.div_lt_of_lt_mul (by rw [BA];exact hj)
    have hjk:=BO j hk0;have hdj:j/k*k+j%k=j:=by rw [BA];exact Nat.div_add_mod j k
    have hg1:=d2 (j/k) (j%k) d[j/k] (Aa hi) hjk;have hg2:=zpH (enc:=fun x:zen I e k=>x.1.2) (k:=k) hkr (dk:=d.toArray) (i:=j/k) (j:=j%k) (x:=d[j/k]) (by simp [hi]) hjk;rw [hdj] at hg2
    constructor
    rw [zbF h2];rw [show off+j=off+j/k*k+j%k by omega,hg1,<-hg2];rfl;simp only [World.frozen?,h2];have:=h3 (off+j) (by omega)
    simpa using this
   have hle: ∀(m:Nat) (dk:Array (zen I e k)) (os:Array Obj),Le I (zbX (sortWorldK (fun x:zen I e k=>x.1.2) k w b off m dk os)):=fun m dk os=>
    ⟨fun c o ho=>by
     have hcb:c≠b:=fun hh=>by
      subst hh;have:=hs.apart c (by simp [blocks,MObj.blocks]);rw [this] at ho;cases ho
     have h9:=hs.imm c o ho
     show (sortWorldK _ k w b off m dk os).heap[c]? =some o
     rw [zqc (zmu.lt_of_get' h9) hcb];exact h9,hs.os,hs.output,hs.tape,fun ht=>Ay (hs.low ht) (B6 _ _)⟩
   have hcmp:CmpLays P g cb (fun x:zen I e k=>x.1.2) k (fun x y=>c x.1.1 y.1.1) b off d.toArray.size w:=fun m os dk _ x y=>by
    have hI:=hle m dk os;have hxa: ∀z:zen I e k,V (zbX (sortWorldK (fun x:zen I e k=>x.1.2) k w b off m dk os)) (e z.1.1) (.agg z.1.2.toArray):=fun z=>by
     rw [ha];exact zkl (by simpa using z.2.2.2.mono hI)
    have e9:(#[Value.agg x.1.2.toArray,.agg y.1.2.toArray]++cb)=(Value.agg x.1.2.toArray:: .agg y.1.2.toArray::cb.toList).toArray:=by simp
    rw [e9];refine (@ConP.calls P zki g _ _ rfl (hc x.1.1 y.1.1) _ (hs.tab.mono hI) _ (VL.cons (hxa x) (VL.cons (hxa y) (f3.mono hI)))).mono ?_;rintro _ w' ⟨u,rfl,hu,q,os',rfl⟩;exact ⟨by rw [hu.int_inv],q,os',rfl⟩
   have hO':SWO (ltOf fun x y:zen I e k=>c x.1.1 y.1.1):=⟨fun x=>hO.irrefl x.1.1,fun x y z=>hO.trans x.1.1 y.1.1 z.1.1,fun x y z=>hO.ntrans x.1.1 y.1.1 z.1.1⟩;have hrun:=AnyQ.slices_SortFunc L k aE zE (fun x:zen I e k=>x.1.2) hkr (fun x=>x.2.2.1) (fun x y=>c x.1.1 y.1.1) hO' g cb b off cp d.toArray w (zgp hg) hcmp hH hblt (by simp;omega);rw [Bs,dl] at hrun;refine hrun.mono ?_;rintro _ w' ⟨rfl,d',m,os,⟨q1,_,q3⟩,q4,rfl⟩;simp only [Bs,dl] at q1;have q3':d'.toList.Perm d:=by
    have e1:(d'.extract 0 l.length)=d':=by rw [<-q1];exact Array.extract_size
    have e2:(d.toArray.extract 0 l.length)=d.toArray:=by have:=Array.extract_size (xs:=d.toArray);rw [Bs,dl] at this;exact this
    rw [e1,e2] at q3;simpa using q3
   refine ⟨_,.tup [],[.arr (.slice (some ⟨b,off,none⟩) l.length cp) k ((d'.toList.map (·.1.1)).map e)],I,rfl,.refl I,⟨d'.toList.map (·.1.1),rfl,by rw [<-d1];exact q3'.map _,?_,rfl⟩,.tup (by simp) (fun j c v h _=>by simp at h),?_⟩
   refine List.pairwise_iff_getElem.2 fun i j hi hj hij=> ?_
   simp only [Ah,AN] at hi hj;have:=q4 i j (Ad _) hij (by omega);rw [getElem!_pos d' i hi,getElem!_pos d' j hj] at this;simp only [ltOf,decide_eq_false_iff_not] at this
   simpa using this
   have hchg: ∀x,x<w.heap.size->x∉(MObj.arr (.slice (some ⟨b,off,none⟩) l.length cp) k (l.map e)).blocks->(sortWorldK (fun x:zen I e k=>x.1.2) k w b off m d' os).heap[x]? =w.heap[x]?:=fun x hx hnx=>zqc hx fun hh=>hnx (by rw [hh];simp [MObj.blocks])
   refine hs.change (m':= .arr (.slice (some ⟨b,off,none⟩) l.length cp) k ((d'.toList.map (·.1.1)).map e)) hchg (fun x hx=> .inl hx) (by simp [MObj.blocks]) ?_ rfl rfl rfl (fun _=>B6 _ _)
   refine .inr ⟨b,off,cp,putCells id off (flatK (fun x:zen I e k=>x.1.2) k d') rc,el,fr,by simp [q1],zmu h2,by simpa [putCells] using h3,?_,by simp [q1];exact h5,by simpa [putCells] using h6,?_⟩
   intro y hy;obtain ⟨z,_,rfl⟩:=List.mem_map.1 hy;exact hk z
   intro i j y z v a1 a2 a3
   rw [AX,Ag] at a1
   cases hq:d'.toList[i]? with
   |none=>rw [hq] at a1;simp at a1
   |some r=>
     rw [hq] at a1;simp only [AH,Function.comp_apply,As] at a1;subst a1;have hj:j<k:=by have:=zl a2;rw [hk] at this;exact this
     have hi:i<l.length:=by have:=zl hq;simp at this;omega
     have hle:(i+1)*k<=l.length*k:=Av _ hi;rw [AP,Nat.one_mul] at hle;have hr:off+i*k+j<rc.size:=by omega
     rw [putCells,Array.getElem?_mapIdx,Aj hr,AH,if_pos ⟨by omega,by rw [size_flatK,q1];omega⟩] at a3;rw [show off+i*k+j-off=i*k+j by omega] at a3;have hg2:=zpH (enc:=fun x:zen I e k=>x.1.2) (k:=k) hkr (dk:=d') (i:=i) (j:=j) (x:=r) (by simpa using hq) hj;rw [show (id (flatK (fun x:zen I e k=>x.1.2) k d')[i*k+j]!)=(flatK (fun x:zen I e k=>x.1.2) k d')[i*k+j]! from rfl,hg2] at a3;exact r.2.2.2.2 j z v a2 a3
end
end
section
variable {P:Program}
theorem zud [Tracks] {e:Env} {M:List MObj} {o:Oper} {K:HVal->List MObj->Prop} {sz:Nat} {es:List HVal} (h:EOp P e M o fun x M'=> ∃v,x= .raw v/\M'= .arr v sz es::M) (hk:K (.slice sz es) M):EOp P e M o K:=fun I F a w ho hs=>
 zaW (fun _ _ ⟨v,x,M',J,h1,h2,⟨u,h3,h4⟩,h5,h6⟩=>by
  subst h3 h4;obtain ⟨J',g1,g2,g3⟩:=Sat.freeze_arr (M:=M++F) h6;exact ⟨v,_,M,J',h1,h2.trans g1,hk,by rw [h5.raw_inv];exact g3,g2⟩) (h I F a w ho hs)
theorem zjW [Tracks] {e:Env} {M N:List MObj} {o:Oper} {K:HVal->List MObj->Prop} {sz:Nat} {es:List HVal} (i:Nat) (h:EOp P e M o fun x M'=> ∃v,x= .raw v/\M'[i]? =some (.arr v sz es)/\M'.eraseIdx i=N) (hk:K (.slice sz es) N):EOp P e M o K:=fun I F a w ho hs=>
 zaW (fun _ _ ⟨v,x,M',J,h1,h2,⟨u,h3,h4,h5⟩,h6,h7⟩=>by
  subst h3 h5;obtain ⟨J',g1,g2,g3⟩:=(h7.pull h4).freeze_arr;exact ⟨v,_,_,J',h1,h2.trans g1,hk,by rw [h6.raw_inv];exact g3,g2⟩) (h I F a w ho hs)
end
end Go.HL
namespace Go.Proofs.YtahegdhbakjdoaaGreatDoor
set_option maxRecDepth 100000
set_option linter.unusedVariables false
set_option linter.unusedSimpArgs false
section
open Go.Proofs.Tryz
open Go.HL
theorem zqs [Tracks] {l:List Play} {n:Int} (hl:l.length<=1000000):Con prog 162 [zbC l,.int .i64 n] [] (fun x M'=> ∃b,x= .raw (.map (some b))/\M'=[.map b (kk zgJ (em HVal.bool (zkP l n)))]):=by
 refine uOb func162 ntmps162 ?_;refine gz4 ?_;refine de rfl (zaM fun m14=> ?_)
 refine gz9 ?_;refine uT1 [7,1,17,16] (fun k=>[(17,.int .i64 k)]) (fun k=>[.map m14 (kk zgJ (em zai (znz (l.take k) n)))]) (fun k=>k<=l.length/\(True)) (fun k=>l.length-k) (0) ?_ ?_;exact ⟨Ad _,trivial⟩;rintro k ⟨hk,-⟩;refine gz4 ?_;refine uCo (fun h1=> ?_) fun h2=> ?_
 obtain ⟨x,hx⟩: ∃x,l[k]? =some x:=⟨_,Aa h1⟩
 have hdx:=zg hx;refine gz7 ?_;refine de rfl (zj zbs rfl fun b7=> ?_)
 refine de0 (zo zbs rfl rfl rfl rfl rfl ?_)
 refine gz1 ?_;refine zf (zp 7 rfl) ?_;refine gz6 ?_;refine uCo (fun h3=> ?_) fun h4=> ?_
 refine gz6 ?_;refine dq (zI (cs:=[_,_]) zk7 ztT rfl) ?_;refine gz1 ?_;refine de0 (ziH (i:=0) (s:=(x.Source,x.No)) (v:=x) zxi zqQ rfl rfl rfl rfl ?_)
 refine gz7 ?_;exact ⟨k+1,⟨by omega,trivial⟩,uD,⟨rfl,trivial⟩,uK,zu (by dsimp only;rw [zp1 hx,zmK,if_pos (by simpa using h3)];try rfl)⟩;refine gz7 ?_;exact ⟨k+1,⟨by omega,trivial⟩,uD,⟨rfl,trivial⟩,uK,zu (by dsimp only;rw [zp1 hx,zmK,if_neg (by simpa using h4)];try rfl)⟩;have hnk:l.length<=k:=by omega
 obtain rfl:k=l.length:=by omega
 refine gz2 ?_;refine zt ?_;refine gz2 ?_;rw [An];refine gz1 ?_;refine de rfl (zaM fun m33=> ?_)
 refine gz9 ?_;refine uT1 [10,4,36,54] (fun k=>[(36,.int .i64 k)]) (fun k=>[.map m33 (kk zgJ (em HVal.bool (zl8 (znz l n) n (l.take k)))),.map m14 (kk zgJ (em zai (znz l n)))]) (fun k=>k<=l.length/\(True)) (fun k=>l.length-k) (0) ?_ ?_;exact ⟨Ad _,trivial⟩;rintro k ⟨hk,-⟩;refine gz4 ?_;refine uCo (fun h5=> ?_) fun h6=> ?_
 obtain ⟨x,hx⟩: ∃x,l[k]? =some x:=⟨_,Aa h5⟩
 have hdx:=zg hx;refine gz7 ?_;refine de rfl (zj zbs rfl fun b10=> ?_)
 refine de0 (zo zbs rfl rfl rfl rfl rfl ?_)
 refine gz1 ?_;refine zf (zp 10 rfl) ?_;refine zdC ?_;refine uCo (fun h7=> ?_) fun h8=> ?_
 refine gz8 ?_;exact ⟨k+1,⟨by omega,trivial⟩,uD,⟨rfl,trivial⟩,uK,zu (by dsimp only;rw [zjQ hx,ziI,if_pos (by simpa using h7)];try rfl)⟩;refine gz7 ?_;refine dq (zI (cs:=[_,_]) zk7 ztT rfl) ?_;refine de rfl (zj zk7 rfl fun b11=> ?_)
 refine de0 (zo zk7 rfl rfl rfl rfl rfl ?_)
 refine gz1 ?_;refine zf (zp 11 rfl) ?_;refine gz3 ?_;refine de rfl (zqA (i:=1) (s:=(x.Source,x.Undo)) (z0:=zkX) zxi zqQ zbs rfl rfl rfl rfl ?_)
 refine gz3 ?_;refine de rfl (zj zbs rfl fun b12=> ?_)
 refine de0 (zo zbs rfl rfl rfl rfl rfl ?_)
 refine gz2 ?_;refine zf (zp 12 rfl) ?_;refine gz29 ?_;refine uCo (fun h9=> ?_) fun h10=> ?_
 refine gz3 ?_;refine de0 (ziH (i:=0) (s:=(x.Source,x.Undo)) (v:=true) zxh zqQ rfl rfl rfl rfl ?_)
 refine gz7 ?_;exact ⟨k+1,⟨by omega,trivial⟩,uD,⟨rfl,trivial⟩,uK,zu (by dsimp only;rw [zjQ hx,ziI,if_neg (by simp_all;try omega),if_pos (by simp_all [zr6])];try rfl)⟩;refine gz7 ?_;exact ⟨k+1,⟨by omega,trivial⟩,uD,⟨rfl,trivial⟩,uK,zu (by dsimp only;rw [zjQ hx,ziI,if_neg (by simp_all;try omega),if_neg (by simp_all [zr6])];try rfl)⟩;have hnk:l.length<=k:=by omega
 obtain rfl:k=l.length:=by omega
 refine gz2 ?_;refine zt ?_;refine gz2 ?_;rw [An];refine zf (Ghost.only (i:=0) rfl) ?_;refine gz5 ?_;exact z7 rfl ⟨_,rfl,rfl⟩
theorem zqr [Tracks] {a b:StatS}:ConP prog 229 [zdr a,zdr b] (.int .i64 (zey a b)):=by
 refine uOb func229 ntmps229 ?_;refine zan ?_;refine dq (uCl zbV rfl zJ) ?_;refine gz3 ?_;refine zw rfl ?_
 rfl
theorem zsg [Tracks] {c:StatS->StatS->Int} (hO:Go.Sort.SWO (Go.Proofs.ltOf c)) {g:FuncId} (hg:Callable prog g) {cap:List HVal} (hc: ∀x y, @ConP zki prog g (zdr x::zdr y::cap) (.int .i64 (c x y))) {l:List StatS} (hl:l.length<=1000000) {v:Value}:
 Con prog 228 [.raw v,.fn (.func g) [] cap] [.arr v 2 (l.map zdr)] fun x M'=> ∃l':List StatS,x= .tup []/\l'.Perm l/\l'.Pairwise (fun a b=> ¬c b a<0)/\M'=[.arr v 2 (l'.map zdr)]:=
 zpC (e:=zdr) zui (Tryz.isAgg304) (Tryz.sizeOf304) (fun _=>rfl) (fun _=>rfl) (fun _=>rfl) hO hg hc hl
theorem zyf [Tracks] (m:Nat):Go.Proofs.AnyZ.SortsIn prog Tryz.g226_ren Fence.wide m:=
 ⟨fun blk off cap ss W hH hblk hsz=>callsIn_wide.2 (AnyM.slices_Sort_string zpv blk off cap ss W hH hblk hsz),fun p cap W=>callsIn_wide.2 (AnyM.slices_Sort_string_none zpv p cap W)⟩
theorem zte [Tracks] {b:Nat}:Con prog 227 [.raw (.map (some b))] [] fun x M'=> ∃bx,x= .fn (.func 284) [] [.raw (.pointer (some ⟨bx,0,none⟩))]/\M'=[.cells bx [.raw (.map (some b))]]:=
 zvx (ρ:=Tryz.g227_ren) zpw
theorem znX [Tracks] (hT:Tracks.on=false) {S:List Str} (hn:S.Nodup) (hl: ∀s∈S,s.length<=1000000) (hs:S.length<=1000000) {b bx:Nat}:
 Con prog 226 [.fn (.func 284) [] [.raw (.pointer (some ⟨bx,0,none⟩))]] [.cells bx [.raw (.map (some b))],.map b (sk (zbj S))] fun x M'=> ∃v,x= .raw v/\M'=[.arr v 1 ((za8 S).map .str),.map b (sk (zbj S))]:=
 zqx hT (ρ:=Tryz.g226_ren) (ρk:=Tryz.g227_ren) zuh zpw zyf (enters_of func172 (by kernel_rfl) rfl) (enters_of func284 (by kernel_rfl) rfl) hn hl hs
theorem zkB [Tracks] {b0 b1:Nat} {c:List (Of2×Int)} {S:List Str} {week:Int} (hT:Tracks.on=false) (hn:ANodup c) (hSn:S.Nodup) (hSk: ∀s∈S,s.length<=40) (hc:c.length<=1000000) (hSl:S.length<=1000000):Con prog 163 [.raw (.map (some b0)),.raw (.map (some b1)),.int .i64 week] [.map b0 (kk eOf (em (HVal.int .i64) c)),.map b1 (sk (zbj S))] (fun x M'=>x= .tup [zrs (zig c S week),.int .i64 (zif c S)]/\M'=[]):=by
 refine uOb func163 ntmps163 ?_;refine gz5 ?_;refine de rfl (zaM fun m15=> ?_)
 refine gz5 ?_;refine de rfl (zpE (i:=1) zqV rfl rfl fun r=> ?_)
 refine gz2 ?_;refine uV3 [6,2,9,2,18,24] (fun (vis:List Nat) (E:List (Of2×Int)) (G:Grp StatS)=>[]) (fun (vis:List Nat) (E:List (Of2×Int)) (G:Grp StatS)=>[.map m15 (sk (em fG G)),.iter r b0 (kk eOf (em (HVal.int .i64) c)) vis,.map b1 (sk (zbj S))]++grp 2 zdr G) (fun (vis:List Nat) (E:List (Of2×Int)) (G:Grp StatS)=>VisOk (c) vis E/\(GOk E G/\∀y∈E,out y.2 (-100000) 100000=false)) (fun (vis:List Nat) (E:List (Of2×Int)) (G:Grp StatS)=>(c).length-vis.length) ([]) ([]) ([]) ?_ ?_ ?_ ?_;exact ⟨VisOk.nil _,GOk.nil,fun y h=>by cases h⟩;exact trivial;exact zu rfl
 intro vis E G hinv
 obtain ⟨hvis,hG,hO⟩:=hinv;refine gz1 ?_;refine de rfl (zpD (i:=1) (L:=c) (enc:=(fun p:Of2×Int=>(eOf p.1,HVal.int .i64 p.2))) rfl rfl (zw7 _ _ _) hvis.nd hvis.lt fun cb R vis' hnx=> ?_)
 refine gz3 ?_;refine uCo (fun h1=> ?_) fun h2=> ?_
 obtain ⟨j,q,hq,hj,rfl⟩:=hnx.t h1;have hroom:=hvis.room hq hj;have hstep:=hvis.step hq hj;have hqm:=Ac hq;refine gz4 ?_;refine de rfl (zn9 (i:=1) (L:=c) (enc:=(fun p:Of2×Int=>(eOf p.1,HVal.int .i64 p.2))) rfl rfl (zw7 _ _ _) hq ?_)
 refine gz2 ?_;refine de rfl (zj zoK rfl fun b9=> ?_)
 refine de0 (zo zoK rfl rfl rfl rfl rfl ?_)
 refine gz2 ?_;refine zf (zp 9 rfl) ?_;refine gz3 ?_;refine dq (uCl zbu rfl zac) ?_;refine gz2 ?_;refine uCo (fun h3=> ?_) fun h4=> ?_
 refine gz5 ?_;exact ⟨_,[],Ghost.clear,_,_,rfl,zW (zQ 3) (Weak.refl _),by have hf:=ztE (S:=S) hqm (by simpa using h3);rw [zig,zif,hf];rfl,rfl⟩;refine gz5 ?_;refine uCo (fun h5=> ?_) fun h6=> ?_
 refine zf (zbG (M':=[.map m15 (sk (em fG G)),.iter r b0 (kk eOf (em (HVal.int .i64) c)) (vis++[j]),.map b1 (sk (zbj S))]++grp 2 zdr G) rfl) ?_;refine zlb mixed ?_;refine gz6 ?_;refine uA 7 ?_;refine gz2 ?_;refine uB 10 rfl (zI (cs:=[_,_]) zqW zA2 rfl) ?_;refine uB 11 rfl (za (hs:=[_]) zk6 zqW rfl rfl (by decide) (by decide) rfl) ?_;refine uF 6 ?_;refine zq rfl (zdA (i:=0) (z0:=gZ StatS) zt8 ty9 zk6 rfl rfl rfl rfl ?_)
 refine ⟨uE,?_⟩
 refine uF 12 ?_;refine zq rfl (zo8 (A:=[.map m15 (sk (em fG G)),.iter r b0 (kk eOf (em (HVal.int .i64) c)) (vis++[j]),.map b1 (sk (zbj S))]) (G:=G) (s:=q.1.1) (ys:=[⟨q.1.2,q.2⟩]) (eb:=zdr) zk6 zqW rfl rfl rfl rfl (by simp [zax,zb]) (by have:=znb E q.1.1;rw [<-hG.raw] at this;have:=hvis.len;simp only [Ai,AG];omega) fun v41=> ?_)
 refine ⟨uE,?_⟩
 refine uF 13 ?_;refine zK (zcU (i:=0) (f:=fG) (L:=G) (v:=(v41,gL q.1.1 G++[⟨q.1.2,q.2⟩])) zt8 ty9 rfl rfl rfl rfl ?_)
 refine ⟨uE,?_⟩
 refine gz3 ?_;have hO': ∀y∈E++[q],out y.2 (-100000) 100000=false:=fun y hy=>by
  rcases List.mem_append.1 hy with hy|hy
  exact hO y hy;rw [List.mem_singleton.1 hy];simpa using h4
 exact ⟨_,E++[q],_,⟨hstep,hG.put (by simpa using h5) v41,hO'⟩,by dsimp only;rw [AA];simp only [Ai,AG];omega,trivial,uK,zu rfl⟩;refine gz3 ?_;have hO': ∀y∈E++[q],out y.2 (-100000) 100000=false:=fun y hy=>by
  rcases List.mem_append.1 hy with hy|hy
  exact hO y hy;rw [List.mem_singleton.1 hy];simpa using h4
 exact ⟨_,E++[q],G,⟨hstep,hG.skip (by simpa using h6),hO'⟩,by dsimp only;rw [AA];simp only [Ai,AG];omega,trivial,uK,zu rfl⟩;obtain ⟨rfl,hlen⟩:=hnx.f h2;have hEp:=hvis.done hlen;refine gz2 ?_;refine zcF ?_;refine gz2 ?_;refine zf (zoP (i:=1) rfl) ?_;refine zf (zbG (M':=[.map m15 (sk (em fG G)),.map b0 (kk eOf (em (HVal.int .i64) c)),.map b1 (sk (zbj S))]++grp 2 zdr G) rfl) ?_;refine gz6 ?_;refine de rfl (zaQ (M1:=[]) (R:=_) zz2 rfl (WeakL.refl _) (Ab _) zte ?_)
 rintro _ _ ⟨bx,rfl,rfl⟩;refine de rfl (zjW (N:=[.map b1 (sk (zbj S)),.map b0 (kk eOf (em (HVal.int .i64) c))]++([.map m15 (sk (em fG G))]++grp 2 zdr G)) (sz:=1) (es:=(za8 S).map .str) 0 (zaQ (M1:=[.cells bx [.raw (.map (some b1))],.map b1 (sk (zbj S))]) (R:=[.map b0 (kk eOf (em (HVal.int .i64) c))]++([.map m15 (sk (em fG G))]++grp 2 zdr G)) zz1 rfl (WeakL.refl _) (by exact zAO) (znX hT hSn (fun s hs=>Ay (hSk s hs) (by decide)) hSl) (by rintro _ _ ⟨v,rfl,rfl⟩;exact ⟨v,rfl,rfl,rfl⟩)) ?_)
 refine gz3 ?_;refine zf (zlw (R:=[_,_])) ?_;refine zf (zM 3) ?_;have hSSl:(za8 S).length<=1000000:=by rw [zjt];exact hSl
 have hSS:(za8 S).Nodup:=(zk4 S).nodup_iff.2 hSn;refine gz1 ?_;refine uV2 [6,2,11,1,13,2,46,20] (fun (k:Nat) (u:Value)=>[(46,.int .i64 k),(11,.raw u)]) (fun (k:Nat) (u:Value)=>[.arr u 3 (((za8 S).take k).map fun s=>zqK ⟨s,week,zgT c s⟩),.map m15 (sk (em fG G))]++grp 2 zdr (zgo G ((za8 S).take k))) (fun (k:Nat) (u:Value)=>k<=(za8 S).length/\(∀s∈(za8 S).take k,¬40<(zbq c s).length)) (fun (k:Nat) (u:Value)=>(za8 S).length-k) (0) (.slice none 0 0) ?_ ?_ ?_ ?_;exact ⟨Ad _,fun s h=>by simp at h⟩;exact ⟨rfl,rfl,trivial⟩;exact zu (by simp [zwc])
 intro k u hinv
 obtain ⟨hk,hg⟩:=hinv;refine gz4 ?_;refine uCo (fun h7=> ?_) fun h8=> ?_
 obtain ⟨x,hx⟩: ∃x,(za8 S)[k]? =some x:=⟨_,Aa h7⟩
 have hdx:=zg hx;refine zdC ?_;refine de rfl (zdA (i:=1) (z0:=gZ StatS) zt8 ty9 zk6 rfl rfl rfl rfl ?_)
 refine gz2 ?_;have hnx:=zt3 hSS hx;have hxS:x∈S:=(zk4 S).mem_iff.1 (Ac hx);refine zf (zoO (A:=[.arr u 3 (((za8 S).take k).map fun s=>zqK ⟨s,week,zgT c s⟩),.map m15 (sk (em fG G))]) (G:=zgo G ((za8 S).take k)) (G':=G) (s:=x) (ztW hG.nd) (zwb hnx)) ?_;rw [zu6];refine gz3 ?_;refine de rfl (za7 (i:=0) (es:=gL x G) zk6 rfl rfl ?_)
 refine gz2 ?_;refine uCo (fun h9=> ?_) fun h10=> ?_
 refine gz5 ?_;exact ⟨_,[],Ghost.clear,_,_,rfl,zW (zQ 3) (Weak.refl _),by have hf:=ztF (c:=c) hxS (by rw [<-zrw hEp hG];omega);rw [zig,zif,hf];rfl,rfl⟩;refine gz4 ?_;refine de rfl (zaQ (M1:=[.arr (gV x G) 2 ((gL x G).map zdr)]) (R:=[.arr u 3 (((za8 S).take k).map fun s=>zqK ⟨s,week,zgT c s⟩),.map m15 (sk (em fG G))]++grp 2 zdr (zgo G ((za8 S).take k++[x]))) zz3 rfl (WeakL.refl _) (Ab _) (zsg (c:=zey) (zs4 zgE) zz4 (fun _ _=> @zqr zki _ _) (l:=gL x G) (by have:=znb c x;rw [zrw hEp hG];omega)) ?_)
 rintro _ _ ⟨l',rfl,hp',hw',rfl⟩;obtain rfl:=zr0 hEp hn hG hp' hw';refine gz1 ?_;refine zf (zas 14 (i:=0) rfl rfl) ?_;refine gz5 ?_;refine dq (zI (cs:=[_,_,_]) zoI zAR rfl) ?_;refine dq (za (hs:=[_]) zua zoI rfl rfl (by decide) (by decide) rfl) ?_;refine de rfl (zO (i:=0) zua zoI rfl rfl rfl rfl rfl (by simp [zax,zb]) (by have:=zjt S;simp only [Ah,Ai,AG,AD];omega) fun v64=> ?_)
 refine gz8 ?_;refine ⟨k+1,v64,⟨by omega,fun s hs=> ?_⟩,uD,⟨rfl,rfl,trivial⟩,uK,zu (by dsimp only;rw [zaj hx,AB];rfl)⟩
 rw [zaj hx] at hs
 rcases List.mem_append.1 hs with hs|hs
 exact hg s hs;rw [List.mem_singleton.1 hs,<-zrw hEp hG];omega;have hnk:(za8 S).length<=k:=by omega
 obtain rfl:k=(za8 S).length:=by omega
 refine gz2 ?_;refine zL ?_;refine gz2 ?_;rw [An] at hg⊢;refine zf (Ghost.only (i:=0) rfl) ?_;refine gz6 ?_
 (refine zmo (M:=[]) 6 rfl rfl ?_
  have hf:=zuG (c:=c) (S:=S) (fun y hy=>hO y (hEp.mem_iff.2 hy)) (fun s hs=>hg s ((zk4 S).mem_iff.2 hs));rw [zig,zif,hf];simp [Function.comp_def,zay,zaO])
end
section
open Go.Proofs.Tryz
open Go.HL
theorem zri [Tracks] {l:List Play} {trust:List Str} {week n:Int} (hT:Tracks.on=false) (hl:l.length<=3000) (ht:trust.length<=1000000) (ok: ∀x∈l,playFault x=0):ConP prog 84 [zbC l,eSs trust,.int .i64 week,.int .i64 n] (.tup [zrs (zrD l trust week n),.int .i64 (zrC l trust week n)]):=by
 refine uOb func84 ntmps84 ?_;refine gz8 ?_;refine de rfl (zaQ (M1:=[]) (R:=[]) zzq rfl (WeakL.refl _) (Ab _) (zse (l:=l) (trust:=trust) (n:=n) uO ht) ?_)
 rintro _ _ ⟨b19,O19,rfl,hn19,hO19,rfl⟩;refine gz2 ?_;refine de rfl (zaQ (M1:=[]) (R:=_) zzr rfl (WeakL.refl _) (Ab _) (zqs (l:=l) (n:=n) uO) ?_)
 rintro _ _ ⟨b22,rfl,rfl⟩;refine gz4 ?_;refine de rfl (zaM fun m23=> ?_)
 refine de rfl (zaM fun m24=> ?_)
 refine zan ?_;refine uV1 [15,1,27,53] (fun (k:Nat)=>[(27,.int .i64 k)]) (fun (k:Nat)=>[.map m24 (kk eOf (em (HVal.int .i64) (zeP l trust week n (l.take k)).c)),.map m23 (sk (zbj (zeP l trust week n (l.take k)).S)),.map b22 (kk zgJ (em HVal.bool (zkP l n))),.map b19 (sk (em HVal.str O19))]) (fun (k:Nat)=>k<=l.length/\(True)) (fun (k:Nat)=>l.length-k) (0) ?_ ?_ ?_ ?_;exact ⟨Ad _,trivial⟩;exact ⟨rfl,trivial⟩;exact zu rfl
 intro k hinv
 obtain ⟨hk,-⟩:=hinv;refine gz4 ?_;refine uCo (fun h1=> ?_) fun h2=> ?_
 obtain ⟨x,hx⟩: ∃x,l[k]? =some x:=⟨_,Aa h1⟩
 have hdx:=zg hx;refine gz7 ?_;refine de rfl (zj zbs rfl fun b15=> ?_)
 refine de0 (zo zbs rfl rfl rfl rfl rfl ?_)
 refine gz1 ?_;refine zf (zp 15 rfl) ?_;refine gz23 ?_;refine uGr rfl (fun hc=>zI (cs:=[_,_]) zk7 ztT rfl) ?_;refine dgl rfl rfl (fun hc=>⟨_,OpenTo.upd (t:=52) rfl (hc) (OpenTo.upd (t:=47) rfl (hc) (OpenTo.refl _)),zeK (i:=2) (s:=(x.Source,x.No)) (z0:=false) zxh zqQ ty4 rfl rfl rfl rfl ⟨rfl,rfl⟩⟩) ?_;refine gz5 ?_;refine dgl rfl rfl (fun hc=>⟨_,OpenTo.upd (t:=58) rfl (hc) (OpenTo.upd (t:=56) rfl (hc) (OpenTo.refl _)),zdA (i:=3) (z0:=([]:Str)) zgr ty9 ty9 rfl rfl rfl rfl ⟨rfl,rfl⟩⟩) ?_;refine gz5 ?_;refine uCo (fun h3=> ?_) fun h4=> ?_
 refine gz8 ?_;exact ⟨k+1,⟨by omega,trivial⟩,uD,⟨rfl,trivial⟩,uK,zu (by dsimp only;rw [zpW hx,ziN,if_neg (by rw [zvJ hO19 h3];simp)])⟩;refine gz6 ?_;refine de0 (zgK (i:=1) zoJ ty9 rfl rfl rfl rfl ?_)
 refine gz1 ?_;have hpx:=ok x (Ac hx);obtain ⟨_,_,_,_,_,hcb,_⟩:=zeS hpx;have hlk:=zxa (l:=l) (m:=l.take k) (trust:=trust) (week:=week) (n:=n) (fun y hy=>ok y (AR hy));have hvb:=hlk.val (x.Player,x.Stat);have hlt:((l.take k).length:Int)<=3000:=by rw [AD];omega
 refine za1 (fun M=>M=[MObj.map m24 (kk eOf (em (HVal.int .i64) (zeP l trust week n (l.take k)).c)),MObj.map m23 (sk (zbj (zcj x.Player (zeP l trust week n (l.take k)).S))),MObj.map b22 (kk zgJ (em HVal.bool (zkP l n))),MObj.map b19 (sk (em HVal.str O19))]\/∃j st,zbc (x.Player,x.Stat) (zcD (x.Player,x.Stat) (HVal.int .i64 0) (em (HVal.int .i64) (zeP l trust week n (l.take k)).c))=some j/\M=[MObj.mape m24 (kk eOf (zcD (x.Player,x.Stat) (HVal.int .i64 0) (em (HVal.int .i64) (zeP l trust week n (l.take k)).c))) j st,MObj.map m23 (sk (zbj (zcj x.Player (zeP l trust week n (l.take k)).S))),MObj.map b22 (kk zgJ (em HVal.bool (zkP l n))),MObj.map b19 (sk (em HVal.str O19))]) [6] mixed ?_;refine gz5 ?_;refine uB 5 rfl (zI (cs:=[_,_]) zoK zAZ rfl) ?_;refine uM 6 rfl (.inl rfl) (fun M hM=>by
 rcases hM with rfl|⟨j,st,hj,rfl⟩
 exact zeK (i:=0) (s:=(x.Player,x.Stat)) (z0:=(0:Int)) zqV ztS ty3 rfl rfl rfl rfl ⟨rfl,rfl⟩;exact zl0 (i:=0) (s:=(x.Player,x.Stat)) (z0:=(0:Int)) (f:=HVal.int .i64) zqV ztS ty3 rfl rfl rfl rfl ⟨rfl,rfl⟩) ?_
 refine uA 7 ?_;refine gz2 ?_;refine uF 10 ?_;refine zq rfl (zlg (i:=0) (s:=(x.Player,x.Stat)) (z0:=(0:Int)) (f:=HVal.int .i64) zqV ztS ty3 rfl rfl rfl rfl fun j77 st77 hj77=> ?_)
 refine ⟨fun _=> .inl (.inr ⟨j77,st77,hj77,rfl⟩),?_⟩
 refine gz1 ?_;refine uF 12 ?_;refine zK (zje (i:=0) (s:=(x.Player,x.Stat)) (f:=HVal.int .i64) (z0:=(0:Int)) (v:=(alk (x.Player,x.Stat) (zeP l trust week n (l.take k)).c).getD 0+x.Count) rfl rfl rfl rfl hj77 ?_)
 refine ⟨uE,?_⟩
 refine gz7 ?_;exact ⟨k+1,⟨by omega,trivial⟩,uD,⟨rfl,trivial⟩,uK,zu (by dsimp only;rw [zpW hx,ziN,if_pos (zvK hO19 h4)];rfl)⟩;have hnk:l.length<=k:=by omega
 obtain rfl:k=l.length:=by omega
 refine gz2 ?_;refine zt ?_;refine gz2 ?_;rw [An];have hok:=zxa (l:=l) (m:=l) (trust:=trust) (week:=week) (n:=n) ok;refine gz4 ?_;refine de rfl (zaQ (M1:=[_,_]) (R:=[_,_]) zzs rfl (WeakL.refl _) (Ab _) (zkB hT hok.c hok.S hok.k (Ay hok.cl uO) (Ay hok.Sl uO)) ?_)
 rintro _ _ ⟨rfl,rfl⟩;refine gz6 ?_;exact zae Ghost.clear rfl ⟨rfl,rfl⟩
theorem zrh [Tracks] {l:List Play} {trust:List Str} {week n:Int} (hT:Tracks.on=false) (hl:l.length<=1000000) (ht:trust.length<=1000000):ConP prog 34 [zbC l,eSs trust,.int .i64 week,.int .i64 n] (.tup [zrs (zjZ l trust week n),.int .i64 (zjY l trust week n)]):=by
 refine uOb func34 ntmps34 ?_;refine gz7 ?_;refine dq (uCl ca82 rfl (zhG (by assumption))) ?_;refine gz1 ?_;refine dq (uCl ca83 rfl (zhH (by assumption))) ?_;refine dq (za (hs:=[_,_]) zdN zfP rfl rfl (by decide) (by decide) rfl) ?_;refine dq (uCl zkJ rfl (zb0 (l:=[_,_]) (by simp))) ?_;refine gz6 ?_;refine uCo (fun h1=> ?_) fun h2=> ?_
 refine gz6 ?_;exact za5 rfl (zW (by rw [zjZ,if_pos (by simpa using h1)];exact zQ 3) (by rw [zjY,if_pos (by simpa using h1)];exact Weak.refl _));refine gz5 ?_;refine dq (uCl zkI rfl zcl) ?_;refine gz3 ?_;refine uGr rfl (fun hc=>uCl zhx rfl zaZ) ?_;refine gz3 ?_;refine uCo (fun h3=> ?_) fun h4=> ?_
 refine gz5 ?_;exact za5 rfl (zW (by rw [zjZ,if_neg (by simpa using h2),if_pos uSa];exact zQ 3) (by rw [zjY,if_neg (by simpa using h2),if_pos uSa];exact Weak.refl _));refine gz7 ?_;refine dq (uCl ca84 rfl (zri hT (zp3 (okPT h2).1).1 ht (zsq (okPT h2).1))) ?_;refine gz6 ?_
 (refine zw rfl ?_
  rw [zjZ,zjY,if_neg (by simpa using h2),if_neg uSa,if_neg (by simpa using h2),if_neg uSa])
end
end Go.Proofs.YtahegdhbakjdoaaGreatDoor
namespace Go.Proofs
section
open Go.Shelf
def Tryz.lays190_ren:Go.Shelf.Ren:=⟨fun|190=>172|125=>198|258=>235|128=>258|129=>259|302=>288|303=>289|304=>290|305=>291|306=>292|307=>293|308=>294|309=>295|310=>296|333=>339|329=>303|330=>304|334=>340|335=>341|336=>300|344=>359|n=>n,fun|31=>33|9=>9|3=>3|46=>284|0=>0|51=>332|53=>334|4=>4|183=>326|182=>325|131=>122|5=>5|218=>362|222=>366|228=>406|229=>407|n=>n,fun|n=>n⟩
theorem zq4:Go.Proofs.Lays.n190 Tryz.prog Tryz.lays190_ren:={
 mixed:=by kernel_rfl
 f125:=Tryz.func198.trans (congrArg some (by kernel_rfl))
 f128:=Tryz.func258.trans (congrArg some (by kernel_rfl))
 f129:=Tryz.func259.trans (congrArg some (by kernel_rfl))
 f190:=Tryz.func172.trans (congrArg some (by kernel_rfl))
 f258:=Tryz.func235.trans (congrArg some (by kernel_rfl))
 f302:=Tryz.func288.trans (congrArg some (by kernel_rfl))
 f303:=Tryz.func289.trans (congrArg some (by kernel_rfl))
 f304:=Tryz.func290.trans (congrArg some (by kernel_rfl))
 f305:=Tryz.func291.trans (congrArg some (by kernel_rfl))
 f306:=Tryz.func292.trans (congrArg some (by kernel_rfl))
 f307:=Tryz.func293.trans (congrArg some (by kernel_rfl))
 f308:=Tryz.func294.trans (congrArg some (by kernel_rfl))
 f309:=Tryz.func295.trans (congrArg some (by kernel_rfl))
 f310:=Tryz.func296.trans (congrArg some (by kernel_rfl))
 f329:=Tryz.func303.trans (congrArg some (by kernel_rfl))
 f330:=Tryz.func304.trans (congrArg some (by kernel_rfl))
 f333:=Tryz.func339.trans (congrArg some (by kernel_rfl))
 f334:=Tryz.func340.trans (congrArg some (by kernel_rfl))
 f335:=Tryz.func341.trans (congrArg some (by kernel_rfl))
 f336:=Tryz.func300.trans (congrArg some (by kernel_rfl))
 f344:=Tryz.func359.trans (congrArg some (by kernel_rfl))
 t0:=Tryz.underlying0
 a0:=Tryz.isAgg0
 z0:=Tryz.sizeOf0
 v0:=Tryz.zeroValue0
 t3:=Tryz.underlying3
 a3:=Tryz.isAgg3
 z3:=Tryz.sizeOf3
 v3:=Tryz.zeroValue3
 t4:=Tryz.underlying4
 a4:=Tryz.isAgg4
 z4:=Tryz.sizeOf4
 v4:=Tryz.zeroValue4
 t5:=Tryz.underlying5
 a5:=Tryz.isAgg5
 z5:=Tryz.sizeOf5
 v5:=Tryz.zeroValue5
 t9:=Tryz.underlying9
 a9:=Tryz.isAgg9
 z9:=Tryz.sizeOf9
 v9:=Tryz.zeroValue9
 t31:=Tryz.underlying33
 a31:=Tryz.isAgg33
 z31:=Tryz.sizeOf33
 v31:=Tryz.zeroValue33
 t46:=Tryz.underlying284
 a46:=Tryz.isAgg284
 z46:=Tryz.sizeOf284
 v46:=Tryz.zeroValue284
 t51:=Tryz.underlying332
 a51:=Tryz.isAgg332
 z51:=Tryz.sizeOf332
 v51:=Tryz.zeroValue332
 t53:=Tryz.underlying334
 a53:=Tryz.isAgg334
 z53:=Tryz.sizeOf334
 v53:=Tryz.zeroValue334
 t131:=Tryz.underlying122
 a131:=Tryz.isAgg122
 z131:=Tryz.sizeOf122
 v131:=Tryz.zeroValue122
 t182:=Tryz.underlying325
 a182:=Tryz.isAgg325
 z182:=Tryz.sizeOf325
 v182:=Tryz.zeroValue325
 t183:=Tryz.underlying326
 a183:=Tryz.isAgg326
 z183:=Tryz.sizeOf326
 v183:=Tryz.zeroValue326
 t218:=Tryz.underlying362
 a218:=Tryz.isAgg362
 z218:=Tryz.sizeOf362
 v218:=Tryz.zeroValue362
 t222:=Tryz.underlying366
 a222:=Tryz.isAgg366
 z222:=Tryz.sizeOf366
 v222:=Tryz.zeroValue366
 t228:=Tryz.underlying406
 a228:=Tryz.isAgg406
 z228:=Tryz.sizeOf406
 v228:=Tryz.zeroValue406
 t229:=Tryz.underlying407
 a229:=Tryz.isAgg407
 z229:=Tryz.sizeOf407
 v229:=Tryz.zeroValue407}
end
end Go.Proofs
namespace Go.Proofs.YtahegdhbakjdoaaGreatDoor
set_option maxRecDepth 100000
set_option linter.unusedVariables false
set_option linter.unusedSimpArgs false
section
open Go.Proofs.Tryz
open Go.HL
theorem zmY [Tracks]:ConP prog 259 [.int .u64 0] (.int .i64 0):=by
 refine uOb func259 ntmps259 ?_;refine gz8 ?_;refine zcV rfl ?_;refine gz7 ?_;refine zcV rfl ?_;refine gz7 ?_;refine zcV rfl ?_;refine gz5 ?_;refine dq (zcH zqX ty5 rfl) ?_;refine dq (zaG (j:=0) (b:=0) ty9 rfl rfl rfl rfl) ?_;refine dq (zcH ty5 ty3 rfl) ?_;refine dq (zbf rfl rfl (by decide) (by decide)) ?_;refine gz3 ?_;refine zw rfl ?_
 rfl
theorem znQ [Tracks]:ConP prog 198 [.int .u64 0] (.int .i64 0):=by
 refine uOb func198 ntmps198 ?_;refine gz4 ?_;refine zcV rfl ?_;refine gz4 ?_;refine dq (uCl zwY rfl zmY) ?_;refine gz3 ?_;refine zw rfl ?_
 rfl
theorem zeF [Tracks]:ConP prog 288 [eSs [],.int .i64 0,.int .i64 0] (.tup []):=by
 refine uOb func288 ntmps288 ?_;refine gz6 ?_;refine uU1 [6,2,10,39] (fun (u:Unit)=>[(6,.int .i64 1)]) (fun (u:Unit)=>[]) (fun (u:Unit)=>True) (fun (u:Unit)=>0) (()) ?_ ?_
 trivial
 intro u hu
 refine gz6 ?_;refine zcV rfl ?_;refine gz2 ?_;refine zt ?_;refine gz1 ?_;refine ztX rfl ?_
 rfl
theorem zf8 [Tracks]:ConP prog 235 [eSs [],.int .i64 0,.int .i64 0,.int .i64 0] (.tup []):=by
 refine uOb func235 ntmps235 ?_;refine gz7 ?_;refine uU1 [1,3,8,126] (fun (u:Unit)=>[(1,.int .i64 0),(2,.int .i64 0)]) (fun (u:Unit)=>[]) (fun (u:Unit)=>True) (fun (u:Unit)=>0) (()) ?_ ?_
 trivial
 intro u hu
 refine zdC ?_;refine zpN rfl ?_;refine gz4 ?_;refine dq (uCl zAx rfl zeF) ?_;refine gz2 ?_;refine zw rfl ?_
 rfl
theorem zm3 [Tracks]:ConP prog 172 [eSs []] (.tup []):=by
 refine uOb func172 ntmps172 ?_;refine gz9 ?_;refine dq (zcH ty3 zmS rfl) ?_;refine dq (uCl zwM rfl znQ) ?_;refine dq (uCl zz9 rfl zf8) ?_;refine gz1 ?_;refine ztX rfl ?_
 rfl
theorem zqv [Tracks] {l:List Str} {v:Value} (hl:l.length<=1000000):Con prog 172 [.raw v] [.arr v 1 (l.map .str)] fun x M'=>x= .tup []/\M'=[.arr v 1 ((za8 l).map .str)]:=
 zxr (zjt l) (fun b off cap w h1 h2 _=>Any.slices_Sort_string zq4 b off cap l w h1 h2 uO) (fun _=>zm3)
end
section
open Go.Proofs.Tryz
open Go.HL
theorem zfg [Tracks] {x n:Int} (hn:n<=4000000000):ConP prog 65 [.int .i64 x,.int .i64 n] (.int .i64 (below x n)):=by
 refine uOb func65 ntmps65 ?_;refine gz8 ?_;refine uCo (fun h1=> ?_) fun h2=> ?_
 refine gz4 ?_;refine uRp ?_
 simp_all [below]
 try omega
 refine gz5 ?_;refine dq (zc1 rfl rfl uO) ?_;refine gz7 ?_;refine uCo (fun h3=> ?_) fun h4=> ?_
 refine gz3 ?_;have hm:=BV x (show 0<n by omega);obtain ⟨y,hy1,hy2⟩:=zlC x n;have hb:below x n=x.tmod n+n:=by unfold below;rw [if_neg uO,if_pos uO]
 refine gz9 ?_;refine uRp ?_
 simp_all [below]
 try omega
 refine gz7 ?_;refine uRp ?_
 simp_all [below]
 try omega
theorem zZ [Tracks] {b:Nat} {l:List Int} {a:Nat} {n:Int} (ha:a<=1000000) (hn:n<=4000000000):Con prog 25 [pAt b,.int .i64 n] [St b l a] (fun x M'=> ∃y:Nat,x= .int .i64 (y:Int)/\(y:Int)<max n 1/\M'=[St b l (a+1)]):=by
 refine uOb func25 ntmps25 ?_;refine gz7 ?_;refine de rfl (uZ 0 ?_)
 refine gz3 ?_;refine de0 (uY 0 ?_)
 refine gz6 ?_;refine de rfl (uZ 0 ?_)
 refine gz3 ?_;refine uCo (fun h1=> ?_) fun h2=> ?_
 refine gz4 ?_;refine de rfl (uZ 0 ?_)
 refine dq (zpg rfl rfl) ?_;refine gz1 ?_;refine dq (uCl zvs rfl (zfg (by assumption))) ?_;refine gz3 ?_;refine z7 rfl ?_;obtain ⟨y,h1,h2⟩:=zlC _ n;exact ⟨y,congrArg _ h1,h2,rfl⟩;refine gz2 ?_;have hl0:0<l.length:=List.length_pos_iff.2 (by simpa using h2);refine zbx (fun M=> ∃i:Nat,M[i]? =some (St b l (a+1))) [3,8] mixed ?_;refine gz3 ?_;refine uM 3 rfl (⟨0,rfl⟩) (fun M hM=>by obtain ⟨i,hi⟩:=hM;exact z8 (i:=i) ty3 rfl hi (.inl ⟨rfl,rfl⟩) ⟨rfl,rfl⟩) ?_;refine gz4 ?_;refine uM 8 rfl (⟨0,rfl⟩) (fun M hM=>by obtain ⟨i,hi⟩:=hM;exact z8 (i:=i) z6 rfl hi (.inl ⟨rfl,rfl⟩) ⟨rfl,rfl⟩) ?_;refine gz1 ?_;refine uB 10 rfl (zau (h':= .int .i64 ((a%l.length:Nat):Int)) (zc1 rfl rfl uO) (by show HVal.int .i64 (((a:Int)+1-1).tmod _)=_;rw [show ((a:Int)+1-1)=(a:Int) by omega];exact congrArg _ (zr4 _ _))) ?_;refine gz2 ?_;refine zbx (fun M=> ∃i:Nat,M[i]? =some (St b l (a+1))) [3,8] mixed ?_;refine gz3 ?_;refine uM 3 rfl (⟨0,rfl⟩) (fun M hM=>by obtain ⟨i,hi⟩:=hM;exact z8 (i:=i) ty3 rfl hi (.inl ⟨rfl,rfl⟩) ⟨rfl,rfl⟩) ?_;refine gz4 ?_;refine uM 8 rfl (⟨0,rfl⟩) (fun M hM=>by obtain ⟨i,hi⟩:=hM;exact z8 (i:=i) z6 rfl hi (.inl ⟨rfl,rfl⟩) ⟨rfl,rfl⟩) ?_;refine gz1 ?_;refine uB 10 rfl (zsT rfl rfl uO) ?_;refine gz6 ?_;refine de rfl (uZ 0 ?_)
 refine gz1 ?_;refine dq (zD (j:=a%l.length) (a:=l[a%l.length]'(BO _ uO)) z6 ty3 rfl rfl rfl (Aa _)) ?_;refine gz1 ?_;refine dq (uCl zvs rfl (zfg uO)) ?_;refine gz2 ?_;refine dq (zmN rfl rfl) ?_;refine dq (zpg rfl rfl) ?_;refine dq (zmN rfl rfl) ?_;refine gz1 ?_;refine dq (uCl zvs rfl (zfg (by assumption))) ?_;refine gz3 ?_;refine z7 rfl ?_;obtain ⟨y,h1,h2⟩:=zlC _ n;exact ⟨y,congrArg _ h1,h2,rfl⟩
theorem zC [Tracks] {b:Nat} {l:List Int} {a:Nat} {lo hi:Int} (ha:a<=1000000) (hlh:lo<=hi) (h0: -1000000000<=lo) (h1:hi<=1000000000):Con prog 6 [pAt b,.int .i64 lo,.int .i64 hi] [St b l a] (fun x M'=> ∃y:Int,x= .int .i64 y/\(lo<=y/\y<=hi)/\M'=[St b l (a+1)]):=by
 refine uOb func6 ntmps6 ?_;refine gz9 ?_;refine zaB rfl (fun h1=> ?_) (fun h1=> ?_)
 exfalso
 try simp at h1
 omega
 try simp at h1
 refine gz9 ?_;refine de rfl (uCx 0 zhw rfl rfl (zZ (by assumption) uO) ?_)
 rintro _ _ ⟨y17,rfl,hy17,rfl⟩;refine gz4 ?_;exact z7 rfl ⟨_,rfl,by omega,rfl⟩
theorem zB [Tracks] {b:Nat} {l:List Int} {a:Nat} {n:Int} (ha:a<=1000000) (hn:n<=4000000000):Con prog 57 [pAt b,.int .i64 n] [St b l a] (fun x M'=> ∃y:Bool,x= .bool y/\M'=[St b l (a+1)]):=by
 refine uOb func57 ntmps57 ?_;refine gz6 ?_;refine de rfl (uCx 0 zhw rfl rfl (zZ (by assumption) (by assumption)) ?_)
 rintro _ _ ⟨y7,rfl,hy7,rfl⟩;refine gz4 ?_;exact z7 rfl ⟨_,rfl,rfl⟩
theorem zd [Tracks] {b:Nat} {l:List Int} {a:Nat} {L:List Int} (ha:a<=1000000) (h0:0<L.length) (h1:L.length<=1000000):Con prog 37 [pAt b,.slice 1 (L.map (.int .i64))] [St b l a] (fun x M'=> ∃y:Int,x= .int .i64 y/\y∈L/\M'=[St b l (a+1)]):=by
 refine uOb func37 ntmps37 ?_;refine gz8 ?_;refine de rfl (uCx 0 zhw rfl rfl (zZ (by assumption) uO) ?_)
 rintro _ _ ⟨y9,rfl,hy9,rfl⟩;obtain ⟨z,hz,hm⟩:=getI hy9 h0;refine dq (zD (j:=y9) (a:=z) z6 ty3 rfl rfl rfl hz) ?_;refine gz4 ?_;exact z7 rfl ⟨_,rfl,hm,rfl⟩
theorem zi [Tracks] {b:Nat} {l:List Int} {a:Nat} {L:List Str} (ha:a<=1000000) (h0:0<L.length) (h1:L.length<=1000000):Con prog 7 [pAt b,eSs L] [St b l a] (fun x M'=> ∃y:Str,x= .str y/\y∈L/\M'=[St b l (a+1)]):=by
 refine uOb func7 ntmps7 ?_;refine gz8 ?_;refine de rfl (uCx 0 zhw rfl rfl (zZ (by assumption) uO) ?_)
 rintro _ _ ⟨y9,rfl,hy9,rfl⟩;obtain ⟨z,hz,hm⟩:=getS hy9 h0;refine dq (zD (j:=y9) (a:=z) zk ty9 rfl rfl rfl hz) ?_;refine gz4 ?_;exact z7 rfl ⟨_,rfl,hm,rfl⟩
end
section
open Go.HL
set_option linter.unusedSimpArgs false
end
section
open Go.HL
set_option linter.unusedSimpArgs false
end
section
open Go.HL
set_option linter.unusedSimpArgs false
end
section
open Go.HL
set_option linter.unusedSimpArgs false
end
end Go.Proofs.YtahegdhbakjdoaaGreatDoor
namespace Go.HL
section
open Op (bytesLess)
theorem zu4 {α:Type} {R:α->α->Prop}: ∀{l:List α},l.Pairwise R->∀x∈l,∀y∈l,x=y\/R x y\/R y x
 |[],_,x,hx,_,_=>by simp at hx
 |a::l,h,x,hx,y,hy=>by
   obtain ⟨h1,h2⟩:=List.pairwise_cons.1 h
   rcases List.mem_cons.1 hx with e|hx'<;>rcases List.mem_cons.1 hy with e'|hy'
   exact .inl (e.trans e'.symm);exact .inr (.inl (e▸h1 y hy'));exact .inr (.inr (e'▸h1 x hx'));exact zu4 h2 x hx' y hy'
/-! keeps that are right-/
def kLt (a b:Keep):Prop:=bytesLess a.Team b.Team=true\/(a.Team=b.Team/\a.Round<b.Round)
theorem zyx {a b:Keep} (h: ¬orI [zU b.Team a.Team,zY b.Round a.Round]<=0):kLt a b:=by
 rw [ze9] at h
 rcases zb4 a.Team b.Team with h1|h1|h1
 exact .inl h1;refine .inr ⟨h1,?_⟩
 rw [h1] at h
 simp [zar,orI,zY] at h
 split at h
 omega
 split at h<;>omega
 rw [h1] at h;simp [orI] at h
structure KeepsOk (r:Room) (k:List Keep):Prop where
 all: ∀x∈k,x.Team∈r.Teams/\x.Player∈r.Players/\1<=x.Round/\x.Round<=r.Rounds
 lt:k.Pairwise kLt
theorem ztJ {r:Room} {l:List Keep}: ∀(t:List Keep) (k:Nat) (kept:List Str) (tw:Bool),l.drop k=t->zpc r l k kept tw t=0->
 (∀x∈t,x.Team∈r.Teams/\x.Player∈r.Players/\1<=x.Round/\x.Round<=r.Rounds)/\∀(i:Nat) (a b:Keep),k<=i+1->l[i]? =some a->l[i+1]? =some b->kLt a b
 |[],k,kept,tw,hd,h=>⟨by simp,fun i a b hi ha hb=>by
    have:=zl hb;have h2:l.length<=k:=by rw [<-List.drop_eq_nil_iff];exact hd
    omega⟩
 |x::t,k,kept,tw,hd,h=>by
   have hk:l[k]? =some x:=by
    have:=congrArg (fun q=>q[0]?) hd
    simpa using this
   have hd':l.drop (k+1)=t:=by
    have:=zg hk;rw [hd] at this;simp at this;exact this.symm
   simp only [zpc] at h
   split at h
   omega
   rename_i h1
   split at h
   omega
   rename_i h2
   split at h
   omega
   rename_i h3
   obtain ⟨h4,h5⟩:=ztJ t (k+1) _ _ hd' h;have h2':=zeu (by simpa using h2);refine ⟨fun y hy=> ?_,fun i a b hi ha hb=> ?_⟩
   rcases List.mem_cons.1 hy with rfl|hy
   simp at h1;exact ⟨h1.1,h1.2,h2'⟩
   exact h4 y hy
   by_cases e:k=i+1
   subst e;rw [hk] at hb;cases hb;refine zyx fun hc=>h3 ?_
   simp [List.getD,ha];exact hc
   exact h5 i a b (by omega) ha hb
theorem zmp {l:List Str}: ∀(r:List Str) (k:Nat),zbg l k r=0->∀s∈r,key s=true
 |[],_,_,s,hs=>by simp at hs
 |x::r,k,h,s,hs=>by
   simp only [zbg] at h
   split at h
   omega
   rename_i h1
   split at h
   omega
   rcases List.mem_cons.1 hs with rfl|hs
   simpa using h1
   exact zmp r (k+1) h s hs
def ztD (t:Turn) (x:Keep):Bool:=decide (x.Team=t.of/\x.Round=t.round)
theorem KeepsOk.one {r:Room} {k:List Keep} (h:KeepsOk r k) {t:Turn} {x y:Keep} (hx:x∈k) (hy:y∈k) (fx:ztD t x=true) (fy:ztD t y=true):y=x:=by
 simp [ztD] at fx fy
 rcases zu4 h.lt x hx y hy with e|e|e
 exact e.symm
 exfalso
 rcases e with e|⟨e1,e2⟩
 rw [fx.1,fy.1,zar] at e;cases e
 omega
 exfalso
 rcases e with e|⟨e1,e2⟩
 rw [fx.1,fy.1,zar] at e;cases e
 omega
def zqN (k:List Keep) (l:List Pick) (s:Str):Bool:=k.any (fun x=>x.Player==s)||l.any (fun p=>p.Player==s)
end
section
section
variable {r:Room} {k:List Keep} {fr l:List Pick} {p:Pick}
end
structure Wish where
 Team:Str
 Players:List Str
theorem ztG (k:List Keep) (l:List Pick) (p:Pick) (s:Str):zqN k (l++[p]) s=(zqN k l s||p.Player==s):=by
 simp [zqN,B4]
/-! what a run holds-/
structure RunOk (r:Room) (k:List Keep) (s:List Swap) (l:List Pick) (S:List Str):Prop where
 gone: ∀x∈r.Players,S.contains x=zqN k l x
theorem RunOk.add {r:Room} {k:List Keep} {s:List Swap} {l:List Pick} {S:List Str} (ok:RunOk r k s l S) (p:Pick):RunOk r k s (l++[p]) (zcj p.Player S):=
 ⟨fun x hx=>by rw [ztG,zlm,ok.gone x hx]⟩
end
section
section
variable {r:Room} {w:List Wish} {k:Nat} {x:Wish} {t:List Wish}
end
end
end Go.HL
namespace Go.Proofs.YtahegdhbakjdoaaGreatDoor
set_option maxRecDepth 100000
set_option linter.unusedVariables false
set_option linter.unusedSimpArgs false
section
open Go.HL
set_option linter.unusedSimpArgs false
end
section
open Go.HL
set_option linter.unusedSimpArgs false
end
section
open Go.HL
set_option linter.unusedSimpArgs false
end
section
open Go.HL
set_option linter.unusedSimpArgs false
end
section
open Go.HL
set_option linter.unusedSimpArgs false
end
section
open Go.HL
set_option linter.unusedSimpArgs false
end
section
open Go.Proofs.Tryz
open Go.HL
theorem zez [Tracks] {b:Nat} {l:List Int} {a:Nat} {n:Nat} (ha:a<=800000) (hn1:1<=n) (hn2:n<=1000):Con prog 192 [pAt b,.int .i64 (n:Int)] [St b l a] (fun x M'=> ∃(L:List Int) (a':Nat),x= .slice 1 (L.map (.int .i64))/\(L.length=n/\∀i∈L,(0:Int)<=i/\i<n)/\a'<=a+n/\M'=[St b l a']):=by
 refine uOb func192 ntmps192 ?_;refine gz6 ?_;refine zf (zM 1) ?_;refine gz6 ?_;refine uV3 [5,2,10,8] (fun (k:Nat) (u:Value) (L:List Int)=>[(10,.int .i64 (k:Int)),(5,.raw u)]) (fun (k:Nat) (u:Value) (L:List Int)=>[.arr u 1 (L.map (HVal.int .i64)),St b l a]) (fun (k:Nat) (u:Value) (L:List Int)=>k<=n/\L.length=k/\∀i∈L,(0:Int)<=i/\i<n) (fun (k:Nat) (u:Value) (L:List Int)=>n-k) (0) (.slice none 0 0) ([]) ?_ ?_ ?_ ?_;exact ⟨by omega,rfl,by simp⟩;exact ⟨rfl,rfl,trivial⟩;exact zu rfl
 intro k u L hinv
 obtain ⟨hk,hL,hLb⟩:=hinv;refine gz4 ?_;refine uCo (fun h1=> ?_) fun h2=> ?_
 have hkn:k<n:=by omega
 refine zcC ?_;refine dq (za (hs:=[_]) z6 ty3 rfl rfl (by decide) (by decide) rfl) ?_;refine de rfl (zO (i:=0) z6 ty3 rfl rfl rfl rfl rfl (by simp [zax,zb]) uSo fun v16=> ?_)
 refine gz8 ?_;exact ⟨k+1,v16,L++[(k:Int)],⟨by omega,by simp [hL],fun i hi=>by rcases List.mem_append.1 hi with h|h;exact hLb i h;(simp at h;omega)⟩,uD,⟨rfl,rfl,trivial⟩,uK,zu (by simp)⟩;obtain rfl:n=k:=by omega
 refine gz2 ?_;refine zcF ?_;refine gz3 ?_;refine zf (Ghost.perm (M':=[St b l a,.arr u 1 (L.map (.int .i64))]) uP) ?_;refine zcZ (i:=1) rfl (fun h0 he=> ?_) (fun ob off cap hv hcap=> ?_)
 exfalso;have:=congrArg List.length he;simp at this;subst this;simp at hL;omega
 rw [Ah,hL] at hv hcap;subst hv;refine gz6 ?_;refine uV3 [7,2,20,22] (fun (m:Nat) (L:List Int) (a2:Nat)=>[(7,.int .i64 (m:Int))]) (fun (m:Nat) (L:List Int) (a2:Nat)=>[St b l a2,.arr (.slice (some ⟨ob,off,none⟩) n cap) 1 (L.map (HVal.int .i64))]) (fun (m:Nat) (L:List Int) (a2:Nat)=>m<n/\(L.length=n/\∀i∈L,(0:Int)<=i/\i<n)/\a2+m<=a+n) (fun (m:Nat) (L:List Int) (a2:Nat)=>m) (n-1) (L) (a) ?_ ?_ ?_ ?_;exact ⟨by omega,⟨hL,hLb⟩,by omega⟩;exact ⟨zN uO,trivial⟩;exact Ab _
 intro m L a2 hinv
 obtain ⟨hm,⟨hL,hLb⟩,ha2⟩:=hinv;refine gz5 ?_;refine uCo (fun h3=> ?_) fun h4=> ?_
 have hm0:0<m:=by omega
 refine gz8 ?_;refine de rfl (uCx 0 zhw rfl rfl (zZ uO uO) ?_)
 rintro _ _ ⟨y27,rfl,hy27,rfl⟩;refine gz2 ?_;obtain ⟨z1,hz1⟩: ∃z,L[y27]? =some z:=⟨_,Aa uO⟩
 obtain ⟨z2,hz2⟩: ∃z,L[m]? =some z:=⟨_,Aa uO⟩
 obtain ⟨z3,hz3⟩: ∃z,(L.set m z1)[y27]? =some z:=⟨_,Aa uSo⟩
 refine za1 (fun M=> ∃i:Nat,M[i]? =some (.arr (.slice (some ⟨ob,off,none⟩) n cap) 1 (L.map (HVal.int .i64)))) [7,11] mixed ?_;refine gz6 ?_;refine uB 6 rfl (zy (j:=y27) z6 ty3 rfl rfl rfl uO) ?_;refine uM 7 rfl (⟨1,rfl⟩) (fun M hM=>by obtain ⟨i,hi⟩:=hM;exact zaq (i:=i) (j:=y27) 0 ty3 rfl uO hi hz1 rfl rfl ⟨rfl,rfl⟩) ?_;refine gz2 ?_;refine uB 10 rfl (zy (j:=m) z6 ty3 rfl rfl rfl uO) ?_;refine uM 11 rfl (⟨1,rfl⟩) (fun M hM=>by obtain ⟨i,hi⟩:=hM;exact zaq (i:=i) (j:=m) 0 ty3 rfl uO hi hz2 rfl rfl ⟨rfl,rfl⟩) ?_;refine uB 12 rfl (zy (j:=m) z6 ty3 rfl rfl rfl uO) ?_;refine uF 13 ?_;refine zK (zaT (i:=1) (f:=HVal.int .i64) (es:=L) (j:=m) (y:=z2) (y':=z1) ty3 rfl rfl rfl rfl hz2 rfl rfl rfl ?_)
 refine ⟨uE,?_⟩
 refine uB 14 rfl (zy (j:=y27) z6 ty3 rfl rfl rfl uO) ?_;refine uF 15 ?_;refine zK (zaT (i:=1) (f:=HVal.int .i64) (es:=L.set m z1) (j:=y27) (y:=z3) (y':=z2) ty3 rfl rfl rfl rfl hz3 rfl rfl rfl ?_)
 refine ⟨uE,?_⟩
 refine gz8 ?_;exact ⟨m-1,(L.set m z1).set y27 z2,a2+1,⟨by omega,⟨by simp [hL],zei (P:=fun i:Int=>0<=i/\i<n) (zei (P:=fun i:Int=>0<=i/\i<n) hLb (hLb z1 (Ac hz1))) (hLb z2 (Ac hz2))⟩,by omega⟩,uD,⟨zN uO,trivial⟩,uK,zu (by simp [List.map_set])⟩;refine gz2 ?_;refine zcF ?_;refine gz7 ?_;refine zae (zas 4 (i:=1) rfl rfl) rfl ⟨L,a2,rfl,⟨hL,hLb⟩,by omega,rfl⟩
end
section
open Go.HL
set_option linter.unusedSimpArgs false
end
end Go.Proofs.YtahegdhbakjdoaaGreatDoor
namespace Go.HL
section
variable {P:Program}
open Go.Sort Go.Proofs
end
end Go.HL
namespace Go.Proofs.YtahegdhbakjdoaaGreatDoor
set_option maxRecDepth 100000
set_option linter.unusedVariables false
set_option linter.unusedSimpArgs false
section
open Go.Proofs.Tryz
open Go.HL
theorem zjJ [Tracks] {l:List Int} {z:Int} (hl:l.length<=1000000):ConP prog 269 [.slice 1 (l.map (.int .i64)),.int .i64 z] (.int .i64 (zab (· ==z) l 0)):=by
 refine uOb func269 ntmps269 ?_;refine zan ?_;refine uT1 [4,2,8,11] (fun k=>[(8,.int .i64 k)]) (fun k=>[]) (fun k=>k<=l.length/\(zab (· ==z) l 0=zab (· ==z) (l.drop k) k)) (fun k=>l.length-k) (0) ?_ ?_;exact ⟨Ad _,rfl⟩;rintro k ⟨hk,hg⟩;refine gz4 ?_;refine uCo (fun h1=> ?_) fun h2=> ?_
 obtain ⟨x,hx⟩: ∃x,l[k]? =some x:=⟨_,Aa h1⟩
 have hdx:=zg hx;rw [hdx] at hg;refine zo9 ?_;refine uCo (fun h3=> ?_) fun h4=> ?_
 refine gz5 ?_;refine uRp ?_
 (rw [hg];simp_all [zab])
 refine gz7 ?_;refine ⟨k+1,?_,?_,⟨rfl,trivial⟩,uK,Ab _⟩
 refine ⟨by omega,?_⟩
 rw [hg,zab,if_neg (by simp_all;try omega)];rfl
 dsimp only;omega
 have hnk:l.length<=k:=by omega
 obtain rfl:k=l.length:=by omega
 rw [zH (Ae _)] at hg;refine gz2 ?_;refine zt ?_;refine gz6 ?_;refine uRp ?_
 (rw [hg];rfl)
theorem zes [Tracks] {l:List Int} {z:Int} (hl:l.length<=1000000):ConP prog 214 [.slice 1 (l.map (.int .i64)),.int .i64 z] (.bool (l.contains z)):=by
 refine uOb func214 ntmps214 ?_;refine gz6 ?_;refine dq (uCl zAm rfl (zjJ (by assumption))) ?_;refine gz4 ?_;refine zw rfl ?_
 show HVal.bool _=_
 rw [zqz,<-zcW _ l 0 uO]
theorem zdP [Tracks] {n:Int}:ConP prog 17 [.int .i64 n] (.int .i64 (if zbd n then 0 else 1)):=by
 refine uOb func17 ntmps17 ?_;refine gz5 ?_;refine dq (uCl ca39 rfl zfQ) ?_;refine gz3 ?_;refine uRp ?_;unfold zbd
 cases out n 1 60<;>rfl
theorem zj1 [Tracks] {p:Play} (hgp:zcu p):ConP prog 136 [zai p] (.int .i64 (playFault p)):=by
 refine uOb func136 ntmps136 ?_;refine gz9 ?_;refine dq (uCl zhN rfl (zbi hgp.1)) ?_;refine gz3 ?_;refine uCo (fun h1=> ?_) fun h2=> ?_
 refine gz4 ?_;refine uRp ?_
 simp_all [playFault]
 refine gz3 ?_;refine dq (uCl zns rfl zcg) ?_;refine gz4 ?_;refine uGr rfl (fun hc=>uCl ztk rfl zcc) ?_;refine gz5 ?_;refine uGr rfl (fun hc=>uCl zvr rfl zdP) ?_;refine gz4 ?_;refine uCo (fun h3=> ?_) fun h4=> ?_
 refine gz4 ?_;refine uRp ?_
 simp_all [playFault]
 refine gz3 ?_;refine dq (uCl zhN rfl (zbi hgp.2.1)) ?_;refine gz4 ?_;refine uGr rfl (fun hc=>uCl zhN rfl (zbi hgp.2.2.1)) ?_;refine gz5 ?_;refine uGr rfl (fun hc=>uCl zhN rfl (zbi hgp.2.2.2)) ?_;refine gz4 ?_;refine uCo (fun h5=> ?_) fun h6=> ?_
 refine gz4 ?_;refine uRp ?_
 simp_all [playFault]
 refine gz3 ?_;refine dq (uCl zns rfl zcg) ?_;refine gz6 ?_;have hN:=zeu (n:=p.No) (lo:=1) (hi:=3000) uSa;refine gz1 ?_;refine uGr rfl (fun hc=>uCl zns rfl zcg) ?_;refine gz4 ?_;refine uCo (fun h7=> ?_) fun h8=> ?_
 refine gz4 ?_;refine uRp ?_
 simp_all [playFault]
 refine zcC ?_;refine uCo (fun h9=> ?_) fun h10=> ?_
 refine gz4 ?_;refine uRp ?_
 simp_all [playFault]
 refine gz7 ?_;refine uRp ?_
 simp_all [playFault]
theorem zlG [Tracks] {a b:Play}:ConP prog 137 [zai a,zai b] (.int .i64 (byNo a b)):=by
 refine uOb func137 ntmps137 ?_;refine gz5 ?_;refine uDr mixed ?_;refine gz4 ?_;refine uB 4 rfl (uCl zbV rfl zJ) ?_;refine gz4 ?_;refine uB 9 rfl (uCl zcw rfl zP) ?_;refine uB 10 rfl (za (hs:=[_,_]) z6 ty3 rfl rfl (by decide) (by decide) rfl) ?_;refine uB 11 rfl (uCl ze6 rfl (za0 (l:=[_,_]) (by simp))) ?_;refine gz3 ?_;refine zw rfl ?_
 rfl
theorem zjA [Tracks] {l:List Play} (hl:l.length<=1000000) (hgl: ∀x∈l,zcu x):ConP prog 61 [zbC l] (.int .i64 (zb7 l)):=by
 refine uOb func61 ntmps61 ?_;refine gz9 ?_;refine uCo (fun h1=> ?_) fun h2=> ?_
 refine gz4 ?_;refine zae Ghost.clear rfl ⟨?_,rfl⟩
 show HVal.int .i64 _=_
 (rw [zb7,if_pos uO])
 refine gz3 ?_;refine de rfl (zaM fun m12=> ?_)
 refine de rfl (zaM fun m13=> ?_)
 refine zeN ?_;refine uT1 [2,1,5,4,16,48] (fun k=>[(16,.int .i64 k),(5,.bool (za4 (l.take k)).c)]) (fun k=>[.map m13 (sk (em (.int .i64) (za4 (l.take k)).W)),.map m12 (sk (zbj (za4 (l.take k)).S))]) (fun k=>k<=l.length/\(zbz l 0 l=zbz l k (l.drop k)/\∀y∈l.take k,playFault y=0)) (fun k=>l.length-k) (0) ?_ ?_;exact ⟨Ad _,rfl,by simp⟩;rintro k ⟨hk,hg,hok⟩;refine gz4 ?_;refine uCo (fun h3=> ?_) fun h4=> ?_
 obtain ⟨x,hx⟩: ∃x,l[k]? =some x:=⟨_,Aa h3⟩
 have hdx:=zg hx;rw [hdx] at hg;refine gz8 ?_;refine de rfl (zj zbs rfl fun b7=> ?_)
 refine gz1 ?_;refine de0 (zo zbs rfl rfl rfl rfl rfl ?_)
 refine gz1 ?_;refine zf (zp 7 rfl) ?_;refine gz3 ?_;refine dq (uCl zzc rfl (zj1 (hgl x (Ac hx)))) ?_;refine gz6 ?_;refine uCo (fun h5=> ?_) fun h6=> ?_
 refine gz5 ?_;refine zae Ghost.clear rfl ⟨?_,rfl⟩
 show HVal.int .i64 _=_
 (rw [zjp uO (by rw [hg,zbz,if_pos (by simpa using h5)]) (by simpa using h5)])
 refine gz3 ?_;refine uDr mixed ?_;refine gz6 ?_;refine uGy 6 rfl rfl (fun hc=>by have hq:=hc;(try simp at hq);exact zD (j:=k-1) (a:=l.getD (k-1) zkX) zhE zbs rfl rfl uO (getD_some uO)) ?_;refine gz2 ?_;refine uGy 9 rfl rfl (fun hc=>uCl zzd rfl zlG) ?_;refine gz3 ?_;refine uCo (fun h7=> ?_) fun h8=> ?_
 refine gz4 ?_;refine zae Ghost.clear rfl ⟨?_,rfl⟩
 show HVal.int .i64 _=_
 (rw [zjp (c:=7) uO (by rw [hg,zbz,if_neg (by simpa using h6),if_pos (by obtain ⟨qa,qb⟩:=h7;have qb':0<=byNo (l.getD (k-1) zkX) x:=(by simpa using qb);rw [zpA];exact ⟨by omega,by omega⟩)]) (by decide)])
 refine gz6 ?_;refine de0 (zgK (i:=1) zoJ ty9 rfl rfl rfl rfl ?_)
 refine gz7 ?_;refine dgl rfl rfl (fun hc=>⟨_,OpenTo.upd (t:=45) rfl (hc) (OpenTo.upd (t:=43) rfl (hc) (OpenTo.refl _)),zdA (i:=0) (z0:=(0:Int)) zdO ty9 ty3 rfl rfl rfl rfl ⟨rfl,rfl⟩⟩) ?_;refine gz5 ?_;refine dgl rfl rfl (fun hc=>⟨_,OpenTo.upd (t:=51) rfl (hc) (OpenTo.upd (t:=49) rfl (hc) (OpenTo.refl _)),zdA (i:=0) (z0:=(0:Int)) zdO ty9 ty3 rfl rfl rfl rfl ⟨rfl,rfl⟩⟩) ?_;refine zeN ?_;refine de0 (zcU (i:=0) zdO ty9 rfl rfl rfl rfl ?_)
 refine gz7 ?_;refine ⟨k+1,⟨by omega,?_,?_⟩,uD,⟨rfl,?_,trivial⟩,uK,?_⟩
 rw [hg,zkY (by simpa using h6) (fun hk0=>by have hz:=h8;rw [zpA] at hz;simp_all;try omega)]
 intro y hy
 rw [zaj hx] at hy
 rcases List.mem_append.1 hy with hy|hy
 exact hok y hy;rw [List.mem_singleton.1 hy];simpa using h6;rw [zd5 hx,<-zxo hok];exact congrArg (fun b=>some (HVal.bool b)) (by cases (za4 (l.take k)).c<;>simp);exact zu (by dsimp only;rw [zd5 hx];rfl);have hnk:l.length<=k:=by omega
 obtain rfl:k=l.length:=by omega
 rw [zH (Ae _)] at hg;rw [An];refine gz2 ?_;refine zt ?_;refine gz4 ?_;have e1:(sk (zbj (za4 l).S)).length=(za4 l).S.length:=by simp [sk,zbj]
 have e2:(sk (em (HVal.int .i64) (za4 l).W)).length=(za4 l).W.length:=by simp [sk]
 refine gz2 ?_;refine de rfl (zhP (i:=1) zoJ rfl rfl ?_)
 refine gz3 ?_;refine dgl rfl rfl (fun hc=>⟨_,OpenTo.upd (t:=69) rfl (hc) (OpenTo.refl _),zhP (i:=0) zdO rfl rfl ⟨rfl,rfl⟩⟩) ?_;refine gz4 ?_;refine uCo (fun h9=> ?_) fun h10=> ?_
 refine gz4 ?_;refine zae Ghost.clear rfl ⟨?_,rfl⟩
 show HVal.int .i64 _=_
 (rw [zel uO hg,zd0,if_pos uO])
 refine gz4 ?_;refine uCo (fun h11=> ?_) fun h12=> ?_
 refine gz4 ?_;refine zae Ghost.clear rfl ⟨?_,rfl⟩
 show HVal.int .i64 _=_
 (rw [zel uO hg,zd0,if_neg uO,if_pos (by assumption)])
 refine gz7 ?_;refine zae Ghost.clear rfl ⟨?_,rfl⟩
 show HVal.int .i64 _=_
 (rw [zel uO hg,zd0,if_neg uO,if_neg uSa])
theorem zjB [Tracks] {l:List Str} (hl:l.length<=1000000) (hs: ∀s∈l,Sh s):ConP prog 132 [eSs l] (.int .i64 (zcf l)):=by
 refine uOb func132 ntmps132 ?_;refine gz9 ?_;refine uCo (fun h1=> ?_) fun h2=> ?_
 refine gz4 ?_;refine uRp ?_
 (rw [zcf,if_pos uO])
 refine gz9 ?_;refine uT1 [2,3,10,16] (fun k=>[(10,.int .i64 k)]) (fun k=>[]) (fun k=>k<=l.length/\(zcf l=zdn l k (l.drop k))) (fun k=>l.length-k) (0) ?_ ?_;refine ⟨Ad _,?_⟩
 rw [zcf,if_neg uO];rfl;rintro k ⟨hk,hg⟩;refine gz4 ?_;refine uCo (fun h3=> ?_) fun h4=> ?_
 obtain ⟨x,hx⟩: ∃x,l[k]? =some x:=⟨_,Aa h3⟩
 have hdx:=zg hx;rw [hdx] at hg;refine zdS ?_;refine dq (uCl zhN rfl (zbi (hs x (Ac hx)))) ?_;refine gz3 ?_;refine uCo (fun h5=> ?_) fun h6=> ?_
 refine gz4 ?_;refine uRp ?_
 (rw [hg];simp_all [zdn])
 refine gz3 ?_;refine dq (zaL zk ty9 rfl rfl ⟨_,_,rfl,rfl⟩ uO uO) ?_;refine gz1 ?_;refine dq (uCl zeG rfl (zv uSo)) ?_;refine gz2 ?_;refine uCo (fun h7=> ?_) fun h8=> ?_
 refine gz4 ?_;refine uRp ?_
 (rw [hg];simp_all [zdn])
 refine gz8 ?_;refine ⟨k+1,?_,?_,⟨rfl,trivial⟩,uK,Ab _⟩
 refine ⟨by omega,?_⟩
 rw [hg];simp_all [zdn]
 dsimp only;omega
 have hnk:l.length<=k:=by omega
 obtain rfl:k=l.length:=by omega
 rw [zH (Ae _)] at hg;refine gz2 ?_;refine zt ?_;refine gz6 ?_;refine uRp ?_
 (rw [hg];simp_all [zdn])
end
end Go.Proofs.YtahegdhbakjdoaaGreatDoor
namespace Go.HL
section
open Go.Proofs Go.Shelf
variable {P:Program}
end
section

end
section
section
variable {P:Program}
end
section
variable {P:Program} {e:Env} {dst:Option Tmp} {ty:TypeId} {pos:String} {af:Array Edge} {g:Option (Nat×Bool)}
end
end
section
section
variable {P:Program}
end
end
end Go.HL
