/- Part 1 of the proof: a program logic, contracts of functions and plain facts; no conditions. -/
import Derived.Calls
import Derived.Deep.LoopGhost
import Derived.KernelRfl
import Derived.Laws.Cells
import Derived.Laws.Entries
import Derived.Laws.Sem
import Derived.Laws.Strings
import Derived.Laws.StructEq
import Derived.Lib.Bytealg
import Derived.Lib.DecodeN
import Derived.Lib.LaidTab
import Derived.Lib.SlicesCompact
import Derived.Orders
import Derived.Shelf.Strconv.Itoa3
import Derived.Sort.EncStr
import Derived.Sort.Grow
set_option linter.unusedVariables false
set_option linter.unusedSimpArgs false
set_option maxHeartbeats 16000000
namespace Go
abbrev Aa:=@List.getElem?_eq_getElem
abbrev Ab:=@List.mem_of_getElem?
abbrev Ac:=@List.Perm.refl
abbrev Ad:=@Nat.zero_le
abbrev Ae:=@Nat.le_refl
abbrev Af:=@List.length_map
abbrev Ag:=@List.getD_eq_getElem?_getD
abbrev Ah:=@List.length_cons
abbrev Ai:=@List.mem_cons_self
abbrev Aj:=@List.getElem?_map
abbrev Ak:=@Nat.le_of_ble_eq_true
abbrev Al:=@List.mem_cons_of_mem
abbrev Am:=@List.take_length
abbrev An:=@Nat.le_trans
abbrev Ao:=@List.map_cons
abbrev Ap:=@List.mem_append_left
abbrev Aq:=@Array.getElem?_eq_getElem
abbrev Ar:=@List.length_nil
abbrev As:=@Option.some.inj
abbrev Au:=@List.getElem?_append_right
abbrev Av:=@Array.getElem?_eq_none
abbrev Aw:=@List.getElem?_append_left
abbrev Ax:=@List.length_append
abbrev Ay:=@List.map_append
abbrev Az:=@List.length_take
abbrev AA:=@Option.some.injEq
abbrev AB:=@Nat.mul_le_mul_right
abbrev AC:=@Nat.lt_or_ge
abbrev AD:=@List.getElem?_take_of_lt
abbrev AE:=@Bool.eq_iff_iff
abbrev AF:=@Array.getElem?_append_left
abbrev AG:=@Array.getElem?_modify
abbrev AH:=@List.getElem?_eq_none
abbrev AI:=@Option.map_some
abbrev AJ:=@Array.getElem?_setIfInBounds_ne
abbrev AK:=@List.length_filter_le
abbrev AL:=@List.getElem?_drop
abbrev AM:=@Array.length_toList
abbrev AN:=@List.getElem?_cons_succ
abbrev AO:=@List.filter_cons
abbrev AP:=@List.flatMap_cons
abbrev AQ:=@Array.getElem?_push
abbrev AR:=@List.getElem_of_mem
abbrev AS:=@List.mem_of_mem_take
abbrev AT:=@Nat.add_mul
abbrev AU:=@Bool.false_eq_true
abbrev AV:=@List.append_nil
abbrev AW:=@List.map_map
abbrev AX:=@List.filter_append
abbrev AY:=@Array.getElem?_toList
abbrev AZ:=@Bool.and_eq_true
abbrev A0:=@List.cons_append
abbrev A1:=@Bool.or_eq_true
abbrev A2:=@List.mergeSort_perm
abbrev A3:=@List.getElem?_cons_zero
abbrev A4:=@Bool.or_eq_false_iff
abbrev A5:=@List.getElem?_of_mem
abbrev A6:=@List.any_eq_true
abbrev A7:=@List.map_nil
abbrev A8:=@List.getElem?_toArray
abbrev A9:=@List.append_assoc
abbrev Ba:=@List.foldl_append
abbrev Bb:=@List.nodup_nil
abbrev Bc:=@Nat.add_assoc
abbrev Bd:=@List.contains_iff_mem
abbrev Be:=@List.mem_append_right
abbrev Bf:=@Nat.eq_zero_or_pos
abbrev Bg:=@List.getElem_mem
abbrev Bh:=@List.perm_middle
abbrev Bi:=@List.perm_ext_iff_of_nodup
abbrev Bj:=@Nat.le_of_eq
abbrev Bk:=@Nat.zero_add
abbrev Bl:=@List.dropWhile_cons
abbrev Bm:=@List.nil_append
abbrev Bn:=@List.perm_append_comm
abbrev Bo:=@List.take_append_drop
abbrev Bp:=@Int.mul_le_mul_of_nonneg_left
abbrev Bq:=@List.getElem?_take
abbrev Br:=@Option.getD_some
abbrev Bs:=@List.any_cons
abbrev Bt:=@Nat.le_succ
abbrev Bu:=@List.Sublist.refl
abbrev Bv:=@List.foldl_cons
abbrev Bw:=@List.mem_map_of_mem
abbrev Bx:=@Int.neg_mul
abbrev Bz:=@List.take_of_length_le
abbrev BA:=@Bool.or_false
abbrev BB:=@List.length_drop
abbrev BC:=@List.mem_flatMap
abbrev BD:=@List.drop_drop
abbrev BE:=@Nat.add_sub_cancel
abbrev BF:=@Nat.eq_of_beq_eq_true
abbrev BG:=@List.mem_of_find?_eq_some
abbrev BH:=@Array.eq_empty_of_size_eq_zero
abbrev BI:=@List.contains_eq_mem
abbrev BJ:=@List.size_toArray
abbrev BK:=@List.take_append_of_le_length
abbrev BL:=@List.filter_sublist
abbrev BM:=@List.map_congr_left
abbrev BN:=@List.dropLast_concat_getLast
abbrev BO:=@Array.mem_append_right
abbrev BP:=@List.drop_eq_nil_of_le
abbrev BQ:=@List.singleton_append
abbrev BR:=@List.map_take
abbrev BS:=@List.mem_cons
abbrev BT:=@Nat.lt_trichotomy
abbrev BU:=@Array.mapM_eq_mapM_toList
abbrev BV:=@List.drop_eq_getElem_cons
abbrev BW:=@List.getElem?_set_ne
abbrev BX:=@Bool.eq_false_or_eq_true
abbrev BY:=@List.sublist_append_left
abbrev BZ:=@Nat.add_zero
abbrev B0:=@Nat.mul_comm
abbrev B1:=@List.getElem?_range
abbrev B2:=@Int.mul_le_mul_of_nonneg_right
abbrev B3:=@Int.tmod_lt_of_pos
abbrev B4:=@Nat.mod_lt
abbrev B5:=@Bool.eq_false_iff
abbrev B6:=@List.any_eq_false
abbrev B7:=@Array.getElem?_of_mem
abbrev B8:=@List.mem_map
abbrev B9:=@List.set_append_right
abbrev Ca:=@Bool.not_eq_true
abbrev Cb:=@List.map_toArray
abbrev Cc:=@List.range_eq_range'
abbrev Cd:=@List.all_cons
abbrev Ce:=@List.filter_eq_self
abbrev Cf:=@List.take_succ_cons
abbrev Cg:=@Int.tdiv_nonneg
abbrev Ch:=@List.mem_or_eq_of_mem_set
abbrev Ci:=@Nat.min_eq_left
abbrev Cj:=@Array.size_setIfInBounds
abbrev Ck:=@Int.zero_add
abbrev Cl:=@List.Perm.eq_of_pairwise
abbrev Cm:=@List.contains_cons
abbrev Cn:=@List.set_cons_succ
abbrev Co:=@Nat.gcd_zero_right
abbrev Cp:=@Bool.not_false
abbrev Cq:=@List.eraseIdx_cons_succ
abbrev Cr:=@List.getLast?_cons_cons
abbrev Cs:=@Nat.add_sub_cancel_left
abbrev Ct:=@Bool.not_eq_true'
abbrev Cu:=@List.ext_getElem?
abbrev Cv:=@List.find?_cons_of_neg
abbrev Cw:=@List.find?_cons_of_pos
abbrev Cx:=@List.getElem?_set_self
abbrev Cy:=@Bool.or_assoc
abbrev Cz:=@List.range'_succ
abbrev CA:=@Nat.le_add_right
abbrev CB:=@Array.getElem?_mapIdx
abbrev CC:=@List.Pairwise.sublist
abbrev CD:=@List.length_singleton
abbrev CE:=@Array.ext'
abbrev CF:=@Int.tmod_nonneg
abbrev CG:=@List.nodup_cons
abbrev CH:=@Nat.sub_self
end Go
namespace Go.HL
section
inductive HVal where
 |bool (b:Bool)
 |int (k:IntKind) (n:Int)
 |str (s:List UInt8)
 |raw (v:Value)
 |slice (sz:Nat) (es:List HVal)
 |vptr (cs:List HVal) (off:Nat)
 |agg (cs:List HVal)
 |tup (vs:List HVal)
 |fn (f:Fn) (fst cap:List HVal)
 |ifc (t:TypeId) (v:HVal)
 |opt (c:Bool) (v:HVal)
 |hmap (ks vs:List HVal)
 |junk
def zgY:HVal->Bool
 | .junk| .opt _ _=>false
 |_=>true
def zb:HVal->List HVal
 | .agg cs=>cs
 |v=>[v]
structure Imm where
 heap:Nat->Option Obj
 os:Os
 output:Array (Nat×ByteArray)
 tape:Nat->Question->Nat
 low:Nat
class Tracks where
 on:Bool
structure Le [Tracks] (I J:Imm):Prop where
 heap: ∀b o,I.heap b=some o->J.heap b=some o
 os:J.os=I.os
 output:J.output=I.output
 tape:J.tape=I.tape
 low:Tracks.on=true->I.low<=J.low
theorem Le.refl [Tracks] (I:Imm):Le I I:=⟨fun _ _ h=>h,rfl,rfl,rfl,fun _=>Ae _⟩
theorem Le.trans [Tracks] {I J K:Imm} (h:Le I J) (h':Le J K):Le I K:=
 ⟨fun b o x=>h'.heap b o (h.heap b o x),h'.os.trans h.os,h'.output.trans h.output,h'.tape.trans h.tape,fun ht=>An (h.low ht) (h'.low ht)⟩
inductive V (I:Imm):HVal->Value->Prop
 |bool (b:Bool):V I (.bool b) (.bool b)
 |int (k:IntKind) (n:Int):V I (.int k n) (.int k n)
 |str (s:List UInt8):V I (.str s) (.string ⟨s.toArray⟩)
 |raw (v:Value) (h1:v.oneCell'=true):V I (.raw v) v
 |junk (v:Value):V I .junk v
 |slice0 (sz:Nat) (a:Option Addr) (cap:Nat):V I (.slice sz []) (.slice a 0 cap)
 |slice {sz:Nat} {es:List HVal} {b off cap:Nat} {rc:Array Value} {el:TypeId} {fr:Nat×Nat}
    (hI:I.heap b=some (.cells rc el fr)) (hsz: ∀e∈es,(zb e).length=sz) (hcap:es.length<=cap)
    (hb:off+es.length*sz<=rc.size)
    (hV: ∀(i j:Nat) (e c:HVal) (v:Value),es[i]? =some e->(zb e)[j]? =some c->rc[off+i*sz+j]? =some v->V I c v):
    V I (.slice sz es) (.slice (some ⟨b,off,none⟩) es.length cap)
 |vptr {cs:List HVal} {off b base:Nat} {rc:Array Value} {el:TypeId} {fr:Nat×Nat}
    (hI:I.heap b=some (.cells rc el fr)) (hb:base+cs.length<=rc.size)
    (hV: ∀(j:Nat) (c:HVal) (v:Value),cs[j]? =some c->rc[base+j]? =some v->V I c v):
    V I (.vptr cs off) (.pointer (some ⟨b,base+off,none⟩))
 |agg {cs:List HVal} {vs:Array Value} (hl:vs.size=cs.length)
    (hV: ∀(j:Nat) (c:HVal) (v:Value),cs[j]? =some c->vs[j]? =some v->V I c v):V I (.agg cs) (.agg vs)
 |tup {cs:List HVal} {vs:Array Value} (hl:vs.size=cs.length)
    (hV: ∀(j:Nat) (c:HVal) (v:Value),cs[j]? =some c->vs[j]? =some v->V I c v):V I (.tup cs) (.tuple vs)
 |fn {f:Fn} {c1 c2:List HVal} {v1 v2:Array Value} (hl1:v1.size=c1.length) (hl2:v2.size=c2.length)
    (hV1: ∀(j:Nat) (c:HVal) (v:Value),c1[j]? =some c->v1[j]? =some v->V I c v)
    (hV2: ∀(j:Nat) (c:HVal) (v:Value),c2[j]? =some c->v2[j]? =some v->V I c v):V I (.fn f c1 c2) (.func f v1 v2)
 |ifc {t:TypeId} {c:HVal} {v:Value} (h:V I c v):V I (.ifc t c) (.iface t v)
 |opt {c:Bool} {h:HVal} {v:Value} (h1:c=true->V I h v) (h2:c=false->v=undef):V I (.opt c h) v
 |hmap {ks vs:List HVal} {b:Nat} {es:Array MapEntry} {clk:Nat} (hI:I.heap b=some (.map es clk)) (hl1:es.size=ks.length) (hl2:es.size=vs.length)
    (hK: ∀(j:Nat) (c:HVal) (m:MapEntry),ks[j]? =some c->es[j]? =some m->V I c m.key)
    (hV: ∀(j:Nat) (c:HVal) (m:MapEntry),vs[j]? =some c->es[j]? =some m->V I c m.val):V I (.hmap ks vs) (.map (some b))
theorem V.mono [Tracks] {I J:Imm} (h:Le I J) {c:HVal} {v:Value} (hv:V I c v):V J c v:=by
 induction hv with
 |bool b=>exact .bool b
 |int k n=>exact .int k n
 |str s=>exact .str s
 |raw v h1=>exact .raw v h1
 |junk v=>exact .junk v
 |slice0 sz a cap=>exact .slice0 sz a cap
 |slice hI hsz hcap hb _ ih=>exact .slice (h.heap _ _ hI) hsz hcap hb ih
 |vptr hI hb _ ih=>exact .vptr (h.heap _ _ hI) hb ih
 |agg hl _ ih=>exact .agg hl ih
 |tup hl _ ih=>exact .tup hl ih
 |fn h1 h2 _ _ ih1 ih2=>exact .fn h1 h2 ih1 ih2
 |ifc _ ih=>exact .ifc ih
 |opt _ h2 ih=>exact .opt ih h2
 |hmap hI h1 h2 _ _ ih1 ih2=>exact .hmap (h.heap _ _ hI) h1 h2 ih1 ih2
def VL (I:Imm) (cs:List HVal) (vs:List Value):Prop:=vs.length=cs.length/\∀(j:Nat) (c:HVal) (v:Value),cs[j]? =some c->vs[j]? =some v->V I c v
theorem VL.mono [Tracks] {I J:Imm} (h:Le I J) {c:List HVal} {v:List Value} (hv:VL I c v):VL J c v:=
 ⟨hv.1,fun j c v h1 h2=>(hv.2 j c v h1 h2).mono h⟩
theorem VL.nil {I:Imm}:VL I [] []:=⟨rfl,fun j c v h _=>by simp at h⟩
theorem VL.cons {I:Imm} {c:HVal} {v:Value} {cs:List HVal} {vs:List Value} (h:V I c v) (hs:VL I cs vs):VL I (c::cs) (v::vs):=by
 refine ⟨by simp [hs.1],fun j c' v' h1 h2=> ?_⟩
 cases j with
 |zero=>simp at h1 h2;rw [<-h1,<-h2];exact h
 |succ j=>simp at h1 h2;exact hs.2 j c' v' h1 h2
theorem VL.head {I:Imm} {c:HVal} {v:Value} {cs:List HVal} {vs:List Value} (h:VL I (c::cs) (v::vs)):V I c v:=h.2 0 c v rfl rfl
theorem VL.tail {I:Imm} {c:HVal} {v:Value} {cs:List HVal} {vs:List Value} (h:VL I (c::cs) (v::vs)):VL I cs vs:=
 ⟨by have:=h.1;simp at this;exact this,fun j c' v' h1 h2=>h.2 (j+1) c' v' (by simpa using h1) (by simpa using h2)⟩
theorem VL.append {I:Imm} {c1 c2:List HVal} {v1 v2:List Value} (h1:VL I c1 v1) (h2:VL I c2 v2):VL I (c1++c2) (v1++v2):=by
 refine ⟨by simp [h1.1,h2.1],fun j c v a b=> ?_⟩
 by_cases hj:j<c1.length
 rw [Aw hj] at a;rw [Aw (by rw [h1.1];exact hj)] at b;exact h1.2 j c v a b;rw [Au (by omega)] at a;rw [Au (by rw [h1.1];omega),h1.1] at b;exact h2.2 _ c v a b
theorem VL.get {I:Imm} {cs:List HVal} {vs:List Value} (h:VL I cs vs) {j:Nat} {c:HVal} (hc:cs[j]? =some c): ∃v,vs[j]? =some v/\V I c v:=by
 have hj:j<cs.length:=by
  rcases AC j cs.length with h'|h'
  exact h'
  simp [AH h'] at hc
 have hj':j<vs.length:=by rw [h.1];exact hj
 exact ⟨vs[j],Aa hj',h.2 j c _ hc (Aa hj')⟩
theorem V.cells [Tracks] {I:Imm} {c:HVal} {v:Value} (h:V I c v) (hj:zgY c=true):VL I (zb c) v.cells.toList:=by
 cases h with
 |agg hl hV=>exact ⟨by simpa [zb,Value.cells] using hl,fun j c v h1 h2=>hV j c v h1 (by simpa [Value.cells] using h2)⟩
 |junk v=>simp [zgY] at hj
 |opt _ _=>simp [zgY] at hj
 |raw v h1=>cases v<;>first|exact VL.cons (.raw _ h1) VL.nil|simp [Value.oneCell'] at h1
 |bool b=>exact VL.cons (.bool b) VL.nil
 |int k n=>exact VL.cons (.int k n) VL.nil
 |str s=>exact VL.cons (.str s) VL.nil
 |slice0 sz a cap=>exact VL.cons (.slice0 sz a cap) VL.nil
 |slice h1 h2 h3 h4 h5=>exact VL.cons (.slice h1 h2 h3 h4 h5) VL.nil
 |vptr h1 h2 h3=>exact VL.cons (.vptr h1 h2 h3) VL.nil
 |tup h1 h2=>exact VL.cons (.tup h1 h2) VL.nil
 |fn h1 h2 h3 h4=>exact VL.cons (.fn h1 h2 h3 h4) VL.nil
 |ifc h=>exact VL.cons (.ifc h) VL.nil
 |hmap h1 h2 h3 h4 h5=>exact VL.cons (.hmap h1 h2 h3 h4 h5) VL.nil
inductive MObj where
 |cells (b:Nat) (cs:List HVal)
 |arr (v:Value) (sz:Nat) (es:List HVal)
 |obj (b:Nat) (o:Obj)
 |map (b:Nat) (l:List (HVal×HVal))
 |iter (r b:Nat) (l:List (HVal×HVal)) (vis:List Nat)
 |mape (b:Nat) (l:List (HVal×HVal)) (j st:Nat)
 |bld (b:Nat) (T el:TypeId) (h v:Value) (s:List UInt8)
def zy0:Value->List Nat
 | .slice (some a) _ _=>[a.block]
 |_=>[]
def MObj.blocks:MObj->List Nat
 | .cells b _=>[b]
 | .arr (.slice (some a) _ _) _ _=>[a.block]
 | .arr _ _ _=>[]
 | .obj b _=>[b]
 | .map b _=>[b]
 | .iter r b _ _=>[r,b]
 | .mape b _ _ _=>[b]
 | .bld b _ _ _ v _=>b::zy0 v
def Free (fr:Nat×Nat) (n:Nat):Prop:= ∀o,o<n->¬(fr.1<=o/\o<fr.2)
theorem Free.zero (n:Nat):Free (0,0) n:=fun o _ h=>by simp at h
def BornOk (es:Array MapEntry) (clk:Nat):Prop:=(∀(i:Nat) (m:MapEntry),es[i]? =some m->m.born<clk)/\∀(i j:Nat) (m n:MapEntry),es[i]? =some m->es[j]? =some n->m.born=n.born->i=j
theorem BornOk.nil:BornOk #[] 0:=⟨fun i m h=>by simp at h,fun i j m n h=>by simp at h⟩
theorem BornOk.push {es:Array MapEntry} {clk:Nat} (h:BornOk es clk) {m:MapEntry} (hm:m.born=clk):BornOk (es.push m) (clk+1):=by
 have key: ∀(i:Nat) (x:MapEntry),(es.push m)[i]? =some x->(i=es.size/\x=m)\/es[i]? =some x:=fun i x hx=>by
  rw [AQ] at hx
  split at hx
  rename_i hi;simp at hx;exact .inl ⟨hi,hx.symm⟩
  exact .inr hx
 refine ⟨fun i x hx=> ?_,fun i j x y hx hy e=> ?_⟩
 rcases key i x hx with ⟨_,rfl⟩|h'
 omega
 have:=h.1 i x h';omega
 rcases key i x hx with ⟨i1,rfl⟩|h1<;>rcases key j y hy with ⟨j1,rfl⟩|h2
 omega
 have:=h.1 j y h2;omega;have:=h.1 i x h1;omega;exact h.2 i j x y h1 h2 e
theorem BornOk.modify {es:Array MapEntry} {clk:Nat} (h:BornOk es clk) (k:Nat) {f:MapEntry->MapEntry} (hf: ∀m,(f m).born=m.born):BornOk (es.modify k f) clk:=by
 have key: ∀(i:Nat) (x:MapEntry),(es.modify k f)[i]? =some x->∃y,es[i]? =some y/\y.born=x.born:=fun i x hx=>by
  rw [AG] at hx
  split at hx
  cases hq:es[i]? with
  |none=>rw [hq] at hx;simp at hx
  |some y=>rw [hq] at hx;simp at hx;exact ⟨y,rfl,by rw [<-hx,hf]⟩
  exact ⟨x,hx,rfl⟩
 refine ⟨fun i x hx=> ?_,fun i j x y hx hy e=> ?_⟩
 obtain ⟨z,h1,h2⟩:=key i x hx;have:=h.1 i z h1;omega;obtain ⟨z,h1,h2⟩:=key i x hx;obtain ⟨z',h3,h4⟩:=key j y hy;exact h.2 i j z z' h1 h3 (by omega)
def MSat (I:Imm) (w:World):MObj->Prop
 | .cells b cs=> ∃rc el fr,w.heap[b]? =some (.cells rc el fr)/\Free fr rc.size/\VL I cs rc.toList
 | .arr v sz es=>(v= .slice none 0 0/\es=[])\/
    ∃b off cap rc el fr,v= .slice (some ⟨b,off,none⟩) es.length cap/\w.heap[b]? =some (.cells rc el fr)/\Free fr rc.size/\
     (∀e∈es,(zb e).length=sz)/\(es.length<=cap/\cap<=9223372036854775807)/\off+cap*sz<=rc.size/\
     (∀(i j:Nat) (e c:HVal) (v:Value),es[i]? =some e->(zb e)[j]? =some c->rc[off+i*sz+j]? =some v->V I c v)
 | .obj b o=>w.heap[b]? =some o
 | .map b l=> ∃es clk,w.heap[b]? =some (.map es clk)/\(es.size=l.length/\BornOk es clk)/\∀(i:Nat) (p:HVal×HVal) (m:MapEntry),l[i]? =some p->es[i]? =some m->V I p.1 m.key/\V I p.2 m.val
 | .iter r b l vis=> ∃es clk seen,w.heap[b]? =some (.map es clk)/\w.heap[r]? =some (.mapIter (some b) clk seen clk)/\(es.size=l.length/\BornOk es clk)/\seen.toList=vis.map (fun i=>((es[i]?).map (·.born)).getD 0)/\
    ∀(i:Nat) (p:HVal×HVal) (m:MapEntry),l[i]? =some p->es[i]? =some m->V I p.1 m.key/\V I p.2 m.val
 | .mape b l j st=> ∃es clk,w.heap[b]? =some (.map es clk)/\(es.size=l.length/\BornOk es clk)/\(∀(i:Nat) (p:HVal×HVal) (m:MapEntry),l[i]? =some p->es[i]? =some m->V I p.1 m.key/\V I p.2 m.val)/\∃m,es[j]? =some m/\m.born=st
 | .bld b T el h v s=>(h.oneCell'=true/\∃p,(p= .pointer none\/p= .pointer (some ⟨b,0,none⟩))/\w.heap[b]? =some (.cells #[p,h] T (0,0)))/\
    ((v= .slice none 0 0/\s=[])\/∃g cap rc,v= .slice (some ⟨g,0,none⟩) s.length cap/\w.heap[g]? =some (.cells rc el (0,0))/\(0<cap/\s.length<=cap/\cap<=9223372036854775807/\cap<=rc.size)/\
      ∀(i:Nat) (c:UInt8),s[i]? =some c->rc[i]? =some (.int .u8 c.toNat))
theorem MSat.mono [Tracks] {I J:Imm} (h:Le I J) {w:World} {m:MObj} (hm:MSat I w m):MSat J w m:=by
 cases m with
 |cells b cs=>obtain ⟨rc,el,fr,h1,h2,h3⟩:=hm;exact ⟨rc,el,fr,h1,h2,h3.mono h⟩
 |arr v sz es=>
   rcases hm with hm|⟨b,off,cap,rc,el,fr,h1,h2,h3,h4,h5,h6,h7⟩
   exact .inl hm;exact .inr ⟨b,off,cap,rc,el,fr,h1,h2,h3,h4,h5,h6,fun i j e c v a b d=>(h7 i j e c v a b d).mono h⟩
 |obj b o=>exact hm
 |map b l=>obtain ⟨es,clk,h1,h2,h3⟩:=hm;exact ⟨es,clk,h1,h2,fun i p m a b=>⟨(h3 i p m a b).1.mono h,(h3 i p m a b).2.mono h⟩⟩
 |iter r b l vis=>obtain ⟨es,clk,seen,h1,h0,h2,h4,h3⟩:=hm;exact ⟨es,clk,seen,h1,h0,h2,h4,fun i p m a b=>⟨(h3 i p m a b).1.mono h,(h3 i p m a b).2.mono h⟩⟩
 |mape b l j st=>obtain ⟨es,clk,h1,h2,h3,h4⟩:=hm;exact ⟨es,clk,h1,h2,fun i p m a b=>⟨(h3 i p m a b).1.mono h,(h3 i p m a b).2.mono h⟩,h4⟩
 |bld b T el x v s=>exact hm
theorem MSat.of_same {I:Imm} {w w':World} {m:MObj} (hs: ∀b∈m.blocks,w'.heap[b]? =w.heap[b]?) (hm:MSat I w m):MSat I w' m:=by
 cases m with
 |cells b cs=>
   obtain ⟨rc,el,fr,h1,h2,h3⟩:=hm;exact ⟨rc,el,fr,by rw [hs b (by simp [MObj.blocks])];exact h1,h2,h3⟩
 |arr v sz es=>
   rcases hm with hm|⟨b,off,cap,rc,el,fr,h1,h2,h3,h4,h5,h6,h7⟩
   exact .inl hm;subst h1;exact .inr ⟨b,off,cap,rc,el,fr,rfl,by rw [hs b (by simp [MObj.blocks])];exact h2,h3,h4,h5,h6,h7⟩
 |obj b o=>simp only [MSat] at*;rw [hs b (by simp [MObj.blocks])];exact hm
 |map b l=>obtain ⟨es,clk,h1,h2,h3⟩:=hm;exact ⟨es,clk,by rw [hs b (by simp [MObj.blocks])];exact h1,h2,h3⟩
 |iter r b l vis=>obtain ⟨es,clk,seen,h1,h0,h2,h4,h3⟩:=hm;exact ⟨es,clk,seen,by rw [hs b (by simp [MObj.blocks])];exact h1,by rw [hs r (by simp [MObj.blocks])];exact h0,h2,h4,h3⟩
 |mape b l j st=>obtain ⟨es,clk,h1,h2⟩:=hm;exact ⟨es,clk,by rw [hs b (by simp [MObj.blocks])];exact h1,h2⟩
 |bld b T el x v s=>
   obtain ⟨⟨h0,p,h1,h2⟩,h3⟩:=hm;refine ⟨⟨h0,p,h1,?_⟩,?_⟩
   rw [hs b (by simp [MObj.blocks])];exact h2
   rcases h3 with h3|⟨g,cap,rc,rfl,h4,h5,h6⟩
   exact .inl h3;exact .inr ⟨g,cap,rc,rfl,by rw [hs g (by simp [MObj.blocks,zy0])];exact h4,h5,h6⟩
theorem MSat.lies {I:Imm} {w:World} {m:MObj} (hm:MSat I w m) {b:Nat} (hb:b∈m.blocks): ∃o,w.heap[b]? =some o:=by
 cases m with
 |cells b' cs=>
   obtain ⟨rc,el,fr,h1,_⟩:=hm
   simp [MObj.blocks] at hb;subst hb;exact ⟨_,h1⟩
 |arr v sz es=>
   rcases hm with ⟨rfl,_⟩|⟨b',off,cap,rc,el,fr,h1,h2,_⟩
   simp [MObj.blocks] at hb
   subst h1;simp [MObj.blocks] at hb;subst hb;exact ⟨_,h2⟩
 |obj b' o=>simp [MObj.blocks] at hb;subst hb;exact ⟨_,hm⟩
 |map b' l=>obtain ⟨es,clk,h1,_⟩:=hm;simp [MObj.blocks] at hb;subst hb;exact ⟨_,h1⟩
 |iter r b' l vis=>
   obtain ⟨es,clk,seen,h1,h0,_⟩:=hm
   simp [MObj.blocks] at hb
   rcases hb with rfl|rfl
   exact ⟨_,h0⟩;exact ⟨_,h1⟩
 |mape b' l j st=>obtain ⟨es,clk,h1,_⟩:=hm;simp [MObj.blocks] at hb;subst hb;exact ⟨_,h1⟩
 |bld b' T el x v s=>
   obtain ⟨⟨h0,p,h1,h2⟩,h3⟩:=hm
   rcases h3 with ⟨rfl,_⟩|⟨g,cap,rc,rfl,h4,h5,h6⟩
   simp [MObj.blocks,zy0] at hb;subst hb;exact ⟨_,h2⟩
   simp [MObj.blocks,zy0] at hb
   rcases hb with rfl|rfl
   exact ⟨_,h2⟩;exact ⟨_,h4⟩
def blocks (M:List MObj):List Nat:=M.flatMap MObj.blocks
def zGA (c3 c4:Array Value):Prop:=(∀k,k<256->c3[k]? =some (.int .u8 (Lib.firstT k)))/\∀i,i<16->c4[2*i]? =some (.int .u8 (Lib.accLo i))/\c4[2*i+1]? =some (.int .u8 (Lib.accHi i))
def TabI (P:Program) (I:Imm):Prop:=(∀g,P.globalNamed "internal/strconv.uint64pow10" =some g->∃t fr,I.heap g=some (.cells (Lib.pow10Tab.map fun z=>Value.int .u64 z).toArray t fr))/\
 (∀g,P.globalNamed "internal/bytealg.MaxLen" =some g->∃c t fr m,I.heap g=some (.cells c t fr)/\c[0]? =some (.int .i64 m))/\
 ∀g3 g4,P.globalNamed "unicode/utf8.first" =some g3->P.globalNamed "unicode/utf8.acceptRanges" =some g4->∃c3 t3 f3 c4 t4 f4,I.heap g3=some (.cells c3 t3 f3)/\I.heap g4=some (.cells c4 t4 f4)/\zGA c3 c4
theorem TabI.mono [Tracks] {P:Program} {I J:Imm} (h:Le I J) (ht:TabI P I):TabI P J:=⟨fun g hg=>
 let ⟨t,fr,h1⟩:=ht.1 g hg;⟨t,fr,h.heap _ _ h1⟩,fun g hg=>
 let ⟨c,t,fr,m,h1,h2⟩:=ht.2.1 g hg;⟨c,t,fr,m,h.heap _ _ h1,h2⟩,fun g3 g4 h3 h4=>
 let ⟨c3,t3,f3,c4,t4,f4,h1,h2,h5⟩:=ht.2.2 g3 g4 h3 h4;⟨c3,t3,f3,c4,t4,f4,h.heap _ _ h1,h.heap _ _ h2,h5⟩⟩
variable {P:Program}
structure Sat [Tracks] (P:Program) (I:Imm) (M:List MObj) (w:World):Prop where
 imm: ∀b o,I.heap b=some o->w.heap[b]? =some o
 obj: ∀m∈M,MSat I w m
 nodup:(blocks M).Nodup
 apart: ∀b∈blocks M,I.heap b=none
 os:w.os=I.os
 output:w.output=I.output
 tape:w.tape=I.tape
 tab:TabI P I
 low:Tracks.on=true->I.low<=w.drawn
theorem Sat.perm [Tracks] {I:Imm} {M N:List MObj} {w:World} (h:Sat P I M w) (hp:M.Perm N):Sat P I N w where
 imm:=h.imm
 obj m hm:=h.obj m (hp.mem_iff.2 hm)
 nodup:=(hp.flatMap_right MObj.blocks).nodup_iff.1 h.nodup
 apart b hb:=h.apart b ((hp.flatMap_right MObj.blocks).mem_iff.2 hb)
 os:=h.os
 output:=h.output
 tape:=h.tape
 tab:=h.tab
 low:=h.low
theorem Sat.drop [Tracks] {I:Imm} {m:MObj} {M:List MObj} {w:World} (h:Sat P I (m::M) w):Sat P I M w where
 imm:=h.imm
 obj x hx:=h.obj x (Al _ hx)
 nodup:=by have:=h.nodup;simp only [blocks,AP] at this;exact (List.nodup_append.1 this).2.1
 apart b hb:=h.apart b (by simp only [blocks,AP];exact Be _ hb)
 os:=h.os
 output:=h.output
 tape:=h.tape
 tab:=h.tab
 low:=h.low
theorem Sat.fresh [Tracks] {I:Imm} {M:List MObj} {w:World} (h:Sat P I M w):I.heap w.heap.size=none/\w.heap.size∉blocks M:=by
 constructor
 cases hi:I.heap w.heap.size with
 |none=>rfl
 |some o=>have:=h.imm _ _ hi;simp at this
 intro hb
 simp only [blocks,BC] at hb;obtain ⟨m,hm,hb⟩:=hb;obtain ⟨o,ho⟩:=(h.obj m hm).lies hb
 simp at ho
theorem Sat.of_same [Tracks] {I:Imm} {M:List MObj} {w w':World} (h:Sat P I M w) (hi: ∀b,(∃o,I.heap b=some o)->w'.heap[b]? =w.heap[b]?)
 (hm: ∀b∈blocks M,w'.heap[b]? =w.heap[b]?) (h1:w'.os=w.os) (h2:w'.output=w.output) (h3:w'.tape=w.tape) (h4:Tracks.on=true->w.drawn<=w'.drawn:=by intro _;focus first|exact Ae _|exact Bt _|exact CA _ _|(simp;done)|omega):Sat P I M w' where
 imm b o hb:=by rw [hi b ⟨o,hb⟩];exact h.imm b o hb
 obj m hx:=(h.obj m hx).of_same fun b hb=>hm b (by simp only [blocks,BC];exact ⟨m,hx,hb⟩)
 nodup:=h.nodup
 apart:=h.apart
 os:=h1.trans h.os
 output:=h2.trans h.output
 tape:=h3.trans h.tape
 tab:=h.tab
 low:=fun ht=>An (h.low ht) (h4 ht)
def Imm.add (I:Imm) (b:Nat) (o:Obj):Imm:={I with heap:=fun x=>if x=b then some o else I.heap x}
theorem zrV [Tracks] {I:Imm} {b:Nat} {o:Obj} (h:I.heap b=none):Le I (I.add b o):=
 ⟨fun x o' hx=>by
  by_cases e:x=b
  subst e;rw [h] at hx;cases hx
  simp [Imm.add,e,hx],rfl,rfl,rfl,fun _=>Ae _⟩
theorem ziy {I:Imm} {b:Nat} {o:Obj}:(I.add b o).heap b=some o:=by simp [Imm.add]
abbrev push (w:World) (o:Obj):World:={w with heap:=w.heap.push o}
theorem Sat.new_imm [Tracks] {I:Imm} {M:List MObj} {w:World} (h:Sat P I M w) (o:Obj):
 Le I (I.add w.heap.size o)/\Sat P (I.add w.heap.size o) M (push w o):=by
 obtain ⟨h1,h2⟩:=h.fresh;have hle:=zrV (o:=o) h1;refine ⟨hle,?_⟩
 exact {
  imm:=fun b o' hb=>by
   by_cases e:b=w.heap.size
   subst e;simp [Imm.add] at hb;simp [hb]
   simp [Imm.add,e] at hb
   have:=h.imm _ _ hb;simp only [push,AQ,e,if_false];exact this
  obj:=fun m hm=>by
   refine ((h.obj m hm).mono hle).of_same fun b hb=> ?_
   have:b≠w.heap.size:=fun e=>h2 (by subst e;simp only [blocks,BC];exact ⟨m,hm,hb⟩)
   simp [push,AQ,this]
  nodup:=h.nodup
  apart:=fun b hb=>by
   have:b≠w.heap.size:=fun e=>h2 (e▸hb)
   simp [Imm.add,this,h.apart b hb]
  os:=h.os
  output:=h.output
  tape:=h.tape
  tab:=h.tab.mono hle
  low:=h.low}
theorem Sat.new_own [Tracks] {I:Imm} {M:List MObj} {w:World} (h:Sat P I M w) (o:Obj) (m:MObj) (hb:m.blocks=[w.heap.size]) (hm:MSat I (push w o) m):
 Sat P I (m::M) (push w o):=by
 obtain ⟨h1,h2⟩:=h.fresh;exact {
  imm:=fun b o' hb=>by
   have e:b≠w.heap.size:=fun e=>by subst e;rw [h1] at hb;cases hb
   simp only [push,AQ,e,if_false];exact h.imm _ _ hb
  obj:=fun x hx=>by
   rcases List.mem_cons.1 hx with rfl|hx
   exact hm;refine (h.obj x hx).of_same fun b hb=> ?_
   have:b≠w.heap.size:=fun e=>h2 (by subst e;simp only [blocks,BC];exact ⟨x,hx,hb⟩)
   simp [push,AQ,this]
  nodup:=by
   simp only [blocks,AP,hb,BQ,CG];exact ⟨h2,h.nodup⟩
  apart:=fun b hb'=>by
   simp only [blocks,AP,hb,BQ,BS] at hb'
   rcases hb' with rfl|hb'
   exact h1;exact h.apart b hb'
  os:=h.os
  output:=h.output
  tape:=h.tape
  tab:=h.tab
  low:=h.low}
theorem Sat.freeze [Tracks] {I:Imm} {M:List MObj} {m:MObj} {w:World} {b:Nat} {o:Obj} (h:Sat P I (m::M) w) (hb:m.blocks=[b]) (ho:w.heap[b]? =some o):
 Le I (I.add b o)/\Sat P (I.add b o) M w:=by
 have h1:I.heap b=none:=h.apart b (by simp [blocks,hb]);have hle:=zrV (o:=o) h1;have hn:=h.nodup;simp only [blocks,AP,hb,BQ,CG] at hn;refine ⟨hle,?_⟩
 exact {
  imm:=fun x o' hx=>by
   by_cases e:x=b
   subst e;simp [Imm.add] at hx;rw [ho,hx]
   simp [Imm.add,e] at hx;exact h.imm _ _ hx
  obj:=fun x hx=>(h.obj x (Al _ hx)).mono hle
  nodup:=hn.2
  apart:=fun x hx=>by
   have:x≠b:=fun e=>hn.1 (e▸hx)
   simp [Imm.add,this]
   exact h.apart x (by simp only [blocks,AP];exact Be _ hx)
  os:=h.os
  output:=h.output
  tape:=h.tape
  tab:=h.tab.mono hle
  low:=h.low}
theorem Sat.change [Tracks] {I:Imm} {M:List MObj} {m m':MObj} {w w':World} (h:Sat P I (m::M) w)
 (hs: ∀b,b<w.heap.size->b∉m.blocks->w'.heap[b]? =w.heap[b]?)
 (hb: ∀b∈m'.blocks,b∈m.blocks\/w.heap.size<=b) (hn:m'.blocks.Nodup) (hm:MSat I w' m')
 (h1:w'.os=w.os) (h2:w'.output=w.output) (h3:w'.tape=w.tape) (h4:Tracks.on=true->w.drawn<=w'.drawn:=by intro _;focus first|exact Ae _|exact Bt _|exact CA _ _|(simp;done)|omega):Sat P I (m'::M) w':=by
 have hd:=h.drop;have hnd:=h.nodup;simp only [blocks,AP] at hnd;have hlt: ∀b∈blocks M,b<w.heap.size:=fun b hb=>by
  simp only [blocks,BC] at hb;obtain ⟨x,hx,hb⟩:=hb;obtain ⟨o,ho⟩:=(hd.obj x hx).lies hb
  rcases AC b w.heap.size with h'|h'
  exact h'
  simp [Av h'] at ho
 have hnot: ∀b∈blocks M,b∉m.blocks:=fun b hb hb'=>(List.nodup_append.1 hnd).2.2 b hb' b hb rfl
 have hilt: ∀b o,I.heap b=some o->b<w.heap.size:=fun b o ho=>by
  have:=h.imm b o ho
  rcases AC b w.heap.size with h'|h'
  exact h'
  simp [Av h'] at this
 have hinot: ∀b o,I.heap b=some o->b∉m.blocks:=fun b o ho hb=>by
  have:=h.apart b (by simp only [blocks,AP];exact Ap _ hb);rw [this] at ho;cases ho
 exact {
  imm:=fun b o ho=>by rw [hs b (hilt b o ho) (hinot b o ho)];exact h.imm b o ho
  obj:=fun x hx=>by
   rcases List.mem_cons.1 hx with rfl|hx
   exact hm;exact (hd.obj x hx).of_same fun b hb=>
    have hb':b∈blocks M:=by simp only [blocks,BC];exact ⟨x,hx,hb⟩
    hs b (hlt b hb') (hnot b hb')
  nodup:=by
   simp only [blocks,AP];refine List.nodup_append.2 ⟨hn,hd.nodup,fun a ha b hb' e=> ?_⟩
   subst e
   rcases hb a ha with h'|h'
   exact hnot a hb' h';exact absurd (hlt a hb') (by omega)
  apart:=fun b hb'=>by
   simp only [blocks,AP,List.mem_append] at hb'
   rcases hb' with hb'|hb'
   rcases hb b hb' with h'|h'
   exact h.apart b (by simp only [blocks,AP];exact Ap _ h')
   cases hi:I.heap b with
   |none=>rfl
   |some o=>exact absurd (hilt b o hi) (by omega)
   exact hd.apart b hb'
  os:=h1.trans h.os
  output:=h2.trans h.output
  tape:=h3.trans h.tape
  tab:=h.tab
  low:=fun ht=>An (h.low ht) (h4 ht)}
end
section
variable {P:Program}
abbrev Env:=Nat->Option HVal
def upd (e:Env) (d:Nat) (h:HVal):Env:=fun t=>match Nat.beq t d with|true=>some h|false=>e t
def zd5 (e:Env) (d:Option Tmp) (h:HVal):Env:=match d with|some d=>upd e d h|none=>e
theorem zg1 (e:Env) (d:Nat) (h:HVal):upd e d h d=some h:=by simp [upd]
theorem zfD (e:Env) {d t:Nat} (h:HVal) (hn:t≠d):upd e d h t=e t:=by
 have:Nat.beq t d=false:=by
  cases hb:Nat.beq t d with
  |false=>rfl
  |true=>exact absurd (BF hb) hn
 simp [upd,this]
theorem zDk [Tracks] (e:Env) {d d':Nat} (h h':HVal) (hn:d≠d'):upd (upd e d h) d' h'=upd (upd e d' h') d h:=by
 funext t
 by_cases h1:t=d
 subst h1;rw [zfD _ _ hn,zg1,zg1]
 by_cases h2:t=d'
 subst h2;rw [zg1,zfD _ _ h1,zg1];rw [zfD _ _ h2,zfD _ _ h1,zfD _ _ h1,zfD _ _ h2]
theorem zuT [Tracks] (e:Env) {x y:Option Tmp} (h h':HVal) (hn: ∀d,x=some d->y≠some d):zd5 (zd5 e x h) y h'=zd5 (zd5 e y h') x h:=by
 cases x with
 |none=>rfl
 |some d=>
   cases y with
   |none=>rfl
   |some d'=>exact zDk e h h' (fun e=>hn d rfl (by rw [e]))
def Sub (e' e:Env):Prop:= ∀t h,e' t=some h->e t=some h
theorem Sub.refl (e:Env):Sub e e:=fun _ _ h=>h
theorem Sub.upd [Tracks] {e' e:Env} {t:Nat} {h:HVal} (ht:e t=some h) (hs:Sub e' e):Sub (upd e' t h) e:=fun x y hx=>by
 by_cases hh:x=t
 subst hh;rw [zg1] at hx;rw [<-hx];exact ht;rw [zfD _ _ hh] at hx;exact hs x y hx
def EnvV (I:Imm) (e:Env) (tmps:Array Value):Prop:= ∀t h,e t=some h->∃v,tmps[t]? =some v/\V I h v
theorem EnvV.mono [Tracks] {I J:Imm} (hl:Le I J) {e:Env} {tmps:Array Value} (h:EnvV I e tmps):EnvV J e tmps:=
 fun t c hc=>let ⟨v,h1,h2⟩:=h t c hc;⟨v,h1,h2.mono hl⟩
theorem EnvV.sub {I:Imm} {e e':Env} {tmps:Array Value} (hs:Sub e' e) (h:EnvV I e tmps):EnvV I e' tmps:=fun t c hc=>h t c (hs t c hc)
theorem EnvV.put [Tracks] {I:Imm} {e:Env} {a:Act} {d:Option Tmp} {h:HVal} {v:Value} (he:EnvV I e a.tmps) (hd: ∀t,d=some t->t<a.tmps.size) (hv:V I h v):
 EnvV I (zd5 e d h) (a.put d v).tmps:=by
 cases d with
 |none=>exact he
 |some d=>
   intro t c hc
   by_cases ht:t=d
   subst ht;simp only [zd5,zg1,AA] at hc;subst hc;exact ⟨v,by simp [Act.put,hd t rfl],hv⟩;simp only [zd5,zfD _ _ ht] at hc;obtain ⟨u,h1,h2⟩:=he t c hc;exact ⟨u,by simp [Act.put,AJ (Ne.symm ht),h1],h2⟩
def zbw:Value->HVal
 | .bool b=> .bool b
 | .int k n=> .int k n
 | .string s=> .str s.data.toList
 | .agg _=> .junk
 | .tuple _=> .junk
 |v=> .raw v
def zaT:Value->HVal
 | .agg cs=> .agg (cs.toList.map zbw)
 |v=>zbw v
theorem zrg (I:Imm) (v:Value):V I (zbw v) v:=by
 cases v with
 |bool b=>exact .bool b
 |int k n=>exact .int k n
 |string s=>exact (by have h:=V.str (I:=I) s.data.toList;simp only [Array.toArray_toList] at h;exact h)
 |agg _=>exact .junk _
 |tuple _=>exact .junk _
 |_=>exact .raw _ rfl
theorem zg4 [Tracks] (I:Imm) (v:Value):V I (zaT v) v:=by
 cases v with
 |agg cs=>
   refine .agg (by simp) fun j c v h1 h2=> ?_
   simp only [Aj,AY,h2,AI,AA] at h1;rw [<-h1];exact zrg I v
 |bool b=>exact .bool b
 |int k n=>exact .int k n
 |string s=>exact zrg I (.string s)
 |tuple _=>exact .junk _
 |_=>exact .raw _ rfl
def zh (e:Env):Operand->Option HVal
 | .tmp t=>e t
 | .const v=>some (zaT v)
 | .global g=>some (.raw (.pointer (some ⟨g,0,none⟩)))
 | .func f=>some (.fn (.func f) [] [])
theorem EnvV.eval [Tracks] {I:Imm} {e:Env} {a:Act} (he:EnvV I e a.tmps) {x:Operand} {h:HVal} (hx:zh e x=some h):V I h (a.eval x):=by
 cases x with
 |tmp t=>
   obtain ⟨v,h1,h2⟩:=he t h hx
   simpa [Act.eval,h1] using h2
 |const v=>simp only [zh,AA] at hx;subst hx;exact zg4 I v
 |global g=>simp only [zh,AA] at hx;subst hx;exact .raw _ rfl
 |func f=>
   simp only [zh,AA] at hx;subst hx;exact .fn rfl rfl (fun j c v h _=>by simp at h) (fun j c v h _=>by simp at h)
def Opds (I:Imm) (e:Env) (a:Act) (o:Oper):Prop:= ∀x∈o.op.operands,∀h,zh e x=some h->V I h (a.eval x)
theorem EnvV.opds [Tracks] {I:Imm} {e:Env} {a:Act} (he:EnvV I e a.tmps) (o:Oper):Opds I e a o:=fun _ _ _ hx=>he.eval hx
def NoQ:Exit->Act->World->Prop:=fun _ _ _=>False
theorem zbh {P:Program} {o:Oper} {a:Act} {w:World} {K K':Act->World->Prop} {Q:Exit->Act->World->Prop} (hk: ∀a w,K a w->K' a w)
 (h:o.wp P a w K NoQ):o.wp P a w K' Q:=by
 unfold Oper.wp at*
 generalize (execOp a.eval o).run P w=r at*
 cases r with
 |ok n w'=>
   cases n<;>simp only [Oper.upon] at h⊢
   case value v=>exact hk _ _ h
   case skip=>exact hk _ _ h
   case defer d=>exact hk _ _ h
   case enter f args=>
    refine Calls.mono h fun e w'' he=> ?_
    cases e with
    |returned v=>exact hk _ _ he
    |panicked c=>exact (he:False).elim
    |outgrown=>obtain ⟨_,_,hf⟩:=he;exact (hf:False).elim
   case row r args=>exact Rows.mono h fun _ _ he=>hk _ _ he
   all_goals exact h.elim
 |halt x w'=>
   cases x<;>simp only [Oper.upon] at h⊢
   all_goals exact (h:False).elim
def EOp [Tracks] (P:Program) (e:Env) (M:List MObj) (o:Oper) (K:HVal->List MObj->Prop):Prop:=
 ∀I F a w,Opds I e a o->Sat P I (M++F) w->
  o.wp P a w (fun a' w'=> ∃v h M' J,a'=a.put o.dst v/\Le I J/\K h M'/\V J h v/\Sat P J (M'++F) w') NoQ
def POp [Tracks] (P:Program) (e:Env) (o:Oper) (h:HVal):Prop:=
 ∀I F a w,Opds I e a o->Sat P I F w->o.wp P a w (fun a' w'=> ∃v J,a'=a.put o.dst v/\Le I J/\V J h v/\Sat P J F w') NoQ
theorem POp.eop [Tracks] {P:Program} {e:Env} {o:Oper} {h:HVal} (hp:POp P e o h) {M:List MObj} {K:HVal->List MObj->Prop} (hk:K h M):EOp P e M o K:=
 fun I F a w ho hs=>zbh (fun _ _ ⟨v,J,h1,h2,h3,h4⟩=>⟨v,h,M,J,h1,h2,hk,h3,h4⟩) (hp I (M++F) a w ho hs)
theorem POp.of_run [Tracks] {P:Program} {e:Env} {o:Oper} {h:HVal}
 (hr: ∀I F a w,Opds I e a o->Sat P I F w->∃v w' J,(execOp a.eval o).run P w= .ok (.value v) w'/\Le I J/\V J h v/\Sat P J F w'):POp P e o h:=
 fun I F a w ho hs=>by
  obtain ⟨v,w',J,h1,h2,h3,h4⟩:=hr I F a w ho hs;simp only [Oper.wp,h1,Oper.upon];exact ⟨v,J,rfl,h2,h3,h4⟩
theorem zF [Tracks] {P:Program} {e:Env} {o:Oper} {h:HVal}
 (hr: ∀I a w,Opds I e a o->∃v,(execOp a.eval o).run P w= .ok (.value v) w/\V I h v):POp P e o h:=
 POp.of_run fun I F a w ho hs=>let ⟨v,h1,h2⟩:=hr I a w ho;⟨v,w,I,h1,.refl I,h2,hs⟩
theorem EOp.of_run [Tracks] {P:Program} {e:Env} {M:List MObj} {o:Oper} {K:HVal->List MObj->Prop}
 (hr: ∀I F a w,Opds I e a o->Sat P I (M++F) w->∃v h M' w' J,(execOp a.eval o).run P w= .ok (.value v) w'/\Le I J/\K h M'/\V J h v/\Sat P J (M'++F) w'):EOp P e M o K:=
 fun I F a w ho hs=>by
  obtain ⟨v,h,M',w',J,h1,h2,h3,h4,h5⟩:=hr I F a w ho hs;simp only [Oper.wp,h1,Oper.upon];exact ⟨v,h,M',J,rfl,h2,h3,h4,h5⟩
theorem zhw [Tracks] {P:Program} {e:Env} {M:List MObj} {o:Oper} {K:HVal->List MObj->Prop}
 (hr: ∀I F a w,Opds I e a o->Sat P I (M++F) w->∃M' w' J,(execOp a.eval o).run P w= .ok .skip w'/\Le I J/\K .junk M'/\Sat P J (M'++F) w'):EOp P e M o K:=
 fun I F a w ho hs=>by
  obtain ⟨M',w',J,h1,h2,h3,h5⟩:=hr I F a w ho hs;simp only [Oper.wp,h1,Oper.upon];exact ⟨undef,.junk,M',J,rfl,h2,h3,.junk _,h5⟩
theorem EOp.mono [Tracks] {P:Program} {e:Env} {M:List MObj} {o:Oper} {K K':HVal->List MObj->Prop} (hk: ∀h M,K h M->K' h M) (h:EOp P e M o K):EOp P e M o K':=
 fun I F a w ho hs=>zbh (fun _ _ ⟨v,x,M',J,h1,h2,h3,h4,h5⟩=>⟨v,x,M',J,h1,h2,hk _ _ h3,h4,h5⟩) (h I F a w ho hs)
theorem EOp.perm [Tracks] {P:Program} {e:Env} {M N:List MObj} {o:Oper} {K:HVal->List MObj->Prop} (hp:N.Perm M) (h:EOp P e M o K):EOp P e N o K:=
 fun I F a w ho hs=>h I F a w ho (hs.perm (hp.append_right F))
theorem EOp.frame [Tracks] {P:Program} {e:Env} {M:List MObj} {o:Oper} {K:HVal->List MObj->Prop} (h:EOp P e M o K) (R:List MObj):
 EOp P e (M++R) o (fun x M'=> ∃N,M'=N++R/\K x N):=
 fun I F a w ho hs=>zbh (fun _ _ ⟨v,x,M',J,h1,h2,h3,h4,h5⟩=>⟨v,x,M'++R,J,h1,h2,⟨M',rfl,h3⟩,h4,by rw [A9];exact h5⟩)
  (h I (R++F) a w ho (by rw [<-A9];exact hs))
def Ghost [Tracks] (e:Env) (M:List MObj) (e':Env) (M':List MObj):Prop:=
 ∀⦃P:Program⦄ (I:Imm) (F:List MObj) (tmps:Array Value) (w:World),EnvV I e tmps->Sat P I (M++F) w->∃J,Le I J/\EnvV J e' tmps/\Sat P J (M'++F) w
/-! regions-/
def ze4 (ops:Array Oper) (e:Env) (j:Nat) (want:Bool):Option Bool:=
 match (ops[j]?).bind (·.dst) with
 |some d=>match e d with
   |some (.bool b)=>some (b==want)
   |some (.opt c (.bool b))=>some (c&&(b==want))
   |_=>none
 |none=>none
def WantIs (ops:Array Oper) (e:Env) (o:Oper) (c:Bool):Prop:=
 match o.guard with
 |none=>c=true
 |some (j,want)=>ze4 ops e j want=some c
theorem WantIs.real {I:Imm} {ops:Array Oper} {e:Env} {tmps:Array Value} (he:EnvV I e tmps) {o:Oper} {c:Bool} (h:WantIs ops e o c):Region.wanted o (yielded ops tmps)=c:=by
 unfold WantIs at h;unfold Region.wanted
 cases hg:o.guard with
 |none=>rw [hg] at h;simp only at h;rw [h]
 |some p=>
   obtain ⟨j,want⟩:=p;rw [hg] at h;simp only at h⊢;unfold ze4 at h;unfold yielded
   cases hd:(ops[j]?).bind (·.dst) with
   |none=>rw [hd] at h;simp at h
   |some d=>
     rw [hd] at h;simp only at h
     cases hh:e d with
     |none=>rw [hh] at h;simp at h
     |some x=>
       rw [hh] at h;obtain ⟨v,h1,h2⟩:=he d _ hh
       cases x with
       |bool b=>
         simp only [AA] at h
         cases h2
         simp [h1,<-h]
       |opt c' y=>
         cases y with
         |bool b=>
           simp only [AA] at h
           cases h2 with
           |opt h3 h4=>
             cases c' with
             |true=>
               have h5:=h3 rfl
               cases h5
               simp [h1,<-h]
             |false=>
               have h5:=h4 rfl;subst h5
               simp [h1,<-h,undef]
         |_=>simp at h
       |_=>simp at h
def HOp [Tracks] (P:Program) (ops:Array Oper) (n:Nat) (o:Oper) (e:Env) (M:List MObj) (K:Env->List MObj->Prop):Prop:=
 (∀t,o.dst=some t->t<n)/\∃c,WantIs ops e o c/\(c=true->EOp P e M o fun h M'=>K (zd5 e o.dst h) M')/\(c=false->∃h,K (zd5 e o.dst (.opt false h)) M)
def Post [Tracks] (P:Program) (n:Nat) (I:Imm) (F:List MObj) (Q:Exit->Env->List MObj->Prop):Exit->Act->World->Prop:=
 fun x a w=>a.defers=[]/\a.tmps.size=n/\∃J e M,Le I J/\Q x e M/\EnvV J e a.tmps/\Sat P J (M++F) w
theorem Post.le [Tracks] {n:Nat} {I J:Imm} {F:List MObj} {Q:Exit->Env->List MObj->Prop} {x:Exit} {a:Act} {w:World} (hl:Le I J) (h:Post P n J F Q x a w):Post P n I F Q x a w:=
 let ⟨h1,h2,J',e,M,h3,h4⟩:=h;⟨h1,h2,J',e,M,hl.trans h3,h4⟩
theorem zlu (a:Act) (d:Option Tmp) (v:Value):(a.put d v).tmps.size=a.tmps.size:=by cases d<;>simp [Act.put]
theorem ziP (a:Act) (d:Option Tmp) (v:Value):(a.put d v).defers=a.defers:=by cases d<;>simp [Act.put]
theorem HOp.sound [Tracks] {P:Program} {ops:Array Oper} {n:Nat} {o:Oper} {e:Env} {M:List MObj} {K:Env->List MObj->Prop} (h:HOp P ops n o e M K)
 {i:Nat} (hi:ops[i]? =some o) {Q:Exit->Act->World->Prop} {I:Imm} {F:List MObj} {a:Act} {w:World} (hd:a.defers=[]) (hn:a.tmps.size=n)
 (he:EnvV I e a.tmps) (hs:Sat P I (M++F) w) {K':Act->World->Prop}
 (hk: ∀J e' M' a' w',Le I J->K e' M'->a'.defers=[]->a'.tmps.size=n->EnvV J e' a'.tmps->Sat P J (M'++F) w'->K' a' w'):wpOp P ops Q i K' a w:=by
 unfold wpOp;simp only [hi];obtain ⟨hdst,c,hw,ht,hf⟩:=h;rw [hw.real he]
 cases c with
 |false=>
   simp only [AU,if_false];obtain ⟨h,hh⟩:=hf rfl;exact hk I _ M _ _ (.refl I) hh (by rw [ziP];exact hd) (by rw [zlu];exact hn) (he.put (by rw [hn];exact hdst) (.opt (fun h=>by cases h) (fun _=>rfl))) hs
 |true=>
   simp only [if_true];refine .inl (zbh ?_ (ht rfl I F a w (he.opds o) hs))
   rintro a' w' ⟨v,x,M',J,rfl,h2,h3,h4,h5⟩;exact hk J _ M' _ _ h2 h3 (by rw [ziP];exact hd) (by rw [zlu];exact hn) ((he.mono h2).put (by rw [hn];exact hdst) h4) h5
def Der [Tracks] (P:Program) (ops:Array Oper) (n:Nat) (K:Env->List MObj->Prop):List Oper->Env->List MObj->Prop
 |[],e,M=>K e M
 |o::rest,e,M=>HOp P ops n o e M (Der P ops n K rest)
theorem Der.sound [Tracks] {P:Program} {ops:Array Oper} {n:Nat} {K:Env->List MObj->Prop} {I:Imm} {F:List MObj} {Q:Exit->Act->World->Prop}
 (hq: ∀J e M a w,Le I J->K e M->a.defers=[]->a.tmps.size=n->EnvV J e a.tmps->Sat P J (M++F) w->Q .normal a w):
 ∀(l:List Oper) (k:Nat),(∀j,ops[k+j]? =l[j]?)->∀(J:Imm) (e:Env) (M:List MObj) (a:Act) (w:World),Le I J->Der P ops n K l e M->
  a.defers=[]->a.tmps.size=n->EnvV J e a.tmps->Sat P J (M++F) w->wpOps P ops Q (List.range' k l.length) a w:=by
 intro l
 induction l with
 |nil=>intro k _ J e M a w hl h hd hn he hs;exact hq J e M a w hl h hd hn he hs
 |cons o rest ih=>
   intro k hk J e M a w hl h hd hn he hs
   rw [Ah,Cz,wpOps_cons];have hi:ops[k]? =some o:=by simpa using hk 0
   refine HOp.sound h hi hd hn he hs fun J' e' M' a' w' hl' hK hd' hn' he' hs'=> ?_
   exact ih (k+1) (fun j=>by have:=hk (j+1);simp only [AN] at this;rw [<-this];congr 1;omega) J' e' M' a' w' (hl.trans hl') hK hd' hn' he' hs'
section
variable {P:Program} {ops:Array Oper} {n:Nat} {K:Env->List MObj->Prop} {rest:List Oper} {e:Env} {M:List MObj} {d:Nat} {op:Op} {ty:TypeId} {pos:String} {af:Array Edge} {h:HVal}
theorem zgx {a b:Nat} (h:Nat.blt a b=true):a<b:=Ak h
theorem dp [Tracks] (hd:Nat.blt d n=true) (hp:POp P e ⟨some d,op,ty,pos,af,none⟩ h) (k:Der P ops n K rest (upd e d h) M):Der P ops n K (⟨some d,op,ty,pos,af,none⟩::rest) e M:=
 ⟨fun t ht=>by simp at ht;subst ht;exact zgx hd,true,rfl,fun _=>hp.eop k,fun h=>by cases h⟩
theorem de [Tracks] (hd:Nat.blt d n=true) (hp:EOp P e M ⟨some d,op,ty,pos,af,none⟩ fun h M'=>Der P ops n K rest (upd e d h) M'):Der P ops n K (⟨some d,op,ty,pos,af,none⟩::rest) e M:=
 ⟨fun t ht=>by simp at ht;subst ht;exact zgx hd,true,rfl,fun _=>hp,fun h=>by cases h⟩
theorem de0 [Tracks] (hp:EOp P e M ⟨none,op,ty,pos,af,none⟩ fun _ M'=>Der P ops n K rest e M'):Der P ops n K (⟨none,op,ty,pos,af,none⟩::rest) e M:=
 ⟨fun t ht=>by simp at ht,true,rfl,fun _=>hp,fun h=>by cases h⟩
def OpenTo (e e2:Env):Prop:= ∀t h,e2 t=some h->e t=some h\/∃c,e t=some (.opt c h)/\c=true
theorem OpenTo.refl (e:Env):OpenTo e e:=fun _ _ h=> .inl h
theorem OpenTo.upd [Tracks] {e e2:Env} {t:Nat} {c:Bool} {h:HVal} (ht:e t=some (.opt c h)) (hc:c=true) (ho:OpenTo e e2):OpenTo e (upd e2 t h):=fun x y hx=>by
 by_cases hh:x=t
 subst hh;rw [zg1] at hx;cases hx;exact .inr ⟨c,ht,hc⟩;rw [zfD _ _ hh] at hx;exact ho x y hx
theorem Opds.open {I:Imm} {e e2:Env} {a:Act} {o:Oper} (ho:OpenTo e e2) (h:Opds I e a o):Opds I e2 a o:=fun x hx c hc=>by
 cases x with
 |tmp t=>
   rcases ho t c hc with h1|⟨b,h1,h2⟩
   exact h _ hx _ h1;have:=h _ hx _ h1
   cases this with
   |opt h3 h4=>exact h3 h2
 |const v=>exact h _ hx c hc
 |global g=>exact h _ hx c hc
 |func f=>exact h _ hx c hc
theorem POp.open [Tracks] {e e2:Env} {o:Oper} (ho:OpenTo e e2) (hp:POp P e2 o h):POp P e o h:=fun I F a w hop hs=>hp I F a w (hop.open ho) hs
theorem dg [Tracks] {j:Nat} {want c:Bool} (hd:Nat.blt d n=true) (hg:ze4 ops e j want=some c) (hp:c=true->∃e2,OpenTo e e2/\POp P e2 ⟨some d,op,ty,pos,af,some (j,want)⟩ h)
 (k:Der P ops n K rest (upd e d (.opt c h)) M):Der P ops n K (⟨some d,op,ty,pos,af,some (j,want)⟩::rest) e M:=
 ⟨fun t ht=>by simp at ht;subst ht;exact zgx hd,c,hg,fun hc=>by
  obtain ⟨e2,h1,h2⟩:=hp hc
  intro I F a w ho hs
  exact zbh (fun _ _ ⟨v,J,h3,h4,h5,h6⟩=>⟨v,.opt c h,M,J,h3,h4,k,.opt (fun _=>h5) (fun hf=>by rw [hc] at hf;cases hf),h6⟩) ((h2.open h1) I (M++F) a w ho hs),
  fun hc=>⟨h,by subst hc;exact k⟩⟩
theorem dn [Tracks] (k:K e M):Der P ops n K [] e M:=k
end
/-! code-/
def HWp [Tracks] (P:Program) (n:Nat) (c:Code) (e:Env) (M:List MObj) (Q:Exit->Env->List MObj->Prop):Prop:=
 ∀I F a w,a.defers=[]->a.tmps.size=n->EnvV I e a.tmps->Sat P I (M++F) w->c.wp P (Post P n I F Q) a w
section
variable {P:Program} {n:Nat} {e e':Env} {M M':List MObj} {Q Q':Exit->Env->List MObj->Prop} {c c':Code}
theorem znc [Tracks] (h:HWp P n c e M Q) (hq: ∀x e M,Q x e M->Q' x e M):HWp P n c e M Q':=
 fun I F a w h1 h2 h3 h4=>wp_mono (h I F a w h1 h2 h3 h4) fun _ _ _ ⟨p1,p2,J,e,M,p3,p4,p5⟩=>⟨p1,p2,J,e,M,p3,hq _ _ _ p4,p5⟩
theorem zd [Tracks] (hg:Ghost e M e' M') (h:HWp P n c e' M' Q):HWp P n c e M Q:=fun I F a w h1 h2 h3 h4=>by
 obtain ⟨J,hl,he,hs⟩:=hg I F a.tmps w h3 h4;exact wp_mono (h J F a w h1 h2 he hs) fun _ _ _ hp=>hp.le hl
theorem Ghost.sub [Tracks] (h:Sub e' e):Ghost e M e' M:=fun _ I F tmps w h1 h2=>⟨I,.refl I,h1.sub h,h2⟩
theorem Ghost.perm [Tracks] (h:M.Perm M'):Ghost e M e M':=fun _ I F tmps w h1 h2=>⟨I,.refl I,h1,h2.perm (h.append_right F)⟩
theorem Ghost.drop [Tracks] {m:MObj}:Ghost e (m::M) e M:=fun _ I F tmps w h1 h2=>⟨I,.refl I,h1,h2.drop⟩
theorem Ghost.trans [Tracks] {e'':Env} {M'':List MObj} (h:Ghost e M e' M') (h':Ghost e' M' e'' M''):Ghost e M e'' M'':=fun _ I F tmps w h1 h2=>by
 obtain ⟨J,a1,a2,a3⟩:=h I F tmps w h1 h2;obtain ⟨K,b1,b2,b3⟩:=h' J F tmps w a2 a3;exact ⟨K,a1.trans b1,b2,b3⟩
def zyW [Tracks] (P:Program) (n:Nat) (c:Code) (Q:Exit->Env->List MObj->Prop):Exit->Env->List MObj->Prop
 | .normal,e,M=>HWp P n c e M Q
 |x,e,M=>Q x e M
theorem zsr [Tracks] (h:HWp P n c e M (zyW P n c' Q)):HWp P n (.seq c c') e M Q:=fun I F a w h1 h2 h3 h4=>by
 refine wp_seq (wp_mono (h I F a w h1 h2 h3 h4) ?_)
 rintro x a' w' ⟨p1,p2,J,e',M',p3,p4,p5,p6⟩
 cases x with
 |normal=>exact wp_mono (p4 J F a' w' p1 p2 p5 p6) fun _ _ _ hp=>hp.le p3
 |_=>exact ⟨p1,p2,J,e',M',p3,p4,p5,p6⟩
theorem zuw [Tracks] {id:Nat} {ops:Array Oper} {l:List Oper} (hl:ops=l.toArray) (h:Der P ops n (fun e M=>Q .normal e M) l e M):HWp P n (.region id ops false) e M Q:=
 fun I F a w h1 h2 h3 h4=>by
  refine wp_region ?_;have:=Der.sound (P:=P) (ops:=ops) (n:=n) (K:=fun e M=>Q .normal e M) (I:=I) (F:=F) (Q:=Post P n I F Q)
   (fun J e M a w hl hK hd hn he hs=>⟨hd,hn,J,e,M,hl,hK,he,hs⟩) l 0 (fun j=>by simp [hl]) I e M a w (.refl I) h h1 h2 h3 h4
  rw [Cc]
  simpa [hl] using this
theorem zAV [Tracks] {id:Nat} {l:List Oper} (h:Der P l.toArray n (fun e M=>HWp P n c e M Q) l e M):HWp P n (.seq (.region id l.toArray false) c) e M Q:=
 zsr (zuw rfl h)
theorem zEM [Tracks] {id:Nat} {l:List Oper} (h:Der P l.toArray n (fun e M=>Q .normal e M) l e M):HWp P n (.region id l.toArray false) e M Q:=
 zuw rfl h
theorem zEN [Tracks] (h:Q .normal e M):HWp P n .skip e M Q:=fun I F a w h1 h2 h3 h4=>wp_skip ⟨h1,h2,I,e,M,.refl I,h,h3,h4⟩
theorem zFX [Tracks] (h:Q .ret e M):HWp P n .ret e M Q:=fun I F a w h1 h2 h3 h4=>wp_ret ⟨h1,h2,I,e,M,.refl I,h,h3,h4⟩
theorem zEJ [Tracks] {id:Nat} (h:Q (.exit id) e M):HWp P n (.exit id) e M Q:=fun I F a w h1 h2 h3 h4=>wp_exit ⟨h1,h2,I,e,M,.refl I,h,h3,h4⟩
theorem zam [Tracks] {x:Operand} {b:Bool} (hx:zh e x=some (.bool b)) (ht:b=true->HWp P n c e M Q) (hf:b=false->HWp P n c' e M Q):HWp P n (.cond x c c') e M Q:=
 fun I F a w h1 h2 h3 h4=>by
  have hv:=h3.eval hx;have:a.eval x= .bool b:=by generalize a.eval x=y at*;cases hv;rfl
  exact wp_cond_split this (fun h=>ht h I F a w h1 h2 h3 h4) (fun h=>hf h I F a w h1 h2 h3 h4)
theorem zut [Tracks] {x:Operand} (hx:zh e x=some (.bool true)) (ht:HWp P n c e M Q):HWp P n (.cond x c c') e M Q:=
 zam hx (fun _=>ht) (fun h=>by cases h)
theorem ze5 [Tracks] {x:Operand} (hx:zh e x=some (.bool false)) (ht:HWp P n c' e M Q):HWp P n (.cond x c c') e M Q:=
 zam hx (fun h=>by cases h) (fun _=>ht)
def zk0 (id:Nat) (Q:Exit->Env->List MObj->Prop):Exit->Env->List MObj->Prop
 | .exit id',e,M=>if id'=id then Q .normal e M else Q (.exit id') e M
 |x,e,M=>Q x e M
theorem zCl [Tracks] {id:Nat} (h:HWp P n c e M (zk0 id Q)):HWp P n (.block id c) e M Q:=fun I F a w h1 h2 h3 h4=>by
 refine wp_block (wp_mono (h I F a w h1 h2 h3 h4) ?_)
 rintro x a' w' ⟨p1,p2,J,e',M',p3,p4,p5,p6⟩
 cases x with
 |exit id'=>
   simp only [Exit.inBlock,zk0] at*
   split
   rename_i hh;rw [if_pos hh] at p4;exact ⟨p1,p2,J,e',M',p3,p4,p5,p6⟩
   rename_i hh;rw [if_neg hh] at p4;exact ⟨p1,p2,J,e',M',p3,p4,p5,p6⟩
 |_=>exact ⟨p1,p2,J,e',M',p3,p4,p5,p6⟩
def zGz [Tracks] {ι:Type} (E:ι->Env) (MM:ι->List MObj) (Iv:ι->Prop) (μ:ι->Nat) (i:ι) (Q:Exit->Env->List MObj->Prop):Exit->Env->List MObj->Prop
 | .normal,e,M=> ∃j,Iv j/\μ j<μ i/\Ghost e M (E j) (MM j)
 |x,e,M=>Q x e M
theorem zEL [Tracks] {ι:Type} (E:ι->Env) (MM:ι->List MObj) (Iv:ι->Prop) (μ:ι->Nat) (i:ι) (h0:Iv i) (hg:Ghost e M (E i) (MM i))
 (hb: ∀i,Iv i->HWp P n c (E i) (MM i) (zGz E MM Iv μ i Q)):HWp P n (.loop c) e M Q:=fun I F a w h1 h2 h3 h4=>by
 obtain ⟨J0,hl0,he0,hs0⟩:=hg I F a.tmps w h3 h4;refine wp_loop_ghost (fun k a w=> ∃i J,μ i=k/\Iv i/\Le I J/\a.defers=[]/\a.tmps.size=n/\EnvV J (E i) a.tmps/\Sat P J (MM i++F) w) (μ i)
  ⟨i,J0,rfl,h0,hl0,h1,h2,he0,hs0⟩ ?_
 rintro k a w ⟨i,J,rfl,hi,hl,h1,h2,h3,h4⟩;refine wp_mono (hb i hi J F a w h1 h2 h3 h4) ?_;rintro x a' w' ⟨p1,p2,J',e',M',p3,p4,p5,p6⟩
 cases x with
 |normal=>
   obtain ⟨j,hj,hlt,hg'⟩:=p4;obtain ⟨J2,hl2,he2,hs2⟩:=hg' J' F a'.tmps w' p5 p6;exact ⟨μ j,hlt,j,J2,rfl,hj,(hl.trans p3).trans hl2,p1,p2,he2,hs2⟩
 |_=>exact ⟨p1,p2,J',e',M',hl.trans p3,p4,p5,p6⟩
end
/-! loops,and the places where ways meet again,by the slots that are written-/
def zpI:List (Nat×HVal)->Nat->Option HVal
 |[],_=>none
 |(k,h)::r,t=>match Nat.beq k t with|true=>some h|false=>zpI r t
def inL:List Nat->Nat->Bool
 |[],_=>false
 |k::r,t=>match Nat.beq k t with|true=>true|false=>inL r t
def loopE (e:Env) (ks:List Nat) (W:List (Nat×HVal)):Env:=fun t=>
 match zpI W t with
 |some h=>some h
 |none=>match inL ks t with
   |true=>none
   |false=>e t
def zcW (e:Env):List (Nat×HVal)->Prop
 |[]=>True
 |(t,h)::r=>e t=some h/\zcW e r
def zg3 (ks:List Nat) (e e':Env):Prop:= ∀t,inL ks t=false->e' t=e t
theorem zsw {ks:List Nat} {e:Env}:zg3 ks e e:=fun _ _=>rfl
theorem zA1 [Tracks] {ks:List Nat} {e e':Env} {d:Nat} {h:HVal} (hd:inL ks d=true) (hk:zg3 ks e e'):zg3 ks e (upd e' d h):=fun t ht=>by
 have:t≠d:=fun h=>by subst h;rw [hd] at ht;cases ht
 rw [zfD _ _ this];exact hk t ht
def zAf:List (Nat×HVal)->List Nat->Bool
 |[],_=>true
 |(k,_)::r,ks=>match inL ks k with|true=>zAf r ks|false=>false
def zAe:List Nat->List Nat->Bool
 |[],_=>true
 |k::r,ks=>match inL ks k with|true=>zAe r ks|false=>false
theorem zyi {ks:List Nat}: ∀{W:List (Nat×HVal)} {t:Nat},zAf W ks=true->inL ks t=false->zpI W t=none
 |[],_,_,_=>rfl
 |(k,h)::r,t,hs,ht=>by
   simp only [zAf] at hs
   cases hk:inL ks k with
   |false=>rw [hk] at hs;simp at hs
   |true=>
     rw [hk] at hs;simp only [zpI]
     cases hb:Nat.beq k t with
     |true=>have:=BF hb;subst this;rw [hk] at ht;cases ht
     |false=>exact zyi hs ht
theorem zyo {ks:List Nat}: ∀{l:List Nat} {t:Nat},zAe l ks=true->inL ks t=false->inL l t=false
 |[],_,_,_=>rfl
 |k::r,t,hs,ht=>by
   simp only [zAe] at hs
   cases hk:inL ks k with
   |false=>rw [hk] at hs;simp at hs
   |true=>
     rw [hk] at hs;simp only [inL]
     cases hb:Nat.beq k t with
     |true=>have:=BF hb;subst this;rw [hk] at ht;cases ht
     |false=>exact zyo hs ht
theorem zzE [Tracks] {ks l:List Nat} {e e1:Env} {W:List (Nat×HVal)} (h1:zAf W ks=true) (h2:zAe l ks=true) (hk:zg3 ks e e1):zg3 ks e (loopE e1 l W):=fun t ht=>by
 unfold loopE;rw [zyi h1 ht,zyo h2 ht];exact hk t ht
theorem Sub.loopE {ks:List Nat} {e e':Env} {W:List (Nat×HVal)} (hW:zcW e' W) (hk:zg3 ks e e'):Sub (loopE e ks W) e':=fun t h ht=>by
 unfold HL.loopE at ht
 cases hg:zpI W t with
 |some x=>
   rw [hg] at ht;simp only [AA] at ht;subst ht;have key: ∀(W:List (Nat×HVal)),zcW e' W->zpI W t=some x->e' t=some x:=fun W=>by
    induction W with
    |nil=>intro _ h;simp [zpI] at h
    |cons p r ih=>
      obtain ⟨k,y⟩:=p
      intro hh h
      simp only [zpI] at h
      cases hb:Nat.beq k t with
      |true=>rw [hb] at h;simp only [AA] at h;subst h;have:=BF hb;subst this;exact hh.1
      |false=>rw [hb] at h;exact ih hh.2 h
   exact key W hW hg
 |none=>
   rw [hg] at ht;simp only at ht
   cases hi:inL ks t with
   |true=>rw [hi] at ht;simp at ht
   |false=>rw [hi] at ht;simp only at ht;rw [hk t hi];exact ht
section
variable {P:Program} {n:Nat} {e e':Env} {M M':List MObj} {Q Q':Exit->Env->List MObj->Prop} {c c':Code}
def zrW {ι:Type} (e:Env) (ks:List Nat) (W:ι->List (Nat×HVal)) (MM:ι->List MObj) (Iv:ι->Prop) (μ:ι->Nat) (i:ι) (Q:Exit->Env->List MObj->Prop):Exit->Env->List MObj->Prop
 | .normal,e',M=> ∃j,Iv j/\μ j<μ i/\zcW e' (W j)/\zg3 ks e e'/\M.Perm (MM j)
 |x,e',M=>Q x e' M
theorem zjg [Tracks] {ι:Type} (ks:List Nat) (W:ι->List (Nat×HVal)) (MM:ι->List MObj) (Iv:ι->Prop) (μ:ι->Nat) (i:ι) (h0:Iv i) (hW:zcW e (W i)) (hM:M.Perm (MM i))
 (hb: ∀i,Iv i->HWp P n c (loopE e ks (W i)) (MM i) (zrW e ks W MM Iv μ i Q)):HWp P n (.loop c) e M Q:=by
 refine zEL (fun i=>loopE e ks (W i)) MM Iv μ i h0 ((Ghost.sub (Sub.loopE hW zsw)).trans (Ghost.perm hM)) fun i hi=>znc (hb i hi) ?_
 intro x e1 M1 hq
 cases x with
 |normal=>
   obtain ⟨j,h1,h2,h3,h4,h5⟩:=hq;exact ⟨j,h1,h2,(Ghost.sub (Sub.loopE h3 h4)).trans (Ghost.perm h5)⟩
 |_=>exact hq
def zDm {ι:Type} (e:Env) (ks:List Nat) (W:ι->List (Nat×HVal)) (MM:ι->List MObj) (Iv:ι->Prop) (Q:Exit->Env->List MObj->Prop):Exit->Env->List MObj->Prop
 | .normal,e',M=> ∃j,Iv j/\zcW e' (W j)/\zg3 ks e e'/\M.Perm (MM j)
 |x,e',M=>Q x e' M
theorem zEK [Tracks] {ι:Type} (ks:List Nat) (W:ι->List (Nat×HVal)) (MM:ι->List MObj) (Iv:ι->Prop) (h1:HWp P n c e M (zDm e ks W MM Iv Q))
 (h2: ∀i,Iv i->HWp P n c' (loopE e ks (W i)) (MM i) Q):HWp P n (.seq c c') e M Q:=by
 refine zsr (znc h1 ?_)
 intro x e1 M1 hq
 cases x with
 |normal=>
   obtain ⟨j,a1,a2,a3,a4⟩:=hq;exact zd ((Ghost.sub (Sub.loopE a2 a3)).trans (Ghost.perm a4)) (h2 j a1)
 |_=>exact hq
theorem zGp [Tracks] (h:HWp P n c e M Q):zyW P n c Q .normal e M:=h
theorem zGq [Tracks] {id:Nat} (h:Q (.exit id) e M):zyW P n c Q (.exit id) e M:=h
theorem zv {ι:Type} {e0:Env} {ks:List Nat} {W:ι->List (Nat×HVal)} {MM:ι->List MObj} {Iv:ι->Prop} {μ:ι->Nat} {i:ι} {id:Nat} (h:Q (.exit id) e M):zrW e0 ks W MM Iv μ i Q (.exit id) e M:=h
theorem zBR {id:Nat} (h:Q .normal e M):zk0 id Q .normal e M:=h
theorem zAw {id:Nat} (h:Q .normal e M):zk0 id Q (.exit id) e M:=by simp only [zk0,if_true];exact h
theorem zAx {id id':Nat} (hn:Nat.beq id' id=false) (h:Q (.exit id') e M):zk0 id Q (.exit id') e M:=by
 have:id'≠id:=fun h=>by subst h;simp at hn
 simp only [zk0,if_neg this];exact h
end
/-! functions-/
def Weak (h h':HVal):Prop:= ∀I v,V I h v->V I h' v
theorem Weak.refl (h:HVal):Weak h h:=fun _ _ h=>h
def Con [Tracks] (P:Program) (f:FuncId) (hargs:List HVal) (M:List MObj) (Q:HVal->List MObj->Prop):Prop:=
 ∀I F w args,VL I hargs args->Sat P I (M++F) w->Calls P f args.toArray w fun x w'=>
  ∃v h M' J,x= .returned v/\Le I J/\Q h M'/\V J h v/\Sat P J (M'++F) w'
theorem Con.mono [Tracks] {P:Program} {f:FuncId} {hargs:List HVal} {M:List MObj} {Q Q':HVal->List MObj->Prop} (h:Con P f hargs M Q) (hq: ∀h M,Q h M->Q' h M):Con P f hargs M Q':=
 fun I F w args h1 h2=>(h I F w args h1 h2).mono fun _ _ ⟨v,x,M',J,p1,p2,p3,p4⟩=>⟨v,x,M',J,p1,p2,hq _ _ p3,p4⟩
def ConP [Tracks] (P:Program) (f:FuncId) (hargs:List HVal) (h:HVal):Prop:=Con P f hargs [] fun x M'=>x=h/\M'=[]
def zp8 (e:Env):List ResultVar->Option (List HVal)
 |[]=>some []
 | .tmp t::r=>match e t,zp8 e r with
   |some h,some l=>some (h::l)
   |_,_=>none
 | .cell _ _::_=>none
def zlv (e:Env) (rs:List ResultVar):Option HVal:=
 match zp8 e rs with
 |some [h]=>some h
 |some l=>some (.tup l)
 |none=>none
def zmj [Tracks] (rs:List ResultVar) (Q:HVal->List MObj->Prop):Exit->Env->List MObj->Prop
 | .normal,e,M| .ret,e,M=> ∃e' M',Ghost e M e' M'/\∃h h',zlv e' rs=some h/\Weak h h'/\Q h' M'
 |_,_,_=>False
def zlR (hs:List HVal):Env:=fun t=>hs[t]?
def ziQ (tmps:Array Value):ResultVar->Sem Value
 | .tmp t=>pure (tmps.getD t undef)
 | .cell a t=>do loadVar t (<-asAddr (tmps.getD a undef))
theorem zor (fn:Func) (tmps:Array Value):results fn tmps=(do let vs <-fn.results.mapM (ziQ tmps);pure (if h:vs.size=1 then vs[0] else .tuple vs)):=by
 unfold results
 congr 1
theorem zC1 [Tracks] {I:Imm} {e:Env} {tmps:Array Value} (he:EnvV I e tmps) (P:Program) (w:World): ∀(rs:List ResultVar) (l:List HVal),zp8 e rs=some l->
 ∃vs:List Value,(rs.mapM (ziQ tmps)).run P w= .ok vs w/\VL I l vs:=by
 intro rs
 induction rs with
 |nil=>intro l h;simp [zp8] at h;subst h;exact ⟨[],by simp,VL.nil⟩
 |cons r rs ih=>
   intro l h
   cases r with
   |tmp t=>
     simp only [zp8] at h
     cases h1:e t with
     |none=>rw [h1] at h;simp at h
     |some x=>
       cases h2:zp8 e rs with
       |none=>rw [h1,h2] at h;simp at h
       |some l'=>
         rw [h1,h2] at h;simp at h;subst h;obtain ⟨vs,h3,h4⟩:=ih l' h2;obtain ⟨v,h5,h6⟩:=he t x h1;refine ⟨v::vs,?_,VL.cons h6 h4⟩
         simp only [List.mapM_cons,ziQ,Sem.run_bind,Sem.run_pure,Result.andThen_ok,h3]
         simp [h5]
   |cell a t=>simp [zp8] at h
theorem Con.of_body [Tracks] {P:Program} {f:FuncId} {fn:Func} {c:Code} {hargs:List HVal} {M:List MObj} {Q:HVal->List MObj->Prop}
 {n:Nat} (hf:P.funcs[f]? =some fn) (hb:fn.body=some c) (hnt:fn.ntmps=n) (hn':Nat.ble hargs.length n=true) {rs:List ResultVar} (hrs:fn.results.toList=rs) (h:HWp P n c (zlR hargs) M (zmj rs Q)):Con P f hargs M Q:=by
 have hn:=Ak hn';subst hnt hrs
 intro I F w args h1 h2
 refine calls_of_wp hf hb ?_;have hlen:=h1.1;refine wp_mono (h I F _ w rfl (by simp;omega) ?_ h2) ?_
 intro t x hx
 obtain ⟨v,h3,h4⟩:=h1.get hx;have hlt:t<args.length:=by
  rcases AC t args.length with h'|h'
  exact h'
  simp [AH h'] at h3
 refine ⟨v,?_,h4⟩
 rw [AF (by simpa using hlt)]
 simpa using h3
 have key: ∀(a':Act) (w':World),a'.defers=[]->(∃J e M',Le I J/\(∃e' M'',Ghost e M' e' M''/\∃h h',zlv e' fn.results.toList=some h/\Weak h h'/\Q h' M'')/\EnvV J e a'.tmps/\Sat P J (M'++F) w')->
  a'.defers=[]/\∃v,(results fn a'.tmps).run P w'= .ok v w'/\(∃v_1 h M' J,Ending.returned v=Ending.returned v_1/\Le I J/\Q h M'/\V J h v_1/\Sat P J (M'++F) w'):=by
  rintro a' w' hd ⟨J,e,M',hl,⟨e',M'',hg,h,h',hr,hw,hq⟩,he,hs⟩;obtain ⟨J2,hl2,he2,hs2⟩:=hg J F a'.tmps w' he hs;refine ⟨hd,?_⟩
  unfold zlv at hr
  cases hrl:zp8 e' fn.results.toList with
  |none=>rw [hrl] at hr;simp at hr
  |some l=>
    obtain ⟨vs,h3,h4⟩:=zC1 he2 P w' _ _ hrl;have hrun:(results fn a'.tmps).run P w'= .ok (if h:vs.length=1 then vs[0] else .tuple vs.toArray) w':=by
     rw [zor];have hm:(fn.results.mapM (ziQ a'.tmps)).run P w'= .ok vs.toArray w':=by
      rw [BU];simp only [Sem.run_map,h3,Result.andThen_ok]
     simp only [Sem.run_bind,Sem.run_pure];rw [hm]
     simp
    refine ⟨_,hrun,_,h',M'',J2,rfl,hl.trans hl2,hq,?_,hs2⟩
    rw [hrl] at hr
    apply hw
    match l,hr,h4 with
    |[],hr,h4=>
      simp at hr;subst hr
      have:vs=[]:=by have:=h4.1;simpa using this
      subst this;exact .tup (by simp) (fun j c v h _=>by simp at h)
    |[x],hr,h4=>
      simp at hr;subst hr
      have hl1:vs.length=1:=by have:=h4.1;simpa using this
      match vs,hl1,h4 with
      |[v],_,h4=>exact h4.head
    |x::y::r,hr,h4=>
      simp at hr;subst hr
      have hl1:vs.length=r.length+2:=by have:=h4.1;simpa using this
      rw [dif_neg (by omega)];exact .tup (by simp [hl1]) (fun j c v h1 h2=>h4.2 j c v h1 (by simpa using h2))
 rintro x a' w' ⟨p1,p2,J,e,M',p3,p4,p5,p6⟩
 cases x with
 |normal=>exact key a' w' p1 ⟨J,e,M',p3,p4,p5,p6⟩
 |ret=>exact key a' w' p1 ⟨J,e,M',p3,p4,p5,p6⟩
 |exit id=>exact p4.elim
 |goto l=>exact p4.elim
 |panic ch=>exact p4.elim
 |outgrown=>exact p4.elim
theorem zu [Tracks] {rs:List ResultVar} {e:Env} {h h':HVal} (hr:zlv e rs=some h) (hh:h=h'):zmj rs (fun x M'=>x=h'/\M'=[]) .ret e []:=
 ⟨e,[],Ghost.sub (Sub.refl _),h,h,hr,Weak.refl _,hh,rfl⟩
theorem zz9 [Tracks] {rs:List ResultVar} {e:Env} {h h':HVal} (hr:zlv e rs=some h) (hh:h=h'):zmj rs (fun x M'=>x=h'/\M'=[]) .normal e []:=
 ⟨e,[],Ghost.sub (Sub.refl _),h,h,hr,Weak.refl _,hh,rfl⟩
theorem zbV [Tracks] {rs:List ResultVar} {e:Env} {h h':HVal} (hr:zlv e rs=some h) (hh:Weak h h'):zmj rs (fun x M'=>x=h'/\M'=[]) .ret e []:=
 ⟨e,[],Ghost.sub (Sub.refl _),h,h',hr,hh,rfl,rfl⟩
theorem zaf [Tracks] {rs:List ResultVar} {e:Env} {M:List MObj} {h:HVal} {Q:HVal->List MObj->Prop} (hr:zlv e rs=some h) (hh:Q h M):zmj rs Q .ret e M:=
 ⟨e,M,Ghost.sub (Sub.refl _),h,h,hr,Weak.refl _,hh⟩
theorem zA [Tracks] {rs:List ResultVar} {e e':Env} {M M':List MObj} {h:HVal} {Q:HVal->List MObj->Prop} (hg:Ghost e M e' M') (hr:zlv e' rs=some h) (hh:Q h M'):zmj rs Q .ret e M:=
 ⟨e',M',hg,h,h,hr,Weak.refl _,hh⟩
theorem zD (sz:Nat):Weak (.raw (.slice none 0 0)) (.slice sz []):=fun I v h=>by cases h;exact .slice0 _ _ _
theorem zrR: ∀{l l':List HVal},l.length=l'.length->(∀(j:Nat) (h h':HVal),l[j]? =some h->l'[j]? =some h'->Weak h h')->Weak (.tup l) (.tup l'):=by
 intro l l' hl hw I v hv
 cases hv with
 |tup h1 h2=>
   refine .tup (by rw [h1,hl]) fun j c x h3 h4=> ?_
   have hj:j<l.length:=by
    rcases AC j l.length with h|h
    exact h;rw [AH (by omega)] at h3;cases h3
   exact hw j l[j] c (Aa hj) h3 I x (h2 j l[j] x (Aa hj) h4)
theorem zbM [Tracks] {a b a' b':HVal} (h1:Weak a a') (h2:Weak b b'):Weak (.tup [a,b]) (.tup [a',b']):=
 zrR rfl fun j h h' x y=>by
  match j,x,y with
  |0,x,y=>simp at x y;subst x y;exact h1
  |1,x,y=>simp at x y;subst x y;exact h2
theorem zBN [Tracks] {a b c a' b' c':HVal} (h1:Weak a a') (h2:Weak b b') (h3:Weak c c'):Weak (.tup [a,b,c]) (.tup [a',b',c']):=
 zrR rfl fun j h h' x y=>by
  match j,x,y with
  |0,x,y=>simp at x y;subst x y;exact h1
  |1,x,y=>simp at x y;subst x y;exact h2
  |2,x,y=>simp at x y;subst x y;exact h3
theorem zrQ {l l':List HVal} (hl:l.length=l'.length) (hw: ∀(j:Nat) (h h':HVal),l[j]? =some h->l'[j]? =some h'->Weak h h'):Weak (.agg l) (.agg l'):=by
 intro I v hv
 cases hv with
 |agg h1 h2=>
   refine .agg (by rw [h1,hl]) fun j c x h3 h4=> ?_
   have hj:j<l.length:=by
    rcases AC j l.length with h|h
    exact h;rw [AH (by omega)] at h3;cases h3
   exact hw j l[j] c (Aa hj) h3 I x (h2 j l[j] x (Aa hj) h4)
end
section
inductive TD where
 |bool|int (k:IntKind)|str|ptr (e:Nat)|slice (e:Nat)|arr (n e:Nat)|map (k e:Nat)|struct (fs:List (Nat×Nat))|func|iface|tuple|other
def zhz:TypeDesc->TD
 | .bool=> .bool
 | .int k=> .int k
 | .string=> .str
 | .pointer e=> .ptr e
 | .slice e=> .slice e
 | .array n e=> .arr n e
 | .map k e=> .map k e
 | .struct fs=> .struct (fs.toList.map fun f=>(f.offset,f.type))
 | .func .. => .func
 | .interface .. => .iface
 | .tuple .. => .tuple
 |_=> .other
structure Fits (P:Program) (t:TypeId) (d:TD) (size bytes:Nat) (zero:Value):Prop where
 und:(P.underlying t).map zhz=some d
 info:(P.info? t).map (fun x=>(x.size,x.bytes,x.zero))=some (size,bytes,some zero)
def TD.isAgg:TD->Bool
 | .struct _| .arr _ _=>true
 |_=>false
section
variable {P:Program} {t:TypeId} {d:TD} {size bytes:Nat} {zero:Value}
theorem Fits.underlying (h:Fits P t d size bytes zero): ∃x,P.underlying t=some x/\zhz x=d:=by
 have:=h.und
 cases hu:P.underlying t with
 |none=>rw [hu] at this;simp at this
 |some x=>rw [hu] at this;simp at this;exact ⟨x,rfl,this⟩
theorem Fits.typeInfo (h:Fits P t d size bytes zero): ∃i,P.info? t=some i/\i.size=size/\i.bytes=bytes/\i.zero=some zero:=by
 have:=h.info
 cases hu:P.info? t with
 |none=>rw [hu] at this;simp at this
 |some x=>rw [hu] at this;simp at this;exact ⟨x,rfl,this.1,this.2.1,this.2.2⟩
theorem Fits.run_sizeOf [Tracks] (h:Fits P t d size bytes zero) (w:World):(sizeOf t).run P w= .ok size w:=by
 obtain ⟨i,h1,h2,h3,h4⟩:=h.typeInfo
 simp [sizeOf,Go.typeInfo,h1,h2]
theorem Fits.run_zero [Tracks] (h:Fits P t d size bytes zero) (w:World):(zeroValue t).run P w= .ok zero w:=by
 obtain ⟨i,h1,h2,h3,h4⟩:=h.typeInfo
 simp [zeroValue,Go.typeInfo,h1,h4]
theorem Fits.run_isAgg [Tracks] (h:Fits P t d size bytes zero) (w:World):(isAgg t).run P w= .ok d.isAgg w:=by
 obtain ⟨x,h1,h2⟩:=h.underlying;unfold isAgg;simp only [Sem.run_bind,run_underlying h1,Result.andThen_ok];subst h2
 cases x<;>rfl
theorem Fits.slice [Tracks] {e:Nat} (h:Fits P t (.slice e) size bytes zero):P.underlying t=some (.slice e):=by
 obtain ⟨x,h1,h2⟩:=h.underlying
 cases x<;>simp [zhz] at h2
 subst h2;exact h1
theorem Fits.strD [Tracks] (h:Fits P t .str size bytes zero):P.underlying t=some .string:=by
 obtain ⟨x,h1,h2⟩:=h.underlying
 cases x<;>simp [zhz] at h2
 exact h1
theorem Fits.boolD [Tracks] (h:Fits P t .bool size bytes zero):P.underlying t=some .bool:=by
 obtain ⟨x,h1,h2⟩:=h.underlying
 cases x<;>simp [zhz] at h2
 exact h1
theorem Fits.intD [Tracks] {k:IntKind} (h:Fits P t (.int k) size bytes zero):P.underlying t=some (.int k):=by
 obtain ⟨x,h1,h2⟩:=h.underlying
 cases x<;>simp [zhz] at h2
 subst h2;exact h1
theorem Fits.ptrD [Tracks] {e:Nat} (h:Fits P t (.ptr e) size bytes zero):P.underlying t=some (.pointer e):=by
 obtain ⟨x,h1,h2⟩:=h.underlying
 cases x<;>simp [zhz] at h2
 subst h2;exact h1
theorem Fits.structD [Tracks] {fs:List (Nat×Nat)} (h:Fits P t (.struct fs) size bytes zero): ∃gs:Array Field,P.underlying t=some (.struct gs)/\gs.toList.map (fun f=>(f.offset,f.type))=fs:=by
 obtain ⟨x,h1,h2⟩:=h.underlying
 cases x<;>simp [zhz] at h2
 exact ⟨_,h1,h2⟩
end
/-! inversions-/
section
variable {I:Imm}
theorem V.int_inv {k:IntKind} {n:Int} {v:Value} (h:V I (.int k n) v):v= .int k n:=by cases h;rfl
theorem V.bool_inv {b:Bool} {v:Value} (h:V I (.bool b) v):v= .bool b:=by cases h;rfl
theorem V.str_inv {s:List UInt8} {v:Value} (h:V I (.str s) v):v= .string ⟨s.toArray⟩:=by cases h;rfl
theorem V.raw_inv {x v:Value} (h:V I (.raw x) v):v=x:=by cases h;rfl
theorem V.agg_inv {cs:List HVal} {v:Value} (h:V I (.agg cs) v): ∃vs:Array Value,v= .agg vs/\VL I cs vs.toList:=by
 cases h with
 |agg hl hV=>exact ⟨_,rfl,by simpa using hl,fun j c v h1 h2=>hV j c v h1 (by simpa using h2)⟩
theorem V.tup_inv {cs:List HVal} {v:Value} (h:V I (.tup cs) v): ∃vs:Array Value,v= .tuple vs/\VL I cs vs.toList:=by
 cases h with
 |tup hl hV=>exact ⟨_,rfl,by simpa using hl,fun j c v h1 h2=>hV j c v h1 (by simpa using h2)⟩
theorem V.fn_inv {f:Fn} {c1 c2:List HVal} {v:Value} (h:V I (.fn f c1 c2) v): ∃v1 v2:Array Value,v= .func f v1 v2/\VL I c1 v1.toList/\VL I c2 v2.toList:=by
 cases h with
 |fn hl1 hl2 h1 h2=>exact ⟨_,_,rfl,⟨by simpa using hl1,fun j c v a b=>h1 j c v a (by simpa using b)⟩,⟨by simpa using hl2,fun j c v a b=>h2 j c v a (by simpa using b)⟩⟩
theorem znr {cs:List HVal} {vs:Array Value} (h:VL I cs vs.toList):V I (.agg cs) (.agg vs):=
 .agg (by simpa using h.1) fun j c v h1 h2=>h.2 j c v h1 (by simpa using h2)
theorem V.vptr_inv {cs:List HVal} {off:Nat} {v:Value} (h:V I (.vptr cs off) v): ∃b base rc el fr,v= .pointer (some ⟨b,base+off,none⟩)/\I.heap b=some (.cells rc el fr)/\base+cs.length<=rc.size/\
 ∀(j:Nat) (c:HVal) (v:Value),cs[j]? =some c->rc[base+j]? =some v->V I c v:=by
 cases h with
 |vptr hI hb hV=>exact ⟨_,_,_,_,_,rfl,hI,hb,hV⟩
theorem V.slice_inv {sz:Nat} {es:List HVal} {v:Value} (h:V I (.slice sz es) v):(es=[]/\∃a cap,v= .slice a 0 cap)\/
 ∃b off cap rc el fr,v= .slice (some ⟨b,off,none⟩) es.length cap/\I.heap b=some (.cells rc el fr)/\(∀e∈es,(zb e).length=sz)/\es.length<=cap/\off+es.length*sz<=rc.size/\
  ∀(i j:Nat) (e c:HVal) (v:Value),es[i]? =some e->(zb e)[j]? =some c->rc[off+i*sz+j]? =some v->V I c v:=by
 cases h with
 |slice0 sz a cap=>exact .inl ⟨rfl,a,cap,rfl⟩
 |slice hI hsz hcap hb hV=>exact .inr ⟨_,_,_,_,_,_,rfl,hI,hsz,hcap,hb,hV⟩
theorem V.slice_len [Tracks] {sz:Nat} {es:List HVal} {v:Value} (h:V I (.slice sz es) v): ∃a cap,v= .slice a es.length cap:=by
 rcases h.slice_inv with ⟨rfl,a,cap,rfl⟩|⟨b,off,cap,rc,el,fr,rfl,_⟩
 exact ⟨a,cap,rfl⟩;exact ⟨_,cap,rfl⟩
end
section
variable {P:Program} {e:Env} {dst:Option Tmp} {ty:TypeId} {pos:String} {af:Array Edge} {g:Option (Nat×Bool)}
theorem Opds.one {I:Imm} {e:Env} {a:Act} {o:Oper} (h:Opds I e a o) {x:Operand} (hx:x∈o.op.operands) {c:HVal} (hc:zh e x=some c):V I c (a.eval x):=h x hx c hc
/-! copies-/
theorem zw5 [Tracks] {x:Operand} {h:HVal} (hx:zh e x=some h):POp P e ⟨dst,.move x,ty,pos,af,g⟩ h:=
 zF fun I a w ho=>⟨a.eval x,rfl,ho.one (by simp [Op.operands]) hx⟩
theorem zkH [Tracks] {x:Operand} {h:HVal} (hx:zh e x=some h):POp P e ⟨dst,.assign x,ty,pos,af,g⟩ h:=
 zF fun I a w ho=>⟨a.eval x,rfl,ho.one (by simp [Op.operands]) hx⟩
theorem zw7 [Tracks] {o:Oper} {h h':HVal} (hw:Weak h h') (hp:POp P e o h):POp P e o h':=
 fun I F a w ho hs=>zbh (fun _ _ ⟨v,J,h1,h2,h3,h4⟩=>⟨v,J,h1,h2,hw _ _ h3,h4⟩) (hp I F a w ho hs)
theorem zP [Tracks] {o:Oper} {h h':HVal} (hp:POp P e o h) (hh:h=h'):POp P e o h':=hh▸hp
def zwc (e:Env) (x:Operand) (c:Bool) (b:Bool):Prop:=zh e x=some (.bool b)\/∃c',zh e x=some (.opt c' (.bool b))/\(c=true->c'=true)
theorem zuS [Tracks] {x y z:Operand} {b p q:Bool} (hx:zh e x=some (.bool b)) (hy:zwc e y b p) (hz:zwc e z (!b) q):
 POp P e ⟨dst,.pick x y z,ty,pos,af,g⟩ (.bool (bif b then p else q)):=
 zF fun I a w ho=>by
  have h1:=(ho.one (x:=x) (by simp [Op.operands]) hx).bool_inv;have key: ∀(u:Operand),u∈(⟨dst,.pick x y z,ty,pos,af,g⟩:Oper).op.operands->∀c r,zwc e u c r->c=true->V I (.bool r) (a.eval u):=fun u hu c r hb hc=>by
   rcases hb with hb|⟨c',hb,hcc⟩
   exact ho.one hu hb;have:=ho.one hu hb
   cases this with
   |opt h3 _=>exact h3 (hcc hc)
  cases b with
  |true=>exact ⟨a.eval y,by simp [execOp,h1,asBool],key y (by simp [Op.operands]) _ _ hy rfl⟩
  |false=>exact ⟨a.eval z,by simp [execOp,h1,asBool],key z (by simp [Op.operands]) _ _ hz rfl⟩
/-! integers-/
section
variable {x y:Operand} {k:IntKind} {m n:Int} {t t':TypeId}
theorem ztV [Tracks] (hx:zh e x=some (.int k m)) (hy:zh e y=some (.int k n)):POp P e ⟨dst,.binOp .add t x y t',ty,pos,af,g⟩ (.int k (k.wrap (m+n))):=
 zF fun I a w ho=>⟨.int k (k.wrap (m+n)),by
  have h1:=(ho.one (x:=x) (by simp [Op.operands]) hx).int_inv;have h2:=(ho.one (x:=y) (by simp [Op.operands]) hy).int_inv
  simp [execOp,h1,h2,eqGuard,binOp,Op.intArith],.int _ _⟩
theorem zFj [Tracks] (hx:zh e x=some (.int k m)) (hy:zh e y=some (.int k n)):POp P e ⟨dst,.binOp .sub t x y t',ty,pos,af,g⟩ (.int k (k.wrap (m-n))):=
 zF fun I a w ho=>⟨.int k (k.wrap (m-n)),by
  have h1:=(ho.one (x:=x) (by simp [Op.operands]) hx).int_inv;have h2:=(ho.one (x:=y) (by simp [Op.operands]) hy).int_inv
  simp [execOp,h1,h2,eqGuard,binOp,Op.intArith],.int _ _⟩
theorem ztW [Tracks] (hx:zh e x=some (.int k m)) (hy:zh e y=some (.int k n)):POp P e ⟨dst,.binOp .mul t x y t',ty,pos,af,g⟩ (.int k (k.wrap (m*n))):=
 zF fun I a w ho=>⟨.int k (k.wrap (m*n)),by
  have h1:=(ho.one (x:=x) (by simp [Op.operands]) hx).int_inv;have h2:=(ho.one (x:=y) (by simp [Op.operands]) hy).int_inv
  simp [execOp,h1,h2,eqGuard,binOp,Op.intArith],.int _ _⟩
theorem zyE [Tracks] (hx:zh e x=some (.int k m)) (hy:zh e y=some (.int k n)) (hn:n≠0):POp P e ⟨dst,.binOp .quo t x y t',ty,pos,af,g⟩ (.int k (k.wrap (m.tdiv n))):=
 zF fun I a w ho=>⟨.int k (k.wrap (m.tdiv n)),by
  have h1:=(ho.one (x:=x) (by simp [Op.operands]) hx).int_inv;have h2:=(ho.one (x:=y) (by simp [Op.operands]) hy).int_inv
  simp [execOp,h1,h2,eqGuard,binOp,Op.intDiv,hn],.int _ _⟩
theorem zdp [Tracks] (hx:zh e x=some (.int k m)) (hy:zh e y=some (.int k n)) (hn:n≠0):POp P e ⟨dst,.binOp .rem t x y t',ty,pos,af,g⟩ (.int k (m.tmod n)):=
 zF fun I a w ho=>⟨.int k (m.tmod n),by
  have h1:=(ho.one (x:=x) (by simp [Op.operands]) hx).int_inv;have h2:=(ho.one (x:=y) (by simp [Op.operands]) hy).int_inv
  simp [execOp,h1,h2,eqGuard,binOp,Op.intDiv,hn],.int _ _⟩
theorem zno {n:Int} (h1: -9223372036854775808<=n) (h2:n<=9223372036854775807):IntKind.wrap .i64 n=n:=by
 simp [IntKind.wrap,IntKind.bits,IntKind.signed];omega
theorem zbt [Tracks] (hx:zh e x=some (.int .i64 m)) (hy:zh e y=some (.int .i64 n)) (h1: -9223372036854775808<=m+n) (h2:m+n<=9223372036854775807):
 POp P e ⟨dst,.binOp .add t x y t',ty,pos,af,g⟩ (.int .i64 (m+n)):=by
 have:=ztV (P:=P) (dst:=dst) (ty:=ty) (pos:=pos) (af:=af) (g:=g) (t:=t) (t':=t') hx hy
 rwa [zno h1 h2] at this
theorem ziv [Tracks] (hx:zh e x=some (.int .i64 m)) (hy:zh e y=some (.int .i64 n)) (h1: -9223372036854775808<=m-n) (h2:m-n<=9223372036854775807):
 POp P e ⟨dst,.binOp .sub t x y t',ty,pos,af,g⟩ (.int .i64 (m-n)):=by
 have:=zFj (P:=P) (dst:=dst) (ty:=ty) (pos:=pos) (af:=af) (g:=g) (t:=t) (t':=t') hx hy
 rwa [zno h1 h2] at this
theorem zbu [Tracks] (hx:zh e x=some (.int .i64 m)) (hy:zh e y=some (.int .i64 n)) (h1: -9223372036854775808<=m*n) (h2:m*n<=9223372036854775807):
 POp P e ⟨dst,.binOp .mul t x y t',ty,pos,af,g⟩ (.int .i64 (m*n)):=by
 have:=ztW (P:=P) (dst:=dst) (ty:=ty) (pos:=pos) (af:=af) (g:=g) (t:=t) (t':=t') hx hy
 rwa [zno h1 h2] at this
theorem zbZ [Tracks] (hx:zh e x=some (.int .i64 m)) (hy:zh e y=some (.int .i64 n)) (hn:0<n) (h1: -9223372036854775808<=m) (h2:m<=9223372036854775807):
 POp P e ⟨dst,.binOp .quo t x y t',ty,pos,af,g⟩ (.int .i64 (m.tdiv n)):=by
 have:=zyE (P:=P) (dst:=dst) (ty:=ty) (pos:=pos) (af:=af) (g:=g) (t:=t) (t':=t') hx hy (by omega);have hb: -9223372036854775808<=m.tdiv n/\m.tdiv n<=9223372036854775807:=by
  have h3:(m.tdiv n).natAbs<=m.natAbs:=by rw [Int.natAbs_tdiv];exact Nat.div_le_self _ _
  by_cases hm:0<=m
  have:=Cg hm (by omega:0<=n);omega;have:=Cg (by omega:0<= -m) (by omega:0<=n);rw [Int.neg_tdiv] at this;omega
 rwa [zno hb.1 hb.2] at this
theorem zFb [Tracks] (hx:zh e x=some (.int k m)) (hy:zh e y=some (.int k n)):POp P e ⟨dst,.binOp .eql t x y t',ty,pos,af,g⟩ (.bool (m==n)):=
 zF fun I a w ho=>⟨.bool (m==n),by
  have h1:=(ho.one (x:=x) (by simp [Op.operands]) hx).int_inv;have h2:=(ho.one (x:=y) (by simp [Op.operands]) hy).int_inv
  simp [execOp,h1,h2,eqGuard,binOp,Op.intCmp],.bool _⟩
theorem zFh [Tracks] (hx:zh e x=some (.int k m)) (hy:zh e y=some (.int k n)):POp P e ⟨dst,.binOp .neq t x y t',ty,pos,af,g⟩ (.bool (m !=n)):=
 zF fun I a w ho=>⟨.bool (m !=n),by
  have h1:=(ho.one (x:=x) (by simp [Op.operands]) hx).int_inv;have h2:=(ho.one (x:=y) (by simp [Op.operands]) hy).int_inv
  simp [execOp,h1,h2,eqGuard,binOp,Op.intCmp],.bool _⟩
theorem zFg [Tracks] (hx:zh e x=some (.int k m)) (hy:zh e y=some (.int k n)):POp P e ⟨dst,.binOp .lss t x y t',ty,pos,af,g⟩ (.bool (decide (m<n))):=
 zF fun I a w ho=>⟨.bool (decide (m<n)),by
  have h1:=(ho.one (x:=x) (by simp [Op.operands]) hx).int_inv;have h2:=(ho.one (x:=y) (by simp [Op.operands]) hy).int_inv
  simp [execOp,h1,h2,eqGuard,binOp,Op.intCmp],.bool _⟩
theorem zFf [Tracks] (hx:zh e x=some (.int k m)) (hy:zh e y=some (.int k n)):POp P e ⟨dst,.binOp .leq t x y t',ty,pos,af,g⟩ (.bool (decide (m<=n))):=
 zF fun I a w ho=>⟨.bool (decide (m<=n)),by
  have h1:=(ho.one (x:=x) (by simp [Op.operands]) hx).int_inv;have h2:=(ho.one (x:=y) (by simp [Op.operands]) hy).int_inv
  simp [execOp,h1,h2,eqGuard,binOp,Op.intCmp],.bool _⟩
theorem zFd [Tracks] (hx:zh e x=some (.int k m)) (hy:zh e y=some (.int k n)):POp P e ⟨dst,.binOp .gtr t x y t',ty,pos,af,g⟩ (.bool (decide (n<m))):=
 zF fun I a w ho=>⟨.bool (decide (n<m)),by
  have h1:=(ho.one (x:=x) (by simp [Op.operands]) hx).int_inv;have h2:=(ho.one (x:=y) (by simp [Op.operands]) hy).int_inv
  simp [execOp,h1,h2,eqGuard,binOp,Op.intCmp],.bool _⟩
theorem zFc [Tracks] (hx:zh e x=some (.int k m)) (hy:zh e y=some (.int k n)):POp P e ⟨dst,.binOp .geq t x y t',ty,pos,af,g⟩ (.bool (decide (n<=m))):=
 zF fun I a w ho=>⟨.bool (decide (n<=m)),by
  have h1:=(ho.one (x:=x) (by simp [Op.operands]) hx).int_inv;have h2:=(ho.one (x:=y) (by simp [Op.operands]) hy).int_inv
  simp [execOp,h1,h2,eqGuard,binOp,Op.intCmp],.bool _⟩
theorem zgU [Tracks] (hx:zh e x=some (.int .i64 m)) (h1: -9223372036854775807<=m) (h2:m<=9223372036854775807):POp P e ⟨dst,.unOp .neg t x,ty,pos,af,g⟩ (.int .i64 (-m)):=
 zF fun I a w ho=>⟨.int .i64 (-m),by
  have h1:=(ho.one (x:=x) (by simp [Op.operands]) hx).int_inv;simp only [execOp,h1,Op.unary,Op.intArith,Sem.run_bind,Sem.run_pure,Result.andThen_ok];rw [zno (by omega) (by omega),Int.zero_sub],.int _ _⟩
theorem zeE [Tracks] {d':TypeId} {k':IntKind} {s1 s2 b1 b2:Nat} {z1 z2:Value} {ds:TD} (hs:Fits P t ds s1 b1 z1) (hf:Fits P d' (.int k') s2 b2 z2) (hx:zh e x=some (.int k m)):
 POp P e ⟨dst,.convert t d' x,ty,pos,af,g⟩ (.int k' (k'.wrap m)):=
 zF fun I a w ho=>⟨.int k' (k'.wrap m),by
  have h1:=(ho.one (x:=x) (by simp [Op.operands]) hx).int_inv;obtain ⟨u,hu,_⟩:=hs.underlying;simp only [execOp,h1,convert,Sem.run_bind,run_underlying hu,run_underlying hf.intD,Result.andThen_ok,Sem.run_pure,Conv.intToInt],.int _ _⟩
end
theorem zFi [Tracks] {x:Operand} {b:Bool} {t:TypeId} (hx:zh e x=some (.bool b)):POp P e ⟨dst,.unOp .not t x,ty,pos,af,g⟩ (.bool (!b)):=
 zF fun I a w ho=>⟨.bool (!b),by
  have h1:=(ho.one (x:=x) (by simp [Op.operands]) hx).bool_inv
  simp [execOp,h1,Op.unary],.bool _⟩
theorem znk {t:TypeId} (hu:P.underlying t=some .bool) (b c:Bool) (w:World):(Op.equal t (.bool b) (.bool c)).run P w= .ok (b==c) w:=by
 have h: ∀d,(Op.equalIn (d+1) t (.bool b) (.bool c)).run P w= .ok (b==c) w:=fun d=>by
  simp only [Op.equalIn,Sem.run_bind,run_underlying hu,Result.andThen_ok,Sem.run_pure]
 exact h 9999
theorem zoo [Tracks] {x y:Operand} {b c:Bool} {t t':TypeId} {s by':Nat} {z:Value} (hf:Fits P t .bool s by' z) (hx:zh e x=some (.bool b)) (hy:zh e y=some (.bool c)):
 POp P e ⟨dst,.binOp .eql t x y t',ty,pos,af,g⟩ (.bool (b==c)):=
 zF fun I a w ho=>⟨.bool (b==c),by
  have h1:=(ho.one (x:=x) (by simp [Op.operands]) hx).bool_inv;have h2:=(ho.one (x:=y) (by simp [Op.operands]) hy).bool_inv
  simp [execOp,h1,h2,eqGuard,binOp,znk hf.boolD],.bool _⟩
theorem zCU [Tracks] {x y:Operand} {b c:Bool} {t t':TypeId} {s by':Nat} {z:Value} (hf:Fits P t .bool s by' z) (hx:zh e x=some (.bool b)) (hy:zh e y=some (.bool c)):
 POp P e ⟨dst,.binOp .neq t x y t',ty,pos,af,g⟩ (.bool (!(b==c))):=
 zF fun I a w ho=>⟨.bool (!(b==c)),by
  have h1:=(ho.one (x:=x) (by simp [Op.operands]) hx).bool_inv;have h2:=(ho.one (x:=y) (by simp [Op.operands]) hy).bool_inv
  simp [execOp,h1,h2,eqGuard,binOp,znk hf.boolD],.bool _⟩
/-! strings-/
section
variable {x y:Operand} {s u:List UInt8} {t t':TypeId}
theorem zkY (op:BinOp) {a:Act} {w:World} (h1:a.eval x= .string ⟨s.toArray⟩) (h2:a.eval y= .string ⟨u.toArray⟩) (hop:op≠ .shl/\op≠ .shr):
 (execOp a.eval ⟨dst,.binOp op t x y t',ty,pos,af,g⟩).run P w=((Op.stringOp op ⟨s.toArray⟩ ⟨u.toArray⟩).run P w).andThen (fun v w=> .ok (.value v) w):=by
 cases op<;>simp [execOp,h1,h2,eqGuard,binOp] at hop⊢
theorem zCN [Tracks] (hx:zh e x=some (.str s)) (hy:zh e y=some (.str u)):POp P e ⟨dst,.binOp .eql t x y t',ty,pos,af,g⟩ (.bool (s==u)):=
 zF fun I a w ho=>⟨.bool (s==u),by
  rw [zkY .eql (ho.one (x:=x) (by simp [Op.operands]) hx).str_inv (ho.one (x:=y) (by simp [Op.operands]) hy).str_inv (by simp)]
  simp [Op.stringOp,ByteArray.toList_eq],.bool _⟩
theorem zCV [Tracks] (hx:zh e x=some (.str s)) (hy:zh e y=some (.str u)):POp P e ⟨dst,.binOp .neq t x y t',ty,pos,af,g⟩ (.bool (!(s==u))):=
 zF fun I a w ho=>⟨.bool (!(s==u)),by
  rw [zkY .neq (ho.one (x:=x) (by simp [Op.operands]) hx).str_inv (ho.one (x:=y) (by simp [Op.operands]) hy).str_inv (by simp)]
  simp [Op.stringOp,ByteArray.toList_eq],.bool _⟩
theorem zCT [Tracks] (hx:zh e x=some (.str s)) (hy:zh e y=some (.str u)):POp P e ⟨dst,.binOp .lss t x y t',ty,pos,af,g⟩ (.bool (Op.bytesLess s u)):=
 zF fun I a w ho=>⟨.bool (Op.bytesLess s u),by
  rw [zkY .lss (ho.one (x:=x) (by simp [Op.operands]) hx).str_inv (ho.one (x:=y) (by simp [Op.operands]) hy).str_inv (by simp)]
  simp [Op.stringOp,ByteArray.toList_eq],.bool _⟩
theorem zCS [Tracks] (hx:zh e x=some (.str s)) (hy:zh e y=some (.str u)):POp P e ⟨dst,.binOp .leq t x y t',ty,pos,af,g⟩ (.bool (Op.bytesLess s u||s==u)):=
 zF fun I a w ho=>⟨.bool (Op.bytesLess s u||s==u),by
  rw [zkY .leq (ho.one (x:=x) (by simp [Op.operands]) hx).str_inv (ho.one (x:=y) (by simp [Op.operands]) hy).str_inv (by simp)]
  simp [Op.stringOp,ByteArray.toList_eq],.bool _⟩
theorem zCP [Tracks] (hx:zh e x=some (.str s)) (hy:zh e y=some (.str u)):POp P e ⟨dst,.binOp .gtr t x y t',ty,pos,af,g⟩ (.bool (!(Op.bytesLess s u||s==u))):=
 zF fun I a w ho=>⟨.bool (!(Op.bytesLess s u||s==u)),by
  rw [zkY .gtr (ho.one (x:=x) (by simp [Op.operands]) hx).str_inv (ho.one (x:=y) (by simp [Op.operands]) hy).str_inv (by simp)]
  simp [Op.stringOp,ByteArray.toList_eq],.bool _⟩
theorem zCO [Tracks] (hx:zh e x=some (.str s)) (hy:zh e y=some (.str u)):POp P e ⟨dst,.binOp .geq t x y t',ty,pos,af,g⟩ (.bool (!(Op.bytesLess s u))):=
 zF fun I a w ho=>⟨.bool (!(Op.bytesLess s u)),by
  rw [zkY .geq (ho.one (x:=x) (by simp [Op.operands]) hx).str_inv (ho.one (x:=y) (by simp [Op.operands]) hy).str_inv (by simp)]
  simp [Op.stringOp,ByteArray.toList_eq],.bool _⟩
theorem zbe [Tracks] {k:IntKind} {i:Int} {j:Nat} {b:UInt8} {sz by':Nat} {z:Value} (hf:Fits P t .str sz by' z) (hx:zh e x=some (.str s)) (hy:zh e y=some (.int k i)) (hi:i=(j:Int)) (hj:s[j]? =some b):
 POp P e ⟨dst,.index t x y,ty,pos,af,g⟩ (.int .u8 b.toNat):=
 zF fun I a w ho=>⟨.int .u8 b.toNat,by
  have h1:=(ho.one (x:=x) (by simp [Op.operands]) hx).str_inv;have h2:=(ho.one (x:=y) (by simp [Op.operands]) hy).int_inv;subst hi;have h3:(⟨s.toArray⟩:ByteArray)[j]? =some b:=by
   have hlt:j<s.length:=by
    rcases AC j s.length with h|h
    exact h
    simp [AH h] at hj
   have hs:j<(⟨s.toArray⟩:ByteArray).size:=by simpa [ByteArray.size] using hlt
   rw [getElem?_pos (⟨s.toArray⟩:ByteArray) j hs];rw [Aa hlt] at hj;rw [<-hj];rfl
  simp [execOp,h1,h2,Instr.index,asIntOf,run_underlying hf.strD,h3],.int _ _⟩
end
/-! tuples,structs-/
theorem zxY [Tracks] {x:Operand} {vs:List HVal} {h:HVal} {i:Nat} (hx:zh e x=some (.tup vs)) (hi:vs[i]? =some h):POp P e ⟨dst,.extract x i,ty,pos,af,g⟩ h:=
 zF fun I a w ho=>by
  obtain ⟨rs,h1,h2⟩:=(ho.one (x:=x) (by simp [Op.operands]) hx).tup_inv;obtain ⟨v,h3,h4⟩:=h2.get hi;refine ⟨v,?_,h4⟩
  have h5:rs[i]? =some v:=by simpa using h3
  simp [execOp,h1,Instr.extract,h5]
end
section
theorem dq [Tracks] {P:Program} {ops:Array Oper} {n:Nat} {K:Env->List MObj->Prop} {rest:List Oper} {e:Env} {M:List MObj} {d:Nat} {op:Op} {ty:TypeId} {pos:String} {af:Array Edge} {h:HVal} (hp:POp P e ⟨some d,op,ty,pos,af,none⟩ h) (k:Der P ops n K rest (upd e d h) M) (hd:Nat.blt d n=true:=by rfl):Der P ops n K (⟨some d,op,ty,pos,af,none⟩::rest) e M:=dp hd hp k
theorem dmv [Tracks] {P:Program} {ops:Array Oper} {n:Nat} {K:Env->List MObj->Prop} {rest:List Oper} {e:Env} {M:List MObj} {d:Nat} {x:Operand} {ty:TypeId} {pos:String} {af:Array Edge} {h:HVal} (hx:zh e x=some h) (k:Der P ops n K rest (upd e d h) M) (hd:Nat.blt d n=true:=by rfl):Der P ops n K (⟨some d,.move x,ty,pos,af,none⟩::rest) e M:=dp hd (zw5 hx) k
theorem das [Tracks] {P:Program} {ops:Array Oper} {n:Nat} {K:Env->List MObj->Prop} {rest:List Oper} {e:Env} {M:List MObj} {d:Nat} {x:Operand} {ty:TypeId} {pos:String} {af:Array Edge} {h:HVal} (hx:zh e x=some h) (k:Der P ops n K rest (upd e d h) M) (hd:Nat.blt d n=true:=by rfl):Der P ops n K (⟨some d,.assign x,ty,pos,af,none⟩::rest) e M:=dp hd (zkH hx) k
end
end
section
theorem zem (b o n:Nat):(⟨b,o,none⟩:Addr).add n=⟨b,o+n,none⟩:=by
 unfold Addr.add
 split
 rename_i h;subst h;rfl
 rfl
theorem zcu {w:World} {b:Nat} {rc:Array Value} {el:TypeId} {fr:Nat×Nat} (h:w.heap[b]? =some (.cells rc el fr)) (o:Nat):w.cell? ⟨b,o,none⟩=rc[o]?:=by
 simp [World.cell?,h]
theorem zx1 {P:Program} {w:World} {a:Addr} {v:Value} (h:w.cell? a=some v):(load a).run P w= .ok v w:=by
 simp [h]
theorem zGC (s:List UInt8):(⟨s.toArray⟩:ByteArray).size=s.length:=by simp [ByteArray.size]
theorem zn {α:Type} {l:List α} {i:Nat} {x:α} (h:l[i]? =some x):i<l.length:=by
 rcases AC i l.length with h'|h'
 exact h'
 simp [AH h'] at h
theorem zhD [Tracks] {P:Program} {I:Imm} {w:World} {t:TypeId} {d:TD} {size bytes:Nat} {zero:Value} (hf:Fits P t d size bytes zero) {b o:Nat} {rc:Array Value} {el:TypeId} {fr:Nat×Nat}
 (hw:w.heap[b]? =some (.cells rc el fr)) {cs:List HVal} {off base:Nat} (ho:o=base+off) (hb:base+cs.length<=rc.size)
 (hV: ∀(j:Nat) (c:HVal) (v:Value),cs[j]? =some c->rc[base+j]? =some v->V I c v) {h:HVal}
 (hh:(d.isAgg=false/\cs[off]? =some h)\/(d.isAgg=true/\off+size<=cs.length/\h= .agg ((cs.drop off).take size))):
 ∃v,(loadVar t ⟨b,o,none⟩).run P w= .ok v w/\V I h v:=by
 subst ho
 rcases hh with ⟨hd,hc⟩|⟨hd,hle,rfl⟩
 have hlt:=zn hc;have hr:base+off<rc.size:=by omega
 have hcell:w.cell? ⟨b,base+off,none⟩=some rc[base+off]:=by rw [zcu hw];exact Aq hr
 refine ⟨rc[base+off],?_,hV off h _ hc (Aq hr)⟩
 unfold loadVar;simp only [Sem.run_bind,hf.run_isAgg,Result.andThen_ok,hd,AU,if_false];exact zx1 hcell
 let vs:List Value:=(rc.toList.drop (base+off)).take size
 have hlen:vs.length=size:=by simp [vs];omega
 have zb: ∀(j:Nat) (v:Value),vs[j]? =some v->rc[base+off+j]? =some v:=fun j v hj=>by
  simp only [vs,Bq] at hj
  split at hj
  simpa [AL] using hj
  simp at hj
 have hrun:(loadCells ⟨b,base+off,none⟩ vs.length).run P w= .ok vs.toArray w:=
  run_loadCells_list w _ _ fun j v hj=>by rw [zem,zcu hw];exact zb j v hj
 refine ⟨.agg vs.toArray,?_,?_⟩
 unfold loadVar;simp only [Sem.run_bind,hf.run_isAgg,Result.andThen_ok,hd,if_true,hf.run_sizeOf];rw [hlen] at hrun;simp only [hrun,Result.andThen_ok,Sem.run_pure];refine znr ⟨by simp only [List.toList_toArray,hlen,Az,BB];omega,fun j c v h1 h2=> ?_⟩
 have h3:=zb j v (by simpa using h2);simp only [Bq] at h1
 split at h1
 rw [AL] at h1;exact hV (off+j) c v h1 (by rw [<-Bc];exact h3)
 simp at h1
/-! lists of operands-/
def zdE (e:Env):List Operand->Option (List HVal)
 |[]=>some []
 |x::r=>match zh e x,zdE e r with
   |some h,some l=>some (h::l)
   |_,_=>none
theorem zjd [Tracks] {I:Imm} {e:Env} {f:Operand->Value}: ∀(xs:List Operand) (hs:List HVal),zdE e xs=some hs->(∀x∈xs,∀h,zh e x=some h->V I h (f x))->VL I hs (xs.map f)
 |[],hs,h,_=>by simp [zdE] at h;subst h;exact VL.nil
 |x::r,hs,h,hv=>by
   simp only [zdE] at h
   cases h1:zh e x with
   |none=>rw [h1] at h;simp at h
   |some a=>
     cases h2:zdE e r with
     |none=>rw [h1,h2] at h;simp at h
     |some l=>
       rw [h1,h2] at h;simp at h;subst h;exact VL.cons (hv x (by simp) a h1) (zjd r l h2 fun y hy=>hv y (by simp [hy]))
def WeakL:List HVal->List HVal->Prop
 |[],[]=>True
 |h::r,h'::r'=>Weak h h'/\WeakL r r'
 |_,_=>False
theorem WeakL.refl [Tracks]: ∀l,WeakL l l
 |[]=>trivial
 |_::r=>⟨Weak.refl _,WeakL.refl r⟩
theorem WeakL.vl [Tracks] {I:Imm}: ∀{hs hs':List HVal} {vs:List Value},WeakL hs hs'->VL I hs vs->VL I hs' vs
 |[],[],_,_,h=>h
 |h::r,h'::r',[],_,hv=>by have:=hv.1;simp at this
 |h::r,h'::r',v::vs,hw,hv=>VL.cons (hw.1 I v hv.head) (WeakL.vl hw.2 hv.tail)
 |[],_::_,_,hw,_=>hw.elim
 |_::_,[],_,hw,_=>hw.elim
def zeA (sz:Nat):HVal->Bool
 | .junk=>false
 | .opt _ _=>false
 | .agg cs=>Nat.beq cs.length sz
 |_=>Nat.beq sz 1
theorem zeB {sz:Nat} {h:HVal} (ho:zeA sz h=true):(zb h).length=sz/\zgY h=true:=by
 cases h<;>simp [zeA,zb,zgY] at ho⊢ <;>first|exact ho|exact ho.symm
theorem V.cells_size [Tracks] {I:Imm} {sz:Nat} {h:HVal} {v:Value} (hv:V I h v) (ho:zeA sz h=true):v.cells.size=sz/\VL I (zb h) v.cells.toList:=by
 obtain ⟨h1,h2⟩:=zeB ho;have:=hv.cells h2;exact ⟨by have:=this.1;simp at this;omega,this⟩
/-! fill-/
theorem zpF (off:Nat): ∀(vs:List Value) (k:Nat) (cs:Array Value),
 let r:=(vs.zipIdx k).foldl (fun cs (p:Value×Nat)=>cs.setIfInBounds (off+p.2) p.1) cs
 r.size=cs.size/\∀x,r[x]? =if off+k<=x/\x<off+k+vs.length/\x<cs.size then vs[x-off-k]? else cs[x]?
 |[],k,cs=>by
   refine ⟨rfl,fun x=> ?_⟩
   simp only [List.zipIdx_nil,List.foldl_nil,Ar];rw [if_neg (by omega)]
 |v::vs,k,cs=>by
   have ih:=zpF off vs (k+1) (cs.setIfInBounds (off+k) v);simp only [List.zipIdx_cons,Bv] at ih⊢;refine ⟨by rw [ih.1];simp,fun x=> ?_⟩
   rw [ih.2 x];simp only [Cj,Ah]
   by_cases h1:x=off+k
   subst h1;rw [if_neg (by omega)]
   by_cases h2:off+k<cs.size
   rw [if_pos ⟨by omega,by omega,h2⟩];have:off+k-off-k=0:=by omega
   simp [h2,this]
   rw [if_neg (by omega)];rw [Av (by simp;omega),Av (by omega)]
   by_cases h2:off+(k+1)<=x/\x<off+(k+1)+vs.length/\x<cs.size
   rw [if_pos h2,if_pos (by omega)];have:x-off-k=(x-off-(k+1))+1:=by omega
   rw [this,AN];rw [if_neg h2,if_neg (by omega),AJ (by omega)]
theorem zre (off:Nat) (vs cs:Array Value):
 vs.zipIdx.foldl (fun cs (p:Value×Nat)=>cs.setIfInBounds (off+p.2) p.1) cs=(vs.toList.zipIdx 0).foldl (fun cs (p:Value×Nat)=>cs.setIfInBounds (off+p.2) p.1) cs:=by
 rw [<-Array.foldl_toList]
 simp
def zaO (cs:List HVal) (off:Nat) (hs:List HVal):List HVal:=cs.take off++hs++cs.drop (off+hs.length)
theorem zCb [Tracks] {I:Imm} {cs hs:List HVal} {rc vs:Array Value} {off:Nat} (hc:VL I cs rc.toList) (hv:VL I hs vs.toList) (hle:off+hs.length<=cs.length):
 VL I (zaO cs off hs) (vs.zipIdx.foldl (fun cs (p:Value×Nat)=>cs.setIfInBounds (off+p.2) p.1) rc).toList:=by
 rw [zre];obtain ⟨h1,h2⟩:=zpF off vs.toList 0 rc;have hcl:=hc.1;have hvl:=hv.1;refine ⟨?_,fun j c v h3 h4=> ?_⟩
 simp only [AM] at*;rw [h1]
 simp [zaO];omega
 rw [AY,h2 j] at h4;simp only [zaO] at h3
 by_cases ha:j<off
 rw [if_neg (by omega)] at h4;rw [A9,Aw (by simp;omega),AD ha] at h3;exact hc.2 j c v h3 (by simpa using h4)
 by_cases hb:j<off+hs.length
 simp only [AM] at*;rw [if_pos ⟨by omega,by omega,by omega⟩] at h4;rw [Aw (by simp;omega),Au (by simp;omega)] at h3;have e1:(cs.take off).length=off:=by simp;omega
 rw [e1] at h3;exact hv.2 (j-off) c v h3 (by simpa using h4);simp only [AM] at*;rw [if_neg (by omega)] at h4;rw [Au (by simp;omega)] at h3;have e1:(cs.take off++hs).length=off+hs.length:=by simp;omega
 rw [e1,AL] at h3;have e2:off+hs.length+(j-(off+hs.length))=j:=by omega
 rw [e2] at h3;exact hc.2 j c v h3 (by simpa using h4)
def zhc (e:Env) (places:List (Nat×Nat)) (cs:List HVal):List (Nat×Operand)->Option (List HVal)
 |[]=>some cs
 |(i,x)::r=>
   match places[i]?,zh e x with
   |some (off,sz),some h=>
     match zeA sz h,Nat.ble (off+sz) cs.length with
     |true,true=>zhc e places (zaO cs off (zb h)) r
     |_,_=>none
   |_,_=>none
theorem zrb {cs hs:List HVal} {off:Nat} (h:off+hs.length<=cs.length):(zaO cs off hs).length=cs.length:=by
 simp [zaO];omega
theorem zun [Tracks] {I:Imm} {e:Env} {f:Operand->Value} {places:List (Nat×Nat)}: ∀(parts:List (Nat×Operand)) (cs cs':List HVal) (rc:Array Value),
 zhc e places cs parts=some cs'->(∀x∈parts.map (·.2),∀h,zh e x=some h->V I h (f x))->VL I cs rc.toList->
 ∃rc',Instr.fill (places[·]?) rc (parts.map fun p=>(p.1,f p.2))=some rc'/\VL I cs' rc'.toList
 |[],cs,cs',rc,h,_,hc=>by
   simp [zhc] at h;subst h
   exact ⟨rc,rfl,hc⟩
 |(i,x)::r,cs,cs',rc,h,hv,hc=>by
   simp only [zhc] at h
   cases h1:places[i]? with
   |none=>rw [h1] at h;simp at h
   |some p=>
     obtain ⟨off,sz⟩:=p
     cases h2:zh e x with
     |none=>rw [h1,h2] at h;simp at h
     |some y=>
       rw [h1,h2] at h;simp only at h
       cases h3:zeA sz y with
       |false=>rw [h3] at h;simp at h
       |true=>
         cases h4:Nat.ble (off+sz) cs.length with
         |false=>rw [h3,h4] at h;simp at h
         |true=>
           rw [h3,h4] at h;simp only at h;have h4':off+sz<=cs.length:=Ak h4;obtain ⟨h5,h6⟩:=(hv x (by simp) y h2).cells_size h3;obtain ⟨h7,_⟩:=zeB h3;have hcl:=hc.1;simp only [AM] at hcl;obtain ⟨rc',h8,h9⟩:=zun r _ cs' _ h (fun z hz=>hv z (by simp at hz⊢;exact .inr hz)) (zCb hc h6 (by omega));refine ⟨rc',?_,h9⟩
           simp only [Ao,Instr.fill,h1];rw [if_neg (by simp [h5];omega)];exact h8
section
variable {P:Program} {e:Env} {dst:Option Tmp} {ty:TypeId} {pos:String} {af:Array Edge} {g:Option (Nat×Bool)}
/-! addresses and loads in immutable memory-/
theorem zO [Tracks] {x:Operand} {t:TypeId} {d:TD} {size bytes:Nat} {zero:Value} {cs:List HVal} {off:Nat} {h:HVal} (hf:Fits P t d size bytes zero)
 (hx:zh e x=some (.vptr cs off)) (hd:d.isAgg=false) (hc:cs[off]? =some h):POp P e ⟨dst,.load t x,ty,pos,af,g⟩ h:=
 POp.of_run fun I F a w ho hs=>by
  obtain ⟨b,base,rc,el,fr,h1,h2,h3,h4⟩:=(ho.one (x:=x) (by simp [Op.operands]) hx).vptr_inv;obtain ⟨v,h5,h6⟩:=zhD hf (hs.imm _ _ h2) rfl h3 h4 (.inl ⟨hd,hc⟩);exact ⟨v,w,I,by simp [execOp,h1,Instr.loadAt,Instr.sureAddr,h5],.refl I,h6,hs⟩
theorem zav [Tracks] {x:Operand} {t:TypeId} {d:TD} {size bytes:Nat} {zero:Value} {cs:List HVal} {off:Nat} (hf:Fits P t d size bytes zero)
 (hx:zh e x=some (.vptr cs off)) (hd:d.isAgg=true) (hc:off+size<=cs.length):POp P e ⟨dst,.load t x,ty,pos,af,g⟩ (.agg ((cs.drop off).take size)):=
 POp.of_run fun I F a w ho hs=>by
  obtain ⟨b,base,rc,el,fr,h1,h2,h3,h4⟩:=(ho.one (x:=x) (by simp [Op.operands]) hx).vptr_inv;obtain ⟨v,h5,h6⟩:=zhD hf (hs.imm _ _ h2) rfl h3 h4 (.inr ⟨hd,hc,rfl⟩);exact ⟨v,w,I,by simp [execOp,h1,Instr.loadAt,Instr.sureAddr,h5],.refl I,h6,hs⟩
theorem zZ [Tracks] {x:Operand} {t:TypeId} {d:TD} {size bytes:Nat} {zero:Value} {h:HVal} (hf:Fits P t d size bytes zero)
 (hx:zh e x=some (.vptr (zb h) 0)) (hd:d.isAgg=true) (hh:h= .agg (zb h)) (hc:(zb h).length=size):POp P e ⟨dst,.load t x,ty,pos,af,g⟩ h:=by
 have:=zav (P:=P) (dst:=dst) (ty:=ty) (pos:=pos) (af:=af) (g:=g) hf hx hd (by omega);rw [List.drop_zero,<-hc,Am,<-hh] at this;exact this
theorem zq8 [Tracks] {t:TypeId} {fs:List (Nat×Nat)} {size bytes:Nat} {zero:Value} (hf:Fits P t (.struct fs) size bytes zero) {f foff ft:Nat} (hfs:fs[f]? =some (foff,ft))
 {d:TD} {s2 b2:Nat} {z2:Value} (hft:Fits P ft d s2 b2 z2) (hs:s2≠0) (b o:Nat) (w:World):
 (Instr.fieldAt t (.pointer (some ⟨b,o,none⟩)) f).run P w= .ok (.pointer (some ⟨b,o+foff,none⟩)) w:=by
 obtain ⟨gs,h1,h2⟩:=hf.structD;have h3:(gs.toList.map fun f=>(f.offset,f.type))[f]? =some (foff,ft):=by rw [h2];exact hfs
 rw [Aj] at h3
 cases hg:gs.toList[f]? with
 |none=>rw [hg] at h3;simp at h3
 |some fl=>
   rw [hg] at h3
   simp at h3
   obtain ⟨h4,h5⟩:=h3;have hg':gs[f]? =some fl:=by simpa using hg
   simp [Instr.fieldAt,run_underlying h1,hg',Instr.sureAddr,fieldPlace,h5,hft.run_sizeOf,hs,h4,zem]
theorem zk [Tracks] {x:Operand} {t:TypeId} {fs:List (Nat×Nat)} {size bytes:Nat} {zero:Value} {f foff ft:Nat} {d:TD} {s2 b2:Nat} {z2:Value} {cs:List HVal} {off:Nat}
 (hf:Fits P t (.struct fs) size bytes zero) (hfs:fs[f]? =some (foff,ft)) (hft:Fits P ft d s2 b2 z2) (hs:s2≠0) (hx:zh e x=some (.vptr cs off)):
 POp P e ⟨dst,.fieldAddr t x f,ty,pos,af,g⟩ (.vptr cs (off+foff)):=
 zF fun I a w ho=>by
  obtain ⟨b,base,rc,el,fr,h1,h2,h3,h4⟩:=(ho.one (x:=x) (by simp [Op.operands]) hx).vptr_inv;refine ⟨.pointer (some ⟨b,base+off+foff,none⟩),?_,?_⟩
  simp [execOp,h1,zq8 hf hfs hft hs]
  rw [Bc];exact .vptr h2 h3 h4
theorem zf [Tracks] {x:Operand} {t:TypeId} {fs:List (Nat×Nat)} {size bytes:Nat} {zero:Value} {f foff ft:Nat} {d:TD} {s2 b2:Nat} {z2:Value} {b o:Nat}
 (hf:Fits P t (.struct fs) size bytes zero) (hfs:fs[f]? =some (foff,ft)) (hft:Fits P ft d s2 b2 z2) (hs:s2≠0) (hx:zh e x=some (.raw (.pointer (some ⟨b,o,none⟩)))):
 POp P e ⟨dst,.fieldAddr t x f,ty,pos,af,g⟩ (.raw (.pointer (some ⟨b,o+foff,none⟩))):=
 zF fun I a w ho=>by
  have h1:=(ho.one (x:=x) (by simp [Op.operands]) hx).raw_inv;exact ⟨_,by simp [execOp,h1,zq8 hf hfs hft hs],.raw _ rfl⟩
theorem zq9 [Tracks] {t el:TypeId} {size bytes sz b2:Nat} {zero z2:Value} {d:TD} (hf:Fits P t (.slice el) size bytes zero) (hel:Fits P el d sz b2 z2) {k:IntKind} {j len cap b o:Nat} (hj:j<len) (w:World):
 (Instr.indexAt t (.slice (some ⟨b,o,none⟩) len cap) (.int k (j:Int))).run P w= .ok (.pointer (some ⟨b,o+j*sz,none⟩)) w:=by
 have h1:(0:Int)<=(j:Int)/\(j:Int)<(len:Int):=by omega
 simp [Instr.indexAt,asIntOf,run_underlying hf.slice,h1,hel.run_sizeOf,zem]
 intro h;omega
theorem zvv [Tracks] {x y:Operand} {t el:TypeId} {size bytes sz b2:Nat} {zero z2:Value} {d:TD} {es:List HVal} {k:IntKind} {i:Int} {j:Nat} {h:HVal}
 (hf:Fits P t (.slice el) size bytes zero) (hel:Fits P el d sz b2 z2) (hx:zh e x=some (.slice sz es)) (hy:zh e y=some (.int k i)) (hi:i=(j:Int)) (hj:es[j]? =some h):
 POp P e ⟨dst,.indexAddr t x y,ty,pos,af,g⟩ (.vptr (zb h) 0):=
 zF fun I a w ho=>by
  subst hi;have h2:=(ho.one (x:=y) (by simp [Op.operands]) hy).int_inv;have hlt:=zn hj
  rcases (ho.one (x:=x) (by simp [Op.operands]) hx).slice_inv with ⟨rfl,_⟩|⟨b,off,cap,rc,el',fr,h1,h3,h4,h5,h6,h7⟩
  simp at hlt
  refine ⟨.pointer (some ⟨b,off+j*sz+0,none⟩),by simp [execOp,h1,h2,zq9 hf hel hlt],?_⟩
  have hl:=h4 h (Ab hj);refine .vptr h3 ?_ fun k c v h8 h9=>h7 j k h c v hj h8 h9
  have:(j+1)*sz<=es.length*sz:=AB _ hlt;rw [AT] at this
  omega
theorem zB [Tracks] {α:Type} {x y:Operand} {t el:TypeId} {size bytes sz b2:Nat} {zero z2:Value} {d:TD} {f:α->HVal} {l:List α} {k:IntKind} {i:Int} {j:Nat} {a:α}
 (hf:Fits P t (.slice el) size bytes zero) (hel:Fits P el d sz b2 z2) (hx:zh e x=some (.slice sz (l.map f))) (hy:zh e y=some (.int k i)) (hi:i=(j:Int)) (hj:l[j]? =some a):
 POp P e ⟨dst,.indexAddr t x y,ty,pos,af,g⟩ (.vptr (zb (f a)) 0):=zvv hf hel hx hy hi (by rw [Aj,hj];rfl)
/-! lengths-/
theorem znl {t:TypeId} {ats:Array TypeId} {ρ:Operand->Value} {x:Operand} (w:World):
 (execOp ρ ⟨dst,.call ⟨.builtin .len,#[x],#[t]⟩,ty,pos,af,g⟩).run P w=((Builtin.len_ #[t] ty #[ρ x]).run P w).andThen (fun v w=> .ok (.value v) w):=by
 simp [execOp,resolve,invoke,builtin]
theorem zFe [Tracks] {x:Operand} {t el:TypeId} {size bytes:Nat} {zero:Value} {sz:Nat} {es:List HVal} (hf:Fits P t (.slice el) size bytes zero) (hx:zh e x=some (.slice sz es)):
 POp P e ⟨dst,.call ⟨.builtin .len,#[x],#[t]⟩,ty,pos,af,g⟩ (.int .i64 es.length):=
 zF fun I a w ho=>by
  obtain ⟨b,cap,h1⟩:=(ho.one (x:=x) (by simp [Op.operands,Call.operands]) hx).slice_len;exact ⟨_,by rw [znl (ats:= #[])];simp [h1,Builtin.len_,run_underlying hf.slice,goInt],.int _ _⟩
theorem zaE [Tracks] {α:Type} {x:Operand} {t el:TypeId} {size bytes:Nat} {zero:Value} {sz:Nat} {f:α->HVal} {l:List α} (hf:Fits P t (.slice el) size bytes zero) (hx:zh e x=some (.slice sz (l.map f))):
 POp P e ⟨dst,.call ⟨.builtin .len,#[x],#[t]⟩,ty,pos,af,g⟩ (.int .i64 l.length):=by
 have:=zFe (P:=P) (dst:=dst) (ty:=ty) (pos:=pos) (af:=af) (g:=g) hf hx
 rwa [Af] at this
theorem zfh [Tracks] {x:Operand} {t el:TypeId} {size bytes:Nat} {zero:Value} {b:Option Addr} {n cap:Nat} (hf:Fits P t (.slice el) size bytes zero) (hx:zh e x=some (.raw (.slice b n cap))):
 POp P e ⟨dst,.call ⟨.builtin .len,#[x],#[t]⟩,ty,pos,af,g⟩ (.int .i64 n):=
 zF fun I a w ho=>by
  have h1:=(ho.one (x:=x) (by simp [Op.operands,Call.operands]) hx).raw_inv;exact ⟨_,by rw [znl (ats:= #[])];simp [h1,Builtin.len_,run_underlying hf.slice,goInt],.int _ _⟩
theorem zCR [Tracks] {x:Operand} {t:TypeId} {size bytes:Nat} {zero:Value} {s:List UInt8} (hf:Fits P t .str size bytes zero) (hx:zh e x=some (.str s)):
 POp P e ⟨dst,.call ⟨.builtin .len,#[x],#[t]⟩,ty,pos,af,g⟩ (.int .i64 s.length):=
 zF fun I a w ho=>by
  have h1:=(ho.one (x:=x) (by simp [Op.operands,Call.operands]) hx).str_inv;exact ⟨_,by rw [znl (ats:= #[])];simp [h1,Builtin.len_,run_underlying hf.strD,goInt,zGC],.int _ _⟩
theorem zGm {b:Builtin} {xs:Array Operand} {ats:Array TypeId} {ρ:Operand->Value} (w:World) (hb:b= .min\/b= .max):
 (execOp ρ ⟨dst,.call ⟨.builtin b,xs,ats⟩,ty,pos,af,g⟩).run P w=((if b= .min then Builtin.min_ ats ty (xs.map ρ) else Builtin.max_ ats ty (xs.map ρ)).run P w).andThen (fun v w=> .ok (.value v) w):=by
 rcases hb with rfl|rfl<;>simp [execOp,resolve,invoke,builtin]
theorem zqD [Tracks] {x y:Operand} {ats:Array TypeId} {k:IntKind} {m n:Int} (hx:zh e x=some (.int k m)) (hy:zh e y=some (.int k n)):
 POp P e ⟨dst,.call ⟨.builtin .max,#[x,y],ats⟩,ty,pos,af,g⟩ (.int k (if n>m then n else m)):=
 zF fun I a w ho=>by
  have h1:=(ho.one (x:=x) (by simp [Op.operands,Call.operands]) hx).int_inv;have h2:=(ho.one (x:=y) (by simp [Op.operands,Call.operands]) hy).int_inv;exact ⟨_,by rw [zGm w (.inr rfl)];simp [h1,h2,Builtin.max_,Builtin.max2],.int _ _⟩
/-! slicing-/
def zb8 (e:Env) (x:Option Operand) (dflt n:Nat):Prop:=
 match x with
 |none=>n=dflt
 |some o=> ∃k i,zh e o=some (.int k i)/\i=(n:Int)
theorem zc5 {k:IntKind} {n y:Nat} (h:n<=y) (code:BoundsCode) (w:World):(Instr.sliceBound (.int k (n:Int)) y code).run P w= .ok n w:=by
 have h1:(0:Int)<=(n:Int)/\(n:Int)<=(y:Int):=by omega
 simp [Instr.sliceBound,asIntOf,h1]
theorem zkI [Tracks] {I:Imm} {a:Act} {o:Oper} (ho:Opds I e a o) {lo hi:Option Operand} (hlo: ∀x,lo=some x->x∈o.op.operands) (hhi: ∀x,hi=some x->x∈o.op.operands)
 {len cap l h:Nat} (h1:zb8 e lo 0 l) (h2:zb8 e hi len h) (h3:l<=h) (h4:h<=len) (h5:len<=cap) (b:Bool) (w:World):
 (Instr.sliceBounds b len cap (lo.map a.eval) (hi.map a.eval) none).run P w= .ok (l,h,cap) w:=by
 unfold Instr.sliceBounds
 cases lo with
 |none=>
   simp only [zb8] at h1;subst h1
   cases hi with
   |none=>simp only [zb8] at h2;subst h2;simp
   |some y=>
     obtain ⟨k,i,h6,rfl⟩:=h2;have h7:=(ho.one (hhi y rfl) h6).int_inv
     simp [h7,zc5 (An h4 h5)]
 |some x=>
   obtain ⟨k',i',h8,rfl⟩:=h1;have h9:=(ho.one (hlo x rfl) h8).int_inv
   cases hi with
   |none=>simp only [zb8] at h2;subst h2;simp [h9,zc5 h3]
   |some y=>
     obtain ⟨k,i,h6,rfl⟩:=h2;have h7:=(ho.one (hhi y rfl) h6).int_inv
     simp [h7,h9,zc5 (An h4 h5),zc5 h3]
theorem V.slice_sub [Tracks] {I:Imm} {sz:Nat} {es:List HVal} {v:Value} (hv:V I (.slice sz es) v) {l h:Nat} (h1:l<=h) (h2:h<=es.length):
 ∃a cap,v= .slice a es.length cap/\es.length<=max cap es.length/\(es.length<=cap\/es=[])/\V I (.slice sz ((es.take h).drop l)) (.slice (if cap=l then a else a.map (·.add (l*sz))) (h-l) (cap-l)):=by
 rcases hv.slice_inv with ⟨rfl,a,cap,rfl⟩|⟨b,off,cap,rc,el,fr,rfl,h3,h4,h5,h6,h7⟩
 simp at h2
 obtain rfl:h=0:=h2;obtain rfl:l=0:=by omega
 exact ⟨a,cap,rfl,by simp,.inr rfl,by simpa using V.slice0 sz _ cap⟩;refine ⟨_,cap,rfl,by omega,.inl h5,?_⟩
 have hl:((es.take h).drop l).length=h-l:=by simp;omega
 by_cases hlh:h=l
 subst hlh;have:(es.take h).drop h=[]:=by simp
 rw [this,CH];exact .slice0 _ _ _;rw [if_neg (by omega)];simp only [AI,zem];rw [<-hl];refine .slice h3 (fun x hx=>h4 x (AS (List.mem_of_mem_drop hx))) (by omega) ?_ fun i j x c v h8 h9 h10=> ?_
 rw [hl];have:(l+(h-l))*sz<=es.length*sz:=AB _ (by omega);rw [AT] at this
 omega
 rw [AL,Bq] at h8
 split at h8
 refine h7 (l+i) j x c v h8 h9 ?_;rw [AT,<-Bc];exact h10
 simp at h8
theorem zBq [Tracks] {x:Operand} {lo hi:Option Operand} {t el:TypeId} {size bytes sz b2:Nat} {zero z2:Value} {d:TD} {es:List HVal} {l h:Nat}
 (hf:Fits P t (.slice el) size bytes zero) (hel:Fits P el d sz b2 z2) (hx:zh e x=some (.slice sz es)) (h1:zb8 e lo 0 l) (h2:zb8 e hi es.length h) (h3:l<=h) (h4:h<=es.length):
 POp P e ⟨dst,.slice t x lo hi none,ty,pos,af,g⟩ (.slice sz ((es.take h).drop l)):=
 zF fun I a w ho=>by
  have hv:=ho.one (x:=x) (by simp [Op.operands]) hx;obtain ⟨p,cap,h5,_,h6,h7⟩:=hv.slice_sub h3 h4;refine ⟨_,?_,h7⟩
  have hb:(Instr.sliceBounds true es.length cap (lo.map a.eval) (hi.map a.eval) none).run P w= .ok (l,h,cap) w:=by
   rcases h6 with h6|h6
   exact zkI ho (by intro y hy;simp [Op.operands,hy]) (by intro y hy;simp [Op.operands,hy]) h1 h2 h3 h4 h6 true w;subst h6
   simp at h4
   subst h4;obtain rfl:l=0:=by omega
   exact zkI ho (by intro y hy;simp [Op.operands,hy]) (by intro y hy;simp [Op.operands,hy]) h1 h2 (Ae _) (Ad _) (Ad _) true w
  simp [execOp,Instr.sliceAt,run_underlying hf.slice,h5,Instr.slice,hb,hel.run_sizeOf]
theorem zbC [Tracks] {α:Type} {x:Operand} {lo hi:Option Operand} {t el:TypeId} {size bytes sz b2:Nat} {zero z2:Value} {d:TD} {f:α->HVal} {es:List α} {l h:Nat}
 (hf:Fits P t (.slice el) size bytes zero) (hel:Fits P el d sz b2 z2) (hx:zh e x=some (.slice sz (es.map f))) (h1:zb8 e lo 0 l) (h2:zb8 e hi es.length h) (h3:l<=h) (h4:h<=es.length):
 POp P e ⟨dst,.slice t x lo hi none,ty,pos,af,g⟩ (.slice sz (((es.take h).drop l).map f)):=by
 have:=zBq (P:=P) (dst:=dst) (ty:=ty) (pos:=pos) (af:=af) (g:=g) hf hel hx h1 (by rw [Af];exact h2) h3 (by rw [Af];exact h4)
 rwa [<-BR,<-List.map_drop] at this
theorem zzw (s:List UInt8) (l h:Nat):(⟨s.toArray⟩:ByteArray).extract l h=⟨((s.take h).drop l).toArray⟩:=by
 apply ByteArray.ext
 simp [ByteArray.data_extract,List.extract_eq_take_drop,List.drop_take]
theorem ziO [Tracks] {x:Operand} {lo hi:Option Operand} {t:TypeId} {size bytes:Nat} {zero:Value} {s:List UInt8} {l h:Nat}
 (hf:Fits P t .str size bytes zero) (hx:zh e x=some (.str s)) (h1:zb8 e lo 0 l) (h2:zb8 e hi s.length h) (h3:l<=h) (h4:h<=s.length):
 POp P e ⟨dst,.slice t x lo hi none,ty,pos,af,g⟩ (.str ((s.take h).drop l)):=
 zF fun I a w ho=>by
  have hv:=(ho.one (x:=x) (by simp [Op.operands]) hx).str_inv;refine ⟨.string ⟨((s.take h).drop l).toArray⟩,?_,.str _⟩
  have hb:=zkI (P:=P) ho (by intro y hy;simp [Op.operands,hy]) (by intro y hy;simp [Op.operands,hy]) h1 h2 h3 h4 (Ae _) false w;have hsz:(⟨s.toArray⟩:ByteArray).size=s.length:=by simp [ByteArray.size]
  simp [execOp,Instr.sliceAt,run_underlying hf.strD,hv,Instr.slice,hsz,hb,zzw]
/-! new immutable memory-/
theorem zFa [Tracks] {x:Operand} {t:TypeId} {h:HVal} (hx:zh e x=some h) (hj:zgY h=true):POp P e ⟨dst,.box t x,ty,pos,af,g⟩ (.vptr (zb h) 0):=
 POp.of_run fun I F a w ho hs=>by
  have hv:=ho.one (x:=x) (by simp [Op.operands]) hx;obtain ⟨h1,h2⟩:=hs.new_imm (.cells (a.eval x).cells t (0,0));refine ⟨.pointer (some ⟨w.heap.size,0,none⟩),_,_,by simp [execOp,Instr.box,newVar,newRow],h1,?_,h2⟩
  have h3:=(hv.mono h1).cells hj;refine .vptr (base:=0) (off:=0) ziy (by have:=h3.1;simp at this;omega) fun j c v h4 h5=>h3.2 j c v h4 (by simpa using h5)
def Places (P:Program):List (Nat×Nat)->List (Nat×Nat)->Prop
 |[],[]=>True
 |f::r,p::r'=>f.1=p.1/\(∃d b z,Fits P f.2 d p.2 b z)/\Places P r r'
 |_,_=>False
theorem zsW [Tracks] (w:World): ∀(fs:List Field) (places:List (Nat×Nat)),Places P (fs.map fun f=>(f.offset,f.type)) places->
 (fs.mapM (fun f=>do pure (f.offset,<-sizeOf f.type):Field->Sem (Nat×Nat))).run P w= .ok places w
 |[],[],_=>by simp
 |[],_::_,h=>h.elim
 |_::_,[],h=>h.elim
 |f::r,(o,s)::r',h=>by
   obtain ⟨h1,⟨d,b,z,h2⟩,h3⟩:=h;simp only at h1 h2;subst h1;simp only [List.mapM_cons,Sem.run_bind,h2.run_sizeOf,Result.andThen_ok,Sem.run_pure,zsW w r r' h3]
theorem zC [Tracks] {t:TypeId} {fs:List (Nat×Nat)} {size bytes:Nat} {zs:Array Value} {parts:Array (Nat×Operand)} {places:List (Nat×Nat)} {cs:List HVal}
 (hf:Fits P t (.struct fs) size bytes (.agg zs)) (hp:Places P fs places)
 (hr:zhc e places (zs.toList.map zbw) parts.toList=some cs):POp P e ⟨dst,.build t parts,ty,pos,af,g⟩ (.agg cs):=
 zF fun I a w ho=>by
  obtain ⟨gs,h1,h2⟩:=hf.structD;have hz:VL I (zs.toList.map zbw) zs.toList:=⟨by simp,fun j c v h3 h4=>by
   rw [Aj,h4] at h3;simp at h3;subst h3;exact zrg I v⟩
  obtain ⟨rc,h3,h4⟩:=zun (I:=I) (e:=e) (f:=a.eval) parts.toList _ _ zs hr (fun x hx h hh=>ho.one (by simpa [Op.operands] using hx) hh) hz;refine ⟨.agg rc,?_,znr h4⟩
  have hpl:(gs.mapM (fun f=>do pure (f.offset,<-sizeOf f.type):Field->Sem (Nat×Nat))).run P w= .ok places.toArray w:=by
   rw [BU];simp only [Sem.run_map];rw [zsW w gs.toList places (by rw [h2];exact hp)]
   rfl
  have hfill:Instr.fill (fun x=>places.toArray[x]?) zs (parts.map fun x=>(x.1,a.eval x.2)).toList=some rc:=by
   simpa using h3
  simp only [execOp,Instr.build,Sem.run_bind,hf.run_zero,Result.andThen_ok,run_underlying h1,hpl,Value.cells,hfill,Sem.run_pure]
def zni (e:Env) (sz:Nat):Nat->List (Nat×Operand)->Option (List HVal)
 |_,[]=>some []
 |k,(i,x)::r=>
   match Nat.beq i k,zh e x,zni e sz (k+1) r with
   |true,some h,some l=>match zeA sz h with
     |true=>some (h::l)
     |false=>none
   |_,_,_=>none
theorem zsM [Tracks] {I:Imm} {sz:Nat} {f:Operand->Value}: ∀(parts:List (Nat×Operand)) (k:Nat) (hs:List HVal) (rc:Array Value),zni e sz k parts=some hs->
 (∀x∈parts.map (·.2),∀h,zh e x=some h->V I h (f x))->rc.size=(k+parts.length)*sz->
 ∃rc',Instr.fill (fun i=>some (i*sz,sz)) rc (parts.map fun p=>(p.1,f p.2))=some rc'/\rc'.size=rc.size/\(∀x,x<k*sz->rc'[x]? =rc[x]?)/\
  hs.length=parts.length/\(∀h∈hs,(zb h).length=sz)/\∀(i j:Nat) (h c:HVal) (v:Value),hs[i]? =some h->(zb h)[j]? =some c->rc'[(k+i)*sz+j]? =some v->V I c v
 |[],k,hs,rc,h,_,hsz=>by
   simp [zni] at h;subst h
   exact ⟨rc,rfl,rfl,fun _ _=>rfl,rfl,by simp,fun i j h c v h1=>by simp at h1⟩
 |(i,x)::r,k,hs,rc,h,hv,hsz=>by
   simp only [zni] at h
   cases h1:Nat.beq i k with
   |false=>rw [h1] at h;simp at h
   |true=>
     cases h2:zh e x with
     |none=>rw [h1,h2] at h;simp at h
     |some y=>
       cases h3:zni e sz (k+1) r with
       |none=>rw [h1,h2,h3] at h;simp at h
       |some l=>
         rw [h1,h2,h3] at h;simp only at h
         cases h4:zeA sz y with
         |false=>rw [h4] at h;simp at h
         |true=>
           rw [h4] at h
           simp at h
           subst h;obtain rfl:i=k:=BF h1;obtain ⟨h5,h6⟩:=(hv x (by simp) y h2).cells_size h4;obtain ⟨h7,_⟩:=zeB h4;simp only [Ah] at hsz;have hroom:i*sz+sz<=rc.size:=by
            rw [hsz,<-Nat.succ_mul];exact AB _ (by omega)
           have hfold:=zpF (i*sz) (f x).cells.toList 0 rc;rw [<-zre] at hfold;obtain ⟨g1,g2⟩:=hfold;obtain ⟨rc',a1,a2,a3,a4,a5,a6⟩:=zsM r (i+1) l _ h3 (fun z hz=>hv z (by simp at hz⊢;exact .inr hz)) (by rw [g1,hsz];congr 1;omega);refine ⟨rc',?_,by rw [a2,g1],fun z hz=> ?_,by simp [a4],fun z hz=> ?_,fun i' j' h' c' v' b1 b2 b3=> ?_⟩
           simp only [Ao,Instr.fill];rw [if_neg (by simp [h5];omega)];exact a1;have hlt:i*sz<=(i+1)*sz:=AB _ (by omega);rw [a3 z (by omega),g2 z,if_neg (by omega)]
           rcases List.mem_cons.1 hz with rfl|hz
           exact h7;exact a5 z hz
           cases i' with
           |zero=>
             simp at b1
             subst b1;have hj:j'<sz:=by have:=zn b2;omega
             have e1:(i+1)*sz=i*sz+sz:=Nat.succ_mul _ _;rw [BZ,a3 _ (by omega),g2] at b3;simp only [AM,h5] at b3;rw [if_pos (by omega)] at b3;have e2:i*sz+j'-i*sz-0=j':=by omega
             rw [e2] at b3;exact h6.2 j' c' v' b2 b3
           |succ i'=>
             refine a6 i' j' h' c' v' (by simpa using b1) b2 ?_;have:i+1+i'=i+(i'+1):=by omega
             rw [this];exact b3
theorem za [Tracks] {t el:TypeId} {size bytes sz b2 n:Nat} {zero z2:Value} {d:TD} {parts:Array (Nat×Operand)} {hs:List HVal}
 (hf:Fits P t (.slice el) size bytes zero) (hel:Fits P el d sz b2 z2) (hz:z2.cells.size=sz) (hn:parts.toList.length=n) (hsz:n*sz<=16777216) (h0:n*sz≠0)
 (hr:zni e sz 0 parts.toList=some hs):POp P e ⟨dst,.buildSlice t n parts,ty,pos,af,g⟩ (.slice sz hs):=
 POp.of_run fun I F a w ho hs'=>by
  let zr:Array Value:=(Array.range (n*sz)).map (z2.cells[· %z2.cells.size]!)
  obtain ⟨rc,h1,h2,h3,h4,h5,h6⟩:=zsM (I:=I) (f:=a.eval) parts.toList 0 hs zr hr (fun x hx h hh=>ho.one (by simpa [Op.operands] using hx) hh) (by simp [zr,hn]);obtain ⟨g1,g2⟩:=hs'.new_imm (.cells rc el (0,0));refine ⟨.slice (some ⟨w.heap.size,0,none⟩) n n,_,_,?_,g1,?_,g2⟩
  have hp:(parts.map fun x=>(x.1,a.eval x.2)).toList=parts.toList.map fun p=>(p.1,a.eval p.2):=by simp
  have hle: ¬n*sz>2^24:=by omega
  simp only [execOp,Instr.buildSlice,Sem.run_bind,run_underlying hf.slice,Result.andThen_ok,hel.run_sizeOf];rw [if_neg hle];simp only [Sem.run_pure,Result.andThen_ok];rw [if_neg h0];simp only [Sem.run_bind,hel.run_zero,Result.andThen_ok,Sem.run_pure,hp];have h1':Instr.fill (fun i=>some (i*sz,sz)) ((Array.range (n*sz)).map fun x=>z2.cells[x%z2.cells.size]!) (parts.toList.map fun p=>(p.1,a.eval p.2))=some rc:=h1;rw [h1']
  simp [newRow]
  have hl:hs.length=n:=by omega
  have hv:V (I.add w.heap.size (.cells rc el (0,0))) (.slice sz hs) (.slice (some ⟨w.heap.size,0,none⟩) hs.length n):=
   .slice ziy h5 (by omega) (by rw [h2];simp [zr,hl]) fun i j x c v b1 b2 b3=>(h6 i j x c v b1 b2 (by simpa using b3)).mono g1
  rwa [hl] at hv
/-! functions,interfaces,pointers-/
theorem zw4 [Tracks] {f:Fn} {fst cap:Array Operand} {h1 h2:List HVal} (hf:zdE e fst.toList=some h1) (hc:zdE e cap.toList=some h2):
 POp P e ⟨dst,.makeFunc f fst cap,ty,pos,af,g⟩ (.fn f h1 h2):=
 zF fun I a w ho=>⟨_,rfl,by
  have v1:=zjd (I:=I) (f:=a.eval) _ _ hf fun x hx h hh=>ho.one (by simp only [Op.operands];exact Array.mem_append_left _ (by simpa using hx)) hh
  have v2:=zjd (I:=I) (f:=a.eval) _ _ hc fun x hx h hh=>ho.one (by simp only [Op.operands];exact BO _ (by simpa using hx)) hh
  exact .fn (by simpa using v1.1) (by simpa using v2.1) (fun j c v b1 b2=>v1.2 j c v b1 (by simpa using b2)) (fun j c v b1 b2=>v2.2 j c v b1 (by simpa using b2))⟩
theorem zL [Tracks] {x:Operand} {cs:List HVal} {off:Nat} (hx:zh e x=some (.vptr cs off)):POp P e ⟨dst,.nilCheck x,ty,pos,af,g⟩ (.vptr cs off):=
 zF fun I a w ho=>by
  have hv:=ho.one (x:=x) (by simp [Op.operands]) hx;obtain ⟨b,base,rc,el,fr,h1,_⟩:=hv.vptr_inv;exact ⟨a.eval x,by simp [execOp,h1],hv⟩
theorem zx [Tracks] {x:Operand} {p:Addr} (hx:zh e x=some (.raw (.pointer (some p)))):POp P e ⟨dst,.nilCheck x,ty,pos,af,g⟩ (.raw (.pointer (some p))):=
 zF fun I a w ho=>by
  have hv:=ho.one (x:=x) (by simp [Op.operands]) hx;exact ⟨a.eval x,by simp [execOp,hv.raw_inv],hv⟩
end
/-! calls-/
structure Callable (P:Program) (f:FuncId):Prop where
 h: ∃fn,P.funcs[f]? =some fn/\(fn.name== "runtime.NumGoroutine")=false/\fn.body.isNone=false
theorem zgW {P:Program} {f:FuncId} (hc:Callable P f) (args:Array Value) (w:World):(callFunc f args).run P w= .ok (.enter f args) w:=by
 obtain ⟨fn,h1,h2,h3⟩:=hc.h;simp only [callFunc,Sem.run_bind,run_program,Result.andThen_ok,h1,h2,h3,AU,if_false,Sem.run_pure]
section
variable {P:Program} {e:Env} {dst:Option Tmp} {ty:TypeId} {pos:String} {af:Array Edge} {g:Option (Nat×Bool)}
theorem zrz [Tracks] {f:FuncId} {args:Array Operand} {ats:Array TypeId} {hs hs':List HVal} {M:List MObj} {Q:HVal->List MObj->Prop} (hc:Callable P f) (ha:zdE e args.toList=some hs)
 (hw:WeakL hs hs') (h:Con P f hs' M Q):EOp P e M ⟨dst,.call ⟨.value (.func f),args,ats⟩,ty,pos,af,g⟩ Q:=fun I F a w ho hs=>by
 have hrun:(execOp a.eval ⟨dst,.call ⟨.value (.func f),args,ats⟩,ty,pos,af,g⟩).run P w= .ok (.enter f (args.toList.map a.eval).toArray) w:=by
  simp [execOp,resolve,Act.eval,Deferred.ofValue,invoke,zgW hc]
  apply CE;simp
 have hv:=zjd (I:=I) (f:=a.eval) _ _ ha fun x hx h hh=>ho.one (by simp only [Op.operands,Call.operands];exact BO _ (by simpa using hx)) hh
 simp only [Oper.wp,hrun,Oper.upon];refine (h I F w _ (hw.vl hv) hs).mono ?_;rintro x w' ⟨v,y,M',J,rfl,h1,h2,h3,h4⟩;exact ⟨v,y,M',J,rfl,h1,h2,h3,h4⟩
theorem zAN [Tracks] {x:Operand} {f:FuncId} {fst cap:List HVal} {args:Array Operand} {ats:Array TypeId} {hs hs':List HVal} {M:List MObj} {Q:HVal->List MObj->Prop} (hc:Callable P f)
 (hx:zh e x=some (.fn (.func f) fst cap)) (ha:zdE e args.toList=some hs) (hw:WeakL (fst++hs++cap) hs') (h:Con P f hs' M Q):
 EOp P e M ⟨dst,.call ⟨.value x,args,ats⟩,ty,pos,af,g⟩ Q:=fun I F a w ho hs=>by
 obtain ⟨v1,v2,h1,h2,h3⟩:=(ho.one (x:=x) (by simp [Op.operands,Call.operands]) hx).fn_inv;have hrun:(execOp a.eval ⟨dst,.call ⟨.value x,args,ats⟩,ty,pos,af,g⟩).run P w= .ok (.enter f (v1.toList++args.toList.map a.eval++v2.toList).toArray) w:=by
  have:(v1.toList++args.toList.map a.eval++v2.toList).toArray=v1++args.map a.eval++v2:=by apply CE;simp
  rw [this]
  simp [execOp,resolve,h1,Deferred.ofValue,invoke,zgW hc]
 have hv:=zjd (I:=I) (f:=a.eval) _ _ ha fun x hx h hh=>ho.one (by simp only [Op.operands,Call.operands];exact BO _ (by simpa using hx)) hh
 simp only [Oper.wp,hrun,Oper.upon];refine (h I F w _ (hw.vl ((h2.append hv).append h3)) hs).mono ?_;rintro x w' ⟨v,y,M',J,rfl,h1,h2,h3,h4⟩;exact ⟨v,y,M',J,rfl,h1,h2,h3,h4⟩
theorem zsQ [Tracks] {o:Oper} {h:HVal} (hp:EOp P e [] o fun x M'=>x=h/\M'=[]):POp P e o h:=fun I F a w ho hs=>
 zbh (fun _ _ ⟨v,x,M',J,h1,h2,⟨h3,h4⟩,h5,h6⟩=>⟨v,J,h1,h2,h3▸h5,by subst h4;exact h6⟩) (hp I F a w ho hs)
theorem zeD [Tracks] {f:FuncId} {args:Array Operand} {ats:Array TypeId} {hs hs':List HVal} {h:HVal} (hc:Callable P f) (ha:zdE e args.toList=some hs)
 (hw:WeakL hs hs') (hp:ConP P f hs' h):POp P e ⟨dst,.call ⟨.value (.func f),args,ats⟩,ty,pos,af,g⟩ h:=zsQ (zrz hc ha hw hp)
theorem zag [Tracks] {x:Operand} {f:FuncId} {fst cap:List HVal} {args:Array Operand} {ats:Array TypeId} {hs hs':List HVal} {h:HVal} (hc:Callable P f)
 (hx:zh e x=some (.fn (.func f) fst cap)) (ha:zdE e args.toList=some hs) (hw:WeakL (fst++hs++cap) hs') (hp:ConP P f hs' h):
 POp P e ⟨dst,.call ⟨.value x,args,ats⟩,ty,pos,af,g⟩ h:=zsQ (zAN hc hx ha hw hp)
end
end
section
variable {P:Program}
theorem zuQ {α:Type}: ∀{M:List α} {i:Nat} {m:α},M[i]? =some m->M.Perm (m::M.eraseIdx i)
 |[],i,m,h=>by simp at h
 |x::r,0,m,h=>by simp at h;subst h;simp
 |x::r,i+1,m,h=>by
   simp at h
   have:=zuQ (M:=r) h;simp only [Cq];exact (this.cons x).trans (List.Perm.swap _ _ _)
theorem zw1 {α:Type}: ∀{M:List α} {i:Nat} {m:α} (m':α),M[i]? =some m->(M.set i m').Perm (m'::M.eraseIdx i)
 |[],i,m,m',h=>by simp at h
 |x::r,0,m,m',h=>by simp
 |x::r,i+1,m,m',h=>by
   simp at h
   have:=zw1 (M:=r) m' h;simp only [Cn,Cq];exact (this.cons x).trans (List.Perm.swap _ _ _)
theorem Sat.pull [Tracks] {I:Imm} {M F:List MObj} {w:World} (h:Sat P I (M++F) w) {i:Nat} {m:MObj} (hi:M[i]? =some m):Sat P I (m::(M.eraseIdx i++F)) w:=
 h.perm (by have:=(zuQ hi).append_right F;simpa using this)
theorem zcc [Tracks] {I:Imm} {M F:List MObj} {w:World} {i:Nat} {m m':MObj} (hi:M[i]? =some m) (h:Sat P I (m'::(M.eraseIdx i++F)) w):Sat P I (M.set i m'++F) w:=
 h.perm (by have:=((zw1 m' hi).append_right F).symm;simpa using this)
theorem zfA [Tracks] {P:Program} (b:Nat) (el:TypeId) (fr:Nat×Nat) (off:Nat): ∀(vs:List Value) (i:Nat) (w:World) (rc:Array Value),w.heap[b]? =some (.cells rc el fr)->Free fr rc.size->
 (∀v∈vs,v.oneCell'=true)->off+i+vs.length<=rc.size->
 ∃w' rc',(storeCells ⟨b,off,none⟩ vs i).run P w= .ok () w'/\w'.heap[b]? =some (.cells rc' el fr)/\rc'.size=rc.size/\
  (∀x,rc'[x]? =if off+i<=x/\x<off+i+vs.length then vs[x-off-i]? else rc[x]?)/\(∀k,k≠b->w'.heap[k]? =w.heap[k]?)/\w'.heap.size=w.heap.size/\
  w'.os=w.os/\w'.output=w.output/\(w'.tape=w.tape/\w'.drawn=w.drawn)
 |[],i,w,rc,hw,_,_,_=>⟨w,rc,by simp [storeCells],hw,rfl,fun x=>by rw [if_neg (by simp)],fun _ _=>rfl,rfl,rfl,rfl,rfl,rfl⟩
 |v::vs,i,w,rc,hw,hf,ho,hle=>by
   simp only [Ah] at hle;have hc:w.cell? ⟨b,off+i,none⟩=some rc[off+i]:=by rw [zcu hw];exact Aq (by omega)
   have hz:w.frozen? ⟨b,off+i,none⟩=false:=by
    have:=hf (off+i) (by omega);simp only [World.frozen?,hw]
    cases h:(decide (fr.1<=off+i)&&decide (off+i<fr.2)) with
    |false=>rfl
    |true=>simp at h;exact absurd h this
   have ztJ:(w.setCell ⟨b,off+i,none⟩ v).heap[b]? =some (.cells (rc.setIfInBounds (off+i) v) el fr):=by
    simp [World.setCell,AG,hw]
   obtain ⟨w',rc',h1,h2,h3,h4,h5,h6,h7,h8,h9⟩:=zfA (P:=P) b el fr off vs (i+1) (w.setCell ⟨b,off+i,none⟩ v) (rc.setIfInBounds (off+i) v) ztJ (by simpa using hf)
    (fun x hx=>ho x (by simp [hx])) (by simp;omega)
   refine ⟨w',rc',?_,h2,by rw [h3];simp,fun x=> ?_,fun k hk=> ?_,by rw [h6];simp [World.setCell],by rw [h7];rfl,by rw [h8];rfl,by rw [h9.1];rfl,by rw [h9.2];rfl⟩
   have hst:(store ((⟨b,off,none⟩:Addr).add i) v).run P w= .ok () (w.setCell ⟨b,off+i,none⟩ v):=by
    rw [zem];rw [run_store P w _ v _ (ho v (by simp))]
    simp [hc,hz]
   simp only [storeCells,Sem.run_bind,hst,Result.andThen_ok];exact h1;rw [h4 x];simp only [Ah]
   by_cases e1:x=off+i
   subst e1;rw [if_neg (by omega),if_pos (by omega)];have:off+i-off-i=0:=by omega
   rw [this,Array.getElem?_setIfInBounds_self_of_lt (by omega)]
   rfl
   by_cases e2:off+(i+1)<=x/\x<off+(i+1)+vs.length
   rw [if_pos e2,if_pos (by omega)];have:x-off-i=(x-off-(i+1))+1:=by omega
   rw [this,AN];rw [if_neg e2,if_neg (by omega),AJ (by omega)];rw [h5 k hk]
   simp [World.setCell,AG]
   intro h;exact absurd h.symm hk
def zan:List HVal->Bool
 |[]=>true
 | .agg _::_=>false
 | .junk::_=>false
 | .opt _ _::_=>false
 | .tup _::_=>false
 |_::r=>zan r
theorem zn3 [Tracks] {I:Imm}: ∀{cs:List HVal} {vs:List Value},VL I cs vs->zan cs=true->∀v∈vs,v.oneCell'=true
 |[],[],_,_,v,hv=>by simp at hv
 |[],_::_,h,_,v,hv=>by have:=h.1;simp at this
 |_::_,[],h,_,v,hv=>by simp at hv
 |c::cs,u::vs,h,hf,v,hv=>by
   have h1:=h.head;have hr:zan cs=true:=by cases c<;>simp [zan] at hf<;>exact hf
   rcases List.mem_cons.1 hv with rfl|hv
   cases h1<;>focus first|rfl|assumption|(simp [zan] at hf;done)
   exact zn3 h.tail hr v hv
section
variable {P:Program} {e:Env} {dst:Option Tmp} {ty:TypeId} {pos:String} {af:Array Edge} {g:Option (Nat×Bool)} {M:List MObj} {K:HVal->List MObj->Prop}
theorem zg [Tracks] {t:TypeId} {d:TD} {size bytes:Nat} {zero:Value} (hf:Fits P t d size bytes zero) (hz:zgY (zaT zero)=true)
 (hk: ∀b,K (.raw (.pointer (some ⟨b,0,none⟩))) (.cells b (zb (zaT zero))::M)):EOp P e M ⟨dst,.alloc t,ty,pos,af,g⟩ K:=
 EOp.of_run fun I F a w ho hs=>by
  refine ⟨.pointer (some ⟨w.heap.size,0,none⟩),_,_,push w (.cells zero.cells t (0,0)),I,?_,.refl I,hk w.heap.size,.raw _ rfl,?_⟩
  simp [execOp,Instr.alloc,hf.run_zero,newVar,newRow]
  refine hs.new_own _ _ rfl ?_;exact ⟨zero.cells,t,(0,0),by simp [push],Free.zero _,(zg4 I zero).cells hz⟩
theorem ztG [Tracks] {x:Operand} {t:TypeId} {h:HVal} (hx:zh e x=some h) (hj:zgY h=true)
 (hk: ∀b,K (.raw (.pointer (some ⟨b,0,none⟩))) (.cells b (zb h)::M)):EOp P e M ⟨dst,.box t x,ty,pos,af,g⟩ K:=
 EOp.of_run fun I F a w ho hs=>by
  have hv:=ho.one (x:=x) (by simp [Op.operands]) hx;refine ⟨.pointer (some ⟨w.heap.size,0,none⟩),_,_,push w (.cells (a.eval x).cells t (0,0)),I,?_,.refl I,hk w.heap.size,.raw _ rfl,?_⟩
  simp [execOp,Instr.box,newVar,newRow]
  refine hs.new_own _ _ rfl ?_;exact ⟨_,t,(0,0),by simp [push],Free.zero _,hv.cells hj⟩
theorem zV [Tracks] {x:Operand} {t:TypeId} {d:TD} {size bytes:Nat} {zero:Value} {i b off:Nat} {cs:List HVal} {h:HVal} (hf:Fits P t d size bytes zero)
 (hx:zh e x=some (.raw (.pointer (some ⟨b,off,none⟩)))) (hm:M[i]? =some (.cells b cs)) (hh:(d.isAgg=false/\cs[off]? =some h)\/(d.isAgg=true/\off+size<=cs.length/\h= .agg ((cs.drop off).take size)))
 (hk:K h M):EOp P e M ⟨dst,.load t x,ty,pos,af,g⟩ K:=
 EOp.of_run fun I F a w ho hs=>by
  have h1:=(ho.one (x:=x) (by simp [Op.operands]) hx).raw_inv;obtain ⟨rc,el,fr,h2,h3,h4⟩:=hs.obj (.cells b cs) (Ap _ (Ab hm));obtain ⟨v,h5,h6⟩:=zhD (I:=I) (o:=off) hf h2 (base:=0) (by simp) (by have:=h4.1;simp at this;omega) (fun j c v a1 a2=>h4.2 j c v a1 (by simpa using a2)) hh;exact ⟨v,h,M,w,I,by simp [execOp,h1,Instr.loadAt,Instr.sureAddr,h5],.refl I,hk,h6,hs⟩
theorem zfI [Tracks] {x y:Operand} {t:TypeId} {d:TD} {size bytes:Nat} {zero:Value} {i b off:Nat} {cs:List HVal} {h:HVal} (hf:Fits P t d size bytes zero)
 (hx:zh e x=some (.raw (.pointer (some ⟨b,off,none⟩)))) (hy:zh e y=some h) (hm:M[i]? =some (.cells b cs)) (ho:zeA size h=true) (hfl:zan (zb h)=true) (hle:off+size<=cs.length)
 (hk:K .junk (M.set i (.cells b (zaO cs off (zb h))))):EOp P e M ⟨dst,.store t x y,ty,pos,af,g⟩ K:=
 zhw fun I F a w hop hs=>by
  have h1:=(hop.one (x:=x) (by simp [Op.operands]) hx).raw_inv;obtain ⟨h2,h3⟩:=(hop.one (x:=y) (by simp [Op.operands]) hy).cells_size ho;obtain ⟨h0,_⟩:=zeB ho;have hp:=hs.pull hm;obtain ⟨rc,el,fr,h4,h5,h6⟩:=hp.obj _ (Ai);have hl6:=h6.1;simp only [AM] at hl6;obtain ⟨w',rc',g1,g2,g3,g4,g5,g6,g7,g8,g9⟩:=zfA (P:=P) b el fr off (a.eval y).cells.toList 0 w rc h4 h5 (zn3 h3 hfl) (by simp;omega);refine ⟨_,w',I,?_,.refl I,hk,?_⟩
  simp only [execOp,h1,Instr.storeAt,Instr.sureAddr,Sem.run_bind,Sem.run_pure,Result.andThen_ok,storeVar,hf.run_sizeOf];rw [if_neg (by simp [h2])];simp only [Sem.run_pure,Result.andThen_ok,g1];refine zcc hm (hp.change (m':= .cells b (zaO cs off (zb h))) (fun k hk hnk=>g5 k (by simpa [MObj.blocks] using hnk)) (by simp [MObj.blocks]) (by simp [MObj.blocks]) ?_ g7 g8 g9.1 (fun _=>Bj g9.2.symm))
  refine ⟨rc',el,fr,g2,by rw [g3];exact h5,?_,fun j c v a1 a2=> ?_⟩
  simp only [AM];rw [g3,zrb (by omega)];omega;rw [AY,g4 j] at a2;simp only [BZ,Nat.sub_zero,AM,h2] at a2;simp only [zaO] at a1
  by_cases ha:j<off
  rw [if_neg (by omega)] at a2;rw [A9,Aw (by simp;omega),AD ha] at a1;exact h6.2 j c v a1 (by simpa using a2)
  by_cases hb:j<off+size
  rw [if_pos (by omega)] at a2;rw [Aw (by simp;omega),Au (by simp;omega)] at a1;have e1:(cs.take off).length=off:=by simp;omega
  rw [e1] at a1;exact h3.2 (j-off) c v a1 a2;rw [if_neg (by omega)] at a2;rw [Au (by simp;omega)] at a1;have e1:(cs.take off++zb h).length=off+size:=by simp;omega
  rw [e1,AL,h0] at a1;have e2:off+size+(j-(off+size))=j:=by omega
  rw [e2] at a1;exact h6.2 j c v a1 (by simpa using a2)
/-! growing slices-/
theorem zur (need:Nat): ∀(r c:Nat),c<need->Builtin.growBy need r c<=need+need/4+192
 |0,c,h=>by simp only [Builtin.growBy];omega
 |r+1,c,h=>by
   simp only [Builtin.growBy];rw [if_neg (by omega)]
   by_cases h1:c+(c+768)/4<need
   exact zur need r _ h1
   cases r with
   |zero=>simp only [Builtin.growBy];omega
   |succ r=>simp only [Builtin.growBy];rw [if_pos (by omega)];omega
theorem zsJ [Tracks] {need cap:Nat} (h:cap<need):Builtin.nextslicecap need cap<=2*need+192:=by
 unfold Builtin.nextslicecap
 split
 omega
 split
 omega
 have:=zur need 4 cap h;omega
theorem zos {at':Array TypeId} {xs:Array Operand} {ρ:Operand->Value} (w:World):
 (execOp ρ ⟨dst,.call ⟨.builtin .append,xs,at'⟩,ty,pos,af,g⟩).run P w=((Builtin.append_ at' ty (xs.map ρ)).run P w).andThen (fun v w=> .ok (.value v) w):=by
 simp [execOp,resolve,invoke,builtin]
theorem znp {z:Array Value} (n:Nat):(Builtin.zeroCells z n).size=n*z.size:=by simp [Builtin.zeroCells]
theorem zH [Tracks] {x y:Operand} {t el:TypeId} {size bytes sz b2:Nat} {zero z2:Value} {d:TD} {i:Nat} {v:Value} {es ys:List HVal}
 (hf:Fits P t (.slice el) size bytes zero) (hel:Fits P el d sz b2 z2) (hz:z2.cells.size=sz) (hby:Nat.ble b2 100000=true)
 (hx:zh e x=some (.raw v)) (hy:zh e y=some (.slice sz ys)) (hm:M[i]? =some (.arr v sz es)) (hfl: ∀y∈ys,zan (zb y)=true) (hlen:es.length+ys.length<=1000000000)
 (hk: ∀v',K (.raw v') (M.set i (.arr v' sz (es++ys)))):EOp P e M ⟨dst,.call ⟨.builtin .append,#[x,y],#[t,t]⟩,ty,pos,af,g⟩ K:=
 EOp.of_run fun I F a w ho hs=>by
  have h1:=(ho.one (x:=x) (by simp [Op.operands,Call.operands]) hx).raw_inv;have hyv:=ho.one (x:=y) (by simp [Op.operands,Call.operands]) hy;have hp:=hs.pull hm;have hobj:=hp.obj _ (Ai);obtain ⟨ya,yc,hylen⟩:=hyv.slice_len;have hysz: ∀y∈ys,(zb y).length=sz:=by
   rcases hyv.slice_inv with ⟨rfl,_⟩|⟨b,off,cap',rc,el',fr,h2,h3,h4,h5,h6,h7⟩
   ·simp
   ·exact h4
  
  obtain ⟨nv,hnv,hnl,hnV⟩: ∃nv:List Value,(∀w1:World,w1.heap=w.heap->(Builtin.firstCells sz ys.length (a.eval y)).run P w1= .ok nv.toArray w1)/\nv.length=ys.length*sz/\
   (∀(i j:Nat) (x c:HVal) (u:Value),ys[i]? =some x->(zb x)[j]? =some c->nv[i*sz+j]? =some u->V I c u):=by
   rcases hyv.slice_inv with ⟨rfl,a',cap',h2⟩|⟨b,off,cap',rc,el',fr,h2,h3,h4,h5,h6,h7⟩
   ·refine ⟨[],fun w1 _=> ?_,by simp,fun i j x c u h=>by simp at h⟩
    rw [h2]
    cases a' with
    |none=>simp [Builtin.firstCells]
    |some a'=>simp [Builtin.firstCells,loadCells,loadCellsFrom]
   ·refine ⟨(rc.toList.drop off).take (ys.length*sz),fun w1 hw1=> ?_,by simp;omega,fun i j x c u a1 a2 a3=>h7 i j x c u a1 a2 ?_⟩
    ·rw [h2];have hl:((rc.toList.drop off).take (ys.length*sz)).length=ys.length*sz:=by simp;omega
     have h3':w1.heap[b]? =some (.cells rc el' fr):=by rw [hw1];exact hs.imm _ _ h3
     have:=run_loadCells_list (P:=P) w1 ⟨b,off,none⟩ ((rc.toList.drop off).take (ys.length*sz)) fun j u hj=>by
      rw [zem,zcu h3'];rw [Bq] at hj
      split at hj
      ·simpa [AL] using hj
      ·simp at hj
     rw [hl] at this;simp only [Builtin.firstCells];exact this
    ·rw [Bq] at a3
     split at a3
     ·rw [AL] at a3;rw [Bc]
      simpa using a3
     ·simp at a3
  have hesz: ∀x∈es,(zb x).length=sz:=by
   rcases hobj with ⟨_,rfl⟩|⟨b,off,cap,rc,el',fr,_,_,_,h,_⟩
   ·simp
   ·exact h
  have hboth: ∀x∈es++ys,(zb x).length=sz:=fun x hx=>by
   rcases List.mem_append.1 hx with h|h
   ·exact hesz x h
   ·exact hysz x h
  
  have grows: ∀(base:Option Addr) (cap:Nat) (ov:List Value),v= .slice base es.length cap->cap<es.length+ys.length->
   (∀w1:World,w1.heap=w.heap->(Builtin.firstCells sz es.length v).run P w1= .ok ov.toArray w1)->ov.length=es.length*sz->
   (∀(i j:Nat) (x c:HVal) (u:Value),es[i]? =some x->(zb x)[j]? =some c->ov[i*sz+j]? =some u->V I c u)->
   ∃v' w',(execOp a.eval ⟨dst,.call ⟨.builtin .append,#[x,y],#[t,t]⟩,ty,pos,af,g⟩).run P w= .ok (.value v') w'/\Sat P I (.arr v' sz (es++ys)::(M.eraseIdx i++F)) w':=by
   intro base cap ov hv hcap hov hol hoV
   let nc:=(Question.appendCap (es.length+ys.length) cap el).cut (w.tape w.drawn (.appendCap (es.length+ys.length) cap el))
   have hnc:es.length+ys.length<=nc:=by simp only [nc,Question.cut];omega
   have hnm:nc<=9223372036854775807:=by
    simp only [nc,Question.cut];have:=B4 (w.tape w.drawn (.appendCap (es.length+ys.length) cap el)) (show 0<2^63-(es.length+ys.length) by omega)
    omega
   let cells:Array Value:=ov.toArray++nv.toArray++Builtin.zeroCells z2.cells (nc-(es.length+ys.length))
   refine ⟨.slice (some ⟨w.heap.size,0,none⟩) (es.length+ys.length) nc,{w with heap:=w.heap.push (.cells cells el (0,0)),drawn:=w.drawn+1},?_,?_⟩
   ·rw [zos];have hb1: ¬es.length+ys.length<=cap:=by omega
    have hb2: ¬((((es.length+ys.length:Nat):Int)>IntKind.i64.max)/\(False\/b2=0)):=by
     have:IntKind.i64.max=9223372036854775807:=by decide
     rw [this];omega
    have hb3: ¬Builtin.nextslicecap (es.length+ys.length) cap*b2>2^48:=by
     have e1:=zsJ hcap;have e2:b2<=100000:=Ak hby;have:Builtin.nextslicecap (es.length+ys.length) cap*b2<=(2*1000000000+192)*100000:=Nat.mul_le_mul (by omega) e2
     omega
    obtain ⟨ti,t1,t2,t3,t4⟩:=hel.typeInfo;have hti: ∀w1,(Go.typeInfo el).run P w1= .ok ti w1:=fun w1=>by simp [Go.typeInfo,t1]
    have hlenof:(Builtin.lenOf (a.eval y)).run P w= .ok ys.length w:=by rw [hylen];simp [Builtin.lenOf]
    simp only [Cb,Ao,A7,h1,Builtin.append_,A8,A3,AN,hv,Sem.run_bind,run_underlying hf.slice,Result.andThen_ok,
     hel.run_sizeOf,Sem.run_pure,AU,if_false,hlenof,hb1,hti,t3]
    rw [if_neg (by simpa using hb2)];simp only [Sem.run_bind,Sem.run_pure,Result.andThen_ok,hti,t3];rw [if_neg hb3];have hch:(choose (.appendCap (es.length+ys.length) cap el)).run P w= .ok nc {w with drawn:=w.drawn+1}:=by
     simp [Question.forced,nc]
    simp only [Sem.run_pure,Sem.run_bind,Result.andThen_ok,hch,run_askRoom,hti];rw [<-hv];have hov':=hov {w with drawn:=w.drawn+1} rfl;have hnv':=hnv {w with drawn:=w.drawn+1} rfl;simp only [hov',Cp,if_true,hnv',Result.andThen_ok,hel.run_zero,newRow,Sem.run_bind,Sem.run_pure,run_newObj]
    rfl
   ·have hs1:Sat P I (M.eraseIdx i++F) {w with drawn:=w.drawn+1}:=hp.drop.of_same (fun _ _=>rfl) (fun _ _=>rfl) rfl rfl rfl;refine hs1.new_own (.cells cells el (0,0)) _ rfl (.inr ⟨w.heap.size,0,nc,cells,el,(0,0),by simp,by simp [push],Free.zero _,hboth,by simp;omega,?_,fun i j x c u a1 a2 a3=> ?_⟩)
    ·have:cells.size=nc*sz:=by
      simp only [cells,Array.size_append,BJ,hol,hnl,znp,hz];rw [<-AT,<-AT];congr 1;omega
     omega
    ·have hj:j<sz:=by have:=zn a2;have:=hboth x (Ab a1);omega
     rw [Bk] at a3
     by_cases hi:i<es.length
     ·rw [Aw hi] at a1;refine hoV i j x c u a1 a2 ?_;have hlt:i*sz+j<es.length*sz:=by
       have:(i+1)*sz<=es.length*sz:=AB _ hi;rw [AT] at this;omega
      simp only [cells] at a3;rw [AF (by simp;omega),AF (by simp;omega)] at a3
      simpa using a3
     ·rw [Au (by omega)] at a1;refine hnV (i-es.length) j x c u a1 a2 ?_;have hi2:=zn a1;have e1:i*sz+j=es.length*sz+((i-es.length)*sz+j):=by
       rw [<-Bc,<-AT];congr 2;omega
      have hlt:(i-es.length)*sz+j<ys.length*sz:=by
       have:(i-es.length+1)*sz<=ys.length*sz:=AB _ hi2;rw [AT] at this;omega
      simp only [cells] at a3;rw [e1,AF (by simp;omega),Array.getElem?_append_right (by simp;omega)] at a3;simp only [BJ,hol] at a3;rw [Cs] at a3
      simpa using a3
  have done:(∃v' w',(execOp a.eval ⟨dst,.call ⟨.builtin .append,#[x,y],#[t,t]⟩,ty,pos,af,g⟩).run P w= .ok (.value v') w'/\Sat P I (.arr v' sz (es++ys)::(M.eraseIdx i++F)) w')->
   ∃v h M' w' J,(execOp a.eval ⟨dst,.call ⟨.builtin .append,#[x,y],#[t,t]⟩,ty,pos,af,g⟩).run P w= .ok (.value v) w'/\Le I J/\K h M'/\V J h v/\Sat P J (M'++F) w':=by
   rintro ⟨v',w',r1,r2⟩;refine ⟨v',.raw v',_,w',I,r1,.refl I,hk v',.raw _ ?_,zcc hm r2⟩
   rcases r2.obj _ Ai with ⟨rfl,_⟩|⟨b,off,cap,rc,el',fr,rfl,_⟩<;>rfl
  apply done
  rcases hobj with ⟨hv,rfl⟩|⟨b,off,cap,rc,el',fr,hv,hw,hfr,_,hcap,hroom,hcV⟩
  ·by_cases hy0:ys=[]
   ·subst hy0;refine ⟨.slice none 0 0,w,?_,?_⟩
    ·rw [zos];have hnv':=hnv w rfl;have hlenof:(Builtin.lenOf (a.eval y)).run P w= .ok 0 w:=by rw [hylen];simp [Builtin.lenOf]
     simp only [Ar] at hnv';simp only [Cb,Ao,A7,h1,Builtin.append_,A8,A3,AN,hv,Sem.run_bind,run_underlying hf.slice,Result.andThen_ok,
      hel.run_sizeOf,Sem.run_pure,AU,if_false,hlenof,Ae,if_true,Cp,hnv',BZ]
    ·rw [hv] at hp;simpa using hp
   ·have hpos:0<ys.length:=by cases ys with|nil=>exact absurd rfl hy0|cons _ _=>simp
    exact grows none 0 [] (by rw [hv];rfl) (by simpa using hpos) (fun w1 _=>by rw [hv];simp [Builtin.firstCells]) (by simp) (fun i j x c u h=>by simp at h)
  ·by_cases hfit:es.length+ys.length<=cap
   ·
    have hroom2:off+es.length*sz+0+nv.length<=rc.size:=by
     have:(es.length+ys.length)*sz<=cap*sz:=AB _ hfit;rw [AT] at this
     omega
    have hone: ∀u∈nv,u.oneCell'=true:=by
     intro u hu
     obtain ⟨k,hk,rfl⟩:=AR hu;rw [hnl] at hk;have hsz0:0<sz:=by
      rcases Bf sz with h|h
      ·rw [h] at hk;simp at hk
      ·exact h
     have hi:k/sz<ys.length:=Nat.div_lt_of_lt_mul (by rw [B0];exact hk);have hm':k%sz<sz:=B4 _ hsz0;have hy1:=Aa hi;have hsz1:=hysz _ (Bg hi);have hj:k%sz<(zb ys[k/sz]).length:=by omega
     have hc1:=Aa hj;have e1:k/sz*sz+k%sz=k:=by rw [B0];exact Nat.div_add_mod k sz
     have hv1:=hnV (k/sz) (k%sz) _ _ nv[k] hy1 hc1 (by rw [e1];exact Aa (by omega));have hflat:=hfl _ (Bg hi);have hmem:=Bg hj;have key: ∀(cs:List HVal) (c:HVal),c∈cs->zan cs=true->∀u,V I c u->u.oneCell'=true:=by
      intro cs
      induction cs with
      |nil=>intro c hc;simp at hc
      |cons d r ih=>
        intro c hc hf u hu
        have hr:zan r=true:=by cases d<;>simp [zan] at hf<;>exact hf
        rcases List.mem_cons.1 hc with rfl|hc
        ·cases hu<;>first|rfl|assumption|(simp [zan] at hf;done)
        ·exact ih c hc hr u hu
     exact key _ _ hmem hflat _ hv1
    obtain ⟨w',rc',g1,g2,g3,g4,g5,g6,g7,g8,g9⟩:=zfA (P:=P) b el' fr (off+es.length*sz) nv 0 w rc hw hfr hone hroom2;refine ⟨.slice (some ⟨b,off,none⟩) (es.length+ys.length) cap,w',?_,?_⟩
    ·rw [zos];have hnv':=hnv w rfl;have hlenof:(Builtin.lenOf (a.eval y)).run P w= .ok ys.length w:=by rw [hylen];simp [Builtin.lenOf]
     simp only [Cb,Ao,A7,h1,Builtin.append_,A8,A3,AN,hv,Sem.run_bind,run_underlying hf.slice,Result.andThen_ok,
      hel.run_sizeOf,Sem.run_pure,AU,if_false,hlenof,hfit,if_true,Cp,hnv',zem,g1]
    ·refine hp.change (m':= .arr (.slice (some ⟨b,off,none⟩) (es.length+ys.length) cap) sz (es++ys)) (fun k hk hnk=>g5 k ?_) ?_ (by simp [MObj.blocks]) ?_ g7 g8 g9.1 (fun _=>Bj g9.2.symm)
     ·rw [hv] at hnk;simpa [MObj.blocks] using hnk
     ·intro k hk;left;rw [hv];exact hk
     ·refine .inr ⟨b,off,cap,rc',el',fr,by simp,g2,by rw [g3];exact hfr,hboth,by simp;omega,by rw [g3];exact hroom,fun i j x c u a1 a2 a3=> ?_⟩
      have hj:j<sz:=by have:=zn a2;have:=hboth x (Ab a1);omega
      rw [g4] at a3
      by_cases hi:i<es.length
      ·rw [Aw hi] at a1;have hlt:i*sz+j<es.length*sz:=by
        have:(i+1)*sz<=es.length*sz:=AB _ hi;rw [AT] at this;omega
       rw [if_neg (by omega)] at a3;exact hcV i j x c u a1 a2 a3
      ·rw [Au (by omega)] at a1;have hi2:=zn a1;have e1:i*sz+j=es.length*sz+((i-es.length)*sz+j):=by
        rw [<-Bc,<-AT];congr 2;omega
       have hlt:(i-es.length)*sz+j<ys.length*sz:=by
        have:(i-es.length+1)*sz<=ys.length*sz:=AB _ hi2;rw [AT] at this;omega
       rw [if_pos (by omega)] at a3;have e2:off+i*sz+j-(off+es.length*sz)-0=(i-es.length)*sz+j:=by omega
       rw [e2] at a3;exact hnV (i-es.length) j x c u a1 a2 a3
   ·refine grows (some ⟨b,off,none⟩) cap ((rc.toList.drop off).take (es.length*sz)) hv (by omega) (fun w1 hw1=> ?_) ?_ (fun i j x c u a1 a2 a3=>hcV i j x c u a1 a2 ?_)
    ·rw [hv];have hes:es.length*sz<=cap*sz:=AB _ hcap.1;have hl:((rc.toList.drop off).take (es.length*sz)).length=es.length*sz:=by simp;omega
     have h3':w1.heap[b]? =some (.cells rc el' fr):=by rw [hw1];exact hw
     have:=run_loadCells_list (P:=P) w1 ⟨b,off,none⟩ ((rc.toList.drop off).take (es.length*sz)) fun j u hj=>by
      rw [zem,zcu h3'];rw [Bq] at hj
      split at hj
      ·simpa [AL] using hj
      ·simp at hj
     rw [hl] at this;simp only [Builtin.firstCells];exact this
    ·have hes:es.length*sz<=cap*sz:=AB _ hcap.1
     simp;omega
    ·rw [Bq] at a3
     split at a3
     ·rw [AL] at a3;rw [Bc]
      simpa using a3
     ·simp at a3
end
end
section
variable {P:Program}
theorem zJ [Tracks] {e:Env} {M:List MObj} (sz:Nat):Ghost e M e (.arr (.slice none 0 0) sz []::M):=fun _ I F tmps w he hs=>
 ⟨I,.refl I,he,{
  imm:=hs.imm
  obj:=fun m hm=>by
   rcases List.mem_cons.1 hm with rfl|hm
   exact .inl ⟨rfl,rfl⟩;exact hs.obj m hm
  nodup:=by simp only [A0,blocks,AP,MObj.blocks,Bm];exact hs.nodup
  apart:=fun b hb=>hs.apart b (by simpa only [A0,blocks,AP,MObj.blocks,Bm] using hb)
  os:=hs.os
  output:=hs.output
  tape:=hs.tape
  tab:=hs.tab
  low:=hs.low}⟩
theorem Sat.freeze_arr [Tracks] {I:Imm} {M:List MObj} {v:Value} {sz:Nat} {es:List HVal} {w:World} (h:Sat P I (.arr v sz es::M) w): ∃J,Le I J/\Sat P J M w/\V J (.slice sz es) v:=by
 rcases h.obj _ Ai with ⟨rfl,rfl⟩|⟨b,off,cap,rc,el,fr,rfl,h2,h3,h4,h5,h6,h7⟩
 exact ⟨I,.refl I,h.drop,.slice0 _ _ _⟩;obtain ⟨hl,hs⟩:=h.freeze (b:=b) rfl h2;refine ⟨_,hl,hs,.slice ziy h4 h5.1 ?_ fun i j x c u a1 a2 a3=>(h7 i j x c u a1 a2 a3).mono hl⟩
 have:es.length*sz<=cap*sz:=AB _ h5.1
 omega
theorem Sat.freeze_cells [Tracks] {I:Imm} {M:List MObj} {b:Nat} {cs:List HVal} {w:World} (h:Sat P I (.cells b cs::M) w): ∃J,Le I J/\Sat P J M w/\∀off,V J (.vptr cs off) (.pointer (some ⟨b,off,none⟩)):=by
 obtain ⟨rc,el,fr,h2,h3,h4⟩:=h.obj _ Ai;obtain ⟨hl,hs⟩:=h.freeze (b:=b) rfl h2;refine ⟨_,hl,hs,fun off=> ?_⟩
 have:=V.vptr (I:=I.add b (.cells rc el fr)) (cs:=cs) (off:=off) (base:=0) ziy (by have:=h4.1;simp at this;omega) fun j c v a1 a2=>((h4.2 j c v a1 (by simpa using a2)).mono hl)
 rwa [Bk] at this
theorem Ghost.freeze_arr [Tracks] {e e':Env} {M:List MObj} {i:Nat} {v:Value} {sz:Nat} {es:List HVal} (hm:M[i]? =some (.arr v sz es))
 (he: ∀J,V J (.slice sz es) v->∀t h',e' t=some h'->∃h,e t=some h/\∀x,V J h x->V J h' x):Ghost e M e' (M.eraseIdx i):=fun _ I F tmps w h1 hs=>by
 obtain ⟨J,hl,hs',hv⟩:=(hs.pull hm).freeze_arr;refine ⟨J,hl,fun t h' ht=> ?_,hs'⟩
 obtain ⟨h,h2,h3⟩:=he J hv t h' ht;obtain ⟨x,h4,h5⟩:=h1 t h h2;exact ⟨x,h4,h3 x (h5.mono hl)⟩
theorem Ghost.freeze_cells [Tracks] {e e':Env} {M:List MObj} {i b:Nat} {cs:List HVal} (hm:M[i]? =some (.cells b cs))
 (he: ∀J,(∀off,V J (.vptr cs off) (.pointer (some ⟨b,off,none⟩)))->∀t h',e' t=some h'->∃h,e t=some h/\∀x,V J h x->V J h' x):Ghost e M e' (M.eraseIdx i):=fun _ I F tmps w h1 hs=>by
 obtain ⟨J,hl,hs',hv⟩:=(hs.pull hm).freeze_cells;refine ⟨J,hl,fun t h' ht=> ?_,hs'⟩
 obtain ⟨h,h2,h3⟩:=he J hv t h' ht;obtain ⟨x,h4,h5⟩:=h1 t h h2;exact ⟨x,h4,h3 x (h5.mono hl)⟩
theorem zAS [Tracks] {J:Imm} {e e':Env} {t:Nat} {h h':HVal} (ht:e t=some h) (hv: ∀x,V J h x->V J h' x) (hr: ∀s y,e' s=some y->∃z,e s=some z/\∀x,V J z x->V J y x):
 ∀s y,upd e' t h' s=some y->∃z,e s=some z/\∀x,V J z x->V J y x:=fun s y hs=>by
 by_cases hh:s=t
 subst hh;rw [zg1] at hs;cases hs;exact ⟨h,ht,hv⟩;rw [zfD _ _ hh] at hs;exact hr s y hs
theorem zye {J:Imm} {e:Env}: ∀s y,e s=some y->∃z,e s=some z/\∀x,V J z x->V J y x:=fun s y hs=>⟨y,hs,fun _ h=>h⟩
theorem zay [Tracks] {e:Env} {M:List MObj} {i:Nat} {v:Value} {sz:Nat} {es:List HVal} (t:Nat) (hm:M[i]? =some (.arr v sz es)) (ht:e t=some (.raw v)):
 Ghost e M (upd e t (.slice sz es)) (M.eraseIdx i):=
 Ghost.freeze_arr hm fun J hv=>zAS ht (fun x hx=>by rw [hx.raw_inv];exact hv) zye
theorem zaN [Tracks] {e:Env} {M:List MObj} {i b off:Nat} {cs:List HVal} (t:Nat) (hm:M[i]? =some (.cells b cs)) (ht:e t=some (.raw (.pointer (some ⟨b,off,none⟩)))):
 Ghost e M (upd e t (.vptr cs off)) (M.eraseIdx i):=
 Ghost.freeze_cells hm fun J hv=>zAS ht (fun x hx=>by rw [hx.raw_inv];exact hv off) zye
theorem zgb [Tracks] {e:Env} {M:List MObj} {i k:Nat} {v:Value} {sz b j:Nat} {es cs:List HVal} (hm:M[i]? =some (.arr v sz es)) (hc:(M.eraseIdx i)[k]? =some (.cells b cs)) (hj:cs[j]? =some (.raw v)):
 Ghost e M e ((M.eraseIdx i).set k (.cells b (cs.set j (.slice sz es)))):=fun _ I F tmps w h1 hs=>by
 obtain ⟨J,hl,hs',hv⟩:=(hs.pull hm).freeze_arr;refine ⟨J,hl,h1.mono hl,zcc hc ((hs'.pull hc).change (m':= .cells b (cs.set j (.slice sz es))) (fun _ _ _=>rfl) (fun x hx=> .inl hx) (by simp [MObj.blocks]) ?_ rfl rfl rfl)⟩
 obtain ⟨rc,el,fr,a1,a2,a3⟩:=(hs'.pull hc).obj _ Ai;refine ⟨rc,el,fr,a1,a2,by rw [a3.1];simp,fun n c u b1 b2=> ?_⟩
 by_cases hn:n=j
 subst hn;have hlt:=zn hj
 simp [hlt] at b1
 subst b1;have:=a3.2 n _ u hj b2;rw [this.raw_inv];exact hv;rw [BW (Ne.symm hn)] at b1;exact a3.2 n c u b1 b2
section
variable {P:Program} {e:Env} {dst:Option Tmp} {ty:TypeId} {pos:String} {af:Array Edge} {g:Option (Nat×Bool)} {M:List MObj} {K:HVal->List MObj->Prop}
theorem MSat.arr_len {I:Imm} {w:World} {v:Value} {sz:Nat} {es:List HVal} (h:MSat I w (.arr v sz es)): ∃a cap,v= .slice a es.length cap:=by
 rcases h with ⟨rfl,rfl⟩|⟨b,off,cap,rc,el,fr,h,_⟩
 exact ⟨none,0,rfl⟩;exact ⟨_,cap,h⟩
theorem zEw [Tracks] {x:Operand} {t el:TypeId} {size bytes:Nat} {zero:Value} {i:Nat} {v:Value} {sz:Nat} {es:List HVal} (hf:Fits P t (.slice el) size bytes zero) (hx:zh e x=some (.raw v))
 (hm:M[i]? =some (.arr v sz es)) (hk:K (.int .i64 es.length) M):EOp P e M ⟨dst,.call ⟨.builtin .len,#[x],#[t]⟩,ty,pos,af,g⟩ K:=
 EOp.of_run fun I F a w ho hs=>by
  have h1:=(ho.one (x:=x) (by simp [Op.operands,Call.operands]) hx).raw_inv;obtain ⟨b,cap,h2⟩:=(hs.obj _ (Ap _ (Ab hm))).arr_len;exact ⟨.int .i64 es.length,_,M,w,I,by rw [znl (ats:= #[])];simp [h1,h2,Builtin.len_,run_underlying hf.slice,goInt],.refl I,hk,.int _ _,hs⟩
theorem zpA [Tracks] {x:Operand} {t:TypeId} {d:TD} {size bytes:Nat} {zero:Value} {i b off cap n sz j f o:Nat} {es:List HVal} {y h:HVal} (hf:Fits P t d size bytes zero)
 (hx:zh e x=some (.raw (.pointer (some ⟨b,o,none⟩)))) (ho':o=off+j*sz+f) (hm:M[i]? =some (.arr (.slice (some ⟨b,off,none⟩) n cap) sz es)) (hj:es[j]? =some y)
 (hh:(d.isAgg=false/\(zb y)[f]? =some h)\/(d.isAgg=true/\f+size<=(zb y).length/\h= .agg (((zb y).drop f).take size)))
 (hk:K h M):EOp P e M ⟨dst,.load t x,ty,pos,af,g⟩ K:=
 EOp.of_run fun I F a w ho hs=>by
  have h1:=(ho.one (x:=x) (by simp [Op.operands]) hx).raw_inv;have hlt:=zn hj
  rcases hs.obj _ (Ap _ (Ab hm)) with ⟨hbad,_⟩|⟨b',off',cap',rc,el',fr,h3,h4,h5,h6,h7,h8,h9⟩
  simp at hbad
  simp at h3
  obtain ⟨⟨rfl,rfl⟩,_,rfl⟩:=h3;have hy:=h6 y (Ab hj);have hle:(j+1)*sz<=cap*sz:=AB _ (by omega);rw [AT] at hle;obtain ⟨v,a1,a2⟩:=zhD (I:=I) (o:=o) hf h4 (base:=off+j*sz) (off:=f) ho' (by omega) (fun k c v b1 b2=>h9 j k y c v hj b1 b2) hh;exact ⟨v,h,M,w,I,by simp [execOp,h1,Instr.loadAt,Instr.sureAddr,a1],.refl I,hk,a2,hs⟩
theorem zac [Tracks] {x z:Operand} {t:TypeId} {d:TD} {size bytes:Nat} {zero:Value} {i b off cap n sz j f o:Nat} {es:List HVal} {y h y':HVal} (hf:Fits P t d size bytes zero)
 (hx:zh e x=some (.raw (.pointer (some ⟨b,o,none⟩)))) (ho':o=off+j*sz+f) (hz:zh e z=some h) (hm:M[i]? =some (.arr (.slice (some ⟨b,off,none⟩) n cap) sz es)) (hj:es[j]? =some y)
 (hok:zeA size h=true) (hfl:zan (zb h)=true) (hle:f+size<=(zb y).length) (hy':zb y'=zaO (zb y) f (zb h))
 (hk:K .junk (M.set i (.arr (.slice (some ⟨b,off,none⟩) n cap) sz (es.set j y')))):EOp P e M ⟨dst,.store t x z,ty,pos,af,g⟩ K:=
 zhw fun I F a w hop hs=>by
  have h1:=(hop.one (x:=x) (by simp [Op.operands]) hx).raw_inv;obtain ⟨h2,h3⟩:=(hop.one (x:=z) (by simp [Op.operands]) hz).cells_size hok;obtain ⟨h0,_⟩:=zeB hok;have hp:=hs.pull hm;have hlt:=zn hj
  rcases hp.obj _ (Ai) with ⟨hbad,_⟩|⟨b',off',cap',rc,el',fr,h4,h5,h6,h7,h8,h9,h10⟩
  simp at hbad
  simp at h4
  obtain ⟨⟨rfl,rfl⟩,rfl,rfl⟩:=h4;have hyl:=h7 y (Ab hj);have hle2:(j+1)*sz<=cap*sz:=AB _ (by omega);rw [AT] at hle2;subst ho';obtain ⟨w',rc',g1,g2,g3,g4,g5,g6,g7,g8,g9⟩:=zfA (P:=P) b el' fr (off+j*sz+f) (a.eval z).cells.toList 0 w rc h5 h6 (zn3 h3 hfl) (by simp;omega);refine ⟨_,w',I,?_,.refl I,hk,?_⟩
  simp only [execOp,h1,Instr.storeAt,Instr.sureAddr,Sem.run_bind,Sem.run_pure,Result.andThen_ok,storeVar,hf.run_sizeOf];rw [if_neg (by simp [h2])];simp only [Sem.run_pure,Result.andThen_ok,g1];have hl':(zb y').length=sz:=by rw [hy',zrb (by omega)];exact hyl
  refine zcc hm (hp.change (m':= .arr (.slice (some ⟨b,off,none⟩) es.length cap) sz (es.set j y')) (fun k hk hnk=>g5 k (by simpa [MObj.blocks] using hnk)) (fun k hk=> .inl hk) (by simp [MObj.blocks]) ?_ g7 g8 g9.1 (fun _=>Bj g9.2.symm))
  refine .inr ⟨b,off,cap,rc',el',fr,by simp,g2,by rw [g3];exact h6,fun q hq=> ?_,by simpa using h8,by rw [g3];exact h9,fun p q q1 c u a1 a2 a3=> ?_⟩
  rcases Ch hq with hq|rfl
  exact h7 q hq;exact hl';rw [g4] at a3;simp only [BZ,Nat.sub_zero,AM,h2] at a3
  by_cases hpj:p=j
  subst hpj
  simp [hlt] at a1
  subst a1;have hq:=zn a2;rw [hy'] at a2;simp only [zaO] at a2
  by_cases c1:q<f
  rw [if_neg (by omega)] at a3;rw [A9,Aw (by simp;omega),AD c1] at a2;exact h10 p q y c u hj a2 a3
  by_cases c2:q<f+size
  rw [if_pos (by omega)] at a3;rw [Aw (by simp;omega),Au (by simp;omega)] at a2;have e1:((zb y).take f).length=f:=by simp;omega
  rw [e1] at a2;have e2:off+p*sz+q-(off+p*sz+f)=q-f:=by omega
  rw [e2] at a3;exact h3.2 (q-f) c u a2 a3;rw [if_neg (by omega)] at a3;rw [Au (by simp;omega)] at a2;have e1:((zb y).take f++zb h).length=f+size:=by simp;omega
  rw [e1,AL,h0] at a2;have e2:f+size+(q-(f+size))=q:=by omega
  rw [e2] at a2;exact h10 p q y c u hj a2 a3;rw [BW (Ne.symm hpj)] at a1;have hql:=zn a2;have hq1:=h7 q1 (Ab a1);have hp1:=zn a1;have hne: ¬(off+j*sz+f<=off+p*sz+q/\off+p*sz+q<off+j*sz+f+size):=by
   rcases Nat.lt_or_gt_of_ne hpj with hlt'|hgt
   have:(p+1)*sz<=j*sz:=AB _ hlt';rw [AT] at this;omega;have:(j+1)*sz<=p*sz:=AB _ hgt;rw [AT] at this;omega
  rw [if_neg hne] at a3;exact h10 p q q1 c u a1 a2 a3
/-! calls that only read owned objects-/
mutual
def zlo:HVal->Bool
 | .bool _| .int _ _| .str _=>true
 | .agg cs=>zkT cs
 | .tup cs=>zkT cs
 | .raw _=>true
 |_=>false
def zkT:List HVal->Bool
 |[]=>true
 |c::r=>zlo c&&zkT r
end
theorem zmI: ∀{cs:List HVal},zkT cs=true->∀(j:Nat) (c:HVal),cs[j]? =some c->zlo c=true
 |[],_,j,c,h=>by simp at h
 |d::r,hg,0,c,h=>by simp [zkT] at hg;simp at h;subst h;exact hg.1
 |d::r,hg,j+1,c,h=>by simp [zkT] at hg;simp at h;exact zmI hg.2 j c h
theorem zCh [Tracks] {I J:Imm} {c:HVal} {v:Value} (h:V I c v):zlo c=true->V J c v:=by
 induction h with
 |bool b=>intro _;exact .bool b
 |int k n=>intro _;exact .int k n
 |str s=>intro _;exact .str s
 |raw v h1=>intro _;exact .raw v h1
 |agg hl _ ih=>intro hg;simp [zlo] at hg;exact .agg hl fun j c v a b=>ih j c v a b (zmI hg j c a)
 |tup hl _ ih=>intro hg;simp [zlo] at hg;exact .tup hl fun j c v a b=>ih j c v a b (zmI hg j c a)
 |_=>intro hg;simp [zlo] at hg
def zc9 (w:World):Imm:=⟨fun b=>w.heap[b]?,w.os,w.output,w.tape,w.drawn⟩
theorem Sat.le_all [Tracks] {I:Imm} {M:List MObj} {w:World} (h:Sat P I M w):Le I (zc9 w):=⟨h.imm,h.os,h.output,h.tape,h.low⟩
theorem zFt [Tracks] {I:Imm} {M:List MObj} {w:World} (h:Sat P I M w):Sat P (zc9 w) [] w:=⟨fun _ _ h=>h,fun _ h=>by simp at h,by simp [blocks],fun _ h=>by simp [blocks] at h,rfl,rfl,rfl,h.tab.mono h.le_all,fun _=>Ae _⟩
theorem Sat.back [Tracks] {I J:Imm} {M M':List MObj} {w w':World} (h:Sat P I M w) (hl:Le (zc9 w) J) (h':Sat P J M' w'):Sat P I M w':=
 h.of_same (fun b ⟨o,ho⟩=>by rw [h.imm b o ho];exact h'.imm b o (hl.heap b o (h.imm b o ho)))
  (fun b hb=>by
    simp only [blocks,BC] at hb;obtain ⟨m,hm,hb⟩:=hb;obtain ⟨o,ho⟩:=(h.obj m hm).lies hb;rw [ho];exact h'.imm b o (hl.heap b o ho)) (h'.os.trans hl.os) (h'.output.trans hl.output) (h'.tape.trans hl.tape) (fun ht=>An (hl.low ht) (h'.low ht))
inductive Bor (M:List MObj):HVal->HVal->Prop
 |weak {h h':HVal} (hw:Weak h h'):Bor M h h'
 |arr {i:Nat} {v:Value} {sz:Nat} {es:List HVal} (hm:M[i]? =some (.arr v sz es)):Bor M (.raw v) (.slice sz es)
 |cells {i b off:Nat} {cs:List HVal} (hm:M[i]? =some (.cells b cs)):Bor M (.raw (.pointer (some ⟨b,off,none⟩))) (.vptr cs off)
 |agg {l l':List HVal} (hl:l.length=l'.length) (h: ∀(j:Nat) (c c':HVal),l[j]? =some c->l'[j]? =some c'->Bor M c c'):Bor M (.agg l) (.agg l')
def BorL (M:List MObj):List HVal->List HVal->Prop
 |[],[]=>True
 |h::r,h'::r'=>Bor M h h'/\BorL M r r'
 |_,_=>False
theorem Bor.v [Tracks] {I:Imm} {F:List MObj} {w:World} {h h':HVal} (hb:Bor M h h') (hs:Sat P I (M++F) w): ∀{v:Value},V I h v->V (zc9 w) h' v:=by
 induction hb with
 |weak hw=>intro v hv;exact hw _ _ (hv.mono hs.le_all)
 | @arr i u sz es hm=>
   intro v hv
   rw [hv.raw_inv]
   rcases hs.obj _ (Ap _ (Ab hm)) with ⟨rfl,rfl⟩|⟨b,off,cap,rc,el,fr,rfl,h2,h3,h4,h5,h6,h7⟩
   exact .slice0 _ _ _;refine .slice (I:=zc9 w) h2 h4 h5.1 ?_ fun i j x c u a1 a2 a3=>(h7 i j x c u a1 a2 a3).mono hs.le_all
   have:es.length*sz<=cap*sz:=AB _ h5.1
   omega
 | @cells i b off cs hm=>
   intro v hv
   rw [hv.raw_inv];obtain ⟨rc,el,fr,h2,h3,h4⟩:=hs.obj _ (Ap _ (Ab hm));have:=V.vptr (I:=zc9 w) (cs:=cs) (off:=off) (base:=0) h2 (by have:=h4.1;simp at this;omega) fun j c v a1 a2=>((h4.2 j c v a1 (by simpa using a2)).mono hs.le_all)
   rwa [Bk] at this
 |agg hl _ ih=>
   intro v hv
   obtain ⟨vs,rfl,h1⟩:=hv.agg_inv;refine znr ⟨by rw [h1.1,hl],fun j c u a1 a2=> ?_⟩
   have hj:=zn a1;have hj':=Aa (l:=_) (by rw [hl];exact hj);exact ih j _ c hj' a1 (h1.2 j _ u hj' a2)
theorem BorL.vl [Tracks] {I:Imm} {F:List MObj} {w:World} (hs:Sat P I (M++F) w): ∀{hs1 hs2:List HVal} {vs:List Value},BorL M hs1 hs2->VL I hs1 vs->VL (zc9 w) hs2 vs
 |[],[],vs,_,h=>⟨by have:=h.1;simpa using this,fun j c v h1 _=>by simp at h1⟩
 |h::r,h'::r',[],_,hv=>by have:=hv.1;simp at this
 |h::r,h'::r',v::vs,hb,hv=>VL.cons (hb.1.v hs hv.head) (BorL.vl hs hb.2 hv.tail)
 |[],_::_,_,hb,_=>hb.elim
 |_::_,[],_,hb,_=>hb.elim
theorem ze1 [Tracks] {f:FuncId} {args:Array Operand} {ats:Array TypeId} {hs hs':List HVal} {h:HVal} (hc:Callable P f) (ha:zdE e args.toList=some hs) (hb:BorL M hs hs') (hp:ConP P f hs' h)
 (hg:zlo h=true) (hk:K h M):EOp P e M ⟨dst,.call ⟨.value (.func f),args,ats⟩,ty,pos,af,g⟩ K:=fun I F a w ho hsat=>by
 have hrun:(execOp a.eval ⟨dst,.call ⟨.value (.func f),args,ats⟩,ty,pos,af,g⟩).run P w= .ok (.enter f (args.toList.map a.eval).toArray) w:=by
  simp [execOp,resolve,Act.eval,Deferred.ofValue,invoke,zgW hc]
  apply CE;simp
 have hv:=zjd (I:=I) (f:=a.eval) _ _ ha fun x hx h hh=>ho.one (by simp only [Op.operands,Call.operands];exact BO _ (by simpa using hx)) hh
 simp only [Oper.wp,hrun,Oper.upon];refine (hp (zc9 w) [] w _ (hb.vl hsat hv) (by simpa using zFt hsat)).mono ?_;rintro x w' ⟨v,y,M',J,rfl,h1,⟨rfl,rfl⟩,h3,h4⟩;exact ⟨v,_,M,I,rfl,.refl I,hk,zCh h3 hg,hsat.back h1 h4⟩
end
end
section
section
variable {P:Program} {ops:Array Oper} {n:Nat} {S:List MObj->Prop} {ld:List Nat} {K:Env->List MObj->Prop}
def zmM (ld:List Nat) (o:Oper):Prop:= ∀l∈ld,∃ed∈o.after,Region.binds .any ed=true/\ed.on=l
def HAny [Tracks] (P:Program) (ops:Array Oper) (n:Nat) (S:List MObj->Prop) (ld:List Nat) (K:Env->List MObj->Prop):Nat->Array Bool->Env->List MObj->Prop
 |0,listed,e,M=>Region.ready .any ops listed=[]/\K e M
 |fuel+1,listed,e,M=>(Region.ready .any ops listed=[]->K e M)/\∀i∈Region.ready .any ops listed,∀o,ops[i]? =some o->
    HOp P ops n o e M fun e' M'=>(S M->S M'\/zmM ld o)/\HAny P ops n S ld K fuel (listed.setIfInBounds i true) e' M'
theorem HAny.sound [Tracks] {I:Imm} {F:List MObj} {Q:Exit->Act->World->Prop}
 (hq: ∀J e M a w,Le I J->K e M->a.defers=[]->a.tmps.size=n->EnvV J e a.tmps->Sat P J (M++F) w->Q .normal a w):
 ∀(fuel:Nat) (listed:Array Bool) (J:Imm) (e:Env) (M:List MObj) (a:Act) (w:World),Le I J->HAny P ops n S ld K fuel listed e M->
  a.defers=[]->a.tmps.size=n->EnvV J e a.tmps->Sat P J (M++F) w->wpAny P .any ops Q fuel listed a w
 |0,listed,J,e,M,a,w,hl,h,hd,hn,he,hs=>⟨h.1,hq J e M a w hl h.2 hd hn he hs⟩
 |fuel+1,listed,J,e,M,a,w,hl,h,hd,hn,he,hs=>by
   refine ⟨fun h0=>hq J e M a w hl (h.1 h0) hd hn he hs,fun i hi=> ?_⟩
   obtain ⟨_,o,ho,_⟩:=mem_ready.1 hi;refine HOp.sound (h.2 i hi o ho) ho hd hn he hs fun J' e' M' a' w' hl' hK hd' hn' he' hs'=> ?_
   exact HAny.sound hq fuel _ J' e' M' a' w' (hl.trans hl') hK.2 hd' hn' he' hs'
theorem zbF [Tracks] {c:Code} {id:Nat} {l:List Oper} {e:Env} {M:List MObj} {Q:Exit->Env->List MObj->Prop} (S:List MObj->Prop) (ld:List Nat) (hm:P.follows .mixedOrders=true)
 (h:HAny P l.toArray n S ld (fun e M=>HWp P n c e M Q) l.length (Array.replicate l.length false) e M):HWp P n (.seq (.region id l.toArray true) c) e M Q:=
 zsr fun I F a w h1 h2 h3 h4=>by
  refine wp_region_any hm ?_;have:=HAny.sound (Q:=Post P n I F (zyW P n c Q)) (fun J e M a w hl hK hd hn he hs=>⟨hd,hn,J,e,M,hl,hK,he,hs⟩) l.length (Array.replicate l.length false) I e M a {w with drawn:=w.drawn+1} (.refl I) h h1 h2 h3
   (h4.of_same (fun _ _=>rfl) (fun _ _=>rfl) rfl rfl rfl)
  simpa using this
theorem zbx [Tracks] {id:Nat} {l:List Oper} {e:Env} {M:List MObj} {Q:Exit->Env->List MObj->Prop} (S:List MObj->Prop) (ld:List Nat) (hm:P.follows .mixedOrders=true)
 (h:HAny P l.toArray n S ld (fun e M=>Q .normal e M) l.length (Array.replicate l.length false) e M):HWp P n (.region id l.toArray true) e M Q:=
 fun I F a w h1 h2 h3 h4=>by
  refine wp_region_any hm ?_;have:=HAny.sound (Q:=Post P n I F Q) (fun J e M a w hl hK hd hn he hs=>⟨hd,hn,J,e,M,hl,hK,he,hs⟩) l.length (Array.replicate l.length false) I e M a {w with drawn:=w.drawn+1} (.refl I) h h1 h2 h3
   (h4.of_same (fun _ _=>rfl) (fun _ _=>rfl) rfl rfl rfl)
  simpa using this
/-! what an operation looks at-/
theorem zum [Tracks] {e:Env} {x:Operand} {d:Option Tmp} {h:HVal} (hx: ∀t,d=some t->x≠ .tmp t):zh (zd5 e d h) x=zh e x:=by
 cases d with
 |none=>rfl
 |some d=>
   cases x with
   |tmp t=>
     have:t≠d:=fun hh=>hx d rfl (by rw [hh])
     simp only [zh,zd5];exact zfD _ _ this
   |_=>rfl
theorem zuI {o:Oper} {t:Tmp} (h:Operand.tmp t∈o.op.operands):t∈o.looksAt ops:=
 Ap _ (List.mem_filterMap.2 ⟨.tmp t,by simpa using h,rfl⟩)
theorem Opds.put [Tracks] {I:Imm} {e:Env} {a:Act} {o:Oper} {d:Option Tmp} {h:HVal} (hd: ∀t,d=some t->t∉o.looksAt ops):Opds I (zd5 e d h) a o↔Opds I e a o:=by
 constructor
 intro ho x hx c hc
 refine ho x hx c ?_;rw [zum fun t ht hxt=>hd t ht (by subst hxt;exact zuI hx)];exact hc
 intro ho x hx c hc
 refine ho x hx c ?_;rw [zum fun t ht hxt=>hd t ht (by subst hxt;exact zuI hx)] at hc;exact hc
theorem WantIs.put [Tracks] {e:Env} {o:Oper} {d:Option Tmp} {h:HVal} {c:Bool} (hd: ∀t,d=some t->t∉o.looksAt ops):WantIs ops (zd5 e d h) o c↔WantIs ops e o c:=by
 unfold WantIs
 cases hg:o.guard with
 |none=>simp
 |some p=>
   obtain ⟨j,want⟩:=p;have:ze4 ops (zd5 e d h) j want=ze4 ops e j want:=by
    unfold ze4
    cases hj:(ops[j]?).bind (·.dst) with
    |none=>rfl
    |some t=>
      cases d with
      |none=>rfl
      |some d=>
        have hne:t≠d:=fun hh=>hd d rfl (by subst hh;simp [Oper.looksAt,hg,hj])
        simp only [zd5];rw [zfD _ _ hne]
   simp only [this]
def DStep [Tracks] (P:Program) (ops:Array Oper) (T:List MObj->Prop) (e:Env) (o:Oper) (h:HVal):Prop:=
 ∃c,WantIs ops e o c/\(c=true->∀M,T M->EOp P e M o fun x M'=>x=h/\M'=M)/\(c=false->∃x,h= .opt false x)
theorem DStep.put [Tracks] {T:List MObj->Prop} {e:Env} {o:Oper} {h x:HVal} {d:Option Tmp} (hd: ∀t,d=some t->t∉o.looksAt ops) (hs:DStep P ops T e o h):DStep P ops T (zd5 e d x) o h:=by
 obtain ⟨c,h1,h2,h3⟩:=hs;exact ⟨c,(WantIs.put hd).2 h1,fun hc M hM I F a w ho hsat=>h2 hc M hM I F a w ((Opds.put hd).1 ho) hsat,h3⟩
theorem DStep.hop [Tracks] {T:List MObj->Prop} {e:Env} {o:Oper} {h:HVal} {M:List MObj} {K':Env->List MObj->Prop} (hs:DStep P ops T e o h) (hdst: ∀t,o.dst=some t->t<n) (hT:T M) (k:K' (zd5 e o.dst h) M):HOp P ops n o e M K':=by
 obtain ⟨c,h1,h2,h3⟩:=hs;refine ⟨hdst,c,h1,fun hc=>(h2 hc M hT).mono ?_,fun hc=> ?_⟩
 rintro x M' ⟨rfl,rfl⟩;exact k;obtain ⟨x,rfl⟩:=h3 hc;exact ⟨x,k⟩
theorem HOp.put [Tracks] {e:Env} {o:Oper} {h:HVal} {d:Option Tmp} {M:List MObj} {K':Env->List MObj->Prop} (hd: ∀t,d=some t->t∉o.looksAt ops) (hne: ∀t,d=some t->o.dst≠some t)
 (hh:HOp P ops n o (zd5 e d h) M K'):HOp P ops n o e M fun e' M'=>K' (zd5 e' d h) M':=by
 obtain ⟨h1,c,h2,h3,h4⟩:=hh;refine ⟨h1,c,(WantIs.put hd).1 h2,fun hc I F a w ho hs=> ?_,fun hc=> ?_⟩
 have:=h3 hc I F a w ((Opds.put hd).2 ho) hs;refine zbh ?_ this
 rintro a' w' ⟨v,x,M',J,p1,p2,p3,p4,p5⟩;exact ⟨v,x,M',J,p1,p2,by show K' (zd5 (zd5 e o.dst x) d h) M';rw [zuT e x h (fun t ht h'=>hne t h' ht)];exact p3,p4,p5⟩;obtain ⟨x,hx⟩:=h4 hc;exact ⟨x,by show K' (zd5 (zd5 e o.dst (.opt false x)) d h) M;rw [zuT e _ h (fun t ht h'=>hne t h' ht)];exact hx⟩
theorem HOp.mono [Tracks] {e:Env} {o:Oper} {M:List MObj} {K1 K2:Env->List MObj->Prop} (hk: ∀e M,K1 e M->K2 e M) (h:HOp P ops n o e M K1):HOp P ops n o e M K2:=by
 obtain ⟨h1,c,h2,h3,h4⟩:=h;exact ⟨h1,c,h2,fun hc=>(h3 hc).mono fun _ _ h=>hk _ _ h,fun hc=>let ⟨x,hx⟩:=h4 hc;⟨x,hk _ _ hx⟩⟩
theorem HOp.and [Tracks] {e:Env} {o:Oper} {M:List MObj} {K1:Env->List MObj->Prop} (h:HOp P ops n o e M K1):HOp P ops n o e M fun e' M'=>K1 e' M'/\∃x,e'=zd5 e o.dst x:=by
 obtain ⟨h1,c,h2,h3,h4⟩:=h;exact ⟨h1,c,h2,fun hc=>(h3 hc).mono fun x _ h=>⟨h,x,rfl⟩,fun hc=>let ⟨x,hx⟩:=h4 hc;⟨x,hx,_,rfl⟩⟩
theorem HAny.first [Tracks] {T:List MObj->Prop} {i:Nat} {oi:Oper} {h:HVal} (hi:ops[i]? =some oi) (hdst: ∀t,oi.dst=some t->t<n) (hT:(∀M,T M)\/(T=S/\i∈ld)):
 ∀(fuel:Nat) (listed:Array Bool) (e:Env) (M:List MObj),
  (∀j oj,ops[j]? =some oj->j≠i->listed.getD j true=false->(∀ed∈oj.after,Region.binds .any ed=true->ed.on≠i)->oi.apart ops oj=true)->
  i∈Region.ready .any ops listed->DStep P ops T e oi h->T M->
  HAny P ops n S ld K fuel (listed.setIfInBounds i true) (zd5 e oi.dst h) M->HAny P ops n S ld K (fuel+1) listed e M:=by
 intro fuel
 induction fuel with
 |zero=>
   intro listed e M _ hr hd hTM H
   refine ⟨fun h=>(by rw [h] at hr;cases hr),fun j hj o ho=> ?_⟩
   by_cases hji:j=i
   subst hji;rw [hi] at ho;cases ho;exact hd.hop hdst hTM ⟨fun hS=> .inl hS,H⟩;have:=ready_mono hj hji;rw [H.1] at this
   cases this
 |succ fuel ih=>
   intro listed e M hfree hr hd hTM H
   refine ⟨fun h=>(by rw [h] at hr;cases hr),fun j hj o ho=> ?_⟩
   by_cases hji:j=i
   subst hji;rw [hi] at ho;cases ho;exact hd.hop hdst hTM ⟨fun hS=> .inl hS,H⟩;have h1:=H.2 j (ready_mono hj hji) o ho;obtain ⟨hjun,oj,hoj,hall⟩:=mem_ready.1 hj;rw [ho] at hoj;cases hoj;have hnot: ∀ed∈o.after,Region.binds .any ed=true->ed.on≠i:=fun ed he hb heq=>by
    have h1:=hall ed he hb;have h0:=(mem_ready.1 hr).1;rw [heq] at h1
    rcases AC i listed.size with h'|h'
    simp [h'] at h0 h1;rw [h0] at h1;cases h1
    simp [Av h'] at h1
   obtain ⟨a1,a2,a3⟩:=Oper.apart_spec (hfree j o ho hji hjun hnot);have hfree': ∀k ok,ops[k]? =some ok->k≠i->(listed.setIfInBounds j true).getD k true=false->
    (∀ed∈ok.after,Region.binds .any ed=true->ed.on≠i)->oi.apart ops ok=true:=fun k ok hk hki hun hno=>by
    refine hfree k ok hk hki ?_ hno
    by_cases hjk:j=k
    subst hjk;exact hjun;rw [getD_set_ne true hjk] at hun;exact hun
   have h2:=(HOp.put a1 a2 h1).and;refine h2.mono ?_;rintro e' M' ⟨⟨hS,hA⟩,x,rfl⟩;refine ⟨hS,ih (listed.setIfInBounds j true) _ M' hfree' (ready_mono hr (Ne.symm hji)) (hd.put a3) ?_ ?_⟩
   rcases hT with hT|⟨rfl,hl⟩
   exact hT M'
   rcases hS hTM with h'|h'
   exact h';obtain ⟨ed,he,hb,hon⟩:=h' i hl;exact absurd hon (hnot ed he hb);rw [Array.setIfInBounds_comm _ _ hji];exact hA
/-! as the scripts use it-/
variable {e:Env} {M:List MObj} {listed:Array Bool} {fuel:Nat} {d:Nat} {op:Op} {ty:TypeId} {pos:String} {af:Array Edge} {h:HVal}
theorem ahp [Tracks] (i:Nat) (hi:ops[i]? =some ⟨some d,op,ty,pos,af,none⟩) (hd:Nat.blt d n=true) (hf:Region.free .any ops listed i=true) (hr:(Region.ready .any ops listed).contains i=true)
 (hp:POp P e ⟨some d,op,ty,pos,af,none⟩ h) (k:HAny P ops n S ld K fuel (listed.setIfInBounds i true) (upd e d h) M):HAny P ops n S ld K (fuel+1) listed e M:=
 HAny.first (T:=fun _=>True) hi (fun t ht=>by simp at ht;subst ht;exact zgx hd) (.inl fun _=>trivial) fuel listed e M (Region.free_spec hi hf) (by simpa using hr)
  ⟨true,rfl,fun _ M _=>hp.eop ⟨rfl,rfl⟩,fun h=>by cases h⟩ trivial k
theorem ahg [Tracks] (i:Nat) {j:Nat} {want c:Bool} (hi:ops[i]? =some ⟨some d,op,ty,pos,af,some (j,want)⟩) (hd:Nat.blt d n=true) (hf:Region.free .any ops listed i=true) (hr:(Region.ready .any ops listed).contains i=true)
 (hg:ze4 ops e j want=some c) (hp:c=true->∃e2,OpenTo e e2/\POp P e2 ⟨some d,op,ty,pos,af,some (j,want)⟩ h)
 (k:HAny P ops n S ld K fuel (listed.setIfInBounds i true) (upd e d (.opt c h)) M):HAny P ops n S ld K (fuel+1) listed e M:=
 HAny.first (T:=fun _=>True) hi (fun t ht=>by simp at ht;subst ht;exact zgx hd) (.inl fun _=>trivial) fuel listed e M (Region.free_spec hi hf) (by simpa using hr)
  ⟨c,hg,fun hc M _=>by
   obtain ⟨e2,h1,h2⟩:=hp hc
   intro I F a w ho hs
   exact zbh (fun _ _ ⟨v,J,h3,h4,h5,h6⟩=>⟨v,.opt c h,M,J,h3,h4,⟨rfl,rfl⟩,.opt (fun _=>h5) (fun hf=>by rw [hc] at hf;cases hf),h6⟩) ((h2.open h1) I (M++F) a w ho hs),
   fun hc=>⟨h,by rw [hc]⟩⟩ trivial k
theorem ahl [Tracks] (i:Nat) (hi:ops[i]? =some ⟨some d,op,ty,pos,af,none⟩) (hd:Nat.blt d n=true) (hf:Region.free .any ops listed i=true) (hr:(Region.ready .any ops listed).contains i=true) (hl:i∈ld) (hS:S M)
 (hp: ∀M,S M->EOp P e M ⟨some d,op,ty,pos,af,none⟩ fun x M'=>x=h/\M'=M) (k:HAny P ops n S ld K fuel (listed.setIfInBounds i true) (upd e d h) M):HAny P ops n S ld K (fuel+1) listed e M:=
 HAny.first (T:=S) hi (fun t ht=>by simp at ht;subst ht;exact zgx hd) (.inr ⟨rfl,hl⟩) fuel listed e M (Region.free_spec hi hf) (by simpa using hr)
  ⟨true,rfl,fun _ M hM=>hp M hM,fun h=>by cases h⟩ hS k
theorem ahe [Tracks] (i:Nat) {o:Oper} (hi:ops[i]? =some o) (hr:Region.ready .any ops listed=[i]) (k:HOp P ops n o e M fun e' M'=>(S M->S M'\/zmM ld o)/\HAny P ops n S ld K fuel (listed.setIfInBounds i true) e' M'):
 HAny P ops n S ld K (fuel+1) listed e M:=
 ⟨fun h=>(by rw [hr] at h;cases h),fun j hj o' ho'=>by rw [hr] at hj;simp at hj;subst hj;rw [hi] at ho';cases ho';exact k⟩
theorem zi4 [Tracks] (i i':Nat) {o o':Oper} (hi:ops[i]? =some o) (hi':ops[i']? =some o') (hr:Region.ready .any ops listed=[i,i'])
 (k:HOp P ops n o e M fun e' M'=>(S M->S M'\/zmM ld o)/\HAny P ops n S ld K fuel (listed.setIfInBounds i true) e' M')
 (k':HOp P ops n o' e M fun e' M'=>(S M->S M'\/zmM ld o')/\HAny P ops n S ld K fuel (listed.setIfInBounds i' true) e' M'):HAny P ops n S ld K (fuel+1) listed e M:=
 ⟨fun h=>(by rw [hr] at h;cases h),fun j hj q hq=>by
  rw [hr] at hj;simp at hj
  rcases hj with rfl|rfl
  rw [hi] at hq;cases hq;exact k;rw [hi'] at hq;cases hq;exact k'⟩
theorem ahz [Tracks] (hr:Region.ready .any ops listed=[]) (k:K e M):HAny P ops n S ld K fuel listed e M:=by
 cases fuel with
 |zero=>exact ⟨hr,k⟩
 |succ f=>exact ⟨fun _=>k,by rw [hr];simp⟩
theorem zw [Tracks] {rest:Env->List MObj->Prop} (hd:Nat.blt d n=true) (hp:EOp P e M ⟨some d,op,ty,pos,af,none⟩ fun h M'=>rest (upd e d h) M'):HOp P ops n ⟨some d,op,ty,pos,af,none⟩ e M rest:=
 ⟨fun t ht=>by simp at ht;subst ht;exact zgx hd,true,rfl,fun _=>hp,fun h=>by cases h⟩
theorem zI [Tracks] {rest:Env->List MObj->Prop} (hp:EOp P e M ⟨none,op,ty,pos,af,none⟩ fun _ M'=>rest e M'):HOp P ops n ⟨none,op,ty,pos,af,none⟩ e M rest:=
 ⟨fun t ht=>by simp at ht,true,rfl,fun _=>hp,fun h=>by cases h⟩
end
end
section
theorem zl {α:Type} {M N:List α} (h:M=N):M.Perm N:=h▸Ac _
theorem zm [Tracks] {e:Env} {M:List MObj} {b off:Nat} {cs:List HVal} (t:Nat) (ht:e t=some (.raw (.pointer (some ⟨b,off,none⟩)))):Ghost e (.cells b cs::M) (upd e t (.vptr cs off)) M:=
 zaN (i:=0) t rfl ht
theorem zuc [Tracks] {e:Env} {M:List MObj} {v:Value} {sz:Nat} {es:List HVal} (t:Nat) (ht:e t=some (.raw v)):Ghost e (.arr v sz es::M) (upd e t (.slice sz es)) M:=
 zay (i:=0) t rfl ht
theorem zbv [Tracks] {e:Env} {M M':List MObj} (h:M=M'):Ghost e M e M':=h▸Ghost.sub (Sub.refl _)
section
variable {P:Program} {e:Env} {dst:Option Tmp} {ty:TypeId} {pos:String} {af:Array Edge} {g:Option (Nat×Bool)} {M:List MObj} {K:HVal->List MObj->Prop}
theorem zxp {cs hs:List HVal} (h:hs.length=cs.length):zaO cs 0 hs=hs:=by
 simp [zaO,h]
theorem zj [Tracks] {x y:Operand} {t:TypeId} {d:TD} {size bytes:Nat} {zero:Value} {b:Nat} {cs:List HVal} {h:HVal} (hf:Fits P t d size bytes zero)
 (hx:zh e x=some (.raw (.pointer (some ⟨b,0,none⟩)))) (hy:zh e y=some h) (ho:zeA size h=true) (hfl:zan (zb h)=true) (hc:cs.length=size)
 (hk:K .junk (.cells b (zb h)::M)):EOp P e (.cells b cs::M) ⟨dst,.store t x y,ty,pos,af,g⟩ K:=by
 obtain ⟨h1,_⟩:=zeB ho;refine zfI (i:=0) hf hx hy rfl ho hfl (by omega) ?_;rw [zxp (by omega)];exact hk
end
section
variable {P:Program} {n:Nat} {e e':Env} {M M':List MObj} {Q Q':Exit->Env->List MObj->Prop} {c c':Code}
def zo2 {α β:Type} (e:Env) (ks:List Nat) (W:α->β->List (Nat×HVal)) (MM:α->β->List MObj) (Iv:α->β->Prop) (μ:α->β->Nat) (x:α) (y:β) (Q:Exit->Env->List MObj->Prop):Exit->Env->List MObj->Prop
 | .normal,e',M=> ∃j k,Iv j k/\μ j k<μ x y/\zcW e' (W j k)/\zg3 ks e e'/\M.Perm (MM j k)
 |z,e',M=>Q z e' M
theorem zQ {α β:Type} {e0:Env} {ks:List Nat} {W:α->β->List (Nat×HVal)} {MM:α->β->List MObj} {Iv:α->β->Prop} {μ:α->β->Nat} {x:α} {y:β} {id:Nat} (h:Q (.exit id) e M):
 zo2 e0 ks W MM Iv μ x y Q (.exit id) e M:=h
theorem zpL [Tracks] {α β:Type} (ks:List Nat) (W:α->β->List (Nat×HVal)) (MM:α->β->List MObj) (Iv:α->β->Prop) (μ:α->β->Nat) (x:α) (y:β) (h0:Iv x y) (hW:zcW e (W x y)) (hM:M.Perm (MM x y))
 (hb: ∀x y,Iv x y->HWp P n c (loopE e ks (W x y)) (MM x y) (zo2 e ks W MM Iv μ x y Q)):HWp P n (.loop c) e M Q:=by
 refine zjg (ι:=α×β) ks (fun p=>W p.1 p.2) (fun p=>MM p.1 p.2) (fun p=>Iv p.1 p.2) (fun p=>μ p.1 p.2) (x,y) h0 hW hM fun p hp=>znc (hb p.1 p.2 hp) ?_
 intro z e1 M1 hq
 cases z with
 |normal=>obtain ⟨j,k,h⟩:=hq;exact ⟨(j,k),h⟩
 |_=>exact hq
def zrX {α β γ:Type} (e:Env) (ks:List Nat) (W:α->β->γ->List (Nat×HVal)) (MM:α->β->γ->List MObj) (Iv:α->β->γ->Prop) (μ:α->β->γ->Nat) (x:α) (y:β) (u:γ) (Q:Exit->Env->List MObj->Prop):Exit->Env->List MObj->Prop
 | .normal,e',M=> ∃j k l,Iv j k l/\μ j k l<μ x y u/\zcW e' (W j k l)/\zg3 ks e e'/\M.Perm (MM j k l)
 |z,e',M=>Q z e' M
theorem zcE {α β γ:Type} {e0:Env} {ks:List Nat} {W:α->β->γ->List (Nat×HVal)} {MM:α->β->γ->List MObj} {Iv:α->β->γ->Prop} {μ:α->β->γ->Nat} {x:α} {y:β} {u:γ} {id:Nat} (h:Q (.exit id) e M):
 zrX e0 ks W MM Iv μ x y u Q (.exit id) e M:=h
theorem zuu [Tracks] {α β γ:Type} (ks:List Nat) (W:α->β->γ->List (Nat×HVal)) (MM:α->β->γ->List MObj) (Iv:α->β->γ->Prop) (μ:α->β->γ->Nat) (x:α) (y:β) (u:γ) (h0:Iv x y u) (hW:zcW e (W x y u)) (hM:M.Perm (MM x y u))
 (hb: ∀x y u,Iv x y u->HWp P n c (loopE e ks (W x y u)) (MM x y u) (zrX e ks W MM Iv μ x y u Q)):HWp P n (.loop c) e M Q:=by
 refine zjg (ι:=α×β×γ) ks (fun p=>W p.1 p.2.1 p.2.2) (fun p=>MM p.1 p.2.1 p.2.2) (fun p=>Iv p.1 p.2.1 p.2.2) (fun p=>μ p.1 p.2.1 p.2.2) (x,y,u) h0 hW hM fun p hp=>znc (hb p.1 p.2.1 p.2.2 hp) ?_
 intro z e1 M1 hq
 cases z with
 |normal=>obtain ⟨j,k,l,h⟩:=hq;exact ⟨(j,k,l),h⟩
 |_=>exact hq
end
def zrf [Tracks] (P:Program) (f:FuncId) (hargs:List HVal) (sz:Nat) (es:List HVal):Prop:=Con P f hargs [] fun x M'=> ∃v,x= .raw v/\M'=[.arr v sz es]
theorem zsU [Tracks] {rs:List ResultVar} {e:Env} {v:Value} {sz:Nat} {es es':List HVal} (hr:zlv e rs=some (.raw v)) (hh:es=es'):zmj rs (fun x M'=> ∃v,x= .raw v/\M'=[.arr v sz es']) .ret e [.arr v sz es]:=
 ⟨e,_,Ghost.sub (Sub.refl _),_,_,hr,Weak.refl _,v,rfl,by rw [hh]⟩
theorem zxh [Tracks] {rs:List ResultVar} {e:Env} {M:List MObj} {v:Value} {sz:Nat} {es:List HVal} {h h':HVal} (t:Nat) (ht:e t=some (.raw v)) (hr:zlv (upd e t (.slice sz es)) rs=some h) (hh:h=h'):
 zmj rs (fun x M'=>x=h'/\M'=[]) .ret e [.arr v sz es]:=
 ⟨_,_,zuc t ht,h,h,hr,Weak.refl _,hh,rfl⟩
theorem zAM [Tracks] {P:Program} {e:Env} {dst:Option Tmp} {ty:TypeId} {pos:String} {af:Array Edge} {g:Option (Nat×Bool)} {M:List MObj} {K:HVal->List MObj->Prop} {f:FuncId} {args:Array Operand} {ats:Array TypeId}
 {hs hs':List HVal} {sz:Nat} {es:List HVal} (hc:Callable P f) (ha:zdE e args.toList=some hs) (hw:WeakL hs hs') (hp:zrf P f hs' sz es) (hk: ∀v,K (.raw v) (.arr v sz es::M)):
 EOp P e M ⟨dst,.call ⟨.value (.func f),args,ats⟩,ty,pos,af,g⟩ K:=by
 have:=(zrz (dst:=dst) (ty:=ty) (pos:=pos) (af:=af) (g:=g) (ats:=ats) hc ha hw hp).frame M;refine EOp.mono ?_ this
 rintro h M' ⟨N,rfl,v,rfl,rfl⟩;exact hk v
theorem zaA [Tracks] {P:Program} {e:Env} {dst:Option Tmp} {ty:TypeId} {pos:String} {af:Array Edge} {g:Option (Nat×Bool)} {M M1 R:List MObj} {K Q:HVal->List MObj->Prop} {f:FuncId} {args:Array Operand} {ats:Array TypeId}
 {hs hs':List HVal} (hc:Callable P f) (ha:zdE e args.toList=some hs) (hw:WeakL hs hs') (hm:M.Perm (M1++R)) (hp:Con P f hs' M1 Q) (hk: ∀h M',Q h M'->K h (M'++R)):
 EOp P e M ⟨dst,.call ⟨.value (.func f),args,ats⟩,ty,pos,af,g⟩ K:=by
 have:=(zrz (dst:=dst) (ty:=ty) (pos:=pos) (af:=af) (g:=g) (ats:=ats) hc ha hw hp).frame R;refine EOp.perm hm (EOp.mono ?_ this)
 rintro h M' ⟨N,rfl,hq⟩;exact hk h N hq
end
section
section
variable {P:Program} {e:Env} {dst:Option Tmp} {ty:TypeId} {pos:String} {af:Array Edge} {g:Option (Nat×Bool)} {M:List MObj} {K:HVal->List MObj->Prop}
theorem zvx {t el:TypeId} (hu:P.underlying t=some (.slice el)) (a:Option Addr) (n cap:Nat) (w:World):(Op.equal t (.slice a n cap) (.slice none 0 0)).run P w= .ok a.isNone w:=by
 have h: ∀d,(Op.equalIn (d+1) t (.slice a n cap) (.slice none 0 0)).run P w= .ok a.isNone w:=fun d=>by
  cases a<;>simp only [Op.equalIn,Sem.run_bind,run_underlying hu,Result.andThen_ok,Sem.run_pure,Option.isNone]
 exact h 9999
theorem zl4 [Tracks] {x y:Operand} {t t' el:TypeId} {size bytes sz:Nat} {zero:Value} {es:List HVal} (hf:Fits P t (.slice el) size bytes zero) (hx:zh e x=some (.slice sz es)) (hy:zh e y=some (.raw (.slice none 0 0)))
 (hk: ∀b:Bool,(b=true->es=[])->K (.bool b) M):EOp P e M ⟨dst,.binOp .eql t x y t',ty,pos,af,g⟩ K:=
 EOp.of_run fun I F a w ho hs=>by
  have hv:=ho.one (x:=x) (by simp [Op.operands]) hx;have h2:=(ho.one (x:=y) (by simp [Op.operands]) hy).raw_inv;obtain ⟨p,cap,h1⟩:=hv.slice_len;refine ⟨.bool p.isNone,_,M,w,I,?_,.refl I,hk p.isNone ?_,.bool _,hs⟩
  simp [execOp,h1,h2,eqGuard,binOp,zvx hf.slice]
  intro hp
  rcases hv.slice_inv with ⟨rfl,_⟩|⟨b,off,cap',rc,el',fr,h3,_⟩
  rfl
  rw [h1] at h3
  simp at h3
  rw [h3.1] at hp
  simp at hp
theorem zqv [Tracks] {t el:TypeId} {size bytes sz b2:Nat} {zero z2:Value} {d:TD} (hf:Fits P t (.slice el) size bytes zero) (hel:Fits P el d sz b2 z2) (hk: ∀v,K (.raw v) (.arr v sz []::M)):
 EOp P e M ⟨dst,.buildSlice t 0 #[],ty,pos,af,g⟩ K:=
 EOp.of_run fun I F a w ho hs=>by
  refine ⟨.slice (some ⟨w.heap.size,0,none⟩) 0 0,_,_,push w (.cells #[] el (0,0)),I,?_,.refl I,hk _,.raw _ rfl,?_⟩
  simp [execOp,Instr.buildSlice,run_underlying hf.slice,hel.run_sizeOf,Instr.fill,newRow]
  have:Array.range 0= #[]:=by simp [Array.range]
  rw [this,Array.map_empty];refine hs.new_own _ _ rfl (.inr ⟨w.heap.size,0,0,#[],el,(0,0),rfl,by simp [push],Free.zero _,by simp,by simp,by simp,fun i j x c u h=>by simp at h⟩)
theorem zyF [Tracks] {x y:Operand} {t t':TypeId} {k k':IntKind} {m n:Int} (hx:zh e x=some (.int k m)) (hy:zh e y=some (.int k' n)) (hn:0<=n):
 POp P e ⟨dst,.binOp .shr t x y t',ty,pos,af,g⟩ (.int k (m.fdiv (2^min n.toNat k.bits))):=
 zF fun I a w ho=>⟨_,by
  have h1:=(ho.one (x:=x) (by simp [Op.operands]) hx).int_inv;have h2:=(ho.one (x:=y) (by simp [Op.operands]) hy).int_inv;have h3: ¬n<0:=by omega
  simp [execOp,h1,h2,eqGuard,binOp,Op.shift,h3],.int _ _⟩
/-! equal structs of single cells-/
def eqH:HVal->HVal->Bool
 | .int _ a,.int _ b=>a==b
 | .str a,.str b=>a==b
 | .bool a,.bool b=>a==b
 |_,_=>false
def zfy:List HVal->List HVal->Bool
 |[],[]=>true
 |a::r,b::r'=>eqH a b&&zfy r r'
 |_,_=>false
def zfW:TD->HVal->HVal->Bool
 | .int k,.int k1 _,.int k2 _=>decide (k1=k2)
 | .str,.str _,.str _=>true
 | .bool,.bool _,.bool _=>true
 |_,_,_=>false
def zoa (P:Program):List (Nat×Nat)->Nat->List HVal->List HVal->Prop
 |[],_,[],[]=>True
 |f::fs,k,a::r,b::r'=>f.1=k/\(∃d s by' z,Fits P f.2 d s by' z/\zfW d a b=true)/\zoa P fs (k+1) r r'
 |_,_,_,_=>False
theorem zh2 [Tracks] {t:TypeId} {d:TD} {s by':Nat} {z:Value} (hf:Fits P t d s by' z) {a b:HVal} (hk:zfW d a b=true) {I:Imm} {u v:Value} (hu:V I a u) (hv:V I b v) (n:Nat) (w:World):
 (Op.equalIn (n+1) t u v).run P w= .ok (eqH a b) w:=by
 cases d<;>cases a<;>cases b<;>focus first|(simp [zfW] at hk;done)|skip
 rw [hu.bool_inv,hv.bool_inv];simp only [Op.equalIn,Sem.run_bind,run_underlying hf.boolD,Result.andThen_ok,Sem.run_pure,eqH]
 simp [zfW] at hk
 subst hk;rw [hu.int_inv,hv.int_inv];simp only [Op.equalIn,Sem.run_bind,run_underlying hf.intD,Result.andThen_ok,Sem.run_pure,eqH,if_true];rw [hu.str_inv,hv.str_inv];simp only [Op.equalIn,Sem.run_bind,run_underlying hf.strD,Result.andThen_ok,Sem.run_pure,eqH]
 congr 1
 rw [beq_toListBytes,ByteArray.toList_eq,ByteArray.toList_eq]
theorem zrK [Tracks] {t:TypeId} {d:TD} {s by':Nat} {z:Value} (hf:Fits P t d s by' z) (hd:d.isAgg=false) {cs:Array Value} {o:Nat} {v:Value} (hv:cs[o]? =some v) (w:World):(part t cs o).run P w= .ok v w:=by
 simp [part,hf.run_isAgg,hd,hv]
theorem zqc {d:TD} {a b:HVal} (h:zfW d a b=true):d.isAgg=false:=by
 cases d<;>simp [zfW,TD.isAgg] at h⊢
theorem zqa [Tracks] {I:Imm} {xs ys:Array Value} {cs ds:List HVal} (hx:VL I cs xs.toList) (hy:VL I ds ys.toList) (n:Nat) (w:World):
 ∀(fs:List Field) (k:Nat),(∀f∈fs,f.name≠ "_")->zoa P (fs.map fun f=>(f.offset,f.type)) k (cs.drop k) (ds.drop k)->(Op.eqFields (n+1) xs ys fs).run P w= .ok (zfy (cs.drop k) (ds.drop k)) w
 |[],k,_,hk=>by
   simp only [A7] at hk
   cases hc:cs.drop k with
   |nil=>
     cases hd:ds.drop k with
     |nil=>simp [Op.eqFields,zfy]
     |cons _ _=>rw [hc,hd] at hk;exact hk.elim
   |cons _ _=>
     cases hd:ds.drop k with
     |nil=>rw [hc,hd] at hk;exact hk.elim
     |cons _ _=>rw [hc,hd] at hk;exact hk.elim
 |f::fs,k,hn,hk=>by
   simp only [Ao] at hk
   cases hc:cs.drop k with
   |nil=>
     cases hd:ds.drop k with
     |nil=>rw [hc,hd] at hk;exact hk.elim
     |cons _ _=>rw [hc,hd] at hk;exact hk.elim
   |cons a r=>
     cases hd:ds.drop k with
     |nil=>rw [hc,hd] at hk;exact hk.elim
     |cons b r'=>
       rw [hc,hd] at hk;obtain ⟨h1,⟨d,s,by',z,h2,h3⟩,h4⟩:=hk;simp only at h1 h2;have ha:cs[k]? =some a:=by have:=congrArg (fun l:List HVal=>l[0]?) hc;simpa using this
       have hb:ds[k]? =some b:=by have:=congrArg (fun l:List HVal=>l[0]?) hd;simpa using this
       obtain ⟨u,hu,hu'⟩:=hx.get ha;obtain ⟨v,hv,hv'⟩:=hy.get hb;have hr:cs.drop (k+1)=r:=by rw [<-BD (i:=1),hc];rfl
       have hr':ds.drop (k+1)=r':=by rw [<-BD (i:=1),hd];rfl
       have ih:=zqa hx hy n w fs (k+1) (fun f hf=>hn f (by simp [hf])) (by rw [hr,hr'];exact h4);rw [hr,hr'] at ih;subst h1;have hag:=zqc h3;simp only [Op.eqFields];rw [if_pos (hn f (by simp))];simp only [Sem.run_bind,zrK h2 hag (by simpa using hu),zrK h2 hag (by simpa using hv),Result.andThen_ok,zh2 h2 h3 hu' hv' n]
       cases hq:eqH a b with
       |true=>simp only [Bool.not_true,AU,if_false,ih,zfy,hq,Bool.true_and]
       |false=>simp only [Cp,if_true,Sem.run_pure,zfy,hq,Bool.false_and]
structure EqOk (P:Program) (t:TypeId):Prop where
 held:P.stoodInHeld t=false
 guard:P.eqGuardType P.depth t=false
 names:(P.fieldsOf t).toList.all (fun f=>f.name != "_")=true
theorem zh3 [Tracks] {t:TypeId} {fs:List (Nat×Nat)} {s by':Nat} {z:Value} (hf:Fits P t (.struct fs) s by' z) (hq:EqOk P t) {I:Imm} {xs ys:Array Value} {cs ds:List HVal} (hx:VL I cs xs.toList) (hy:VL I ds ys.toList)
 (hk:zoa P fs 0 cs ds) (w:World):(Op.equal t (.agg xs) (.agg ys)).run P w= .ok (zfy cs ds) w:=by
 obtain ⟨gs,h1,h2⟩:=hf.structD;have h3:P.fieldsOf t=gs:=by simp [Program.fieldsOf,h1]
 have hn:=hq.names;rw [h3] at hn;have h: ∀n,(Op.equalIn (n+2) t (.agg xs) (.agg ys)).run P w= .ok (zfy cs ds) w:=fun n=>by
  rw [run_equalIn_struct w (n+1) t xs ys (by rw [h3];exact h1) hq.held,h3];have:=zqa (P:=P) hx hy n w gs.toList 0 (fun f hf=>by have:=List.all_eq_true.1 hn f hf;simpa using this) (by rw [h2];exact hk)
  simpa using this
 exact h 9998
theorem zjY {op:BinOp} {t:TypeId} (hq:EqOk P t) {x y:Operand} {xs ys:Array Value} (w:World):(eqGuard op t x y (.agg xs) (.agg ys)).run P w= .ok () w:=by
 exact run_eqGuard_agg w op t x y xs ys hq.guard
theorem zw2 [Tracks] {x y:Operand} {t t':TypeId} {fs:List (Nat×Nat)} {s by':Nat} {z:Value} {cs ds:List HVal} (hf:Fits P t (.struct fs) s by' z) (hq:EqOk P t) (hx:zh e x=some (.agg cs)) (hy:zh e y=some (.agg ds)) (hk:zoa P fs 0 cs ds):
 POp P e ⟨dst,.binOp .eql t x y t',ty,pos,af,g⟩ (.bool (zfy cs ds)):=
 zF fun I a w ho=>by
  obtain ⟨xs,h1,h2⟩:=(ho.one (x:=x) (by simp [Op.operands]) hx).agg_inv;obtain ⟨ys,h3,h4⟩:=(ho.one (x:=y) (by simp [Op.operands]) hy).agg_inv;refine ⟨_,?_,.bool _⟩
  simp only [execOp,h1,h3,Sem.run_bind,zjY hq,Result.andThen_ok,binOp,zh3 hf hq h2 h4 hk,Sem.run_pure]
theorem zgV [Tracks] {x y:Operand} {t t':TypeId} {fs:List (Nat×Nat)} {s by':Nat} {z:Value} {cs ds:List HVal} (hf:Fits P t (.struct fs) s by' z) (hq:EqOk P t) (hx:zh e x=some (.agg cs)) (hy:zh e y=some (.agg ds)) (hk:zoa P fs 0 cs ds):
 POp P e ⟨dst,.binOp .neq t x y t',ty,pos,af,g⟩ (.bool (!(zfy cs ds))):=
 zF fun I a w ho=>by
  obtain ⟨xs,h1,h2⟩:=(ho.one (x:=x) (by simp [Op.operands]) hx).agg_inv;obtain ⟨ys,h3,h4⟩:=(ho.one (x:=y) (by simp [Op.operands]) hy).agg_inv;refine ⟨_,?_,.bool _⟩
  simp only [execOp,h1,h3,Sem.run_bind,zjY hq,Result.andThen_ok,binOp,zh3 hf hq h2 h4 hk,Sem.run_pure]
/-! functions without a body-/
theorem zz1 [Tracks] {f:FuncId} {fn:Func} {args:Array Operand} {ats:Array TypeId} {x y:Operand} {s u:List UInt8} (hf:P.funcs[f]? =some fn) (h1:(fn.name== "runtime.NumGoroutine")=false) (h2:fn.body.isNone=true)
 (h3:(Extern.findNext fn).isNone=true) (h4:Extern.find fn=some Extern.BytealgCompare.compare) (ha:args= #[x,y]) (hx:zh e x=some (.str s)) (hy:zh e y=some (.str u)):
 POp P e ⟨dst,.call ⟨.value (.func f),args,ats⟩,ty,pos,af,g⟩ (.int .i64 (Lib.compareBytes s u)):=
 zF fun I a w ho=>by
  subst ha;have e1:=(ho.one (x:=x) (by simp [Op.operands,Call.operands]) hx).str_inv;have e2:=(ho.one (x:=y) (by simp [Op.operands,Call.operands]) hy).str_inv;refine ⟨_,?_,.int _ _⟩
  have h3':Extern.findNext fn=none:=by cases h:Extern.findNext fn with|none=>rfl|some _=>rw [h] at h3;simp at h3
  have hcmp:(Extern.BytealgCompare.compare #[.string ⟨s.toArray⟩,.string ⟨u.toArray⟩]).run P w= .ok (.int .i64 (Lib.compareBytes s u)) w:=by
   have:=Lib.run_compareString (P:=P) ⟨s.toArray⟩ ⟨u.toArray⟩ w
   simpa using this
  have hev:a.eval (.func f)= .func (.func f) #[] #[]:=rfl;have hmap:(#[x,y]:Array Operand).map a.eval= #[.string ⟨s.toArray⟩,.string ⟨u.toArray⟩]:=by simp [e1,e2]
  have hargs:(#[]:Array Value)++ #[.string ⟨s.toArray⟩,.string ⟨u.toArray⟩]++ #[]= #[.string ⟨s.toArray⟩,.string ⟨u.toArray⟩]:=rfl;simp only [execOp,resolve,hev,hmap,Deferred.ofValue,invoke,callFunc,Sem.run_bind,Sem.run_pure,Result.andThen_ok,run_program,hf,h1,h2,h3',h4,AU,if_false,if_true,run_mark,hargs,hcmp]
end
end
end Go.HL
section
namespace Go.HL
def z7 (s:List UInt8):List (List UInt8×HVal)->Option (Nat×HVal)
 |[]=>none
 |(k,h)::r=>if s=k then some (0,h) else (z7 s r).map fun p=>(p.1+1,p.2)
def sput (s:List UInt8) (h:HVal) (l:List (List UInt8×HVal)):List (List UInt8×HVal):=
 match z7 s l with
 |some (j,_)=>l.set j (s,h)
 |none=>l++[(s,h)]
def sk (l:List (List UInt8×HVal)):List (HVal×HVal):=l.map fun p=>(.str p.1,p.2)
theorem zjC (s k:List UInt8):((⟨s.toArray⟩:ByteArray)==⟨k.toArray⟩)=decide (s=k):=by
 rw [beq_toListBytes,ByteArray.toList_eq,ByteArray.toList_eq]
 simp
 rw [AE];simp
theorem zrL {s:List UInt8}: ∀{l:List (List UInt8×HVal)} {j:Nat} {h:HVal},z7 s l=some (j,h)->l[j]? =some (s,h)
 |[],j,h,hh=>by simp [z7] at hh
 |(k,x)::r,j,h,hh=>by
   simp only [z7] at hh
   by_cases hk:s=k
   rw [if_pos hk] at hh
   simp at hh
   obtain ⟨rfl,rfl⟩:=hh
   simp [hk]
   rw [if_neg hk] at hh
   cases hr:z7 s r with
   |none=>rw [hr] at hh;simp at hh
   |some p=>
     rw [hr] at hh
     simp at hh
     obtain ⟨rfl,rfl⟩:=hh
     simpa using zrL hr
theorem zjT [Tracks] {I:Imm} {s:List UInt8}: ∀(es:List MapEntry) (ls:List (List UInt8×HVal)) (i:Nat),es.length=ls.length->
 (∀(j:Nat) (p:List UInt8×HVal) (m:MapEntry),ls[j]? =some p->es[j]? =some m->m.key= .string ⟨p.1.toArray⟩/\V I p.2 m.val)->
 (z7 s ls=none->Instr.findNow .string (.string ⟨s.toArray⟩) es i=some none)/\
 ∀j h,z7 s ls=some (j,h)->∃v,Instr.findNow .string (.string ⟨s.toArray⟩) es i=some (some (i+j,v))/\V I h v
 |[],[],i,_,_=>⟨fun _=>rfl,fun j h hh=>by simp [z7] at hh⟩
 |[],_::_,i,hl,_=>by simp at hl
 |_::_,[],i,hl,_=>by simp at hl
 |m::es,(k,x)::ls,i,hl,hv=>by
   obtain ⟨h1,h2⟩:=hv 0 (k,x) m rfl rfl;simp only at h1;have ih:=zjT (I:=I) (s:=s) es ls (i+1) (by simpa using hl) fun j p m a b=>hv (j+1) p m (by simpa using a) (by simpa using b)
   simp only [Instr.findNow,h1,Instr.sameNow,zjC]
   by_cases hk:s=k
   simp only [hk,decide_true];refine ⟨fun h=>by simp [z7] at h,fun j h hh=> ?_⟩
   simp [z7] at hh
   obtain ⟨rfl,rfl⟩:=hh;exact ⟨m.val,rfl,h2⟩;simp only [hk,decide_false];refine ⟨fun h=>ih.1 ?_,fun j h hh=> ?_⟩
   simp only [z7,if_neg hk] at h
   cases hr:z7 s ls with
   |none=>rfl
   |some p=>rw [hr] at h;simp at h
   simp only [z7,if_neg hk] at hh
   cases hr:z7 s ls with
   |none=>rw [hr] at hh;simp at hh
   |some p=>
     rw [hr] at hh
     simp at hh
     obtain ⟨rfl,rfl⟩:=hh;obtain ⟨v,g1,g2⟩:=ih.2 p.1 p.2 hr;exact ⟨v,by rw [g1];congr 3;omega,g2⟩
theorem ziK [Tracks] {I:Imm} {ls:List (List UInt8×HVal)} {es:Array MapEntry} (hl:es.size=(sk ls).length)
 (hv: ∀(i:Nat) (p:HVal×HVal) (m:MapEntry),(sk ls)[i]? =some p->es[i]? =some m->V I p.1 m.key/\V I p.2 m.val):
 es.toList.length=ls.length/\∀(j:Nat) (p:List UInt8×HVal) (m:MapEntry),ls[j]? =some p->es.toList[j]? =some m->m.key= .string ⟨p.1.toArray⟩/\V I p.2 m.val:=by
 refine ⟨by simpa [sk] using hl,fun j p m a b=> ?_⟩
 obtain ⟨h1,h2⟩:=hv j (.str p.1,p.2) m (by simp [sk,a]) (by simpa using b);exact ⟨h1.str_inv,h2⟩
section
variable {P:Program} {e:Env} {dst:Option Tmp} {ty:TypeId} {pos:String} {af:Array Edge} {g:Option (Nat×Bool)} {M:List MObj} {K:HVal->List MObj->Prop}
theorem Fits.mapD [Tracks] {t:TypeId} {k el size bytes:Nat} {zero:Value} (h:Fits P t (.map k el) size bytes zero):P.underlying t=some (.map k el):=by
 obtain ⟨x,h1,h2⟩:=h.underlying
 cases x<;>simp [zhz] at h2
 obtain ⟨rfl,rfl⟩:=h2;exact h1
theorem zax [Tracks] {t:TypeId} (hk: ∀b,K (.raw (.map (some b))) (.map b []::M)):EOp P e M ⟨dst,.makeMap t none,ty,pos,af,g⟩ K:=
 EOp.of_run fun I F a w ho hs=>by
  refine ⟨.map (some w.heap.size),_,_,push w (.map #[] 0),I,by simp [execOp,Instr.makeMap],.refl I,hk _,.raw _ rfl,?_⟩
  exact hs.new_own _ _ rfl ⟨#[],0,by simp [push],⟨rfl,BornOk.nil⟩,fun i p m h=>by simp at h⟩
theorem zc4 {kt:TypeId} (hu:P.underlying kt=some .string) (b:Bool) (s:ByteArray) (w:World):(Instr.checkKey b 10000 kt (.string s)).run P w= .ok () w:=by
 have h: ∀n,(Instr.checkKey b (n+1) kt (.string s)).run P w= .ok () w:=fun n=>by
  simp only [Instr.checkKey,Sem.run_bind,run_underlying hu,Result.andThen_ok,Sem.run_pure]
 exact h 9999
theorem zaW {w:World} {b:Nat} {es:Array MapEntry} {clk:Nat} (h:w.heap[b]? =some (.map es clk)):(getObj b).run P w= .ok (.map es clk) w:=by
 simp [getObj,Sem.run,h]
theorem znY [Tracks] {x y:Operand} {t kt et:TypeId} {size bytes s2 b2 s3 b3:Nat} {zero z2 z3:Value} {d:TD} {i b:Nat} {ls:List (List UInt8×HVal)} {s:List UInt8}
 (hf:Fits P t (.map kt et) size bytes zero) (hkt:Fits P kt .str s2 b2 z2) (het:Fits P et d s3 b3 z3) (hx:zh e x=some (.raw (.map (some b)))) (hy:zh e y=some (.str s)) (hm:M[i]? =some (.map b (sk ls)))
 (hk:K (match z7 s ls with|some p=>p.2|none=>zaT z3) M):EOp P e M ⟨dst,.lookup t x y false,ty,pos,af,g⟩ K:=
 EOp.of_run fun I F a w ho hs=>by
  have h1:=(ho.one (x:=x) (by simp [Op.operands]) hx).raw_inv;have h2:=(ho.one (x:=y) (by simp [Op.operands]) hy).str_inv;obtain ⟨es,clk,h3,h4,h5⟩:=hs.obj _ (Ap _ (Ab hm));obtain ⟨h6,h7⟩:=ziK h4.1 h5;obtain ⟨n1,n2⟩:=zjT (I:=I) (s:=s) es.toList ls 0 h6 h7
  cases hq:z7 s ls with
  |none=>
    rw [hq] at hk;refine ⟨z3,_,M,w,I,?_,.refl I,hk,zg4 I z3,hs⟩
    simp only [execOp,h1,h2,Instr.lookup,Sem.run_bind,run_underlying hf.mapD,Result.andThen_ok,zaW h3,Sem.run_pure,zc4 hkt.strD,Instr.findKey,run_underlying hkt.strD,n1 hq,het.run_zero]
    simp
  |some p=>
    obtain ⟨j,h⟩:=p;rw [hq] at hk;obtain ⟨v,g1,g2⟩:=n2 j h hq;refine ⟨v,_,M,w,I,?_,.refl I,hk,g2,hs⟩
    simp only [execOp,h1,h2,Instr.lookup,Sem.run_bind,run_underlying hf.mapD,Result.andThen_ok,zaW h3,Sem.run_pure,zc4 hkt.strD,Instr.findKey,run_underlying hkt.strD,g1]
    simp
theorem zee {w:World} {b:Nat} {es:Array MapEntry} {clk:Nat} (h:w.heap[b]? =some (.map es clk)) (o:Obj):(setObj b o).run P w= .ok () {w with heap:=w.heap.setIfInBounds b o}:=by
 simp [setObj,Sem.run,h]
theorem zoL [Tracks] {x y z:Operand} {t kt et:TypeId} {size bytes s2 b2:Nat} {zero z2:Value} {i b:Nat} {ls:List (List UInt8×HVal)} {s:List UInt8} {h:HVal}
 (hf:Fits P t (.map kt et) size bytes zero) (hkt:Fits P kt .str s2 b2 z2) (hx:zh e x=some (.raw (.map (some b)))) (hy:zh e y=some (.str s)) (hz:zh e z=some h) (hm:M[i]? =some (.map b (sk ls)))
 (hk:K .junk (M.set i (.map b (sk (sput s h ls))))):EOp P e M ⟨dst,.mapUpdate t x y z,ty,pos,af,g⟩ K:=
 zhw fun I F a w ho hs=>by
  have h1:=(ho.one (x:=x) (by simp [Op.operands]) hx).raw_inv;have h2:=(ho.one (x:=y) (by simp [Op.operands]) hy).str_inv;have h0:=ho.one (x:=z) (by simp [Op.operands]) hz;have hp:=hs.pull hm;obtain ⟨es,clk,h3,h4,h5⟩:=hp.obj _ Ai;obtain ⟨h6,h7⟩:=ziK h4.1 h5;obtain ⟨n1,n2⟩:=zjT (I:=I) (s:=s) es.toList ls 0 h6 h7;have hlt:b<w.heap.size:=by
   rcases AC b w.heap.size with h'|h'
   exact h'
   simp [Av h'] at h3
  have fin: ∀(es':Array MapEntry) (clk':Nat),es'.size=(sk (sput s h ls)).length/\BornOk es' clk'->
   (∀(i:Nat) (p:HVal×HVal) (m:MapEntry),(sk (sput s h ls))[i]? =some p->es'[i]? =some m->V I p.1 m.key/\V I p.2 m.val)->
   Sat P I (M.set i (.map b (sk (sput s h ls)))++F) {w with heap:=w.heap.setIfInBounds b (.map es' clk')}:=fun es' clk' e1 e2=>by
   refine zcc hm (hp.change (m':= .map b (sk (sput s h ls))) (fun k hk hnk=> ?_) (fun k hk=> .inl hk) (by simp [MObj.blocks]) ⟨es',clk',by simp [hlt],e1,e2⟩ rfl rfl rfl)
   have:k≠b:=by simpa [MObj.blocks] using hnk
   simp [AJ (Ne.symm this)]
  cases hq:z7 s ls with
  |none=>
    refine ⟨_,_,I,?_,.refl I,hk,fin (es.push ⟨.string ⟨s.toArray⟩,a.eval z,clk⟩) (clk+1) ?_ fun j p m a1 a2=> ?_⟩
    simp only [execOp,h1,h2,Instr.mapUpdate,Sem.run_bind,run_underlying hf.mapD,Result.andThen_ok,zaW h3,zc4 hkt.strD,Instr.findKey,run_underlying hkt.strD,n1 hq,Sem.run_pure,zee h3];exact ⟨by simp [sput,hq,sk];simpa [sk] using h4.1,h4.2.push rfl⟩;have hsz:es.size=ls.length:=by simpa [sk] using h4.1
    simp only [sput,hq,sk,Ay,Ao,A7] at a1
    by_cases hj:j<ls.length
    rw [Aw (by simpa using hj)] at a1;rw [AQ,if_neg (by omega)] at a2;exact h5 j p m (by simpa [sk] using a1) a2;rw [Au (by simp;omega)] at a1;rw [AQ] at a2
    by_cases hje:j=es.size
    rw [if_pos hje] at a2
    simp at a2
    subst a2;have:j-(ls.map fun p=>(HVal.str p.1,p.2)).length=0:=by simp;omega
    rw [this] at a1
    simp at a1
    subst a1;exact ⟨.str _,h0⟩;rw [if_neg hje,Av (by omega)] at a2
    cases a2
  |some q=>
    obtain ⟨j0,h'⟩:=q;obtain ⟨v,g1,g2⟩:=n2 j0 h' hq;have hj0:=zrL hq;have hjl:=zn hj0;have hsz:es.size=ls.length:=by simpa [sk] using h4.1
    have hent: ∃m0,es[j0]? =some m0:=⟨es[j0],Aq (by omega)⟩
    obtain ⟨m0,hm0⟩:=hent;have hkey:=(h7 j0 (s,h') m0 hj0 (by simpa using hm0)).1;refine ⟨_,_,I,?_,.refl I,hk,fin (es.modify j0 fun e=>{e with key:= .string ⟨s.toArray⟩,val:=a.eval z}) clk ?_ fun j p m a1 a2=> ?_⟩
    have hstay:(Instr.keyThatStays (((es[j0]?).map (·.key)).getD (.string ⟨s.toArray⟩)) (.string ⟨s.toArray⟩)).run P w= .ok (.string ⟨s.toArray⟩) w:=by
     rw [hm0];simp only [AI,Br,hkey,Instr.keyThatStays];have hsb:Instr.sameBits 10000 (.string ⟨s.toArray⟩) (.string ⟨s.toArray⟩)=true:=by
      have: ∀n,Instr.sameBits n (.string ⟨s.toArray⟩) (.string ⟨s.toArray⟩)=true:=fun n=>by
       cases n<;>simp [Instr.sameBits,zjC]
      exact this _
     rw [if_pos hsb];rfl
    simp only [execOp,h1,h2,Instr.mapUpdate,Sem.run_bind,run_underlying hf.mapD,Result.andThen_ok,zaW h3,zc4 hkt.strD,Instr.findKey,run_underlying hkt.strD,g1,Sem.run_pure,Bk,hstay,zee h3];exact ⟨by simp [sput,hq,sk];exact hsz,h4.2.modify _ fun _=>rfl⟩;simp only [sput,hq,sk] at a1;rw [AG] at a2;rw [Aj,List.getElem?_set] at a1
    by_cases hj:j0=j
    subst hj;rw [if_pos rfl,hm0] at a2;rw [if_pos rfl,if_pos hjl] at a1
    simp at a1 a2
    subst a1 a2;exact ⟨.str _,h0⟩;rw [if_neg hj] at a1 a2;exact h5 j p m (by simpa [sk] using a1) a2
/-! a set of strings-/
def zbd (l:List (List UInt8)):List (List UInt8×HVal):=l.map fun s=>(s,.bool true)
theorem zov (s:List UInt8): ∀l:List (List UInt8),(match z7 s (zbd l) with|some p=>p.2|none=>HVal.bool false)= .bool (l.contains s)/\((z7 s (zbd l)).isSome=l.contains s)/\∀j h,z7 s (zbd l)=some (j,h)->(zbd l).set j (s,.bool true)=zbd l
 |[]=>by simp [zbd,z7]
 |x::r=>by
   have ih:=zov s r;simp only [zbd,Ao,z7] at ih⊢
   by_cases hx:s=x
   subst hx;simp;rw [if_neg hx];obtain ⟨i1,i2,i3⟩:=ih
   cases hq:z7 s (List.map (fun s=>(s,HVal.bool true)) r) with
   |none=>
     rw [hq] at i1 i2;have hn:r.contains s=false:=by simpa using i2.symm
     refine ⟨?_,?_,fun j h hh=>by simp at hh⟩
     simp only [Option.map_none,Cm,hn,BA]
     simp [hx]
     simp only [Option.map_none,Option.isSome_none,Cm,hn,BA]
     simp [hx]
   |some p=>
     rw [hq] at i1 i2;have hn:r.contains s=true:=by simpa using i2.symm
     refine ⟨?_,?_,fun j h hh=> ?_⟩
     simp only [AI,Cm,hn,Bool.or_true];rw [hn] at i1;exact i1;simp only [AI,Option.isSome_some,Cm,hn,Bool.or_true];simp only [AI,AA,Prod.mk.injEq] at hh;obtain ⟨rfl,rfl⟩:=hh;have:=i3 p.1 p.2 (by rw [hq]);simp only [Cn,this]
def zbW (s:List UInt8) (l:List (List UInt8)):List (List UInt8):=if l.contains s then l else l++[s]
theorem zBG [Tracks] (s:List UInt8) (l:List (List UInt8)):sput s (.bool true) (zbd l)=zbd (zbW s l):=by
 obtain ⟨_,i2,i3⟩:=zov s l;unfold sput zbW
 cases hq:z7 s (zbd l) with
 |none=>rw [hq] at i2;simp at i2;simp [i2,zbd]
 |some p=>
   rw [hq] at i2;have:l.contains s=true:=by simpa using i2.symm
   simp only [this,if_true];exact i3 p.1 p.2 (by rw [hq])
end
end Go.HL
namespace Go.HL
section
variable {P:Program} {e:Env} {dst:Option Tmp} {ty:TypeId} {pos:String} {af:Array Edge} {g:Option (Nat×Bool)} {M:List MObj} {K:HVal->List MObj->Prop}
theorem ztH [Tracks] {x y:Operand} {t kt et:TypeId} {size bytes s2 b2 s3 b3:Nat} {zero z2:Value} {d:TD} {i b:Nat} {l:List (List UInt8)} {s:List UInt8}
 (hf:Fits P t (.map kt et) size bytes zero) (hkt:Fits P kt .str s2 b2 z2) (het:Fits P et d s3 b3 (.bool false)) (hx:zh e x=some (.raw (.map (some b)))) (hy:zh e y=some (.str s)) (hm:M[i]? =some (.map b (sk (zbd l))))
 (hk:K (.bool (l.contains s)) M):EOp P e M ⟨dst,.lookup t x y false,ty,pos,af,g⟩ K:=by
 refine znY hf hkt het hx hy hm ?_;have h:=(zov s l).1;have h2:(match z7 s (zbd l) with|some p=>p.2|none=>zaT (.bool false))=HVal.bool (l.contains s):=h;rw [h2];exact hk
theorem zdv [Tracks] {x y z:Operand} {t kt et:TypeId} {size bytes s2 b2:Nat} {zero z2:Value} {i b:Nat} {l:List (List UInt8)} {s:List UInt8}
 (hf:Fits P t (.map kt et) size bytes zero) (hkt:Fits P kt .str s2 b2 z2) (hx:zh e x=some (.raw (.map (some b)))) (hy:zh e y=some (.str s)) (hz:zh e z=some (.bool true)) (hm:M[i]? =some (.map b (sk (zbd l))))
 (hk:K .junk (M.set i (.map b (sk (zbd (zbW s l)))))):EOp P e M ⟨dst,.mapUpdate t x y z,ty,pos,af,g⟩ K:=by
 refine zoL hf hkt hx hy hz hm ?_;rw [zBG];exact hk
theorem zeh [Tracks] {x:Operand} {t:TypeId} {d:TD} {size bytes:Nat} {zero:Value} {i b:Nat} {h:HVal} (hf:Fits P t d size bytes zero)
 (hx:zh e x=some (.raw (.pointer (some ⟨b,0,none⟩)))) (hm:M[i]? =some (.cells b (zb h))) (hd:d.isAgg=true) (hh:h= .agg (zb h)) (hc:(zb h).length=size)
 (hk:K h M):EOp P e M ⟨dst,.load t x,ty,pos,af,g⟩ K:=
 zV (h:=h) hf hx hm (.inr ⟨hd,by omega,by rw [List.drop_zero,<-hc,Am,<-hh]⟩) hk
theorem zM [Tracks] {x y:Operand} {t el:TypeId} {size bytes sz b2:Nat} {zero z2:Value} {d:TD} {b off n cap:Nat} {k:IntKind} {i:Int} {j:Nat}
 (hf:Fits P t (.slice el) size bytes zero) (hel:Fits P el d sz b2 z2) (hx:zh e x=some (.raw (.slice (some ⟨b,off,none⟩) n cap))) (hy:zh e y=some (.int k i)) (hi:i=(j:Int)) (hj:j<n):
 POp P e ⟨dst,.indexAddr t x y,ty,pos,af,g⟩ (.raw (.pointer (some ⟨b,off+j*sz,none⟩))):=
 zF fun I a w ho=>by
  subst hi;have h1:=(ho.one (x:=x) (by simp [Op.operands]) hx).raw_inv;have h2:=(ho.one (x:=y) (by simp [Op.operands]) hy).int_inv;exact ⟨_,by simp [execOp,h1,h2,zq9 hf hel hj],.raw _ rfl⟩
end
section
variable {P:Program} {ops:Array Oper} {n:Nat} {K:Env->List MObj->Prop} {rest:List Oper} {e:Env} {M:List MObj} {d:Nat} {op:Op} {ty:TypeId} {pos:String} {af:Array Edge} {h:HVal}
theorem dgl [Tracks] {j:Nat} {want c:Bool} (hd:Nat.blt d n=true) (hg:ze4 ops e j want=some c) (hp:c=true->∃e2,OpenTo e e2/\EOp P e2 M ⟨some d,op,ty,pos,af,some (j,want)⟩ fun x M'=>x=h/\M'=M)
 (k:Der P ops n K rest (upd e d (.opt c h)) M):Der P ops n K (⟨some d,op,ty,pos,af,some (j,want)⟩::rest) e M:=
 ⟨fun t ht=>by simp at ht;subst ht;exact zgx hd,c,hg,fun hc=>by
  obtain ⟨e2,h1,h2⟩:=hp hc
  intro I F a w ho hs
  exact zbh (fun _ _ ⟨v,x,M',J,h3,h4,⟨h5,h6⟩,h7,h8⟩=>⟨v,.opt c h,M,J,h3,h4,k,.opt (fun _=>h5▸h7) (fun hf=>by rw [hc] at hf;cases hf),by subst h6;exact h8⟩) (h2 I F a w (ho.open h1) hs),
  fun hc=>⟨h,by subst hc;exact k⟩⟩
end
end Go.HL
end
namespace Go.HL
section
def zvX (P:Program) (e:Env):List ResultVar->List HVal->Prop
 |[],[]=>True
 | .tmp t::r,h::l=>e t=some h/\zvX P e r l
 | .cell a t::r,h::l=>(∃cs d size bytes zero,e a=some (.vptr cs 0)/\Fits P t d size bytes zero/\((d.isAgg=false/\cs[0]? =some h)\/(d.isAgg=true/\size=cs.length/\h= .agg cs)))/\zvX P e r l
 |_,_=>False
def zAj:List HVal->HVal
 |[h]=>h
 |l=> .tup l
def zyU [Tracks] (P:Program) (rs:List ResultVar) (Q:HVal->List MObj->Prop):Exit->Env->List MObj->Prop
 | .normal,e,M| .ret,e,M=> ∃e' M',Ghost e M e' M'/\∃l h',zvX P e' rs l/\Weak (zAj l) h'/\Q h' M'
 |_,_,_=>False
theorem zxg [Tracks] {P:Program} {I:Imm} {e:Env} {tmps:Array Value} (he:EnvV I e tmps) {M:List MObj} {w:World} (hs:Sat P I M w): ∀(rs:List ResultVar) (l:List HVal),zvX P e rs l->
 ∃vs:List Value,(rs.mapM (ziQ tmps)).run P w= .ok vs w/\VL I l vs:=by
 intro rs
 induction rs with
 |nil=>
   intro l h
   cases l with
   |nil=>exact ⟨[],by simp,VL.nil⟩
   |cons _ _=>exact h.elim
 |cons r rs ih=>
   intro l h
   cases l with
   |nil=>cases r<;>exact h.elim
   |cons x l=>
     cases r with
     |tmp t=>
       obtain ⟨h1,h2⟩:=h;obtain ⟨vs,h3,h4⟩:=ih l h2;obtain ⟨v,h5,h6⟩:=he t x h1;refine ⟨v::vs,?_,VL.cons h6 h4⟩
       simp only [List.mapM_cons,ziQ,Sem.run_bind,Sem.run_pure,Result.andThen_ok,h3]
       simp [h5]
     |cell a t=>
       obtain ⟨⟨cs,d,size,bytes,zero,h1,hf,hh⟩,h2⟩:=h;obtain ⟨vs,h3,h4⟩:=ih l h2;obtain ⟨v,h5,h6⟩:=he a _ h1;obtain ⟨b,base,rc,el,fr,g1,g2,g3,g4⟩:=h6.vptr_inv;obtain ⟨v',h7,h8⟩:=zhD (I:=I) (h:=x) (o:=base+0) (off:=0) (base:=base) hf (hs.imm _ _ g2) rfl g3 g4 (by
        rcases hh with hh|⟨p1,p2,p3⟩
        exact .inl hh;exact .inr ⟨p1,by omega,by rw [p2];simpa using p3⟩)
       refine ⟨v'::vs,?_,VL.cons h8 h4⟩
       have hg:tmps.getD a undef= .pointer (some ⟨b,base+0,none⟩):=by simp [h5,g1]
       simp only [List.mapM_cons,ziQ,Sem.run_bind,Sem.run_pure,Result.andThen_ok,hg,asAddr,h7,h3]
theorem zaQ [Tracks] {P:Program} {f:FuncId} {fn:Func} {c:Code} {hargs:List HVal} {M:List MObj} {Q:HVal->List MObj->Prop}
 {n:Nat} (hf:P.funcs[f]? =some fn) (hb:fn.body=some c) (hnt:fn.ntmps=n) (hn':Nat.ble hargs.length n=true) {rs:List ResultVar} (hrs:fn.results.toList=rs) (h:HWp P n c (zlR hargs) M (zyU P rs Q)):Con P f hargs M Q:=by
 have hn:=Ak hn';subst hnt hrs
 intro I F w args h1 h2
 refine calls_of_wp hf hb ?_;have hlen:=h1.1;refine wp_mono (h I F _ w rfl (by simp;omega) ?_ h2) ?_
 intro t x hx
 obtain ⟨v,h3,h4⟩:=h1.get hx;have hlt:t<args.length:=zn h3;refine ⟨v,?_,h4⟩
 rw [AF (by simpa using hlt)]
 simpa using h3
 have key: ∀(a':Act) (w':World),a'.defers=[]->(∃J e M',Le I J/\(∃e' M'',Ghost e M' e' M''/\∃l h',zvX P e' fn.results.toList l/\Weak (zAj l) h'/\Q h' M'')/\EnvV J e a'.tmps/\Sat P J (M'++F) w')->
  a'.defers=[]/\∃v,(results fn a'.tmps).run P w'= .ok v w'/\(∃v_1 h M' J,Ending.returned v=Ending.returned v_1/\Le I J/\Q h M'/\V J h v_1/\Sat P J (M'++F) w'):=by
  rintro a' w' hd ⟨J,e,M',hl,⟨e',M'',hg,l,h',hr,hw,hq⟩,he,hs⟩;obtain ⟨J2,hl2,he2,hs2⟩:=hg J F a'.tmps w' he hs;refine ⟨hd,?_⟩
  obtain ⟨vs,h3,h4⟩:=zxg he2 hs2 _ _ hr;have hrun:(results fn a'.tmps).run P w'= .ok (if h:vs.length=1 then vs[0] else .tuple vs.toArray) w':=by
   rw [zor];have hm:(fn.results.mapM (ziQ a'.tmps)).run P w'= .ok vs.toArray w':=by
    rw [BU];simp only [Sem.run_map,h3,Result.andThen_ok]
   simp only [Sem.run_bind,Sem.run_pure];rw [hm]
   simp
  refine ⟨_,hrun,_,h',M'',J2,rfl,hl.trans hl2,hq,?_,hs2⟩
  apply hw
  match l,h4 with
  |[],h4=>
    have:vs=[]:=by have:=h4.1;simpa using this
    subst this;exact .tup (by simp) (fun j c v h _=>by simp at h)
  |[x],h4=>
    have hl1:vs.length=1:=by have:=h4.1;simpa using this
    match vs,hl1,h4 with
    |[v],_,h4=>exact h4.head
  |x::y::r,h4=>
    have hl1:vs.length=r.length+2:=by have:=h4.1;simpa using this
    rw [dif_neg (by omega)];exact .tup (by simp [hl1]) (fun j c v h1 h2=>h4.2 j c v h1 (by simpa using h2))
 rintro x a' w' ⟨p1,p2,J,e,M',p3,p4,p5,p6⟩
 cases x with
 |normal=>exact key a' w' p1 ⟨J,e,M',p3,p4,p5,p6⟩
 |ret=>exact key a' w' p1 ⟨J,e,M',p3,p4,p5,p6⟩
 |exit id=>exact p4.elim
 |goto l=>exact p4.elim
 |panic ch=>exact p4.elim
 |outgrown=>exact p4.elim
section
variable {P:Program} {e:Env} {dst:Option Tmp} {ty:TypeId} {pos:String} {af:Array Edge} {g:Option (Nat×Bool)} {M:List MObj} {K:HVal->List MObj->Prop}
theorem Fits.arrD [Tracks] {t:TypeId} {n el size bytes:Nat} {zero:Value} (h:Fits P t (.arr n el) size bytes zero):P.underlying t=some (.array n el):=by
 obtain ⟨x,h1,h2⟩:=h.underlying
 cases x<;>simp [zhz] at h2
 obtain ⟨rfl,rfl⟩:=h2;exact h1
theorem zqb [Tracks] {t el:TypeId} {n size bytes sz b2:Nat} {zero z2:Value} {d:TD} (hf:Fits P t (.arr n el) size bytes zero) (hel:Fits P el d sz b2 z2) {k:IntKind} {j b o:Nat} (hj:j<n) (w:World):
 (Instr.indexAt t (.pointer (some ⟨b,o,none⟩)) (.int k (j:Int))).run P w= .ok (.pointer (some ⟨b,o+j*sz,none⟩)) w:=by
 have h1:(0:Int)<=(j:Int)/\(j:Int)<(n:Int):=by omega
 simp [Instr.indexAt,asIntOf,run_underlying hf.arrD,h1,hel.run_sizeOf,zem,Instr.sureAddr]
 intro h;omega
theorem zCQ [Tracks] {x y:Operand} {t el:TypeId} {n size bytes sz b2:Nat} {zero z2:Value} {d:TD} {cs:List HVal} {off:Nat} {k:IntKind} {i:Int} {j:Nat}
 (hf:Fits P t (.arr n el) size bytes zero) (hel:Fits P el d sz b2 z2) (hx:zh e x=some (.vptr cs off)) (hy:zh e y=some (.int k i)) (hi:i=(j:Int)) (hj:j<n):
 POp P e ⟨dst,.indexAddr t x y,ty,pos,af,g⟩ (.vptr cs (off+j*sz)):=
 zF fun I a w ho=>by
  subst hi;obtain ⟨b,base,rc,el,fr,h1,h2,h3,h4⟩:=(ho.one (x:=x) (by simp [Op.operands]) hx).vptr_inv;have h5:=(ho.one (x:=y) (by simp [Op.operands]) hy).int_inv;refine ⟨.pointer (some ⟨b,base+off+j*sz,none⟩),by simp [execOp,h1,h5,zqb hf hel hj],?_⟩
  rw [Bc];exact .vptr h2 h3 h4
theorem zw3 [Tracks] {x y:Operand} {t el:TypeId} {n size bytes sz b2:Nat} {zero z2:Value} {d:TD} {b o:Nat} {k:IntKind} {i:Int} {j:Nat}
 (hf:Fits P t (.arr n el) size bytes zero) (hel:Fits P el d sz b2 z2) (hx:zh e x=some (.raw (.pointer (some ⟨b,o,none⟩)))) (hy:zh e y=some (.int k i)) (hi:i=(j:Int)) (hj:j<n):
 POp P e ⟨dst,.indexAddr t x y,ty,pos,af,g⟩ (.raw (.pointer (some ⟨b,o+j*sz,none⟩))):=
 zF fun I a w ho=>by
  subst hi;have h1:=(ho.one (x:=x) (by simp [Op.operands]) hx).raw_inv;have h5:=(ho.one (x:=y) (by simp [Op.operands]) hy).int_inv;exact ⟨_,by simp [execOp,h1,h5,zqb hf hel hj],.raw _ rfl⟩
theorem zvw [Tracks] {f:FuncId} {fn:Func} {args:Array Operand} {ats:Array TypeId} {x y:Operand} {s:List UInt8} {c:Int} (hf:P.funcs[f]? =some fn) (h1:(fn.name== "runtime.NumGoroutine")=false) (h2:fn.body.isNone=true)
 (h3:(Extern.findNext fn).isNone=true) (h4:Extern.find fn=some Extern.BytealgIndexByte.indexByte) (ha:args= #[x,y]) (hx:zh e x=some (.str s)) (hy:zh e y=some (.int .u8 c)):
 POp P e ⟨dst,.call ⟨.value (.func f),args,ats⟩,ty,pos,af,g⟩ (.int .i64 (Lib.indexByte s c.toNat.toUInt8)):=
 zF fun I a w ho=>by
  subst ha;have e1:=(ho.one (x:=x) (by simp [Op.operands,Call.operands]) hx).str_inv;have e2:=(ho.one (x:=y) (by simp [Op.operands,Call.operands]) hy).int_inv;refine ⟨_,?_,.int _ _⟩
  have h3':Extern.findNext fn=none:=by cases h:Extern.findNext fn with|none=>rfl|some _=>rw [h] at h3;simp at h3
  have hcmp:(Extern.BytealgIndexByte.indexByte #[.string ⟨s.toArray⟩,.int .u8 c]).run P w= .ok (.int .i64 (Lib.indexByte s c.toNat.toUInt8)) w:=by
   have:=Lib.run_indexByteString (P:=P) ⟨s.toArray⟩ c w
   simpa using this
  have hev:a.eval (.func f)= .func (.func f) #[] #[]:=rfl;have hmap:(#[x,y]:Array Operand).map a.eval= #[.string ⟨s.toArray⟩,.int .u8 c]:=by simp [e1,e2]
  have hargs:(#[]:Array Value)++ #[.string ⟨s.toArray⟩,.int .u8 c]++ #[]= #[.string ⟨s.toArray⟩,.int .u8 c]:=rfl;simp only [execOp,resolve,hev,hmap,Deferred.ofValue,invoke,callFunc,Sem.run_bind,Sem.run_pure,Result.andThen_ok,run_program,hf,h1,h2,h3',h4,AU,if_false,if_true,run_mark,hargs,hcmp]
end
end
section
variable {P:Program}
open Go.Sort Go.Proofs
theorem zhN [Tracks] {I:Imm} {F:List MObj} {w:World} {b off n cap sz:Nat} {es:List HVal} (h:Sat P I (.arr (.slice (some ⟨b,off,none⟩) n cap) sz es::F) w):
 n=es.length/\∃rc el fr,w.heap[b]? =some (.cells rc el fr)/\Free fr rc.size/\(∀e∈es,(zb e).length=sz)/\(es.length<=cap/\cap<=9223372036854775807)/\off+cap*sz<=rc.size/\
  (∀(i j:Nat) (e c:HVal) (v:Value),es[i]? =some e->(zb e)[j]? =some c->rc[off+i*sz+j]? =some v->V I c v):=by
 rcases h.obj _ Ai with ⟨h0,_⟩|⟨b',off',cap',rc,el,fr,h1,h2,h3,h4,h5,h6,h7⟩
 cases h0
 cases h1
 exact ⟨rfl,rc,el,fr,h2,h3,h4,h5,h6,h7⟩
theorem zus [Tracks] {I:Imm} {F:List MObj} {w:World} {b off n cap:Nat} {l:List (List UInt8)} (h:Sat P I (.arr (.slice (some ⟨b,off,none⟩) n cap) 1 (l.map .str)::F) w):
 Holds encStr w b off l.toArray/\b<w.heap.size/\l.length<=cap/\n=l.length:=by
 obtain ⟨h0,rc,el,fr,h2,h3,h4,h5,h6,h7⟩:=zhN h;simp only [Af] at h0 h5;refine ⟨fun j hj=> ?_,?_,h5.1,h0⟩
 have hj':j<l.length:=by simpa using hj
 have hlt:off+j<rc.size:=by omega
 constructor
 rw [zcu h2,Aq hlt];have hv:=h7 j 0 (.str l[j]) (.str l[j]) rc[off+j] (by simp [hj']) (by simp [zb]) (by simp [Aq hlt]);rw [hv.str_inv]
 simp [hj',encStr]
 simp only [World.frozen?,h2];have:=h3 (off+j) hlt
 simpa using this
 rcases AC b w.heap.size with h'|h'
 exact h'
 simp [Av h'] at h2
theorem zyM [Tracks] {I:Imm} {F:List MObj} {w:World} {b off n cap n' k:Nat} {os:Array Obj} {l zs:List (List UInt8)} (h:Sat P I (.arr (.slice (some ⟨b,off,none⟩) n cap) 1 (l.map .str)::F) w) (hz:zs.length=l.length) (hn:n'<=l.length):
 Sat P I (.arr (.slice (some ⟨b,off,none⟩) n' cap) 1 ((zs.take n').map .str)::F) (grow (putRow encStr (Sort.ahead w k) b off zs.toArray) os):=by
 obtain ⟨h0,rc,el,fr,h2,h3,h4,h5,h6,h7⟩:=zhN h;simp only [Af] at h0 h5;have hlt:b<w.heap.size:=by
  rcases AC b w.heap.size with h'|h'
  exact h'
  simp [Av h'] at h2
 have hheap: ∀c,c<w.heap.size->(grow (putRow encStr (Sort.ahead w k) b off zs.toArray) os).heap[c]? =(w.heap.modify b (onCells (putCells encStr off zs.toArray)))[c]?:=fun c hc=>by
  simp only [grow,putRow,mapBlock,Sort.ahead];rw [AF (by simpa using hc)]
 refine h.change (m':= .arr (.slice (some ⟨b,off,none⟩) n' cap) 1 ((zs.take n').map .str)) (fun c hc hnc=> ?_) (fun c hc=> .inl hc) (by simp [MObj.blocks]) ?_ rfl rfl rfl
 rw [hheap c hc,AG];have:b≠c:=fun hh=>hnc (by subst hh;simp [MObj.blocks])
 rw [if_neg this];refine .inr ⟨b,off,cap,putCells encStr off zs.toArray rc,el,fr,?_,?_,?_,?_,?_,?_,?_⟩
 simp [hz,Ci hn]
 rw [hheap b hlt,AG,if_pos rfl,h2];rfl
 simpa [putCells] using h3
 intro e he;obtain ⟨a,_,rfl⟩:=List.mem_map.1 he;simp [zb]
 simp;omega
 simpa [putCells] using h6
 intro i j e c v a1 a2 a3
 have hi:i<n':=by
  have:=zn a1;simp at this;omega
 rw [Aj,AD hi] at a1
 cases hq:zs[i]? with
 |none=>rw [hq] at a1;simp at a1
 |some s=>
   rw [hq] at a1;simp at a1;subst a1;have hj:j=0:=by have:=zn a2;simp [zb] at this;omega
   subst hj
   simp [zb] at a2;subst a2
   have hil:i<zs.length:=zn hq;have hr:off+i*1+0<rc.size:=by omega
   rw [putCells,CB,Aq hr,AI,if_pos ⟨by omega,by simp;omega⟩] at a3;have e1:off+i*1+0-off=i:=by omega
   rw [e1] at a3;have e2:zs.toArray[i]! =s:=by
    rw [getElem!_pos zs.toArray i (by simpa using hil)];have:=Aa hil;rw [hq] at this;simpa using (As this).symm
   rw [e2] at a3
   cases a3
   exact .str s
theorem VL.one {I:Imm} {h:HVal} {args:List Value} (hv:VL I [h] args): ∃v,args=[v]/\V I h v:=by
 obtain ⟨h1,h2⟩:=hv
 match args,h1 with
 |[v],_=>exact ⟨v,rfl,h2 0 h v rfl rfl⟩
def zaB (l:List (List UInt8)):List (List UInt8):=l.mergeSort fun x y=>decide (x<=y)
theorem ziw (l:List (List UInt8)):(zaB l).length=l.length:=by simp [zaB]
theorem zEu [Tracks] {P:Program} {f:FuncId} {l zs:List (List UInt8)} {v:Value} (hz:zs.length=l.length)
 (h1: ∀(b off cap:Nat) (w:World),Holds encStr w b off l.toArray->b<w.heap.size->l.length<=cap->Calls P f #[.slice (some ⟨b,off,none⟩) l.length cap] w fun e w'=>e= .returned (.tuple #[])/\∃n os,w'=grow (putRow encStr (Sort.ahead w n) b off zs.toArray) os)
 (h0:l=[]->ConP P f [.slice 1 []] (.tup [])):Con P f [.raw v] [.arr v 1 (l.map .str)] fun x M'=>x= .tup []/\M'=[.arr v 1 (zs.map .str)]:=by
 intro I F w args ha hs
 obtain ⟨u,rfl,hu⟩:=ha.one;obtain rfl:u=v:=hu.raw_inv
 rcases hs.obj (.arr u 1 (l.map .str)) (by simp) with ⟨rfl,hn⟩|⟨b,off,cap,rc,el,fr,rfl,_⟩
 have hl:l=[]:=by simpa using hn
 subst hl;have hz0:zs=[]:=List.length_eq_zero_iff.1 hz;subst hz0;refine (h0 rfl I (.arr (.slice none 0 0) 1 []::F) w [.slice none 0 0] (VL.cons (.slice0 _ _ _) VL.nil) (by simpa using hs)).mono ?_;rintro _ w' ⟨v,h,M',J,rfl,hle,⟨rfl,rfl⟩,hv,hsat⟩;exact ⟨v,_,[.arr (.slice none 0 0) 1 []],J,rfl,hle,⟨rfl,rfl⟩,hv,by simpa using hsat⟩;rw [Af] at hs⊢;obtain ⟨g1,g2,g3,g4⟩:=zus hs;refine (h1 b off cap w g1 g2 g3).mono ?_;rintro _ w' ⟨rfl,n,os,rfl⟩;refine ⟨_,.tup [],_,I,rfl,.refl I,⟨rfl,rfl⟩,.tup (by simp) (fun j c v h _=>by simp at h),?_⟩
 have:=zyM (n':=l.length) (k:=n) (os:=os) hs hz (Ae _);rw [<-hz,Am,hz] at this;exact this
theorem zB6 [Tracks] {P:Program} {f:FuncId} {l zs:List (List UInt8)} {v:Value} (hz:zs.length<=l.length)
 (h1: ∀(b off cap:Nat) (w:World),Holds encStr w b off l.toArray->b<w.heap.size->l.length<=cap->Calls P f #[.slice (some ⟨b,off,none⟩) l.length cap] w fun e w'=>e= .returned (.slice (some ⟨b,off,none⟩) zs.length cap)/\∃n,w'=putRow encStr (Sort.ahead w n) b off (zs++List.replicate (l.length-zs.length) []).toArray)
 (h0:l=[]->∀w,Calls P f #[.slice none 0 0] w fun e w'=>e= .returned (.slice none 0 0)/\w'=w):Con P f [.raw v] [.arr v 1 (l.map .str)] fun x M'=> ∃u,x= .raw u/\M'=[.arr u 1 (zs.map .str)]:=by
 intro I F w args ha hs
 obtain ⟨u,rfl,hu⟩:=ha.one;obtain rfl:u=v:=hu.raw_inv
 rcases hs.obj (.arr u 1 (l.map .str)) (by simp) with ⟨rfl,hn⟩|⟨b,off,cap,rc,el,fr,rfl,_⟩
 have hl:l=[]:=by simpa using hn
 subst hl;have hz0:zs=[]:=List.length_eq_zero_iff.1 (by simpa using hz);subst hz0;refine (h0 rfl w).mono ?_;rintro _ w' ⟨rfl,rfl⟩;exact ⟨_,.raw (.slice none 0 0),_,I,rfl,.refl I,⟨_,rfl,rfl⟩,.raw _ rfl,hs⟩;rw [Af] at hs⊢;obtain ⟨g1,g2,g3,g4⟩:=zus hs;refine (h1 b off cap w g1 g2 g3).mono ?_;rintro _ w' ⟨rfl,n,rfl⟩;refine ⟨_,.raw (.slice (some ⟨b,off,none⟩) zs.length cap),_,I,rfl,.refl I,⟨_,rfl,rfl⟩,.raw _ rfl,?_⟩
 have:=zyM (zs:=zs++List.replicate (l.length-zs.length) []) (n':=zs.length) (k:=n) (os:= #[]) hs (by simp;omega) hz;rw [List.take_left' rfl,grow_empty] at this;exact this
end
section
variable {P:Program}
section
variable {P:Program} {e:Env} {dst:Option Tmp} {ty:TypeId} {pos:String} {af:Array Edge} {g:Option (Nat×Bool)} {M:List MObj} {K:HVal->List MObj->Prop}
theorem zkF {α:Type}: ∀{l:List α} {i:Nat} {x:α},l[i]? =some x->l.Perm (x::l.eraseIdx i)
 |[],i,x,h=>by simp at h
 |y::l,0,x,h=>by simp at h;subst h;exact .refl _
 |y::l,i+1,x,h=>by
   have:=zkF (l:=l) (i:=i) (x:=x) (by simpa using h);exact (this.cons y).trans (.swap _ _ _)
theorem zAO [Tracks] {f:FuncId} {args:Array Operand} {ats:Array TypeId} {hs hs':List HVal} {i:Nat} {m:MObj} {Q:HVal->List MObj->Prop} (hc:Callable P f) (ha:zdE e args.toList=some hs) (hw:WeakL hs hs') (hm:M[i]? =some m)
 (hp:Con P f hs' [m] Q) (hk: ∀h M',Q h M'->K h (M'++M.eraseIdx i)):EOp P e M ⟨dst,.call ⟨.value (.func f),args,ats⟩,ty,pos,af,g⟩ K:=
 zaA (M1:=[m]) hc ha hw (zkF hm) hp hk
theorem zbq [Tracks] {α:Type} {f:α->HVal} {x:Operand} {t el:TypeId} {size bytes:Nat} {zero:Value} {i:Nat} {v:Value} {sz:Nat} {es:List α} (hf:Fits P t (.slice el) size bytes zero) (hx:zh e x=some (.raw v))
 (hm:M[i]? =some (.arr v sz (es.map f))) (hk:K (.int .i64 es.length) M):EOp P e M ⟨dst,.call ⟨.builtin .len,#[x],#[t]⟩,ty,pos,af,g⟩ K:=by
 refine zEw hf hx hm ?_;rw [Af];exact hk
theorem zaC [Tracks] {α:Type} {f:α->HVal} {x:Operand} {t:TypeId} {d:TD} {size bytes:Nat} {zero:Value} {i b off cap n sz j o:Nat} {es:List α} {y:α} (k:Nat) {h:HVal} (hf:Fits P t d size bytes zero)
 (hx:zh e x=some (.raw (.pointer (some ⟨b,o,none⟩)))) (ho':o=off+j*sz+k) (hm:M[i]? =some (.arr (.slice (some ⟨b,off,none⟩) n cap) sz (es.map f))) (hj:es[j]? =some y)
 (hd:d.isAgg=false) (hh:(zb (f y))[k]? =some h) (hk:K h M):EOp P e M ⟨dst,.load t x,ty,pos,af,g⟩ K:=
 zpA (j:=j) (f:=k) (y:=f y) hf hx ho' hm (by rw [Aj,hj];rfl) (.inl ⟨hd,hh⟩) hk
end
section
variable {P:Program} {ops:Array Oper} {n:Nat} {K:Env->List MObj->Prop} {rest:List Oper} {e:Env} {M:List MObj} {d:Nat} {op:Op} {ty:TypeId} {pos:String} {af:Array Edge}
theorem dgx [Tracks] {j:Nat} {want c:Bool} (Q:HVal->List MObj->Prop) (hd:Nat.blt d n=true) (hg:ze4 ops e j want=some c) (hn:c=false->∃x,Q x M)
 (hp:c=true->∃e2,OpenTo e e2/\EOp P e2 M ⟨some d,op,ty,pos,af,some (j,want)⟩ Q)
 (k: ∀x M',Q x M'->Der P ops n K rest (upd e d (.opt c x)) M'):Der P ops n K (⟨some d,op,ty,pos,af,some (j,want)⟩::rest) e M:=
 ⟨fun t ht=>by simp at ht;subst ht;exact zgx hd,c,hg,fun hc=>by
  obtain ⟨e2,h1,h2⟩:=hp hc
  intro I F a w ho hs
  exact zbh (fun _ _ ⟨v,x,M',J,h3,h4,h5,h7,h8⟩=>⟨v,.opt c x,M',J,h3,h4,k x M' h5,.opt (fun _=>h7) (fun hf=>by rw [hc] at hf;cases hf),h8⟩) (h2 I F a w (ho.open h1) hs),
  fun hc=>by
   obtain ⟨x,hx⟩:=hn hc;subst hc;exact ⟨x,k x M hx⟩⟩
end
section
variable {P:Program} {e:Env} {dst:Option Tmp} {ty:TypeId} {pos:String} {af:Array Edge} {g:Option (Nat×Bool)}
end
end
section
variable {P:Program}
open Go.Sort Go.Proofs
section
variable {P:Program} {n:Nat} {e:Env} {M:List MObj} {Q:Exit->Env->List MObj->Prop} {c c':Code}
end
theorem zFQ [Tracks] {P:Program} {ops:Array Oper} {n:Nat} {K:Env->List MObj->Prop} {rest:List Oper} {e:Env} {M M':List MObj} (hm:M=M') (k:Der P ops n K rest e M'):Der P ops n K rest e M:=hm▸k
theorem zc3 [Tracks] {P:Program} {n:Nat} {e:Env} {M:List MObj} {c:Code} {Q:Exit->Env->List MObj->Prop} {i:Nat} {v:Value} {sz:Nat} {es:List HVal} (hm:M[i]? =some (.arr v sz es))
 (h0:v= .slice none 0 0->es=[]->HWp P n c e M Q) (h1: ∀b off cap,v= .slice (some ⟨b,off,none⟩) es.length cap->es.length<=cap->HWp P n c e M Q):HWp P n c e M Q:=fun I F a w a1 a2 a3 a4=>by
 rcases a4.obj _ (Ap _ (Ab hm)) with ⟨g1,g2⟩|⟨b,off,cap,rc,el,fr,g1,_,_,_,g5,_⟩
 exact h0 g1 g2 I F a w a1 a2 a3 a4;exact h1 b off cap g1 g5.1 I F a w a1 a2 a3 a4
theorem zaK [Tracks] {α:Type} {l r:List α} {x:α} (i:Nat) (h:l[i]? =some x) (hr:(l.eraseIdx i).Perm r):l.Perm (x::r):=(zkF h).trans (hr.cons x)
theorem zat [Tracks] {α:Type} {l r:List α} {x y:α} (i:Nat) (h:l[i]? =some y) (hy:y=x) (hr:(l.eraseIdx i).Perm r):l.Perm (x::r):=hy▸zaK i h hr
theorem zvp [Tracks] {P:Program} {f:FuncId} {hargs:List HVal} {h:HVal} (hc: ∀(I:Imm) (w:World) (args:List Value),VL I hargs args->∃v,V I h v/\Calls P f args.toArray w fun e w'=>e= .returned v/\w'=w):ConP P f hargs h:=by
 intro I F w args ha hs
 obtain ⟨v,hv,hcalls⟩:=hc I w args ha;refine hcalls.mono ?_;rintro _ w' ⟨rfl,rfl⟩;exact ⟨v,h,[],I,rfl,.refl I,⟨rfl,rfl⟩,hv,hs⟩
end
section
open Go
class FitsI (P:Program) (t:TypeId) (d:outParam TD) (size bytes:outParam Nat) (zero:outParam Value):Prop where
 ok:Fits P t d size bytes zero
theorem uf {P:Program} {t:TypeId} {d:TD} {size bytes:Nat} {zero:Value} [h:FitsI P t d size bytes zero]:Fits P t d size bytes zero:=h.ok
theorem uK {ks:List Nat} {e e':Env} (h:zg3 ks e e':=by repeat (first|exact zsw|refine zA1 rfl ?_|refine zzE rfl rfl ?_)):zg3 ks e e':=h
theorem uP {l r:List MObj} (h:l.Perm r:=by repeat (focus first|exact List.Perm.nil|refine zaK 0 rfl ?_|refine zaK 1 rfl ?_|refine zaK 2 rfl ?_|refine zaK 3 rfl ?_|(refine zat 0 rfl ?hq ?_;(case hq=>simp [zaO,zb];done))|(refine zat 1 rfl ?hq ?_;(case hq=>simp [zaO,zb];done))|(refine zat 2 rfl ?hq ?_;(case hq=>simp [zaO,zb];done))|(refine zat 3 rfl ?hq ?_;(case hq=>simp [zaO,zb];done))|fail)):l.Perm r:=h
theorem uQ {l r:List MObj} (h:l.Perm r:=by repeat (focus first|exact List.Perm.nil|refine zaK 0 rfl ?_|refine zaK 1 rfl ?_|refine zaK 2 rfl ?_|refine zaK 3 rfl ?_|refine zaK 4 rfl ?_|refine zaK 5 rfl ?_|(refine zat 0 rfl ?hq ?_;(case hq=>simp [zaO,zb];done))|(refine zat 1 rfl ?hq ?_;(case hq=>simp [zaO,zb];done))|(refine zat 2 rfl ?hq ?_;(case hq=>simp [zaO,zb];done))|(refine zat 3 rfl ?hq ?_;(case hq=>simp [zaO,zb];done))|(refine zat 4 rfl ?hq ?_;(case hq=>simp [zaO,zb];done))|(refine zat 5 rfl ?hq ?_;(case hq=>simp [zaO,zb];done))|fail)):l.Perm r:=h
theorem uS {p:Prop} (h:p:=by first|assumption|omega|(simp;omega)|simp_all):p:=h
theorem uO {p:Prop} (h:p:=by omega):p:=h
theorem uD {p:Prop} (h:p:=by dsimp only;omega):p:=h
theorem uC {c:Bool} (h:c=true:=by first|assumption|simp_all):c=true:=h
theorem uT {p:Prop} (h:p:=by (try clear hdx hg);(try simp only [Ag]);focus first|(simp_all;done)|((repeat' split)<;>focus first|rfl|(exfalso;omega)|(simp_all;done)|(exfalso;rcases ‹_\/_› with q|q<;>simp_all;done)|(exfalso;simp_all;omega))):p:=h
section
variable {P:Program} {ops:Array Oper} {n:Nat} {K:Env->List MObj->Prop} {rest:List Oper} {e:Env} {M:List MObj} {d:Nat} {op:Op} {ty:TypeId} {pos:String} {af:Array Edge} {g:Option (Nat×Bool)} {h:HVal} {dst:Option Tmp} {S:List MObj->Prop} {ld:List Nat} {listed:Array Bool} {fuel:Nat}
theorem uE {p:Prop} (h:p:=by intro _;first|exact .inl trivial|exact .inl ⟨0,rfl⟩|exact .inl ⟨1,rfl⟩|exact .inl ⟨2,rfl⟩|exact .inr (by simp [zmM,Region.binds])):p:=h
theorem uR [Tracks] {o:Oper} (hp:POp P e o h:=by first|((with_reducible refine' zw5 ?r0);(case r0=>exact rfl))|((with_reducible refine' zkH ?r0);(case r0=>exact rfl))|((with_reducible refine' zk ?r0 ?r1 ?r2 ?r3 ?r4);(case r0=>exact uf);(case r1=>exact rfl);(case r2=>exact uf);(case r3=>decide);(case r4=>exact rfl))|((with_reducible refine' zf ?r0 ?r1 ?r2 ?r3 ?r4);(case r0=>exact uf);(case r1=>exact rfl);(case r2=>exact uf);(case r3=>decide);(case r4=>exact rfl))|((with_reducible refine' zO ?r0 ?r1 ?r2 ?r3);(case r0=>exact uf);(case r1=>exact rfl);(case r2=>exact rfl);(case r3=>exact rfl))|((with_reducible refine' zbt ?r0 ?r1 ?r2 ?r3);(case r0=>exact rfl);(case r1=>exact rfl);(case r2=>omega);(case r3=>omega))|((with_reducible refine' ziv ?r0 ?r1 ?r2 ?r3);(case r0=>exact rfl);(case r1=>exact rfl);(case r2=>omega);(case r3=>omega))|((with_reducible refine' zFg ?r0 ?r1);(case r0=>exact rfl);(case r1=>exact rfl))|((with_reducible refine' zaE ?r0 ?r1);(case r0=>exact uf);(case r1=>exact rfl))|((with_reducible refine' zuS ?r0 ?r1 ?r2);(case r0=>exact rfl);(case r1=>first|exact .inl rfl|exact .inr ⟨_,rfl,fun h=>by simp_all⟩);(case r2=>first|exact .inl rfl|exact .inr ⟨_,rfl,fun h=>by simp_all⟩))|((with_reducible refine' zFh ?r0 ?r1);(case r0=>exact rfl);(case r1=>exact rfl))|((with_reducible refine' zFd ?r0 ?r1);(case r0=>exact rfl);(case r1=>exact rfl))|((with_reducible refine' zFa ?r0 ?r1);(case r0=>exact rfl);(case r1=>exact rfl))|((with_reducible refine' zFi ?r0);(case r0=>exact rfl))|((with_reducible refine' zFb ?r0 ?r1);(case r0=>exact rfl);(case r1=>exact rfl))|((with_reducible refine' zxY ?r0 ?r1);(case r0=>exact rfl);(case r1=>exact rfl))|((with_reducible refine' zFf ?r0 ?r1);(case r0=>exact rfl);(case r1=>exact rfl))|((with_reducible refine' zFc ?r0 ?r1);(case r0=>exact rfl);(case r1=>exact rfl))|((with_reducible refine' zCN ?r0 ?r1);(case r0=>exact rfl);(case r1=>exact rfl))|((with_reducible refine' zCV ?r0 ?r1);(case r0=>exact rfl);(case r1=>exact rfl))|((with_reducible refine' zw4 ?r0 ?r1);(case r0=>exact rfl);(case r1=>exact rfl))|((with_reducible refine' zZ ?r0 ?r1 ?r2 ?r3 ?r4);(case r0=>exact uf);(case r1=>exact rfl);(case r2=>exact rfl);(case r3=>exact rfl);(case r4=>exact rfl))|((with_reducible refine' zCS ?r0 ?r1);(case r0=>exact rfl);(case r1=>exact rfl))|((with_reducible refine' zCT ?r0 ?r1);(case r0=>exact rfl);(case r1=>exact rfl))|((with_reducible refine' zCP ?r0 ?r1);(case r0=>exact rfl);(case r1=>exact rfl))|((with_reducible refine' zCO ?r0 ?r1);(case r0=>exact rfl);(case r1=>exact rfl))|((with_reducible refine' zx ?r0);(case r0=>exact rfl))|((with_reducible refine' zL ?r0);(case r0=>exact rfl))|((with_reducible refine' zCR ?r0 ?r1);(case r0=>exact uf);(case r1=>exact rfl))|((with_reducible refine' zB ?r0 ?r1 ?r2 ?r3 ?r4 ?r5);(case r0=>exact uf);(case r1=>exact uf);(case r2=>exact rfl);(case r3=>exact rfl);(case r4=>exact rfl);(case r5=>first|assumption|simp_all))):POp P e o h:=hp
def opl:Op->List Operand
 | .move x| .assign x| .box _ x| .load _ x| .nilCheck x| .unOp _ _ x| .convert _ _ x| .makeInterface _ x| .fieldAddr _ x _| .field _ x _| .extract x _=>[x]
 | .pick a _ _=>[a]
 | .binOp _ _ a b _| .indexAddr _ a b| .index _ a b| .lookup _ a b _=>[a,b]
 | .call c=>(match c.callee with| .value f=>[f]|_=>[])++c.args.toList
 | .build _ ps| .buildSlice _ _ ps=>ps.toList.map (·.2)
 | .slice _ x l h m=>x::(l.toList++(h.toList++m.toList))
 | .makeFunc _ a b=>a.toList++b.toList
 |_=>[]
def zkE (e:Env):List Operand->Env
 |[]=>e
 | .tmp t::r=>match e t with
   |some (.opt _ h)=>upd (zkE e r) t h
   |_=>zkE e r
 |_::r=>zkE e r
def okT (e:Env) (c:Bool):List Operand->Prop
 |[]=>True
 | .tmp t::r=>match e t with
   |some (.opt c1 _)=>(c=true->c1=true)/\okT e c r
   |_=>okT e c r
 |_::r=>okT e c r
theorem zgS [Tracks] {e:Env} {c:Bool} (hc:c=true): ∀(l:List Operand),okT e c l->OpenTo e (zkE e l)
 |[],_=>OpenTo.refl _
 | .tmp t::r,h=>by
   unfold okT at h;unfold zkE
   split
   rename_i c1 h1 he
   rw [he] at h;exact OpenTo.upd he (h.1 hc) (zgS hc r h.2)
   rename_i hne
   split at h
   rename_i c1 h1 he
   exact absurd he (hne c1 h1);exact zgS hc r h
 | .const _::r,h=>zgS hc r h
 | .global _::r,h=>zgS hc r h
 | .func _::r,h=>zgS hc r h
theorem dgo [Tracks] {j:Nat} {want c:Bool} (hd:Nat.blt d n=true) (hg:ze4 ops e j want=some c) (hp:c=true->POp P (zkE e (opl op)) ⟨some d,op,ty,pos,af,some (j,want)⟩ h) (hc:okT e c (opl op)) (k:Der P ops n K rest (upd e d (.opt c h)) M):Der P ops n K (⟨some d,op,ty,pos,af,some (j,want)⟩::rest) e M:=dg hd hg (fun q=>⟨_,zgS q _ hc,hp q⟩) k
theorem uNh0 [Tracks] {m:Nat} {b:Bool} (k:HAny P ops n S ld K fuel (Array.replicate m b) e M):HAny P ops n S ld K fuel (Array.replicate m b) e M:=k
theorem uNh1 [Tracks] {L:Array Bool} {j:Nat} {b:Bool} (k:HAny P ops n S ld K fuel (L.setIfInBounds j b) e M):HAny P ops n S ld K fuel (L.setIfInBounds j b) e M:=k
theorem uN0 [Tracks] {m:Nat} {b:Bool} (hi:ops[0]? =some ⟨some d,op,ty,pos,af,none⟩) (hd:Nat.blt d n=true) (hf:Region.free .any ops (Array.replicate m b) 0=true) (hr:(Region.ready .any ops (Array.replicate m b)).contains 0=true) (hp:POp P e ⟨some d,op,ty,pos,af,none⟩ h) (k:HAny P ops n S ld K fuel ((Array.replicate m b).setIfInBounds 0 true) (upd e d h) M):HAny P ops n S ld K (fuel+1) (Array.replicate m b) e M:=ahp 0 hi hd hf hr hp k
theorem uN1 [Tracks] {L:Array Bool} {j i:Nat} {b:Bool} (hj:j+1=i) (hi:ops[i]? =some ⟨some d,op,ty,pos,af,none⟩) (hd:Nat.blt d n=true) (hf:Region.free .any ops (L.setIfInBounds j b) i=true) (hr:(Region.ready .any ops (L.setIfInBounds j b)).contains i=true) (hp:POp P e ⟨some d,op,ty,pos,af,none⟩ h) (k:HAny P ops n S ld K fuel ((L.setIfInBounds j b).setIfInBounds i true) (upd e d h) M):HAny P ops n S ld K (fuel+1) (L.setIfInBounds j b) e M:=ahp i hi hd hf hr hp k
theorem uNg1 [Tracks] {L:Array Bool} {q i:Nat} {b:Bool} {j:Nat} {want c:Bool} (hj:q+1=i) (hi:ops[i]? =some ⟨some d,op,ty,pos,af,some (j,want)⟩) (hd:Nat.blt d n=true) (hf:Region.free .any ops (L.setIfInBounds q b) i=true) (hr:(Region.ready .any ops (L.setIfInBounds q b)).contains i=true) (hg:ze4 ops e j want=some c) (hp:c=true->POp P (zkE e (opl op)) ⟨some d,op,ty,pos,af,some (j,want)⟩ h) (hc:okT e c (opl op)) (k:HAny P ops n S ld K fuel ((L.setIfInBounds q b).setIfInBounds i true) (upd e d (.opt c h)) M):HAny P ops n S ld K (fuel+1) (L.setIfInBounds q b) e M:=ahg i hi hd hf hr hg (fun q=>⟨_,zgS q _ hc,hp q⟩) k
structure Hid (p:Prop):Prop where
 out:p
theorem st {G G':Prop} (k:G') (h:Hid G'->G:=by intro q;first|((with_reducible refine' dp ?y0 ?y1 ?y2);(case y0=>exact rfl);(case y1=>exact uR);(case y2=>exact q.out))|((with_reducible refine' dn ?y0);(case y0=>exact q.out))|((with_reducible refine' zGp ?y0);(case y0=>exact q.out))|((with_reducible refine' zBR ?y0);(case y0=>exact q.out))|((with_reducible refine' zAV ?y0);(case y0=>exact q.out))|((with_reducible refine' zEM ?y0);(case y0=>exact q.out))|((with_reducible refine' zCl ?y0);(case y0=>exact q.out))|((with_reducible refine' dgo ?y0 ?y1 ?y2 ?y3 ?y4);(case y0=>exact rfl);(case y1=>exact rfl);(case y2=>intro hc;first|exact uR|(have hq:=hc;simp at hq;exact uR));(case y3=>repeat (first|exact trivial|(refine And.intro ?z0 ?_;(case z0=>(intro hc;first|exact hc|simp_all)))));(case y4=>exact q.out))|((with_reducible refine' zAw ?y0);(case y0=>exact q.out))|((with_reducible refine' zEN ?y0);(case y0=>exact q.out))|((with_reducible refine' zEJ ?y0);(case y0=>exact q.out))|((with_reducible refine' zAx ?y0 ?y1);(case y0=>exact rfl);(case y1=>exact q.out))|((with_reducible refine' zGq ?y0);(case y0=>exact q.out))|((with_reducible refine' zFX ?y0);(case y0=>exact q.out))|((with_reducible refine uNh0 ?_);(refine' uN0 ?y0 ?y1 ?y2 ?y3 ?y4 ?y5);(case y0=>exact rfl);(case y1=>exact rfl);(case y2=>kernel_rfl);(case y3=>kernel_rfl);(case y4=>exact uR);(case y5=>exact q.out))|((with_reducible refine uNh1 ?_);(refine' uN1 ?y0 ?y1 ?y2 ?y3 ?y4 ?y5 ?y6);(case y0=>first|(simp only [Nat.reduceAdd];exact rfl)|simp only [Nat.reduceAdd]);(case y1=>exact rfl);(case y2=>exact rfl);(case y3=>kernel_rfl);(case y4=>kernel_rfl);(case y5=>exact uR);(case y6=>exact q.out))|((with_reducible refine uNh0 ?_);(refine' uNg0 ?y0 ?y1 ?y2 ?y3 ?y4 ?y5 ?y6 ?y7);(case y0=>exact rfl);(case y1=>exact rfl);(case y2=>kernel_rfl);(case y3=>kernel_rfl);(case y4=>exact rfl);(case y5=>intro hc;first|exact uR|(have hq:=hc;simp at hq;exact uR));(case y6=>repeat (first|exact trivial|(refine And.intro ?z0 ?_;(case z0=>(intro hc;first|exact hc|simp_all)))));(case y7=>exact q.out))|((with_reducible refine uNh1 ?_);(refine' uNg1 ?y0 ?y1 ?y2 ?y3 ?y4 ?y5 ?y6 ?y7 ?y8);(case y0=>first|(simp only [Nat.reduceAdd];exact rfl)|simp only [Nat.reduceAdd]);(case y1=>exact rfl);(case y2=>exact rfl);(case y3=>kernel_rfl);(case y4=>kernel_rfl);(case y5=>exact rfl);(case y6=>intro hc;first|exact uR|(have hq:=hc;simp at hq;exact uR));(case y7=>repeat (first|exact trivial|(refine And.intro ?z0 ?_;(case z0=>(intro hc;first|exact hc|simp_all)))));(case y8=>exact q.out))|((with_reducible refine' ahz ?y0 ?y1);(case y0=>kernel_rfl);(case y1=>exact q.out))|((with_reducible refine' zsr ?y0);(case y0=>exact q.out))|(refine' zAV ?y0;case y0=>exact q.out)):G:=h ⟨k⟩
theorem gz1 {G G':Prop} (k:G') (h:Hid G'->G:=by intro k;(iterate 1 refine st ?_);exact k.out):G:=h ⟨k⟩
theorem gz2 {G G':Prop} (k:G') (h:Hid G'->G:=by intro k;(iterate 2 refine st ?_);exact k.out):G:=h ⟨k⟩
theorem gz3 {G G':Prop} (k:G') (h:Hid G'->G:=by intro k;(iterate 3 refine st ?_);exact k.out):G:=h ⟨k⟩
theorem gz4 {G G':Prop} (k:G') (h:Hid G'->G:=by intro k;(iterate 4 refine st ?_);exact k.out):G:=h ⟨k⟩
theorem gz5 {G G':Prop} (k:G') (h:Hid G'->G:=by intro k;(iterate 5 refine st ?_);exact k.out):G:=h ⟨k⟩
theorem gz6 {G G':Prop} (k:G') (h:Hid G'->G:=by intro k;(iterate 6 refine st ?_);exact k.out):G:=h ⟨k⟩
theorem gz7 {G G':Prop} (k:G') (h:Hid G'->G:=by intro k;(iterate 7 refine st ?_);exact k.out):G:=h ⟨k⟩
theorem gz8 {G G':Prop} (k:G') (h:Hid G'->G:=by intro k;(iterate 8 refine st ?_);exact k.out):G:=h ⟨k⟩
theorem gz9 {G G':Prop} (k:G') (h:Hid G'->G:=by intro k;(iterate 9 refine st ?_);exact k.out):G:=h ⟨k⟩
theorem zau {G G':Prop} (k:G') (h:Hid G'->G:=by intro k;(iterate 10 refine st ?_);exact k.out):G:=h ⟨k⟩
theorem zcg {G G':Prop} (k:G') (h:Hid G'->G:=by intro k;(iterate 11 refine st ?_);exact k.out):G:=h ⟨k⟩
theorem zdf {G G':Prop} (k:G') (h:Hid G'->G:=by intro k;(iterate 12 refine st ?_);exact k.out):G:=h ⟨k⟩
theorem zfe {G G':Prop} (k:G') (h:Hid G'->G:=by intro k;(iterate 13 refine st ?_);exact k.out):G:=h ⟨k⟩
theorem zdw {G G':Prop} (k:G') (h:Hid G'->G:=by intro k;(iterate 14 refine st ?_);exact k.out):G:=h ⟨k⟩
theorem zjf {G G':Prop} (k:G') (h:Hid G'->G:=by intro k;(iterate 15 refine st ?_);exact k.out):G:=h ⟨k⟩
theorem zrB {G G':Prop} (k:G') (h:Hid G'->G:=by intro k;(iterate 16 refine st ?_);exact k.out):G:=h ⟨k⟩
theorem zCi {G G':Prop} (k:G') (h:Hid G'->G:=by intro k;(iterate 18 refine st ?_);exact k.out):G:=h ⟨k⟩
theorem gz19 {G G':Prop} (k:G') (h:Hid G'->G:=by intro k;(iterate 19 refine st ?_);exact k.out):G:=h ⟨k⟩
theorem gz21 {G G':Prop} (k:G') (h:Hid G'->G:=by intro k;(iterate 21 refine st ?_);exact k.out):G:=h ⟨k⟩
theorem gz22 {G G':Prop} (k:G') (h:Hid G'->G:=by intro k;(iterate 22 refine st ?_);exact k.out):G:=h ⟨k⟩
theorem gz23 {G G':Prop} (k:G') (h:Hid G'->G:=by intro k;(iterate 23 refine st ?_);exact k.out):G:=h ⟨k⟩
theorem gz24 {G G':Prop} (k:G') (h:Hid G'->G:=by intro k;(iterate 24 refine st ?_);exact k.out):G:=h ⟨k⟩
theorem gz27 {G G':Prop} (k:G') (h:Hid G'->G:=by intro k;(iterate 27 refine st ?_);exact k.out):G:=h ⟨k⟩
theorem gz28 {G G':Prop} (k:G') (h:Hid G'->G:=by intro k;(iterate 28 refine st ?_);exact k.out):G:=h ⟨k⟩
theorem gz29 {G G':Prop} (k:G') (h:Hid G'->G:=by intro k;(iterate 29 refine st ?_);exact k.out):G:=h ⟨k⟩
theorem gz40 {G G':Prop} (k:G') (h:Hid G'->G:=by intro k;(iterate 40 refine st ?_);exact k.out):G:=h ⟨k⟩
theorem uB [Tracks] (i:Nat) (hi:ops[i]? =some ⟨some d,op,ty,pos,af,none⟩) (hp:POp P e ⟨some d,op,ty,pos,af,none⟩ h) (k:HAny P ops n S ld K fuel (listed.setIfInBounds i true) (upd e d h) M) (hd:Nat.blt d n=true:=by exact rfl) (hf:Region.free .any ops listed i=true:=by kernel_rfl) (hr:(Region.ready .any ops listed).contains i=true:=by kernel_rfl):HAny P ops n S ld K (fuel+1) listed e M:=ahp i hi hd hf hr hp k
theorem uA [Tracks] (i:Nat) (k:HAny P ops n S ld K fuel (listed.setIfInBounds i true) (upd e d h) M) (hi:ops[i]? =some ⟨some d,op,ty,pos,af,none⟩:=by exact rfl) (hd:Nat.blt d n=true:=by exact rfl) (hf:Region.free .any ops listed i=true:=by kernel_rfl) (hr:(Region.ready .any ops listed).contains i=true:=by kernel_rfl) (hp:POp P e ⟨some d,op,ty,pos,af,none⟩ h:=by exact uR):HAny P ops n S ld K (fuel+1) listed e M:=ahp i hi hd hf hr hp k
theorem uF [Tracks] (i:Nat) {o:Oper} (k:HOp P ops n o e M fun e' M'=>(S M->S M'\/zmM ld o)/\HAny P ops n S ld K fuel (listed.setIfInBounds i true) e' M') (hi:ops[i]? =some o:=by exact rfl) (hr:Region.ready .any ops listed=[i]:=by kernel_rfl):HAny P ops n S ld K (fuel+1) listed e M:=ahe i hi hr k
theorem uOb [Tracks] {f:FuncId} {fn:Func} {c:Code} {hargs:List HVal} {Q:HVal->List MObj->Prop} {rs:List ResultVar} (hf:P.funcs[f]? =some fn) (hnt:fn.ntmps=n) (k:HWp P n c (zlR hargs) M (zmj rs Q)) (hb:fn.body=some c:=by exact rfl) (hn':Nat.ble hargs.length n=true:=by exact rfl) (hrs:fn.results.toList=rs:=by exact rfl):Con P f hargs M Q:=Con.of_body hf hb hnt hn' hrs k
def krg (a:Nat):Nat->List Nat->List Nat
 |0,r=>r
 |n+1,r=>a::krg (a+1) n r
def kr:List Nat->List Nat
 |a::n::r=>krg a n (kr r)
 |_=>[]
section
variable {c c':Code} {Q:Exit->Env->List MObj->Prop} {ks:List Nat}
theorem uV1 [Tracks] {ι:Type} (l:List Nat) (W:ι->List (Nat×HVal)) (MM:ι->List MObj) (Iv:ι->Prop) (μ:ι->Nat) (i:ι) (h0:Iv i) (hW:zcW e (W i)) (hM:M.Perm (MM i)) (hb: ∀i,Iv i->HWp P n c (loopE e ks (W i)) (MM i) (zrW e ks W MM Iv μ i Q)) (hk:kr l=ks:=by first|(simp only [kr,krg,Nat.reduceAdd];exact rfl)|simp only [kr,krg,Nat.reduceAdd]):HWp P n (.loop c) e M Q:=zjg ks W MM Iv μ i h0 hW hM hb
theorem uV2 [Tracks] {α β:Type} (l:List Nat) (W:α->β->List (Nat×HVal)) (MM:α->β->List MObj) (Iv:α->β->Prop) (μ:α->β->Nat) (x:α) (y:β) (h0:Iv x y) (hW:zcW e (W x y)) (hM:M.Perm (MM x y)) (hb: ∀x y,Iv x y->HWp P n c (loopE e ks (W x y)) (MM x y) (zo2 e ks W MM Iv μ x y Q)) (hk:kr l=ks:=by first|(simp only [kr,krg,Nat.reduceAdd];exact rfl)|simp only [kr,krg,Nat.reduceAdd]):HWp P n (.loop c) e M Q:=zpL ks W MM Iv μ x y h0 hW hM hb
theorem uV3 [Tracks] {α β γ:Type} (l:List Nat) (W:α->β->γ->List (Nat×HVal)) (MM:α->β->γ->List MObj) (Iv:α->β->γ->Prop) (μ:α->β->γ->Nat) (x:α) (y:β) (u:γ) (h0:Iv x y u) (hW:zcW e (W x y u)) (hM:M.Perm (MM x y u)) (hb: ∀x y u,Iv x y u->HWp P n c (loopE e ks (W x y u)) (MM x y u) (zrX e ks W MM Iv μ x y u Q)) (hk:kr l=ks:=by first|(simp only [kr,krg,Nat.reduceAdd];exact rfl)|simp only [kr,krg,Nat.reduceAdd]):HWp P n (.loop c) e M Q:=zuu ks W MM Iv μ x y u h0 hW hM hb
theorem uU1 [Tracks] {α:Type} (l:List Nat) (W:α->List (Nat×HVal)) (MM:α->List MObj) (Iv:α->Prop) (μ:α->Nat) (x:α) (h0:Iv x) (hb: ∀x,Iv x->HWp P n c (loopE e ks (W x)) (MM x) (zrW e ks W MM Iv μ x Q)) (hk:kr l=ks:=by first|(simp only [kr,krg,Nat.reduceAdd];exact rfl)|simp only [kr,krg,Nat.reduceAdd]) (hW:zcW e (W x):=by first|exact ⟨rfl,trivial⟩|exact ⟨rfl,rfl,trivial⟩|exact ⟨rfl,rfl,rfl,trivial⟩|exact trivial|exact ⟨rfl,rfl,rfl,rfl,trivial⟩) (hM:M.Perm (MM x):=by exact Ac _):HWp P n (.loop c) e M Q:=zjg ks W MM Iv μ x h0 hW hM hb
theorem uU2 [Tracks] {α β:Type} (l:List Nat) (W:α->β->List (Nat×HVal)) (MM:α->β->List MObj) (Iv:α->β->Prop) (μ:α->β->Nat) (x:α) (y:β) (h0:Iv x y) (hb: ∀x y,Iv x y->HWp P n c (loopE e ks (W x y)) (MM x y) (zo2 e ks W MM Iv μ x y Q)) (hk:kr l=ks:=by first|(simp only [kr,krg,Nat.reduceAdd];exact rfl)|simp only [kr,krg,Nat.reduceAdd]) (hW:zcW e (W x y):=by first|exact ⟨rfl,trivial⟩|exact ⟨rfl,rfl,trivial⟩|exact ⟨rfl,rfl,rfl,trivial⟩|exact trivial|exact ⟨rfl,rfl,rfl,rfl,trivial⟩) (hM:M.Perm (MM x y):=by exact Ac _):HWp P n (.loop c) e M Q:=zpL ks W MM Iv μ x y h0 hW hM hb
theorem uU3 [Tracks] {α β γ:Type} (l:List Nat) (W:α->β->γ->List (Nat×HVal)) (MM:α->β->γ->List MObj) (Iv:α->β->γ->Prop) (μ:α->β->γ->Nat) (x:α) (y:β) (u:γ) (h0:Iv x y u) (hb: ∀x y u,Iv x y u->HWp P n c (loopE e ks (W x y u)) (MM x y u) (zrX e ks W MM Iv μ x y u Q)) (hk:kr l=ks:=by first|(simp only [kr,krg,Nat.reduceAdd];exact rfl)|simp only [kr,krg,Nat.reduceAdd]) (hW:zcW e (W x y u):=by first|exact ⟨rfl,trivial⟩|exact ⟨rfl,rfl,trivial⟩|exact ⟨rfl,rfl,rfl,trivial⟩|exact trivial|exact ⟨rfl,rfl,rfl,rfl,trivial⟩) (hM:M.Perm (MM x y u):=by exact Ac _):HWp P n (.loop c) e M Q:=zuu ks W MM Iv μ x y u h0 hW hM hb
theorem uT1 [Tracks] (l:List Nat) (W:Nat->List (Nat×HVal)) (MM:Nat->List MObj) (Iv:Nat->Prop) (μ:Nat->Nat) (x:Nat) (h0:Iv x) (hb: ∀x,Iv x->HWp P n c (loopE e ks (W x)) (MM x) (zrW e ks W MM Iv μ x Q)) (hk:kr l=ks:=by first|(simp only [kr,krg,Nat.reduceAdd];exact rfl)|simp only [kr,krg,Nat.reduceAdd]) (hW:zcW e (W x):=by first|exact ⟨rfl,trivial⟩|exact ⟨rfl,rfl,trivial⟩|exact ⟨rfl,rfl,rfl,trivial⟩|exact trivial|exact ⟨rfl,rfl,rfl,rfl,trivial⟩) (hM:M.Perm (MM x):=by exact Ac _):HWp P n (.loop c) e M Q:=zjg ks W MM Iv μ x h0 hW hM hb
theorem uT2 [Tracks] (l:List Nat) (W:Nat->Nat->List (Nat×HVal)) (MM:Nat->Nat->List MObj) (Iv:Nat->Nat->Prop) (μ:Nat->Nat->Nat) (x:Nat) (y:Nat) (h0:Iv x y) (hb: ∀x y,Iv x y->HWp P n c (loopE e ks (W x y)) (MM x y) (zo2 e ks W MM Iv μ x y Q)) (hk:kr l=ks:=by first|(simp only [kr,krg,Nat.reduceAdd];exact rfl)|simp only [kr,krg,Nat.reduceAdd]) (hW:zcW e (W x y):=by first|exact ⟨rfl,trivial⟩|exact ⟨rfl,rfl,trivial⟩|exact ⟨rfl,rfl,rfl,trivial⟩|exact trivial|exact ⟨rfl,rfl,rfl,rfl,trivial⟩) (hM:M.Perm (MM x y):=by exact Ac _):HWp P n (.loop c) e M Q:=zpL ks W MM Iv μ x y h0 hW hM hb
theorem uVj [Tracks] {ι:Type} (l:List Nat) (W:ι->List (Nat×HVal)) (MM:ι->List MObj) (Iv:ι->Prop) (h1:HWp P n c e M (zDm e ks W MM Iv Q)) (h2: ∀i,Iv i->HWp P n c' (loopE e ks (W i)) (MM i) Q) (hk:kr l=ks:=by first|(simp only [kr,krg,Nat.reduceAdd];exact rfl)|simp only [kr,krg,Nat.reduceAdd]):HWp P n (.seq c c') e M Q:=zEK ks W MM Iv h1 h2
theorem uCl [Tracks] {f:FuncId} {args:Array Operand} {ats:Array TypeId} {hs:List HVal} (hc:Callable P f) (ha:zdE e args.toList=some hs) (hp:ConP P f hs h):POp P e ⟨dst,.call ⟨.value (.func f),args,ats⟩,ty,pos,af,g⟩ h:=zeD hc ha (WeakL.refl _) hp
end
theorem uGr [Tracks] {j:Nat} {want c:Bool} (hg:ze4 ops e j want=some c) (hp:c=true->POp P (zkE e (opl op)) ⟨some d,op,ty,pos,af,some (j,want)⟩ h) (k:Der P ops n K rest (upd e d (.opt c h)) M) (hd:Nat.blt d n=true:=by exact rfl) (hc:okT e c (opl op):=by repeat (first|exact trivial|(refine And.intro ?z0 ?_;(case z0=>(intro hc;first|exact hc|simp_all))))):Der P ops n K (⟨some d,op,ty,pos,af,some (j,want)⟩::rest) e M:=dgo hd hg hp hc k
theorem uGy [Tracks] (i:Nat) {j:Nat} {want c:Bool} (hi:ops[i]? =some ⟨some d,op,ty,pos,af,some (j,want)⟩) (hg:ze4 ops e j want=some c) (hp:c=true->POp P (zkE e (opl op)) ⟨some d,op,ty,pos,af,some (j,want)⟩ h) (k:HAny P ops n S ld K fuel (listed.setIfInBounds i true) (upd e d (.opt c h)) M) (hd:Nat.blt d n=true:=by exact rfl) (hf:Region.free .any ops listed i=true:=by kernel_rfl) (hr:(Region.ready .any ops listed).contains i=true:=by kernel_rfl) (hc:okT e c (opl op):=by repeat (first|exact trivial|(refine And.intro ?z0 ?_;(case z0=>(intro hc;first|exact hc|simp_all))))):HAny P ops n S ld K (fuel+1) listed e M:=ahg i hi hd hf hr hg (fun q=>⟨_,zgS q _ hc,hp q⟩) k
theorem uCx [Tracks] {KE:HVal->List MObj->Prop} {f:FuncId} {args:Array Operand} {ats:Array TypeId} {hs:List HVal} {m:MObj} {Q:HVal->List MObj->Prop} (i:Nat) (hc:Callable P f) (ha:zdE e args.toList=some hs) (hm:M[i]? =some m) (hp:Con P f hs [m] Q) (hk: ∀h M',Q h M'->KE h (M'++M.eraseIdx i)):EOp P e M ⟨dst,.call ⟨.value (.func f),args,ats⟩,ty,pos,af,g⟩ KE:=zAO hc ha (WeakL.refl _) hm hp hk
theorem uCa [Tracks] {KE:HVal->List MObj->Prop} {f:FuncId} {args:Array Operand} {ats:Array TypeId} {hs:List HVal} {sz:Nat} {es:List HVal} (hc:Callable P f) (ha:zdE e args.toList=some hs) (hp:zrf P f hs sz es) (hk: ∀v,KE (.raw v) (.arr v sz es::M)):EOp P e M ⟨dst,.call ⟨.value (.func f),args,ats⟩,ty,pos,af,g⟩ KE:=zAM hc ha (WeakL.refl _) hp hk
theorem uDr [Tracks] {c:Code} {id:Nat} {l:List Oper} {Q:Exit->Env->List MObj->Prop} (hm:P.follows .mixedOrders=true) (h:HAny P l.toArray n (fun _=>True) [] (fun e M=>HWp P n c e M Q) l.length (Array.replicate l.length false) e M):HWp P n (.seq (.region id l.toArray true) c) e M Q:=zbF _ _ hm h
theorem zh8 [Tracks] {id:Nat} {l:List Oper} {Q:Exit->Env->List MObj->Prop} (hm:P.follows .mixedOrders=true) (h:HAny P l.toArray n (fun _=>True) [] (fun e M=>Q .normal e M) l.length (Array.replicate l.length false) e M):HWp P n (.region id l.toArray true) e M Q:=zbx _ _ hm h
theorem uSo {p:Prop} (h:p:=by (simp;omega)):p:=h
theorem uSa {p:Prop} (h:p:=by simp_all):p:=h
theorem uAz [Tracks] (k:K e M) (hr:Region.ready .any ops listed=[]:=by kernel_rfl):HAny P ops n S ld K fuel listed e M:=ahz hr k
theorem uRp [Tracks] {rs:List ResultVar} {a:Int} {h':HVal} (k:HVal.int .i64 a=h') (hr:zlv e rs=some (.int .i64 a):=by exact rfl):zmj rs (fun x M'=>x=h'/\M'=[]) .ret e []:=zu hr k
theorem uCo [Tracks] {c c':Code} {Q:Exit->Env->List MObj->Prop} {x:Operand} {b:Bool} {p q:Prop} (ht:p->HWp P n c e M Q) (hf:q->HWp P n c' e M Q) (hx:zh e x=some (.bool b):=by exact rfl) (hp:b=true->p:=by first|(intro h;(try simp at h);exact h)|exact fun h=>(by simp at h:False)) (hq:b=false->q:=by first|(intro h;(try simp at h);exact h)|exact fun h=>(by simp at h:False)):HWp P n (.cond x c c') e M Q:=zam hx (fun h=>ht (hp h)) (fun h=>hf (hq h))
structure Tag (l:List Nat):Prop where
 out:True
theorem uAt [Tracks] {i:Nat} {l:List Nat} (_:Tag (i::l)) (k:Tag l->HAny P ops n S ld K fuel (listed.setIfInBounds i true) (upd e d h) M) (hi:ops[i]? =some ⟨some d,op,ty,pos,af,none⟩:=by exact rfl) (hd:Nat.blt d n=true:=by exact rfl) (hf:Region.free .any ops listed i=true:=by kernel_rfl) (hr:(Region.ready .any ops listed).contains i=true:=by kernel_rfl) (hp:POp P e ⟨some d,op,ty,pos,af,none⟩ h:=by exact uR):HAny P ops n S ld K (fuel+1) listed e M:=ahp i hi hd hf hr hp (k ⟨trivial⟩)
theorem gx2 (l:List Nat) {G G':Prop} (k:G') (h:Tag l->Hid G'->G:=by intro t q;(iterate 2 (refine uAt t fun t=> ?_));exact q.out):G:=h ⟨trivial⟩ ⟨k⟩
theorem gx3 (l:List Nat) {G G':Prop} (k:G') (h:Tag l->Hid G'->G:=by intro t q;(iterate 3 (refine uAt t fun t=> ?_));exact q.out):G:=h ⟨trivial⟩ ⟨k⟩
theorem gx4 (l:List Nat) {G G':Prop} (k:G') (h:Tag l->Hid G'->G:=by intro t q;(iterate 4 (refine uAt t fun t=> ?_));exact q.out):G:=h ⟨trivial⟩ ⟨k⟩
theorem uM [Tracks] (i:Nat) (hi:ops[i]? =some ⟨some d,op,ty,pos,af,none⟩) (hS:S M) (hp: ∀M,S M->EOp P e M ⟨some d,op,ty,pos,af,none⟩ fun x M'=>x=h/\M'=M) (k:HAny P ops n S ld K fuel (listed.setIfInBounds i true) (upd e d h) M) (hd:Nat.blt d n=true:=by exact rfl) (hf:Region.free .any ops listed i=true:=by kernel_rfl) (hr:(Region.ready .any ops listed).contains i=true:=by kernel_rfl) (hl:i∈ld:=by simp):HAny P ops n S ld K (fuel+1) listed e M:=ahl i hi hd hf hr hl hS hp k
theorem uW [Tracks] {o:Oper} {M0:List MObj} (hp:EOp P e M0 o fun x M'=>x=h/\M'=M0): ∀M,M=M0->EOp P e M o fun x M'=>x=h/\M'=M:=fun M hM=>by subst hM;exact hp
theorem uY [Tracks] {x y:Operand} {t:TypeId} {dd:TD} {size bytes b off:Nat} {zero:Value} {cs:List HVal} {hv:HVal} {KE:HVal->List MObj->Prop} (i:Nat) (hk:KE .junk (M.set i (.cells b (zaO cs off (zb hv))))) (hf:Fits P t dd size bytes zero:=by exact uf) (hx:zh e x=some (.raw (.pointer (some ⟨b,off,none⟩))):=by exact rfl) (hy:zh e y=some hv:=by exact rfl) (hm:M[i]? =some (.cells b cs):=by exact rfl) (ho:zeA size hv=true:=by exact rfl) (hfl:zan (zb hv)=true:=by exact rfl) (hle:off+size<=cs.length:=by exact Ak rfl):EOp P e M ⟨dst,.store t x y,ty,pos,af,g⟩ KE:=zfI (i:=i) hf hx hy hm ho hfl hle hk
theorem uZ [Tracks] {x:Operand} {t:TypeId} {dd:TD} {size bytes b off:Nat} {zero:Value} {cs:List HVal} {hv:HVal} {KE:HVal->List MObj->Prop} (i:Nat) (hk:KE hv M) (hf:Fits P t dd size bytes zero:=by exact uf) (hx:zh e x=some (.raw (.pointer (some ⟨b,off,none⟩))):=by exact rfl) (hm:M[i]? =some (.cells b cs):=by exact rfl) (hh:dd.isAgg=false/\cs[off]? =some hv:=by exact ⟨rfl,rfl⟩):EOp P e M ⟨dst,.load t x,ty,pos,af,g⟩ KE:=zV (i:=i) hf hx hm (.inl hh) hk
end
end
end Go.HL
