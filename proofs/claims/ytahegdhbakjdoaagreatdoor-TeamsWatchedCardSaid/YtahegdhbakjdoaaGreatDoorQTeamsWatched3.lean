/- Part 3 of the proof: a program logic, contracts of functions and plain facts; no conditions. -/
import Derived.Test.YtahegdhbakjdoaaGreatDoorQTeamsWatched2
import Derived.Ground.GgzProg
import Derived.Ground.Names2Prog
import Derived.Ground.SlgmProg
import Derived.Ground.SlmcProg
import Derived.Ground.SlsfProg
import Derived.Shelf.SlIter.Collect
import Derived.Shelf.SlIter.Keys
import Derived.Shelf.SlIter.Sorted
import Derived.Shelf.SlMaps.Clone
import Derived.Shelf.SlSortCmp.NoneTotal
import Derived.Shelf.Slices.CompactI
import Derived.Shelf.Slices.CompactS
import Derived.Shelf.Slices.Delete
import Derived.Shelf.Slices.In.SortNone
import Derived.Shelf.Sort.Plain
import Derived.Shelf.SortM.Plain
import Derived.Shelf.Spec.SlicesInsert
import Derived.Shelf.Spec.SlicesInsertGrow
import Derived.Shelf.Strconv.Atoi
import Derived.Shelf.Strconv.Itoa3
import Derived.Shelf.Strings.Prefix
import Derived.Test.YtahegdhbakjdoaaGreatDoorProg
set_option linter.unusedVariables false
set_option linter.unusedSimpArgs false
set_option maxHeartbeats 16000000
namespace Go.HL
section
open Go Go.Proofs Go.Shelf
variable {P:Program} {ρ:Ren}
theorem zdS (b:Nat) (el:TypeId) (fr:Nat×Nat): ∀(vs:List Value) (o:Nat) (w:World) (rc:Array Value),w.heap[b]? =some (.cells rc el fr)->o+vs.length<=rc.size->
 ∃rc',(w.setCells b o vs).heap[b]? =some (.cells rc' el fr)/\rc'.size=rc.size/\(∀x,rc'[x]? =if o<=x/\x<o+vs.length then vs[x-o]? else rc[x]?)/\(∀k,k≠b->(w.setCells b o vs).heap[k]? =w.heap[k]?)/\
  (w.setCells b o vs).heap.size=w.heap.size/\(w.setCells b o vs).os=w.os/\(w.setCells b o vs).output=w.output/\(w.setCells b o vs).tape=w.tape/\(w.setCells b o vs).drawn=w.drawn
 |[],o,w,rc,hw,_=>⟨rc,hw,rfl,fun x=>by rw [if_neg (by simp)],fun _ _=>rfl,rfl,rfl,rfl,rfl,rfl⟩
 |v::vs,o,w,rc,hw,hle=>by
   simp only [Ah] at hle;have ztr:(w.setCell ⟨b,o,none⟩ v).heap[b]? =some (.cells (rc.setIfInBounds o v) el fr):=by simp [World.setCell,AF,hw]
   obtain ⟨rc',h1,h2,h3,h4,h5,h6,h7,h8,h9⟩:=zdS b el fr vs (o+1) (w.setCell ⟨b,o,none⟩ v) (rc.setIfInBounds o v) ztr (by simp;omega);refine ⟨rc',h1,by rw [h2];simp,fun x=> ?_,fun k hk=> ?_,by rw [World.setCells,h5];simp [World.setCell],by rw [World.setCells,h6];rfl,by rw [World.setCells,h7];rfl,by rw [World.setCells,h8];rfl,by rw [World.setCells,h9];rfl⟩
   rw [h3 x];simp only [Ah]
   by_cases e1:x=o
   subst e1;rw [if_neg (by omega),if_pos (by omega),Array.getElem?_setIfInBounds,if_pos rfl,if_pos (by omega)]
   simp
   by_cases e2:o+1<=x/\x<o+1+vs.length
   rw [if_pos e2,if_pos (by omega),show x-o=(x-(o+1))+1 by omega,AJ];rw [if_neg e2,if_neg (by omega),Array.getElem?_setIfInBounds,if_neg (fun h=>e1 h.symm)];rw [World.setCells,h4 k hk];simp only [World.setCell,AF];rw [if_neg (fun h=>hk h.symm)]
theorem zph {w:World} {o:Obj}:(w.heap.push o)[w.heap.size]? =some o:=by simp
theorem zpi {w:World} {o:Obj} {k:Nat} (hk:k<w.heap.size):(w.heap.push o)[k]? =w.heap[k]?:=by rw [AN,if_neg (by omega)]
def zbC (s:Str):Value:= .string ⟨s.toArray⟩
def zfd (l:List Str) (i:Nat) (s:Str):List Str:=l.take i++s::l.drop i
theorem zmj {l:List Str} {i:Nat} (hi:i<=l.length) (s:Str) (p:Nat):(zfd l i s)[p]? =if p<i then l[p]? else if p=i then some s else l[p-1]?:=by
 unfold zfd;have ht:(l.take i).length=i:=by simp;omega
 split
 rename_i h;rw [Ar (by omega),AI h]
 rename_i h
 rw [An (by omega),ht]
 split
 rename_i e;subst e;simp
 rename_i e
 rw [show p-i=(p-i-1)+1 by omega,AJ,AH,show i+(p-i-1)=p-1 by omega]
theorem zuO {l:List Str} {i:Nat} (hi:i<=l.length) (s:Str):(zfd l i s).length=l.length+1:=by unfold zfd;simp;omega
theorem zpY {I:Imm} {w:World} {b off n cap:Nat} {rc:Array Value} {el:TypeId} {fr:Nat×Nat} {l:List Str} (hn:n=l.length) (hw:w.heap[b]? =some (.cells rc el fr)) (hf:Free fr rc.size) (hc:n<=cap/\cap<=9223372036854775807) (ho:off+cap<=rc.size)
 (hv: ∀(p:Nat) (x:Str),l[p]? =some x->rc[off+p]? =some (zbC x)):MSat I w (.arr (.slice (some ⟨b,off,none⟩) n cap) 1 (l.map .str)):=by
 refine .inr ⟨b,off,cap,rc,el,fr,by simp [hn],hw,hf,fun e he=> ?_,by simp only [Ag];omega,by omega,fun i j e c v a1 a2 a3=> ?_⟩
 obtain ⟨a,_,rfl⟩:=List.mem_map.1 he;rfl;rw [Aj] at a1
 cases hq:l[i]? with
 |none=>rw [hq] at a1;cases a1
 |some s=>
   rw [hq] at a1;obtain rfl:HVal.str s=e:=Av a1;have hj:j=0:=by have:=zx a2;simp [zd] at this;omega
   subst hj;obtain rfl:HVal.str s=c:=Av a2;rw [show off+i*1+0=off+i by omega,hv i s hq] at a3;rw [<-Av a3];exact .str s
theorem ztl [Tracks] (L:Lays2.n22 P ρ) {v:Value} {l:List Str} {s:Str} {i ub:Nat} {el2:TypeId} (hi:i<=l.length) (hl:l.length<=1000000):
 Con P (ρ.f 22) [.raw v,.int .i64 i,.raw (.slice (some ⟨ub,0,none⟩) 1 1)] [.arr v 1 (l.map .str),.obj ub (.cells #[zbC s] el2 (0,0))]
  fun x M'=> ∃v',x= .raw v'/\M'=[.arr v' 1 ((zfd l i s).map .str),.obj ub (.cells #[zbC s] el2 (0,0))]:=by
 intro I F w args hA hS
 obtain ⟨v1,r1,rfl,hv1,hr1⟩: ∃v1 r1,args=v1::r1/\V I (.raw v) v1/\VL I [.int .i64 i,.raw (.slice (some ⟨ub,0,none⟩) 1 1)] r1:=by
  cases args with
  |nil=>have:=hA.1;simp at this
  |cons a r=>exact ⟨a,r,rfl,hA.head,hA.tail⟩
 obtain ⟨v2,r2,rfl,hv2,hr2⟩: ∃v2 r2,r1=v2::r2/\V I (.int .i64 i) v2/\VL I [.raw (.slice (some ⟨ub,0,none⟩) 1 1)] r2:=by
  cases r1 with
  |nil=>have:=hr1.1;simp at this
  |cons a r=>exact ⟨a,r,rfl,hr1.head,hr1.tail⟩
 obtain ⟨v3,rfl,hv3⟩: ∃v3,r2=[v3]/\V I (.raw (.slice (some ⟨ub,0,none⟩) 1 1)) v3:=by
  cases r2 with
  |nil=>have:=hr2.1;simp at this
  |cons a r=>cases r with
    |nil=>exact ⟨a,rfl,hr2.head⟩
    |cons b r=>have:=hr2.1;simp at this
 have hv1:=hv1.raw_inv;have hv2:=hv2.int_inv;have hv3:=hv3.raw_inv;subst hv1 hv2 hv3;have hu:w.heap[ub]? =some (.cells #[zbC s] el2 (0,0)):=hS.obj (.obj ub _) (by simp);have hvs: ∀(j:Nat) (u:Value),[zbC s][j]? =some u->w.cell? ⟨ub,0+j,none⟩=some u:=fun j u hj=>by
  rw [zb3 hu,Bc];simpa using hj
 have h1v: ∀u∈[zbC s],u.oneCell'=true:=fun u h=>by simp at h;subst h;rfl
 have h1c: ∀u∈l.map zbC,u.oneCell'=true:=fun u h=>by obtain ⟨a,_,rfl⟩:=List.mem_map.1 h;rfl
 have hcl:(l.map zbC).length=l.length:=by simp
 have hplen:=zuO hi s
 
 have fresh: ∀(w':World) (rc:Array Value) (el:TypeId) (cap:Nat),w'.heap[w.heap.size]? =some (.cells rc el (0,0))->(l.length+1<=cap/\cap<=9223372036854775807)->cap<=rc.size->
  (∀(p:Nat) (x:Str),(zfd l i s)[p]? =some x->rc[p]? =some (zbC x))->(∀k,k<w.heap.size->w'.heap[k]? =w.heap[k]?)->w'.os=w.os->w'.output=w.output->w'.tape=w.tape->w.drawn<=w'.drawn->
  Sat P I ([.arr (.slice (some ⟨w.heap.size,0,none⟩) (l.length+1) cap) 1 ((zfd l i s).map .str),.obj ub (.cells #[zbC s] el2 (0,0))]++F) w':=fun w' rc el cap g1 g2 g3 g4 g5 g6 g7 g8 g9=>
  hS.change (m':= .arr (.slice (some ⟨w.heap.size,0,none⟩) (l.length+1) cap) 1 ((zfd l i s).map .str)) (fun k hk _=>g5 k hk) (fun k hk=>by simp [MObj.blocks] at hk;exact .inr (by omega)) (by simp [MObj.blocks])
   (zpY hplen.symm g1 (Free.zero _) g2 (by omega) fun p x hx=>by rw [Bc];exact g4 p x hx) g6 g7 g8 (fun _=>g9)
 rcases hS.obj _ (Ai) with ⟨rfl,hnil⟩|⟨b,off,cap,rc,el,fr,rfl,h2,h3,h4,h5,h6,h7⟩
 
 obtain rfl:l=[]:=List.map_eq_nil_iff.1 hnil;obtain rfl:i=0:=by simpa using hi
 refine (Any2.slices_Insert_string_end_grow L none 0 0 ub 0 1 1 [] [zbC s] w (by omega) (by omega) (by omega) (by omega) rfl rfl (fun _=>rfl) (fun a h=>by cases h) hvs h1v).mono ?_;rintro e w' ⟨rfl,rfl⟩;have hge:=grownCap_ge w (0+1) 0 (ρ.t 9);have hle:=grownCap_le_maxLen w (0+1) 0 (ρ.t 9) (by unfold maxLen;omega);refine ⟨_,.raw _,_,I,rfl,.refl I,⟨_,rfl,rfl⟩,.raw _ rfl,fresh _ _ _ _ zph ⟨by simpa using hge,by unfold maxLen at hle;exact hle⟩ ?_ ?_ ?_ rfl rfl rfl (Bd _)⟩
 simp [Builtin.zeroCells,Value.cells];omega
 intro p x hx
 have hp:=zx hx;rw [hplen] at hp;obtain rfl:p=0:=by simpa using hp
 simp [zfd] at hx;subst hx
 rw [AD (by simp)];simp
 intro k hk;exact zpi hk
 simp only [Ag] at h5 h6⊢;have hlt:b<w.heap.size:=by
  rcases AA b w.heap.size with h|h
  exact h
  simp [Am h] at h2
 have hrow: ∀(j:Nat) (x:Str),l[j]? =some x->rc[off+j]? =some (zbC x):=fun j x hx=>by
  have hj:=zx hx;have hr:off+j<rc.size:=by omega
  have:=h7 j 0 (.str x) (.str x) rc[off+j] (by rw [Aj,hx];rfl) rfl (by simp [Aq hr]);rw [Aq hr,this.str_inv];rfl
 have hcs: ∀(j:Nat) (u:Value),(l.map zbC)[j]? =some u->w.cell? ⟨b,off+j,none⟩=some u:=fun j u hj=>by
  rw [Aj] at hj
  cases hq:l[j]? with
  |none=>rw [hq] at hj;cases hj
  |some x=>rw [hq] at hj;rw [zb3 h2,hrow j x hq];exact hj
 have hfz: ∀j,off+j<rc.size->w.frozen? ⟨b,off+j,none⟩=false:=fun j hj=>by
  have:=h3 (off+j) hj;simp only [World.frozen?,h2]
  simpa using this
 have hsome: ∀j,off+j<rc.size->(w.cell? ⟨b,off+j,none⟩).isSome=true:=fun j hj=>by rw [zb3 h2,Aq hj];rfl
 have hne:ub≠b:=fun e=>by
  have:=hS.nodup;subst e
  simp [blocks,MObj.blocks] at this
 have inplace: ∀(w':World) (rc':Array Value),w'.heap[b]? =some (.cells rc' el fr)->rc'.size=rc.size->l.length+1<=cap->
  (∀(p:Nat) (x:Str),(zfd l i s)[p]? =some x->rc'[off+p]? =some (zbC x))->(∀k,k≠b->w'.heap[k]? =w.heap[k]?)->w'.os=w.os->w'.output=w.output->w'.tape=w.tape->w.drawn<=w'.drawn->
  Sat P I ([.arr (.slice (some ⟨b,off,none⟩) (l.length+1) cap) 1 ((zfd l i s).map .str),.obj ub (.cells #[zbC s] el2 (0,0))]++F) w':=fun w' rc' g1 g2 g3 g4 g5 g6 g7 g8 g9=>
  hS.change (m':= .arr (.slice (some ⟨b,off,none⟩) (l.length+1) cap) 1 ((zfd l i s).map .str)) (fun k _ hk=>g5 k (by simpa [MObj.blocks] using hk)) (fun k hk=> .inl (by simpa [MObj.blocks] using hk)) (by simp [MObj.blocks])
   (zpY hplen.symm g1 (by rw [g2];exact h3) ⟨g3,h5.2⟩ (by omega) g4) g6 g7 g8 (fun _=>g9)
 rcases AA i l.length with hin|hin
 rcases AA cap (l.length+1) with hroom|hroom
 
 refine (Any2.slices_Insert_string_grow L b off l.length cap i ub 0 1 1 (l.map zbC) [zbC s] w hin (by omega) h5.1 hroom (by omega) hcl rfl hcs hvs h1c h1v).mono ?_;rintro e w' ⟨rfl,rfl⟩;have hge:=grownCap_ge w (l.length+1) cap (ρ.t 9);have hle:=grownCap_le_maxLen w (l.length+1) cap (ρ.t 9) (by unfold maxLen;omega)
 generalize hG:grownCap w (l.length+1) cap (ρ.t 9)=G at*
 let r0:Array Value:=((l.map zbC).take i).toArray++Builtin.zeroCells (Value.string ⟨#[]⟩).cells (l.length+1-i)++Builtin.zeroCells (Value.string ⟨#[]⟩).cells (G-(l.length+1))
 have hz: ∀k,(Builtin.zeroCells (Value.string ⟨#[]⟩).cells k).size=k:=fun k=>by simp [Builtin.zeroCells,Value.cells]
 have hr0:r0.size=G:=by simp only [r0,Array.size_append,hz];simp;omega
 have ha:(w.alloc (.cells r0 (ρ.t 9))).drew.heap[w.heap.size]? =some (.cells r0 (ρ.t 9) (0,0)):=zph;obtain ⟨r1,a1,a2,a3,a4,a5,a6,a7,a8,a9⟩:=zdS w.heap.size (ρ.t 9) (0,0) [zbC s] i (w.alloc (.cells r0 (ρ.t 9))).drew r0 ha (by simp only [Ah,Al];omega);obtain ⟨r2,b1,b2,b3,b4,b5,b6,b7,b8,b9⟩:=zdS w.heap.size (ρ.t 9) (0,0) ((l.map zbC).drop i) (i+1) ((w.alloc (.cells r0 (ρ.t 9))).drew.setCells w.heap.size i [zbC s]).drew r1 a1 (by simp;omega);refine ⟨_,.raw _,_,I,rfl,.refl I,⟨_,rfl,rfl⟩,.raw _ rfl,fresh _ r2 _ _ b1 ⟨hge,by unfold maxLen at hle;exact hle⟩ (by omega) (fun p x hx=> ?_) (fun k hk=> ?_) (b6.trans a6) (b7.trans a7) (b8.trans a8) (by rw [b9];exact Ax (Cd a9.symm|>fun h=>Ax (Bd _) h) (Bd _))⟩
 rw [b3,a3];rw [zmj hi] at hx;simp only [Ba,Ag,Ah,Al]
 split at hx
 rename_i q
 rw [if_neg (by omega),if_neg (by omega)];have hq:p<((l.map zbC).take i).toArray.size:=by simp;omega
 simp only [r0];rw [Array.append_assoc,AD hq]
 simp [q,hx]
 split at hx
 rename_i q;subst q
 rw [if_neg (by omega),if_pos (by omega)]
 cases hx;simp
 rename_i q1 q2
 have hp:=zx hx;rw [if_pos (by omega),AH,show i+(p-(i+1))=p-1 by omega,Aj,hx];rfl;rw [b4 k (by omega)];exact (a4 k (by omega)).trans (zpi hk)
 
 refine (Any2.slices_Insert_string_shift L b off l.length cap i ub 0 1 1 (l.map zbC) [zbC s] w hin (by omega) hroom h5.2 hne hcl rfl hcs (fun j hj=>hsome j (by omega)) (fun j hj=>hfz j (by omega)) hvs h1c h1v el2 el 1 rc.size (by simp [World.shape?,hu]) (by simp [World.shape?,h2]) (by omega) (by simp [World.frozen?,hu]) (by simp [World.frozen?,hu])).mono ?_;rintro e w' ⟨rfl,rfl⟩;obtain ⟨r1,a1,a2,a3,a4,a5,a6,a7,a8,a9⟩:=zdS b el fr ((l.map zbC).drop i) (off+(i+1)) w.drew rc h2 (by simp;omega);obtain ⟨r2,b1,b2,b3,b4,b5,b6,b7,b8,b9⟩:=zdS b el fr [zbC s] (off+i) _ r1 a1 (by simp;omega);refine ⟨_,.raw _,_,I,rfl,.refl I,⟨_,rfl,rfl⟩,.raw _ rfl,inplace _ r2 b1 (b2.trans a2) hroom (fun p x hx=> ?_) (fun k hk=>(b4 k hk).trans (a4 k hk)) (b6.trans a6) (b7.trans a7) (b8.trans a8) (by rw [b9,a9];exact Bd _)⟩
 rw [b3,a3];rw [zmj hi] at hx;simp only [Ba,Ag,Ah,Al]
 split at hx
 rw [if_neg (by omega),if_neg (by omega)];exact hrow p x hx
 split at hx
 rename_i q;subst q
 rw [if_pos (by omega)]
 cases hx;simp
 have hp:=zx hx;rw [if_neg (by omega),if_pos (by omega),AH,show i+(off+p-(off+(i+1)))=p-1 by omega,Aj,hx];rfl;obtain rfl:i=l.length:=by omega
 have hput: ∀(p:Nat) (x:Str),(zfd l l.length s)[p]? =some x->(p<l.length/\l[p]? =some x)\/p=l.length/\x=s:=fun p x hx=>by
  rw [zmj hi] at hx
  split at hx
  rename_i q;exact .inl ⟨q,hx⟩
  split at hx
  rename_i q;exact .inr ⟨q,(Av hx).symm⟩
  have:=zx hx;omega
 rcases AA cap (l.length+1) with hroom|hroom
 
 refine (Any2.slices_Insert_string_end_grow L (some ⟨b,off,none⟩) l.length cap ub 0 1 1 (l.map zbC) [zbC s] w (by omega) h5.1 hroom (by omega) hcl rfl (fun h=>by cases h) (fun a h j u hj=>by cases h;rw [Addr.add_lit];exact hcs j u hj) hvs h1v).mono ?_;rintro e w' ⟨rfl,rfl⟩;have hge:=grownCap_ge w (l.length+1) cap (ρ.t 9);have hle:=grownCap_le_maxLen w (l.length+1) cap (ρ.t 9) (by unfold maxLen;omega);have hz: ∀k,(Builtin.zeroCells (Value.string ⟨#[]⟩).cells k).size=k:=fun k=>by simp [Builtin.zeroCells,Value.cells]
 refine ⟨_,.raw _,_,I,rfl,.refl I,⟨_,rfl,rfl⟩,.raw _ rfl,fresh _ _ _ _ zph ⟨hge,by unfold maxLen at hle;exact hle⟩ ?_ ?_ ?_ rfl rfl rfl (Bd _)⟩
 rw [Array.size_append,hz];simp;omega
 intro p x hx
 rw [AD (by simp;rcases hput p x hx with ⟨q,_⟩|⟨q,_⟩<;>omega)]
 rcases hput p x hx with ⟨q,hx⟩|⟨rfl,rfl⟩
 simp only [AV];rw [Ar (by simpa using q),Aj,hx];rfl;simp only [AV];rw [An (by simp)];simp
 intro k hk;exact zpi hk
 
 refine (Any2.slices_Insert_string_end_room L b off l.length cap ub 0 1 1 [zbC s] w (by omega) hroom h5.2 rfl (fun j hj=>by rw [A2];exact hsome _ (by omega)) (fun j hj=>by rw [A2];exact hfz _ (by omega)) hvs h1v).mono ?_;rintro e w' ⟨rfl,rfl⟩;obtain ⟨r1,a1,a2,a3,a4,a5,a6,a7,a8,a9⟩:=zdS b el fr [zbC s] (off+l.length) w rc h2 (by simp;omega);refine ⟨_,.raw _,_,I,rfl,.refl I,⟨_,rfl,rfl⟩,.raw _ rfl,inplace _ r1 a1 a2 hroom (fun p x hx=> ?_) a4 a6 a7 a8 (by rw [a9];exact Af _)⟩
 rw [a3]
 rcases hput p x hx with ⟨q,hx⟩|⟨rfl,rfl⟩
 rw [if_neg (by omega)];exact hrow p x hx;rw [if_pos (by simp)];simp
end
section
variable {P:Program}
end
section
open Op
theorem zhP (x y:MoveS):zfo [.int .i64 x.At,.int .i64 x.Kind,.str x.Team,.str x.Player] [.int .i64 y.At,.int .i64 y.Kind,.str y.Team,.str y.Player]=true↔x=y:=by
 obtain ⟨a1,a2,a3,a4⟩:=x;obtain ⟨b1,b2,b3,b4⟩:=y
 show (_&&(_&&(_&&(_&&true))))=true↔_
 simp [eqH]
instance decMoveS:DecidableEq MoveS:=fun x y=>decidable_of_iff _ (zhP x y)
theorem zje:Cmp zga fun _=>True:=by
 have h:=zdQ (zfE MoveS.At) (zdQ (zgx MoveS.Team) (zdQ (zgx MoveS.Player) (zfE MoveS.Kind)));have e:zga=fun a b=>if zaj a.At b.At≠0 then zaj a.At b.At else if zab a.Team b.Team≠0 then zab a.Team b.Team else if zab a.Player b.Player≠0 then zab a.Player b.Player else zaj a.Kind b.Kind:=by
  funext a b;unfold zga;rw [zee,zee,zfX]
 rw [e];exact h
theorem zpx:Cmp zjc fun _=>True:=by
 have h:=zdQ (zgx ChoiceS.Team) (zdQ (zfE ChoiceS.Week) (zfE ChoiceS.At));have e:zjc=fun a b=>if zab a.Team b.Team≠0 then zab a.Team b.Team else if zaj a.Week b.Week≠0 then zaj a.Week b.Week else zaj a.At b.At:=by
  funext a b;unfold zjc;rw [zee,zfX]
 rw [e];exact h
theorem zjd:Cmp zfB fun _=>True:=by
 have h:=zdQ (zfE GameS.Week) (zdQ (zgx GameS.Home) (zgx GameS.Away));have e:zfB=fun a b=>if zaj a.Week b.Week≠0 then zaj a.Week b.Week else if zab a.Home b.Home≠0 then zab a.Home b.Home else zab a.Away b.Away:=by
  funext a b;unfold zfB;rw [zee,zfX]
 rw [e];exact h
end
section
open Op
def zg1 (s l:Str):Bool:=s.all fun c=>decide (0<=Lib.indexByte l c)
theorem zue (c:UInt8):decide (0<=Lib.indexByte zgc c)=zgd c:=by
 have:=zqT (p:=fun c=>decide (0<=Lib.indexByte zgc c)==zgd c) (by kernel_rfl) c
 simpa using this
theorem zvu (s:Str):key s=((!(out s.length 1 40)&&zg1 (s.take 1) ziu)&&zg1 s zgc):=by
 unfold zg1;have:(fun c=>decide (0<=Lib.indexByte zgc c))=zgd:=funext zue;rw [this];unfold key zjp
 cases s with
 |nil=>simp [out]
 |cons x r=>
   simp only [BS,List.take_zero,BR,List.all_nil,Bool.and_true,List.headD_cons];rw [zoE];have h1:(!(out ((x::r).length:Int) 1 40))=decide ((x::r).length<=40):=by
    simp only [out,Ah];rw [AL];simp;omega
   rw [h1];have h2:((x::r) !=[])=true:=rfl;rw [h2];have hb: ∀a c d b:Bool,(true&&a&&c&&d&&b)=(a&&(c&&d)&&b):=by decide
   exact hb _ _ _ _
theorem zpg (l:List Str):zhp l=if l.length=0 then 8 else if 10<l.length then 2 else zgD l:=rfl
def zmF {α:Type} (f:α->Str) (d:α) (l:List α) (k:Nat):Str:=if k=0 then [] else f (l.getD (k-1) d)
theorem zsx {α:Type} {f:α->Str} {d:α} {l:List α} {k:Nat} {x:α} (hx:key (f x)=true):(leB (f x) (zmF f d l k)=true)↔(0<k/\leB (f x) (f (l.getD (k-1) d))=true):=by
 unfold zmF
 by_cases h:k=0
 subst h;rw [if_pos rfl,zxj hx];simp;rw [if_neg h]
 constructor
 intro q;exact ⟨by omega,q⟩
 intro q;exact q.2
theorem zpV {α:Type} {f:α->Str} {d:α} {l:List α} {k:Nat} {x:α} (hx:l[k]? =some x):zmF f d l (k+1)=f x:=by
 unfold zmF;rw [if_neg (by omega),Nat.add_sub_cancel,Ae,hx];rfl
theorem zgn {a b:Int}:zk7 (a-b)=zaj a b:=zvW
theorem zku {a b:MoveS}:zga a b=if a.At≠b.At then zaj a.At b.At else if a.Team≠b.Team then zab a.Team b.Team else if a.Player≠b.Player then zab a.Player b.Player else zaj a.Kind b.Kind:=by
 unfold zga;rw [zee,zee,zfX];have e1:zaj a.At b.At≠0↔a.At≠b.At:=not_congr zdk;have e2:zab a.Team b.Team≠0↔a.Team≠b.Team:=not_congr zcz;have e3:zab a.Player b.Player≠0↔a.Player≠b.Player:=not_congr zcz;simp only [e1,e2,e3]
theorem zne {a b:GameS}:zfB a b=if a.Week≠b.Week then zaj a.Week b.Week else if a.Home≠b.Home then zab a.Home b.Home else zab a.Away b.Away:=by
 unfold zfB;rw [zee,zfX];have e1:zaj a.Week b.Week≠0↔a.Week≠b.Week:=not_congr zdk;have e2:zab a.Home b.Home≠0↔a.Home≠b.Home:=not_congr zcz;simp only [e1,e2]
theorem zvz {x p:MoveS}:(0<=zga p x)↔zga x p<=0:=by
 have f1:=zje.flip p x trivial trivial;have f2:=zje.flip x p trivial trivial
 omega
theorem zvk {x p:GameS}:(0<=zfB p x)↔zfB x p<=0:=by
 have f1:=zjd.flip p x trivial trivial;have f2:=zjd.flip x p trivial trivial
 omega
theorem zvb {x p:ChoiceS}:(0<=zjc p x)↔zjc x p<=0:=by
 have f1:=zpx.flip p x trivial trivial;have f2:=zpx.flip x p trivial trivial
 omega
def zms (a b:Int):List Int->Int
 |[]=>0
 |e::r=>if a=e\/b=e then e else zms a b r
def zvZ (a b:Int):Int:=zms a b [3,1]
theorem zqU {n d m:Int}:zc5 n d m=0\/zc5 n d m=1\/zc5 n d m=3:=by
 unfold zc5;split
 omega
 split<;>omega
theorem zvj {x:GameS} (h:x.Played=true):zgV x=zvZ (zc5 x.FNum x.FDen 1000000) (zc5 x.ONum x.ODen 1000000):=by
 unfold zgV zvZ;rw [if_neg (by rw [h];simp),zms,zms,zms];have h1:=zqU (n:=x.FNum) (d:=x.FDen) (m:=1000000);have h2:=zqU (n:=x.ONum) (d:=x.ODen) (m:=1000000)
 split
 rfl
 rename_i h3
 rw [zfX]
 (repeat' split)<;>omega
theorem zvX {a b:Int}:Nat.gcd b.natAbs (a.tmod b).natAbs=Nat.gcd a.natAbs b.natAbs:=by
 rw [Int.natAbs_tmod];exact zpH
theorem zrS {a b:Int} (hb:b≠0): -b.natAbs<a.tmod b/\a.tmod b<b.natAbs/\(a.tmod b).natAbs<b.natAbs:=by
 have h:=BQ a.natAbs (show 0<b.natAbs by omega);rw [<-Int.natAbs_tmod] at h
 omega
theorem zyj {l:Str} {x:UInt8} {r:Str} (h:Lib.indexByte l x<0):zg1 (x::r) l=false:=by
 unfold zg1;rw [BR];have:decide (0<=Lib.indexByte l x)=false:=by simpa using h
 rw [this];rfl
theorem zyk {l:Str} {x:UInt8} {r:Str} (h:0<=Lib.indexByte l x):zg1 (x::r) l=zg1 r l:=by
 unfold zg1;rw [BR];have:decide (0<=Lib.indexByte l x)=true:=by simpa using h
 rw [this];rfl
theorem pts3 {n d:Int} (h:d<1\/¬((Nat.gcd n.natAbs d.natAbs:Nat):Int)=1):d<1\/znw n d=false:=by
 rcases h with h|h
 exact .inl h;refine .inr ?_;unfold znw;rw [beq_eq_false_iff_ne]
 intro e;rw [e] at h;exact h rfl
theorem pts0 {n d:Int} (h:((Nat.gcd n.natAbs d.natAbs:Nat):Int)=1):znw n d=true:=by
 unfold znw;rw [beq_iff_eq];omega
theorem pts1 {n d m:Int} (h:(¬Int.tmod 100 d=0\/n< -m*d)\/m*d<n):Int.tmod 100 d≠0\/out n (-m*d) (m*d)=true:=by
 have e: -m*d= -(m*d):=Int.neg_mul _ _;rw [e] at h⊢
 rcases h with (h|h)|h
 exact .inl h;refine .inr ?_;simp [out];omega
 refine .inr ?_;simp [out];omega
theorem pts2 {n d m:Int} (h:(Int.tmod 100 d=0/\ -m*d<=n)/\n<=m*d): ¬(Int.tmod 100 d≠0\/out n (-m*d) (m*d)=true):=by
 have e: -m*d= -(m*d):=Int.neg_mul _ _;rw [e] at h⊢;obtain ⟨⟨h1,h2⟩,h3⟩:=h;rintro (q|q);exact q h1
 simp [out] at q;omega
theorem zvo {f t:Int} (h:out f 1 (t-1)=true\/61<t):out t 2 61=true\/out f 1 (t-1)=true:=by
 rcases h with h|h
 exact .inr h;refine .inl ?_;simp [out];omega
theorem zvn {f t:Int} (h:out f 1 (t-1)=false/\t<=61): ¬(out t 2 61=true\/out f 1 (t-1)=true):=by
 rintro (q|q);have h1:=h.1
 simp [out] at q h1;omega
 rw [h.1] at q;cases q
theorem zx6 {k:Int} (h: ¬k=1/\¬k=2):out k 1 2=true:=by simp [out];omega
theorem zx5 {k:Int} (h: ¬k=1->k=2):out k 1 2=false:=by simp [out];omega
structure MovB (x:MoveS):Prop where
 at': -1000000000000000<=x.At/\x.At<=1000000000000000
 kind: -1000000000000000<=x.Kind/\x.Kind<=1000000000000000
structure GamB (x:GameS):Prop where
 week: -1000000000000000<=x.Week/\x.Week<=1000000000000000
 fr:(-1000000000<=x.FNum/\x.FNum<=1000000000)/\ -1000000000<=x.FDen/\x.FDen<=1000000000
 ot:(-1000000000<=x.ONum/\x.ONum<=1000000000)/\ -1000000000<=x.ODen/\x.ODen<=1000000000
end
section

end
section
def znf (a b:Of2):Int:=orI [zab a.1 b.1,zab a.2 b.2]
theorem zwS (a b:Of2):znf a b=if zab a.1 b.1≠0 then zab a.1 b.1 else zab a.2 b.2:=by unfold znf;rw [zfX]
theorem zt4 (a b:Of2):znf a b= -znf b a:=by
 unfold znf;rw [zeB a.1,zeB a.2,zrx]
theorem zu8:Cmp znf (fun _=>True) where
 flip x y _ _:=by rw [zt4 x y];omega
 trans x y z _ _ _ h1 h2:=by
  rw [zwS] at*;have k1:zab x.1 y.1<=0:=by split at h1<;>omega
  have k2:zab y.1 z.1<=0:=by split at h2<;>omega
  have k3:=zgQ k1 k2
  split
  exact k3
  rename_i hz
  have hz':zab x.1 z.1=0:=by simpa using hz
  obtain ⟨e1,e2⟩:=zlg k1 k2 hz';rw [if_neg (by simp [e1])] at h1;rw [if_neg (by simp [e2])] at h2;exact zgQ h1 h2
def OLt (a b:Of2):Prop:=znf a b<0
structure DisS where
 S:List Str
 c:List ((Str×Of2)×Int)
def zre (p:Play):Str×Of2:=(p.Source,(p.Player,p.Stat))
def zxZ (q:DisS) (p:Play):List ((Str×Of2)×Int):=zy (zre p) ((alk (zre p) q.c).getD 0+p.Count) q.c
end
section
section
variable {κ:Type}
abbrev GrM (κ:Type):=List (Str×(Nat×List (κ×Int)))
end
end
section
theorem zks {α:Type} {s:Str} {v:α}: ∀{G:List (Str×α)},(zy s v G).map (·.1)=zdb s (G.map (·.1))
 |[]=>by simp [zy,zdb]
 |p::r=>by
   have ih:=zks (s:=s) (v:=v) (G:=r);simp only [zy]
   by_cases h:s=p.1
   rw [if_pos h];unfold zdb;rw [if_pos (by simp [h])]
   simp [h]
   rw [if_neg h,Ao,ih];unfold zdb
   by_cases hc:(r.map (·.1)).contains s=true
   rw [if_pos hc,if_pos (by simp at hc⊢;exact .inr hc)];rfl;rw [if_neg hc,if_neg (by simp at hc⊢;exact ⟨h,hc⟩)];rfl
theorem zlw {α:Type} {s:Str} {v:α} {p:Str×α}: ∀{G:List (Str×α)},ANodup G->p∈zy s v G->p=(s,v)\/(p∈G/\p.1≠s)
 |[],_,h=>by simp [zy] at h;exact .inl h
 |q::r,hn,h=>by
   have h1:=List.nodup_cons.1 hn;simp only [zy] at h
   by_cases hs:s=q.1
   rw [if_pos hs] at h
   rcases List.mem_cons.1 h with h|h
   exact .inl h;refine .inr ⟨Ap _ h,fun e=>h1.1 ?_⟩
   show q.1∈r.map (·.1)
   rw [<-hs,<-e];exact List.mem_map_of_mem h;rw [if_neg hs] at h
   rcases List.mem_cons.1 h with h|h
   subst h;exact .inr ⟨by simp,fun e=>hs e.symm⟩
   rcases zlw h1.2 h with e|e
   exact .inl e;exact .inr ⟨Ap _ e.1,e.2⟩
section
variable {κ:Type}
structure GrOk (S:List Str) (c:List ((Str×κ)×Int)) (G:GrM κ):Prop where
 keys:G.map (·.1)=S
 nodup:S.Nodup
 val: ∀p∈G,p.2.2=zcM c p.1
 inS: ∀e∈c,e.1.1∈S
theorem GrOk.anodup {S:List Str} {c:List ((Str×κ)×Int)} {G:GrM κ} (h:GrOk S c G):ANodup G:=by unfold ANodup;rw [h.keys];exact h.nodup
theorem GrOk.nil:GrOk ([]:List Str) ([]:List ((Str×κ)×Int)) []:=⟨rfl,A4,(fun p h=>by cases h),(fun e h=>by cases h)⟩
theorem GrOk.get {S:List Str} {c:List ((Str×κ)×Int)} {G:GrM κ} (h:GrOk S c G) {s:Str} {b:Nat} {L:List (κ×Int)} (hq:alk s G=some (b,L)):L=zcM c s:=h.val _ (zbv hq)
theorem GrOk.none {S:List Str} {c:List ((Str×κ)×Int)} {G:GrM κ} (h:GrOk S c G) {s:Str}:alk s G=none↔s∉S:=by rw [zff,h.keys]
theorem zut {S:List Str} {c:List ((Str×κ)×Int)} {s:Str} (h: ∀e∈c,e.1.1∈S) (hs:s∉S):zcM c s=[]:=by
 unfold zcM;rw [List.map_eq_nil_iff,List.filter_eq_nil_iff]
 intro e he hq
 exact hs ((eq_of_beq hq)▸h e he)
theorem GrOk.add {S:List Str} {c:List ((Str×κ)×Int)} {G:GrM κ} (h:GrOk S c G) {s:Str} (b:Nat) (hs:alk s G=Option.none):GrOk (zdb s S) c (zy s (b,[]) G):=by
 have hn:=h.none.1 hs;refine ⟨by rw [zks,h.keys],zik h.nodup,fun p hp=> ?_,fun e he=>zkW.2 (.inr (h.inS e he))⟩
 rcases zlw h.anodup hp with rfl|⟨hp,_⟩
 exact (zut h.inS hn).symm;exact h.val p hp
variable [DecidableEq κ]
theorem GrOk.put {S:List Str} {c:List ((Str×κ)×Int)} {G:GrM κ} (h:GrOk S c G) {s:Str} {b:Nat} {L:List (κ×Int)} (hq:alk s G=some (b,L)) (k:κ) (v:Int):GrOk S (zy (s,k) v c) (zy s (b,zy k v L) G):=by
 have hs:s∈S:=by
  refine Decidable.not_not.1 fun hn=> ?_
  have:=h.none.2 hn;rw [this] at hq;cases hq
 refine ⟨?_,h.nodup,fun p hp=> ?_,fun e he=> ?_⟩
 rw [zks,h.keys];unfold zdb;rw [if_pos (by simpa using hs)];rw [zpR]
 rcases zlw h.anodup hp with rfl|⟨hp,hne⟩
 rw [if_pos rfl,<-h.get hq];rw [if_neg hne];exact h.val p hp
 rcases zdA he with rfl|he
 exact hs;exact h.inS e he
end
end
section

end
section
def zeS (p:Option Of2):List Of2->List Of2
 |[]=>[]
 |x::r=>if p=some x then zeS (some x) r else x::zeS (some x) r
theorem OLt.trans {a b c:Of2} (h1:OLt a b) (h2:OLt b c):OLt a c:=zu8.lt_trans trivial trivial trivial h1 h2
end
section
def zAc (l:List Play) (trust:List Str) (n:Int) (x:Play):Bool:=decide (zAq l trust n x.Match=some x.Source)
def kept (l:List Play) (trust:List Str) (n:Int):List Play:=l.filter (zAc l trust n)
end
section
structure ChkIs (q:ChkS) (l:List Play):Prop where
 sn:q.S.Nodup
 s: ∀s,s∈q.S↔∃x∈l,x.Source=s
 wn:ANodup q.W
 w: ∀m,m∈q.W.map (·.1)↔∃x∈l,x.Match=m
 wv: ∀m v,alk m q.W=some v->∃x∈l,x.Match=m/\x.Week=v
 c:q.c=false↔∀x∈l,∀y∈l,x.Match=y.Match->x.Week=y.Week
theorem ChkIs.step {q:ChkS} {l:List Play} (h:ChkIs q l) (p:Play):ChkIs (zhh q p) (l++[p]) where
 sn:=zik h.sn
 s s:=by
  show s∈zdb p.Source q.S↔_
  rw [zkW,h.s]
  constructor
  rintro (rfl|⟨x,hx,e⟩);exact ⟨p,by simp,rfl⟩;exact ⟨x,As _ hx,e⟩;rintro ⟨x,hx,e⟩
  rcases List.mem_append.1 hx with hx|hx
  exact .inr ⟨x,hx,e⟩;rw [List.mem_singleton.1 hx] at e;exact .inl e.symm
 wn:=h.wn.put
 w m:=by
  show m∈(zy p.Match p.Week q.W).map (·.1)↔_
  rw [zlv,h.w]
  constructor
  rintro (rfl|⟨x,hx,e⟩);exact ⟨p,by simp,rfl⟩;exact ⟨x,As _ hx,e⟩;rintro ⟨x,hx,e⟩
  rcases List.mem_append.1 hx with hx|hx
  exact .inr ⟨x,hx,e⟩;rw [List.mem_singleton.1 hx] at e;exact .inl e.symm
 wv m v hv:=by
  have hv':alk m (zy p.Match p.Week q.W)=some v:=hv;rw [zbQ] at hv'
  by_cases e:m=p.Match
  rw [if_pos e] at hv';cases hv';exact ⟨p,by simp,e.symm,rfl⟩;rw [if_neg e] at hv';obtain ⟨x,hx,e1⟩:=h.wv m v hv';exact ⟨x,As _ hx,e1⟩
 c:=by
  show (q.c||((alk p.Match q.W).isSome&&((alk p.Match q.W).getD 0 !=p.Week)))=false↔_
  rw [Bool.or_eq_false_iff,h.c]
  constructor
  rintro ⟨h1,h2⟩;have hp: ∀x∈l,x.Match=p.Match->x.Week=p.Week:=fun x hx e=>by
   have hk:p.Match∈q.W.map (·.1):=(h.w _).2 ⟨x,hx,e⟩;have hne: ¬alk p.Match q.W=none:=by rw [zff];exact fun z=>z hk
   obtain ⟨v,hv⟩:=Option.ne_none_iff_exists'.1 hne;rw [hv] at h2
   simp at h2
   obtain ⟨y,hy,e1,e2⟩:=h.wv _ _ hv;rw [h1 x hx y hy (by rw [e,e1]),e2,h2]
  intro x hx y hy e
  rcases List.mem_append.1 hx with hx|hx<;>rcases List.mem_append.1 hy with hy|hy
  exact h1 x hx y hy e;rw [List.mem_singleton.1 hy] at e⊢;exact hp x hx e;rw [List.mem_singleton.1 hx] at e⊢;exact (hp y hy e.symm).symm;rw [List.mem_singleton.1 hx,List.mem_singleton.1 hy]
  intro hall
  refine ⟨fun x hx y hy e=>hall x (As _ hx) y (As _ hy) e,?_⟩
  cases hv:alk p.Match q.W with
  |none=>rfl
  |some v=>
    obtain ⟨y,hy,e1,e2⟩:=h.wv _ _ hv;have:=hall y (As _ hy) p (by simp) e1
    simp
    rw [<-e2,this]
theorem zxV (l:List Play):ChkIs (zbn l) l:=by
 have key: ∀k,k<=l.length->ChkIs (zbn (l.take k)) (l.take k):=by
  intro k
  induction k with
  |zero=>
    intro _
    refine ⟨A4,fun s=> ?_,ANodup.nil,fun m=> ?_,fun m v hv=> ?_,?_⟩
    simp [zbn]
    simp [zbn]
    simp [zbn,alk] at hv
    simp [zbn]
  |succ k ih=>
    intro hk
    have hx:=Aa (l:=l) (i:=k) (by omega);rw [zeK hx,za1 hx];exact (ih (by omega)).step _
 have:=key l.length (Af _)
 rwa [Aw] at this
end
section
theorem zys {p:Play} (h:playFault p=0):1<=p.Week:=by
 have h1:=(zg2 h).2.2.2.1;unfold zbc at h1;have:=zeP (n:=p.Week) (lo:=1) (hi:=60) (by simpa using h1)
 omega
theorem zwU {l:List Play} (hok: ∀y∈l,playFault y=0) {m:Str} {v:Int} (h:alk m (zbn l).W=some v):1<=v:=by
 obtain ⟨x,hx,_,rfl⟩:=(zxV l).wv m v h;exact zys (hok x hx)
theorem zwV {l:List Play} (hok: ∀y∈l,playFault y=0) (p:Play):
 ((zbn l).c||((alk p.Match (zbn l).W).getD 0 !=0&&(alk p.Match (zbn l).W).getD 0 !=p.Week))=(zhh (zbn l) p).c:=by
 unfold zhh
 dsimp only
 cases h:alk p.Match (zbn l).W with
 |none=>simp
 |some v=>
   have:=zwU hok h;have h0:(v !=0)=true:=by simp;omega
   simp [h0]
/-! statistics-/
def zpl (E:List (Str×Int)):List StatS:=(E.filter fun e=>e.2 !=0).map fun e=>⟨e.1,e.2⟩
end
section
def zc1 (x:Play):Prop:=Sh x.Source/\Sh x.Match/\Sh x.Player/\Sh x.Stat
structure GoodPl (k:List Play):Prop where
 len:k.length<=15
 all: ∀x∈k,zc1 x
structure GoodTr (t:List Str):Prop where
 len:t.length<=4
 all: ∀s∈t,Sh s
def zfY:List Str:=[[102,97],[102,98],[102,99]]
theorem zkm: ∀s∈zfY,Sh s:=fun s hs=>by simp [zfY] at hs;rcases hs with rfl|rfl|rfl<;>(unfold Sh;simp)
def zlc:List Int:=[1,1,2]
def zeX:List Str:=[[109,97],[109,98],[109,99]]
theorem zjr (k:Nat):Sh (zeX.getD k []):=by
 match k with
 |0=>unfold Sh;simp [zeX]
 |1=>unfold Sh;simp [zeX]
 |2=>unfold Sh;simp [zeX]
 |n+3=>unfold Sh;simp [zeX]
theorem zqn {l:List Int} {z:Int}:l.contains z=l.any (· ==z):=by
 rw [AL,Bq,List.any_eq_true]
 constructor
 intro h;exact ⟨z,h,by simp⟩
 rintro ⟨y,hy,e⟩;rw [beq_iff_eq] at e;exact e▸hy
end
section
section
variable {κ:Type} [DecidableEq κ] {β:Type}
end
section
variable {P:Program} {e:Env} {κ:Type} [DecidableEq κ] {β:Type} {eb:β->HVal}
end
end
section
/-! lines by their places,with mends-/
abbrev GrS:=List (Plc×List StatS)
def ztu (x:MendS) (l:List StatS):List StatS:=l.filter fun s=> !(s.Name==x.Stat)
def zjs (x:MendS) (l:List StatS):List StatS:=ztu x l++if x.Count≠0 then [⟨x.Stat,x.Count⟩] else []
def zhT (n:Int) (G:GrS) (x:MendS):GrS:=if n<x.At then G else zy (x.Player,x.Week) (zjs x ((alk (x.Player,x.Week) G).getD [])) G
def GLen (b:Nat) (G:GrS):Prop:= ∀q∈G,q.2.length<=b
theorem GLen.put {b:Nat} {G:GrS} {p:Plc} {l:List StatS} (h:GLen b G) (hl:l.length<=b):GLen b (zy p l G):=fun q hq=>by
 rcases zdA hq with rfl|hq
 exact hl;exact h q hq
theorem GLen.get {b:Nat} {G:GrS} (h:GLen b G) (p:Plc):((alk p G).getD []).length<=b:=by
 cases hq:alk p G with
 |none=>simp
 |some l=>exact h _ (zbv hq)
theorem GLen.up {b c:Nat} {G:GrS} (h:GLen b G) (hb:b<=c):GLen c G:=fun q hq=>Ax (h q hq) hb
theorem zuC (x:MendS) (l:List StatS):(ztu x l).length<=l.length:=AW _ _
theorem zuD (x:MendS) (l:List StatS):(zjs x l).length<=l.length+1:=by
 have:=zuC x l;unfold zjs;rw [AB];split;simp only [Ah,Al];omega;simp only [Al];omega
theorem GLen.step {b:Nat} {n:Int} {G:GrS} {x:MendS} (h:GLen b G):GLen (b+1) (zhT n G x):=by
 unfold zhT;split;exact h.up (by omega);refine (h.up (by omega)).put ?_;have h1:=zuD x ((alk (x.Player,x.Week) G).getD []);have h2:=h.get (x.Player,x.Week)
 omega
def GNm (G:GrS):Prop:= ∀q∈G,(q.2.map (·.Name)).Nodup
theorem GNm.put {G:GrS} {p:Plc} {l:List StatS} (h:GNm G) (hl:(l.map (·.Name)).Nodup):GNm (zy p l G):=fun q hq=>by
 rcases zdA hq with rfl|hq
 exact hl;exact h q hq
theorem GNm.get {G:GrS} (h:GNm G) (p:Plc):(((alk p G).getD []).map (·.Name)).Nodup:=by
 cases hq:alk p G with
 |none=>exact A4
 |some l=>exact h _ (zbv hq)
theorem zm3 {x:MendS} {l:List StatS} (h:(l.map (·.Name)).Nodup):((zjs x l).map (·.Name)).Nodup:=by
 have h1:((ztu x l).map (·.Name)).Nodup:=h.sublist ((List.filter_sublist).map _);unfold zjs
 split
 rw [Ay];refine List.nodup_append.2 ⟨h1,by simp,fun a ha b hb=> ?_⟩
 simp at hb;subst hb
 obtain ⟨s,hs,rfl⟩:=List.mem_map.1 ha;have:=(List.mem_filter.1 hs).2
 simpa using this
 rw [AR];exact h1
theorem GNm.step {n:Int} {G:GrS} {x:MendS} (h:GNm G):GNm (zhT n G x):=by
 unfold zhT;split;exact h;exact h.put (zm3 (h.get _))
theorem zxp {l:List StatS} (h:(l.map (·.Name)).Nodup) {x y:StatS} (hx:x∈l) (hy:y∈l) (e:x.Name=y.Name):x=y:=by
 obtain ⟨i,hi⟩:=BM hx;obtain ⟨j,hj⟩:=BM hy;have:=zvA h (a:=x.Name) (i:=i) (j:=j) (by rw [Aj,hi];rfl) (by rw [Aj,hj,e];rfl);rw [this,hj] at hi;exact (Av hi).symm
theorem or2z {a b:Int} (h:orI [a,b]=0):a=0/\b=0:=by rw [zfX] at h;exact zxr h
def zpd {κ α:Type} [DecidableEq κ] (D S:List (κ×α)):List (κ×α):=S.foldl (fun C p=>zy p.1 p.2 C) D
theorem zoo {κ α:Type} [DecidableEq κ]: ∀{S D:List (κ×α)},ANodup D->ANodup (zpd D S)
 |[],_,h=>h
 |p::r,D,h=>zoo (S:=r) (D:=zy p.1 p.2 D) h.put
end
section
/-! one list of statistics by name-/
abbrev stA (l:List StatS):List (Str×Int):=l.map fun s=>(s.Name,s.Count)
def sv (l:List StatS) (s:Str):Int:=(alk s (stA l)).getD 0
structure StOk (l:List StatS):Prop where
 nd:(l.map (·.Name)).Nodup
 nz: ∀x∈l,x.Count≠0
theorem zqa {l:List StatS} (h:(l.map (·.Name)).Nodup):ANodup (stA l):=by
 unfold ANodup;rw [Bb];exact h
theorem StOk.nodup {l:List StatS} (h:StOk l):l.Nodup:=(List.pairwise_map.1 h.nd).imp fun h e=>h (congrArg _ e)
theorem zxO {l l':List StatS} (h:(l'.map (·.Name)).Nodup) (hp:l.Perm l') (s:Str):sv l s=sv l' s:=by
 unfold sv;rw [zu2 (hp.map _) (zqa h)]
theorem StOk.sort {l:List StatS} (h:StOk l):StOk (zaQ zhe l) where
 nd:=((zb5 zhe l).map _).nodup_iff.2 h.nd
 nz x hx:=h.nz x ((zuv _).1 hx)
theorem StOk.put {x:MendS} {l:List StatS} (h:StOk l):StOk (zjs x l) where
 nd:=zm3 h.nd
 nz y hy:=by
  unfold zjs at hy
  rcases List.mem_append.1 hy with hy|hy
  exact h.nz y (List.mem_filter.1 hy).1
  split at hy
  rename_i hc;rw [List.mem_singleton.1 hy];exact hc
  cases hy
theorem StOk.nil:StOk []:=⟨A4,fun x h=>by cases h⟩
/-! all lists by place-/
structure GSOk (G:GrS):Prop where
 nd:ANodup G
 ok: ∀q∈G,StOk q.2
theorem GSOk.get {G:GrS} (h:GSOk G) (p:Plc):StOk ((alk p G).getD []):=by
 cases hq:alk p G with
 |none=>exact StOk.nil
 |some l=>exact h.ok _ (zbv hq)
theorem GSOk.step {n:Int} {G:GrS} {x:MendS} (h:GSOk G):GSOk (zhT n G x):=by
 unfold zhT;split;exact h;refine ⟨h.nd.put,fun q hq=> ?_⟩
 rcases zdA hq with rfl|hq
 exact (h.get _).put;exact h.ok q hq
structure GVal (G:GrS):Prop where
 pl: ∀q∈G,key q.1.1=true/\zbc q.1.2=true
 st: ∀q∈G,∀s∈q.2,key s.Name=true/\(-100000<=s.Count/\s.Count<=100000)
theorem GVal.step {n:Int} {G:GrS} {x:MendS} (h:GVal G) (hx:zaO x=0):GVal (zhT n G x):=by
 obtain ⟨k1,k2,k3,k4,_⟩:=zrq hx;unfold zhT;split;exact h;refine ⟨fun q hq=> ?_,fun q hq s hs=> ?_⟩
 rcases zdA hq with rfl|hq
 exact ⟨k1,k3⟩;exact h.pl q hq
 rcases zdA hq with rfl|hq
 unfold zjs at hs
 rcases List.mem_append.1 hs with hs|hs
 have h1:=(List.mem_filter.1 hs).1
 cases ha:alk (x.Player,x.Week) G with
 |none=>rw [ha] at h1;cases h1
 |some l=>rw [ha] at h1;exact h.st _ (zbv ha) s h1
 split at hs
 rw [List.mem_singleton.1 hs];exact ⟨k2,k4⟩
 cases hs
 exact h.st q hq s hs
end
section
/-! mends as they are made up-/
def zgE (x:MendS):Prop:=Sh x.Player/\Sh x.Stat/\Sh x.By
structure GoodMds (k:List MendS):Prop where
 len:k.length<=24
 all: ∀x∈k,zgE x
def mp3:List Str:=[[97,110,110],[98,101,97],[122,111,101]]
def ms2:List Str:=[[103,111,97,108],[112,97,115,115]]
theorem zyd: ∀s∈mp3,Sh s:=fun s hs=>by
 simp [mp3] at hs;rcases hs with rfl|rfl|rfl<;>(unfold Sh;simp)
theorem zye: ∀s∈ms2,Sh s:=fun s hs=>by
 simp [ms2] at hs;rcases hs with rfl|rfl<;>(unfold Sh;simp)
theorem GLok.mono {α:Type} {P:α->Prop} {n n' m m':Nat} {q:GL α} (h:GLok P n m q) (hn:n<=n') (hm:m<=m'):GLok P n' m' q:=⟨Ax h.len hn,h.all,Ax h.a hm⟩
/-! the lines of plays,with mends-/
end
section
open Op
structure BookC (b:BookS):Prop where
 bb:BookB b
 gw: ∀x∈b.League.Games,GamB x
 mb: ∀x∈b.Moves,MovB x
 hw: ∀x∈b.Health,-1000000000000000<=x.To/\x.To<=1000000000000000
 tr: ∀s∈b.League.Trust,Sh s
 pg: ∀x∈b.Plays,zc1 x
 mg: ∀x∈b.Mends,zgE x
 cs: ∀x∈b.Choices,(∀s∈x.Players,Sh s)/\Sh x.Captain
 l1:b.Moves.length<=100
 l2:b.Plays.length<=50
 l3:b.Mends.length<=50
 l4:b.Health.length<=10
 l5:b.Choices.length<=100
 tt:HasAB b.League.Teams
theorem zuH {s:Str}:(!(zbV s))=(s !=[]&& !(key s)):=by
 unfold zbV
 cases s with
 |nil=>rfl
 |cons x r=>cases key (x::r)<;>rfl
theorem zuI {l:List Str} {s:Str}:((l++[s]).all zbV)= !((l.any fun x=> !(zbV x))|| !(zbV s)):=by
 rw [List.all_append,BR,List.all_nil,Bool.and_true,Bool.not_or,Bool.not_not,List.all_eq_not_any_not]
theorem zr6 {l:List Str} {c:Str} (h:(∃s,s∈l/\zbV s=false)\/zbV c=false):((l++[c]).all zbV)=false:=by
 rcases h with ⟨s,hs,e⟩|e
 exact List.all_eq_false.2 ⟨s,As _ hs,by rw [e];simp⟩;exact List.all_eq_false.2 ⟨c,Br _ (List.mem_singleton.2 rfl),by rw [e];simp⟩
def zhC (g:LeagueS) (w:Int):Int:=g.Start+(w-1)*604800000
def zcP (g:LeagueS) (at':Int):Int:=if at'<g.Start\/zhC g 61<=at' then 0 else (at'-g.Start)/604800000+1
end
section
open Op
theorem zs0:Cmp (fun x y:{m:MoveS//MovB m}=>zga x.1 y.1) fun _=>True where
 flip x y _ _:=zje.flip x.1 y.1 trivial trivial
 trans x y z _ _ _ h1 h2:=zje.trans x.1 y.1 z.1 trivial trivial trivial h1 h2
theorem zsZ:Cmp (fun x y:{m:GameS//GamB m}=>zfB x.1 y.1) fun _=>True where
 flip x y _ _:=zjd.flip x.1 y.1 trivial trivial
 trans x y z _ _ _ h1 h2:=zjd.trans x.1 y.1 z.1 trivial trivial trivial h1 h2
theorem zkt {α:Type} {p:α->Prop} {l:List α} (h: ∀x∈l,p x):(l.attachWith p h).map Subtype.val=l:=by simp
theorem znQ {α β:Type} {p:α->Prop} {l:List α} (h: ∀x∈l,p x) (f:α->β):(l.attachWith p h).map (fun x=>f x.1)=l.map f:=by
 have e:(l.attachWith p h).map (fun x=>f x.1)=((l.attachWith p h).map Subtype.val).map f:=by rw [Bb];rfl
 rw [e,zkt]
end
section
open Go
structure RosS where
 P:List (Str×List Str)
 H:List (Str×List Str)
 O:List (Str×Str)
 D:List (Str×Int)
 A:List ((Str×Int)×Int)
def znB:RosS:=⟨[],[],[],[],[]⟩
def zfr (l:List Str) (s:Str):List Str:=l.take (zdC l s)++s::l.drop (zdC l s)
def zho (l:List Str) (s:Str):List Str:=l.filter fun x=> !(x==s)
def rPl (k:RosS) (t:Str):List Str:=(alk t k.P).getD []
def rHu (k:RosS) (t:Str):List Str:=(alk t k.H).getD []
def zaG (k:RosS) (p:Str):Str:=(alk p k.O).getD []
def zhy (b:BoundS) (k:RosS) (p:Str) (n:Int):Bool:=match alk p k.D with|some d=>decide (n-d<b.Hold)|none=>false
def zaZ (k:RosS) (w:Str×Int):Int:=(alk w k.A).getD 0
def zcG (b:BoundS) (k:RosS) (x:MoveS):Int:=
 if x.Kind=1 then
  if zaG k x.Player=x.Team then 6 else if zaG k x.Player≠[] then 13 else if zhy b k x.Player x.At=true then 11
  else if b.Adds<=zaZ k (x.Team,Int.tdiv x.At 604800000) then 16 else if b.Most<=((rPl k x.Team).length:Int) then 12 else 0
 else if x.Kind=2 then if zaG k x.Player≠x.Team then 8 else 0
 else if x.Kind=3 then if (rPl k x.Team).contains x.Player=false then 8 else if b.Hurt<=((rHu k x.Team).length:Int) then 12 else 0
 else if x.Kind=4 then if (rHu k x.Team).contains x.Player=false then 8 else if b.Most<=((rPl k x.Team).length:Int) then 12 else 0
 else 0
def zgk (b:BoundS) (k:RosS) (x:MoveS):RosS:=
 if zcG b k x≠0 then ⟨zy x.Team (rPl k x.Team) k.P,zy x.Team (rHu k x.Team) k.H,k.O,k.D,k.A⟩
 else if x.Kind=1 then ⟨zy x.Team (zfr (rPl k x.Team) x.Player) k.P,zy x.Team (rHu k x.Team) k.H,zy x.Player x.Team k.O,k.D,zy (x.Team,Int.tdiv x.At 604800000) (zaZ k (x.Team,Int.tdiv x.At 604800000)+1) k.A⟩
 else if x.Kind=2 then ⟨zy x.Team (zho (rPl k x.Team) x.Player) k.P,zy x.Team (zho (rHu k x.Team) x.Player) k.H,zb4 x.Player k.O,zy x.Player x.At k.D,k.A⟩
 else if x.Kind=3 then ⟨zy x.Team (zho (rPl k x.Team) x.Player) k.P,zy x.Team (zfr (rHu k x.Team) x.Player) k.H,k.O,k.D,k.A⟩
 else ⟨zy x.Team (zfr (rPl k x.Team) x.Player) k.P,zy x.Team (zho (rHu k x.Team) x.Player) k.H,k.O,k.D,k.A⟩
def zgj (b:BoundS) (n:Int) (k:RosS):List MoveS->RosS
 |[]=>k
 |x::r=>zgj b n (if x.At<=n then zgk b k x else k) r
def zah (b:BoundS) (l:List MoveS) (n:Int):RosS:=zgj b n znB l
/-! lists that rise-/
theorem SortedS.nodup {l:List Str} (h:SortedS l):l.Nodup:=h.imp fun {a b} h e=>by subst e;rw [zaK] at h;cases h
theorem zbk {l:List Str} {s x:Str}:x∈zho l s↔x∈l/\x≠s:=by simp [zho]
theorem zhx {l:List Str} (h:SortedS l) (s:Str):SortedS (zho l s):=h.sublist List.filter_sublist
theorem zkV (l:List Str) (s:Str):(zho l s).length<=l.length:=AW _ _
theorem zc9 {l:List Str} {s x:Str}:x∈zfr l s↔x=s\/x∈l:=by
 have e:x∈l↔x∈l.take (zdC l s)\/x∈l.drop (zdC l s):=by rw [<-List.mem_append,Bi]
 unfold zfr;rw [e];simp;constructor<;>(rintro (h|h|h)<;>simp [h])
theorem znt (l:List Str) (s:Str):(zfr l s).length=l.length+1:=by
 have h:=congrArg List.length (Bi (zdC l s) l);unfold zfr;simp only [AB,Ah] at*;omega
theorem zhw {s:Str}: ∀{l:List Str},SortedS l->s∉l->SortedS (zfr l s)
 |[],_,_=>List.pairwise_singleton _ _
 |a::r,h,hn=>by
   have hr:=List.pairwise_cons.1 h
   cases ha:Op.bytesLess a s with
   |true=>
     have e:zdC (a::r) s=zdC r s+1:=by unfold zdC;simp [List.countP_cons,ha]
     have e2:zfr (a::r) s=a::zfr r s:=by unfold zfr;rw [e];rfl
     rw [e2];refine List.pairwise_cons.2 ⟨fun x hx=> ?_,zhw hr.2 fun q=>hn (Ap _ q)⟩
     rcases zc9.1 hx with rfl|q
     exact ha;exact hr.1 x q
   |false=>
     have e:zdC (a::r) s=0:=zmI (Ad _) (fun k x hk=>absurd hk (Nat.not_lt_zero _)) (zsX h (m:=0) rfl ha);have e2:zfr (a::r) s=s::a::r:=by unfold zfr;rw [e];rfl
     have hs:Op.bytesLess s a=true:=by
      rcases zcO s a with q|q|q
      exact q;exact absurd (by rw [q];exact Ai) hn;rw [ha] at q;cases q
     rw [e2];refine List.pairwise_cons.2 ⟨fun x hx=> ?_,h⟩
     rcases List.mem_cons.1 hx with rfl|q
     exact hs;exact zeN hs (hr.1 x q)
/-! what holds of a book-/
theorem zoO {α:Type} {p q:Str} (h:q≠p): ∀l:List (Str×α),alk q (zb4 p l)=alk q l
 |[]=>rfl
 |x::r=>by
   by_cases e:p=x.1
   have h1:zb4 p (x::r)=r:=by rw [zb4,if_pos e]
   have h2:alk q (x::r)=alk q r:=by rw [alk,if_neg (by rw [<-e];exact h)]
   rw [h1,h2];have h1:zb4 p (x::r)=x::zb4 p r:=by rw [zb4,if_neg e]
   rw [h1]
   show (if q=x.1 then some x.2 else alk q (zb4 p r))=(if q=x.1 then some x.2 else alk q r)
   rw [zoO h r]
theorem zo4 {α:Type} {p:Str}: ∀{l:List (Str×α)} {x:Str×α},x∈zb4 p l->x∈l
 |y::r,x,h=>by
   unfold zb4 at h
   by_cases e:p=y.1
   rw [if_pos e] at h;exact Ap _ h;rw [if_neg e] at h
   rcases List.mem_cons.1 h with rfl|q
   exact Ai;exact Ap _ (zo4 q)
theorem zpj {κ α:Type} [DecidableEq κ] {k:κ} {v:α}: ∀{l:List (κ×α)} {x:κ×α},x∈zy k v l->x=(k,v)\/x∈l
 |[],x,h=> .inl (by simpa [zy] using h)
 |y::r,x,h=>by
   unfold zy at h
   by_cases e:k=y.1
   rw [if_pos e] at h
   rcases List.mem_cons.1 h with rfl|q
   exact .inl rfl;exact .inr (Ap _ q);rw [if_neg e] at h
   rcases List.mem_cons.1 h with rfl|q
   exact .inr Ai
   rcases zpj q with q|q
   exact .inl q;exact .inr (Ap _ q)
structure RosOk (n:Nat) (k:RosS):Prop where
 sp: ∀t,SortedS (rPl k t)/\(rPl k t).length<=n/\∀p∈rPl k t,alk p k.O=some t
 sh: ∀t,SortedS (rHu k t)/\(rHu k t).length<=n/\∀p∈rHu k t,alk p k.O=some t
 dj: ∀t p,p∈rPl k t->p∉rHu k t
 ad: ∀w,0<=zaZ k w/\zaZ k w<=n
 dr: ∀q∈k.D,0<=q.2/\q.2<=345686399999
 ow: ∀q∈k.O,q.2≠[]
theorem zpo:RosOk 0 znB:=⟨fun t=>⟨List.Pairwise.nil,Af _,fun p h=>(by cases h)⟩,fun t=>⟨List.Pairwise.nil,Af _,fun p h=>(by cases h)⟩,fun t p h=>(by cases h),fun w=>⟨Int.le_refl _,Int.le_refl _⟩,fun q h=>(by cases h),fun q h=>(by cases h)⟩
theorem RosOk.mono {n m:Nat} {k:RosS} (h:RosOk n k) (hm:n<=m):RosOk m k:=
 ⟨fun t=>⟨(h.sp t).1,by have:=(h.sp t).2.1;omega,(h.sp t).2.2⟩,fun t=>⟨(h.sh t).1,by have:=(h.sh t).2.1;omega,(h.sh t).2.2⟩,h.dj,fun w=>⟨(h.ad w).1,by have:=(h.ad w).2;omega⟩,h.dr,h.ow⟩
theorem zhr {T t:Str} {v:List Str} {P H:List (Str×List Str)} {O:List (Str×Str)} {D:List (Str×Int)} {A:List ((Str×Int)×Int)}:rPl ⟨zy T v P,H,O,D,A⟩ t=if t=T then v else (alk t P).getD []:=by
 unfold rPl;rw [zbQ];split<;>rfl
theorem zhq {T t:Str} {v:List Str} {P H:List (Str×List Str)} {O:List (Str×Str)} {D:List (Str×Int)} {A:List ((Str×Int)×Int)}:rHu ⟨P,zy T v H,O,D,A⟩ t=if t=T then v else (alk t H).getD []:=by
 unfold rHu;rw [zbQ];split<;>rfl
theorem RosOk.team {n:Nat} {k:RosS} (h:RosOk n k) {T:Str} {p h':List Str} {O:List (Str×Str)} {D:List (Str×Int)} {A:List ((Str×Int)×Int)}
 (hp:SortedS p/\p.length<=n+1/\∀x∈p,alk x O=some T) (hh:SortedS h'/\h'.length<=n+1/\∀x∈h',alk x O=some T) (hd: ∀x∈p,x∉h')
 (hO: ∀t x,t≠T->alk x k.O=some t->alk x O=some t) (hA: ∀w,0<=(alk w A).getD 0/\(alk w A).getD 0<=n+1) (hD: ∀q∈D,0<=q.2/\q.2<=345686399999) (hw: ∀q∈O,q.2≠[]):
 RosOk (n+1) ⟨zy T p k.P,zy T h' k.H,O,D,A⟩:=by
 refine ⟨fun t=> ?_,fun t=> ?_,fun t x=> ?_,fun w=>by have:=hA w;unfold zaZ;simp only at*;omega,hD,hw⟩
 rw [zhr]
 split
 rename_i e;subst e;exact hp
 rename_i e;have:=h.sp t;unfold rPl at this;exact ⟨this.1,by omega,fun x hx=>hO t x e (this.2.2 x hx)⟩
 rw [zhq]
 split
 rename_i e;subst e;exact hh
 rename_i e;have:=h.sh t;unfold rHu at this;exact ⟨this.1,by omega,fun x hx=>hO t x e (this.2.2 x hx)⟩
 rw [zhr,zhq]
 split
 exact fun q=>hd x q
 have:=h.dj t x;unfold rPl rHu at this;exact this
theorem zvC {n:Nat} {k:RosS} (h:RosOk n k) {p:Str} (he:zaG k p=[]):alk p k.O=none:=by
 cases hq:alk p k.O with
 |none=>rfl
 |some t=>unfold zaG at he;rw [hq] at he;exact absurd he (h.ow _ (zbv hq))
theorem zvD {k:RosS} {p t:Str} (he:zaG k p=t) (ht:t≠[]):alk p k.O=some t:=by
 unfold zaG at he
 cases hq:alk p k.O with
 |none=>rw [hq] at he;exact absurd he.symm ht
 |some u=>rw [hq] at he;exact congrArg some he
theorem zsH {n:Nat} {b:BoundS} {k:RosS} {x:MoveS} (h:RosOk n k) (ha:0<=x.At/\x.At<=345686399999) (hk:1<=x.Kind/\x.Kind<=4) (hT:x.Team≠[]):RosOk (n+1) (zgk b k x):=by
 have hp:=h.sp x.Team;have hh:=h.sh x.Team;have hd:=h.dj x.Team;have hA: ∀w,0<=(alk w k.A).getD 0/\(alk w k.A).getD 0<=(n:Int)+1:=fun w=>by have:=h.ad w;unfold zaZ at this;omega
 unfold zgk
 by_cases hw:zcG b k x≠0
 rw [if_pos hw];exact h.team ⟨hp.1,by omega,hp.2.2⟩ ⟨hh.1,by omega,hh.2.2⟩ hd (fun _ _ _ e=>e) hA h.dr h.ow;rw [if_neg hw];have h0:zcG b k x=0:=Decidable.not_not.1 hw
 by_cases k1:x.Kind=1
 rw [if_pos k1];rw [zcG,if_pos k1] at h0;have ho:zaG k x.Player=[]:=by
  by_cases q:zaG k x.Player=x.Team
  rw [if_pos q] at h0;omega;rw [if_neg q] at h0
  by_cases q2:zaG k x.Player≠[]
  rw [if_pos q2] at h0;omega;exact Decidable.not_not.1 q2
 have hn:=zvC h ho;have hne: ∀y t,alk y k.O=some t->y≠x.Player:=fun y t e q=>by rw [q,hn] at e;cases e
 have hO: ∀y t,alk y k.O=some t->alk y (zy x.Player x.Team k.O)=some t:=fun y t e=>by rw [zbQ,if_neg (hne y t e)];exact e
 refine h.team ⟨zhw hp.1 fun q=>hne _ _ (hp.2.2 _ q) rfl,by rw [znt];omega,fun y hy=> ?_⟩ ⟨hh.1,by omega,fun y hy=>hO y _ (hh.2.2 y hy)⟩ (fun y hy q=> ?_) (fun t y _ e=>hO y t e) (fun w=> ?_) h.dr (fun q hq=> ?_)
 rcases zc9.1 hy with rfl|q
 rw [zbQ,if_pos rfl];exact hO y _ (hp.2.2 y q)
 rcases zc9.1 hy with rfl|q2
 exact hne _ _ (hh.2.2 _ q) rfl;exact hd y q2 q;rw [zbQ]
 split
 have:=h.ad (x.Team,Int.tdiv x.At 604800000);simp only [Bh];omega;exact hA w
 rcases zpj hq with rfl|q2
 exact hT;exact h.ow q q2;rw [if_neg k1];rw [zcG,if_neg k1] at h0
 by_cases k2:x.Kind=2
 rw [if_pos k2];rw [if_pos k2] at h0;have ho:alk x.Player k.O=some x.Team:=zvD (by
  by_cases q:zaG k x.Player≠x.Team
  rw [if_pos q] at h0;omega;exact Decidable.not_not.1 q) hT
 have hO: ∀y t,y≠x.Player->alk y k.O=some t->alk y (zb4 x.Player k.O)=some t:=fun y t e q=>by rw [zoO e];exact q
 refine h.team ⟨zhx hp.1 _,by have:=zkV (rPl k x.Team) x.Player;omega,fun y hy=> ?_⟩ ⟨zhx hh.1 _,by have:=zkV (rHu k x.Team) x.Player;omega,fun y hy=> ?_⟩ (fun y hy q=>hd y (zbk.1 hy).1 (zbk.1 q).1) (fun t y ht e=>hO y t (fun q=> ?_) e) hA (fun q hq=> ?_) (fun q hq=>h.ow q (zo4 hq))
 exact hO y _ (zbk.1 hy).2 (hp.2.2 y (zbk.1 hy).1);exact hO y _ (zbk.1 hy).2 (hh.2.2 y (zbk.1 hy).1);rw [q,ho] at e;exact ht (Av e).symm
 rcases zpj hq with rfl|q2
 exact ha;exact h.dr q q2;rw [if_neg k2];rw [if_neg k2] at h0
 by_cases k3:x.Kind=3
 rw [if_pos k3];rw [if_pos k3] at h0;have hc:x.Player∈rPl k x.Team:=by
  by_cases q:(rPl k x.Team).contains x.Player=false
  rw [if_pos q] at h0;omega
  simpa using q
 exact h.team ⟨zhx hp.1 _,by have:=zkV (rPl k x.Team) x.Player;omega,fun y hy=>hp.2.2 y (zbk.1 hy).1⟩ ⟨zhw hh.1 (hd _ hc),by rw [znt];omega,fun y hy=>by
  rcases zc9.1 hy with rfl|q
  exact hp.2.2 _ hc;exact hh.2.2 y q⟩ (fun y hy q=>by
  rcases zc9.1 q with rfl|q
  exact (zbk.1 hy).2 rfl;exact hd y (zbk.1 hy).1 q) (fun _ _ _ e=>e) hA h.dr h.ow
 rw [if_neg k3];rw [if_neg k3,if_pos (by omega)] at h0;have hc:x.Player∈rHu k x.Team:=by
  by_cases q:(rHu k x.Team).contains x.Player=false
  rw [if_pos q] at h0;omega
  simpa using q
 exact h.team ⟨zhw hp.1 (fun q=>hd _ q hc),by rw [znt];omega,fun y hy=>by
  rcases zc9.1 hy with rfl|q
  exact hh.2.2 _ hc;exact hp.2.2 y q⟩ ⟨zhx hh.1 _,by have:=zkV (rHu k x.Team) x.Player;omega,fun y hy=>hh.2.2 y (zbk.1 hy).1⟩ (fun y hy q=>by
  rcases zc9.1 hy with rfl|q2
  exact (zbk.1 q).2 rfl;exact hd y q2 (zbk.1 q).1) (fun _ _ _ e=>e) hA h.dr h.ow
theorem zpk {b:BoundS} {m:Int}: ∀{l:List MoveS} {n:Nat} {k:RosS},RosOk n k->(∀x∈l,(0<=x.At/\x.At<=345686399999)/\(1<=x.Kind/\x.Kind<=4)/\x.Team≠[])->RosOk (n+l.length) (zgj b m k l)
 |[],n,k,h,_=>h
 |x::r,n,k,h,hl=>by
   obtain ⟨h1,h2,h3⟩:=hl x Ai;unfold zgj;have:RosOk (n+1) (if x.At<=m then zgk b k x else k):=by
    split
    exact zsH h h1 h2 h3;exact h.mono (Bd n)
   have:=zpk (b:=b) (m:=m) this (l:=r) fun y hy=>hl y (Ap _ hy)
   rw [Ah,show n+(r.length+1)=n+1+r.length by omega];exact this
def zb0 (b:BoundS) (k:RosS) (n:Int) (l:List Str):List Str:=l.filter fun s=>decide (zaG k s=[])&& !zhy b k s n
theorem zrs {l:List MoveS} (h:zcj l=0):l.length<=2000/\∀x∈l,(0<=x.At/\x.At<=345686399999)/\(1<=x.Kind/\x.Kind<=4)/\(key x.Team=true/\key x.Player=true):=by
 obtain ⟨h1,h2⟩:=zki h;refine ⟨h1,fun x hx=> ?_⟩
 obtain ⟨i,hi,rfl⟩:=A1 hx;have:=h2 i l[i] (Aa hi)
 generalize l[i]=x at this
 unfold zen at this
 by_cases q1:zL x.At=false
 rw [if_pos q1] at this;omega;rw [if_neg q1] at this
 by_cases q2:out x.Kind 1 4=true
 rw [if_pos q2] at this;omega;rw [if_neg q2] at this
 by_cases q3:key x.Team=false\/key x.Player=false
 rw [if_pos q3] at this;omega;refine ⟨?_,?_,?_⟩
 simp [zL,out] at q1;omega
 simp [out] at q2;omega
 rw [not_or] at q3;simpa using q3
end
section
open Go
variable {P:Program}
theorem zn6 [Tracks] {e:Env} {dst:Option Tmp} {ty:TypeId} {pos:String} {af:Array Edge} {g:Option (Nat×Bool)} {M:List MObj} {K:HVal->List MObj->Prop} {t el:TypeId} {size bytes b2:Nat} {zero z2:Value} {d:TD} {x:Operand} {s:Str}
 (hf:Fits P t (.slice el) size bytes zero) (hel:Fits P el d 1 b2 z2) (hz:z2.cells.size=1) (hx:zh e x=some (.str s))
 (hk: ∀ub,K (.raw (.slice (some ⟨ub,0,none⟩) 1 1)) (.obj ub (.cells #[zbC s] el (0,0))::M)):EOp P e M ⟨dst,.buildSlice t 1 #[(0,x)],ty,pos,af,g⟩ K:=
 EOp.of_run fun I F a w ho hs'=>by
  have h1:=(ho.one (x:=x) (by simp [Op.operands]) hx).str_inv;refine ⟨.slice (some ⟨w.heap.size,0,none⟩) 1 1,.raw (.slice (some ⟨w.heap.size,0,none⟩) 1 1),_,push w (.cells #[zbC s] el (0,0)),I,?_,.refl I,hk _,.raw _ rfl,?_⟩
  simp only [execOp,Instr.buildSlice,Sem.run_bind,run_underlying hf.slice,Result.andThen_ok,hel.run_sizeOf];rw [if_neg (by decide)];simp only [Sem.run_pure,Result.andThen_ok];rw [if_neg (by decide)];simp only [Sem.run_bind,hel.run_zero,Result.andThen_ok,Sem.run_pure];obtain ⟨z,hzz⟩: ∃z,z2.cells= #[z]:=by
   rcases hq:z2.cells with ⟨l⟩
   rw [hq] at hz
   match l,hz with
   |[z],_=>exact ⟨z,rfl⟩
  rw [hzz];have hr:Array.range 1= #[0]:=by first|decide|simp [Array.range_succ]
  simp [Instr.fill,h1,newRow,Value.cells,zbC,push,hr]
  try rfl
  exact hs'.new_own (.cells #[zbC s] el (0,0)) (.obj w.heap.size (.cells #[zbC s] el (0,0))) rfl (by simp [MSat,push])
abbrev eWk (p:Str×Int):HVal:= .agg [.str p.1,.int .i64 p.2]
abbrev kBk (b:BoundS) (pb hb ob db ab:Nat):List HVal:=[.int .i64 b.Most,.int .i64 b.Hurt,.int .i64 b.Adds,.int .i64 b.Hold,.raw (.map (some pb)),.raw (.map (some hb)),.raw (.map (some ob)),.raw (.map (some db)),.raw (.map (some ab))]
abbrev zcH (kb pb hb ob db ab:Nat) (b:BoundS) (k:RosS):List MObj:=[.cells kb (kBk b pb hb ob db ab),.map pb (sk (em eSs k.P)),.map hb (sk (em eSs k.H)),.map ob (sk (em .str k.O)),.map db (sk (em (.int .i64) k.D)),.map ab (kk eWk (em (.int .i64) k.A))]
end
section
section
variable {P:Program} {e:Env} {dst:Option Tmp} {ty:TypeId} {pos:String} {af:Array Edge} {g:Option (Nat×Bool)} {M:List MObj} {K:HVal->List MObj->Prop}
end
end
section
section
variable {P:Program} {e:Env} {dst:Option Tmp} {ty:TypeId} {pos:String} {af:Array Edge} {g:Option (Nat×Bool)}
end
section
variable {P:Program} {n:Nat} {e e':Env} {M M':List MObj} {Q Q':Exit->Env->List MObj->Prop} {c c':Code}
def ztU {α β γ δ:Type} (e:Env) (ks:List Nat) (W:α->β->γ->δ->List (Nat×HVal)) (MM:α->β->γ->δ->List MObj) (Iv:α->β->γ->δ->Prop) (μ:α->β->γ->δ->Nat) (x:α) (y:β) (u:γ) (v:δ) (Q:Exit->Env->List MObj->Prop):Exit->Env->List MObj->Prop
 | .normal,e',M=> ∃j k l m,Iv j k l m/\μ j k l m<μ x y u v/\zb8 e' (W j k l m)/\zfA ks e e'/\M.Perm (MM j k l m)
 |z,e',M=>Q z e' M
theorem zrp {α β γ δ:Type} {e0:Env} {ks:List Nat} {W:α->β->γ->δ->List (Nat×HVal)} {MM:α->β->γ->δ->List MObj} {Iv:α->β->γ->δ->Prop} {μ:α->β->γ->δ->Nat} {x:α} {y:β} {u:γ} {v:δ} {id:Nat} (h:Q (.exit id) e M):
 ztU e0 ks W MM Iv μ x y u v Q (.exit id) e M:=h
theorem zpM [Tracks] {α β γ δ:Type} (ks:List Nat) (W:α->β->γ->δ->List (Nat×HVal)) (MM:α->β->γ->δ->List MObj) (Iv:α->β->γ->δ->Prop) (μ:α->β->γ->δ->Nat) (x:α) (y:β) (u:γ) (v:δ) (h0:Iv x y u v) (hW:zb8 e (W x y u v)) (hM:M.Perm (MM x y u v))
 (hb: ∀x y u v,Iv x y u v->HWp P n c (loopE e ks (W x y u v)) (MM x y u v) (ztU e ks W MM Iv μ x y u v Q)):HWp P n (.loop c) e M Q:=by
 refine zhn (ι:=α×β×γ×δ) ks (fun p=>W p.1 p.2.1 p.2.2.1 p.2.2.2) (fun p=>MM p.1 p.2.1 p.2.2.1 p.2.2.2) (fun p=>Iv p.1 p.2.1 p.2.2.1 p.2.2.2) (fun p=>μ p.1 p.2.1 p.2.2.1 p.2.2.2) (x,y,u,v) h0 hW hM fun p hp=>zkg (hb p.1 p.2.1 p.2.2.1 p.2.2.2 hp) ?_
 intro z e1 M1 hq
 cases z with
 |normal=>obtain ⟨j,k,l,m,h⟩:=hq;exact ⟨(j,k,l,m),h⟩
 |_=>exact hq
end
end
section
variable {P:Program}
end
section
open Go
variable {P:Program}
theorem zux {kt:TypeId} {s1 b1:Nat} {z1:Value} (hf:Fits P kt .str s1 b1 z1):KeyOk P kt HVal.str:=by
 haveI:Tracks:=⟨true⟩
 have hk: ∀x y:Str,zeR .str (.str x) (.str y)=true:=fun x y=>rfl
 refine ⟨fun I x v b w hv=>ziY hf (hk x x) hv b 9999 w,fun I x y u v w hu hv=> ?_,fun I x v es w hv hes=> ?_,fun I x u v hu hv=> ?_⟩
 have:=zgl hf (hk x y) hu hv 9999 w
 show (Op.equalIn (9999+1) kt u v).run P w=_
 rw [this]
 show Result.ok (x==y) w=_
 congr 1
 rw [AL];simp;obtain rfl:=hv.str_inv;have key: ∀(es:List MapEntry) (i:Nat),(∀m∈es,∃y,V I (.str y) m.key)->∃r,Instr.findNow .string (.string ⟨x.toArray⟩) es i=some r/\(Instr.findAsking kt (.string ⟨x.toArray⟩) es i).run P w= .ok r w:=by
  intro es
  induction es with
  |nil=>intro i _;exact ⟨none,rfl,by simp [Instr.findAsking]⟩
  |cons m es ih=>
    intro i h
    obtain ⟨y,hy⟩:=h m Ai;have hq:=zgl hf (hk x y) (V.str x) hy 9999 w;have hq':(Op.equal kt (.string ⟨x.toArray⟩) m.key).run P w= .ok (x==y) w:=hq;have hy':=hy.str_inv;have hb:((⟨x.toArray⟩:ByteArray)==⟨y.toArray⟩)=(x==y):=by rw [zhD,AL];simp
    by_cases e:x=y
    have e1:(x==y)=true:=by simpa using e
    refine ⟨some (i,m.val),?_,?_⟩
    simp only [Instr.findNow,Instr.sameNow,hy',hb,e1];simp only [Instr.findAsking,Sem.run_bind,hq',Result.andThen_ok,e1]
    simp
    obtain ⟨r,r1,r2⟩:=ih (i+1) fun m' hm'=>h m' (Ap _ hm')
    have:(x==y)=false:=by simpa using e
    refine ⟨r,?_,?_⟩
    simp only [Instr.findNow,Instr.sameNow,hy',hb,this];exact r1;simp only [Instr.findAsking,Sem.run_bind,hq',Result.andThen_ok,this];exact r2
 obtain ⟨r,r1,r2⟩:=key es 0 hes;simp only [Instr.findKey,Sem.run_bind,run_underlying hf.strD,Result.andThen_ok,r1,Sem.run_pure,r2];obtain rfl:=hu.str_inv;obtain rfl:=hv.str_inv
 show Instr.sameBits (9999+1) _ _=true
 simp only [Instr.sameBits];rw [zhD];simp
section
variable {α:Type} {e:Env} {dst:Option Tmp} {ty:TypeId} {pos:String} {af:Array Edge} {g:Option (Nat×Bool)} {M:List MObj} {K:HVal->List MObj->Prop}
theorem zsR [Tracks] {o:Oper} {K K':HVal->List MObj->Prop} (hk: ∀h M',K h M'->∃h2,Weak h h2/\K' h2 M') (h:EOp P e M o K):EOp P e M o K':=
 fun I F a w ho hs=>za5 (fun _ _ ⟨v,x,M',J,h1,h2,h3,h4,h5⟩=>by
  obtain ⟨y,g1,g2⟩:=hk _ _ h3;exact ⟨v,y,M',J,h1,h2,g2,g1 _ _ h4,h5⟩) (h I F a w ho hs)
theorem ze4 [Tracks] {x y:Operand} {t kt et:TypeId} {size bytes s2 b2 s3 b3:Nat} {zero z2 z3:Value} {d:TD} {i b:Nat} {f:α->HVal} {L:List (Str×α)} {s:Str} {z0:α}
 (hf:Fits P t (.map kt et) size bytes zero) (hkt:Fits P kt .str s2 b2 z2) (het:Fits P et d s3 b3 z3) (hx:zh e x=some (.raw (.map (some b)))) (hy:zh e y=some (.str s)) (hm:M[i]? =some (.map b (sk (em f L)))) (hz:Weak (zaR z3) (f z0))
 (hk:K (f ((alk s L).getD z0)) M):EOp P e M ⟨dst,.lookup t x y false,ty,pos,af,g⟩ K:=by
 refine zsR (K:=fun h M'=>Weak h (f ((alk s L).getD z0))/\M'=M) (fun h M' ⟨h1,h2⟩=>⟨_,h1,by rw [h2];exact hk⟩) ?_;refine zn9 hf hkt het hx hy hm ?_;have h1:=zk6 f s L
 cases h:z6 s (em f L) with
 |none=>
   rw [h] at h1;have:alk s L=none:=by cases q:alk s L with|none=>rfl|some _=>rw [q] at h1;cases h1
   rw [this];exact ⟨hz,rfl⟩
 |some p=>
   rw [h] at h1;obtain ⟨q,hq,hp⟩: ∃q,alk s L=some q/\p.2=f q:=by
    cases q:alk s L with
    |none=>rw [q] at h1;cases h1
    |some r=>rw [q] at h1;exact ⟨r,rfl,Av h1⟩
   rw [hq];refine ⟨?_,rfl⟩
   show Weak p.2 (f q)
   rw [hp];exact Weak.refl _
theorem zlh [Tracks] {x y:Operand} {t kt et:TypeId} {size bytes s2 b2 s3 b3:Nat} {zero z2 z3:Value} {d:TD} {i b:Nat} {f:α->HVal} {L:List (Str×α)} {s:Str}
 (hf:Fits P t (.map kt et) size bytes zero) (hkt:Fits P kt .str s2 b2 z2) (het:Fits P et d s3 b3 z3) (hx:zh e x=some (.raw (.map (some b)))) (hy:zh e y=some (.str s)) (hm:M[i]? =some (.map b (sk (em f L))))
 (hk: ∀(j st:Nat),zbI s (zdx s (zaR z3) (em f L))=some j->K (.tup [(klk s (em f L)).getD (zaR z3),.int .i64 (st:Int)]) (M.set i (.mape b (kk HVal.str (zdx s (zaR z3) (em f L))) j st))):EOp P e M ⟨dst,.mapEntry t x y,ty,pos,af,g⟩ K:=
 zl1 (ek:=HVal.str) hf (zux hkt) het hx hy hm hk
theorem zjm [Tracks] {x y z:Operand} {t:TypeId} {i b j st:Nat} {f:α->HVal} {L:List (Str×α)} {s:Str} {h0:HVal} {v:α}
 (hx:zh e x=some (.raw (.map (some b)))) (hy:zh e y=some (.int .i64 (st:Int))) (hz:zh e z=some (f v)) (hm:M[i]? =some (.mape b (kk HVal.str (zdx s h0 (em f L))) j st)) (hj:zbI s (zdx s h0 (em f L))=some j)
 (hk:K .junk (M.set i (.map b (sk (em f (zy s v L)))))):EOp P e M ⟨dst,.entryStore t x y z,ty,pos,af,g⟩ K:=by
 refine zke (ek:=HVal.str) hx hy hz hm hj ?_;rw [zpT,zmE];exact hk
end
end
end Go.HL
namespace Go.Proofs
section
open Go.Shelf
def Tryz.lays222_ren:Go.Shelf.Ren:=⟨fun|22=>319|29=>351|30=>352|36=>367|17=>168|n=>n,fun|24=>33|9=>9|3=>3|4=>4|0=>0|n=>n,fun|n=>n⟩
theorem zqQ:Go.Proofs.Lays2.n22 Tryz.prog Tryz.lays222_ren:={
 mixed:=by kernel_rfl
 f17:=Tryz.func168.trans (congrArg some (by kernel_rfl))
 f22:=Tryz.func319.trans (congrArg some (by kernel_rfl))
 f29:=Tryz.func351.trans (congrArg some (by kernel_rfl))
 f30:=Tryz.func352.trans (congrArg some (by kernel_rfl))
 f36:=Tryz.func367.trans (congrArg some (by kernel_rfl))
 t0:=Tryz.underlying0
 a0:=Tryz.isAgg0
 z0:=Tryz.sizeOf0
 v0:=Tryz.zeroValue0
 t3:=Tryz.underlying3
 a3:=Tryz.isAgg3
 z3:=Tryz.sizeOf3
 v3:=Tryz.zeroValue3
 t4:=Tryz.underlying4
 a4:=Tryz.isAgg4
 z4:=Tryz.sizeOf4
 v4:=Tryz.zeroValue4
 t9:=Tryz.underlying9
 a9:=Tryz.isAgg9
 z9:=Tryz.sizeOf9
 v9:=Tryz.zeroValue9
 t24:=Tryz.underlying33
 a24:=Tryz.isAgg33
 z24:=Tryz.sizeOf33
 v24:=Tryz.zeroValue33
 i9:=by kernel_rfl}
end
end Go.Proofs
namespace Go.Proofs.YtahegdhbakjdoaaGreatDoor
set_option maxRecDepth 100000
set_option linter.unusedVariables false
set_option linter.unusedSimpArgs false
section
open Go.Proofs.Tryz
open Go.HL
theorem zdu [Tracks] {l:List Str} {fid:FuncId} {caps:List HVal} {p:Str->Bool} (hca:Callable prog fid) (hp: ∀x,ConP prog fid ([HVal.str x]++caps) (.bool (p x))) (hl:l.length<=1000000):ConP prog 148 [.slice 1 (l.map HVal.str),.fn (.func fid) [] caps] (.int .i64 (zag p l 0)):=by
 refine uOb func148 ntmps148 ?_;refine zaD ?_;refine uT1 [4,2,8,11] (fun k=>[(8,.int .i64 k)]) (fun k=>[]) (fun k=>k<=l.length/\(zag p l 0=zag p (l.drop k) k)) (fun k=>l.length-k) (0) ?_ ?_;exact ⟨Ad _,rfl⟩;rintro k ⟨hk,hg⟩;refine gz4 ?_;refine uCo (fun h1=> ?_) fun h2=> ?_
 obtain ⟨x,hx⟩: ∃x,l[k]? =some x:=⟨_,Aa h1⟩
 have hdx:=zt hx;rw [hdx] at hg;refine zeu ?_;refine dq (zaB hca rfl rfl (WeakL.refl _) (hp _)) ?_;refine gz1 ?_;refine uCo (fun h3=> ?_) fun h4=> ?_
 refine gz5 ?_;refine uRp ?_
 (rw [hg];simp_all [zag])
 refine gz7 ?_;refine ⟨k+1,?_,?_,⟨rfl,trivial⟩,uK,Ab _⟩
 refine ⟨by omega,?_⟩
 rw [hg,zag,if_neg uSa];rfl
 dsimp only;omega
 have hnk:l.length<=k:=by omega
 obtain rfl:k=l.length:=by omega
 rw [zP (Af _)] at hg;refine gz2 ?_;refine zG ?_;refine gz6 ?_;refine uRp ?_
 (rw [hg];rfl)
theorem zbS [Tracks] {l:List Str} {fid:FuncId} {caps:List HVal} {p:Str->Bool} (hca:Callable prog fid) (hp: ∀x,ConP prog fid ([HVal.str x]++caps) (.bool (p x))) (hl:l.length<=1000000):ConP prog 69 [.slice 1 (l.map HVal.str),.fn (.func fid) [] caps] (.bool (l.any p)):=by
 refine uOb func69 ntmps69 ?_;refine gz6 ?_;refine dq (uCl zs5 rfl (zdu hca hp hl)) ?_;refine gz4 ?_;refine zC rfl ?_
 congr 1;exact zed p l 0 uO
theorem zbm [Tracks] {l:List Str} {fid:FuncId} {caps:List HVal} {p:Str->Bool} {v:Value} (hca:Callable prog fid) (hp: ∀x,ConP prog fid ([HVal.str x]++caps) (.bool (p x))) (hl:l.length<=1000000):Con prog 320 [.raw v,.fn (.func fid) [] caps] [.arr v 1 (l.map HVal.str)] (fun x M'=> ∃u,x= .raw u/\M'=[.arr u 1 ((l.filter (fun x=> !p x)).map HVal.str)]):=by
 refine uOb func320 ntmps320 ?_;refine gz6 ?_;refine de rfl (zjl (hs':=[.slice 1 (l.map HVal.str),.fn (.func fid) [] caps]) zs5 rfl ⟨.arr (i:=0) rfl,.weak (Weak.refl _),trivial⟩ (zdu (p:=p) hca hp hl) rfl ?_)
 refine gz7 ?_;refine uCo (fun h1=> ?_) fun h2=> ?_
 ·refine gz5 ?_
  (refine zaf rfl ⟨_,rfl,?_⟩
   rw [zgy p l 0 uO h1]
   done)
 ·refine gz3 ?_;obtain ⟨i0,hi0,hil,⟨x0,hx0,hp0⟩,hb0⟩:=zgW p l 0 uO h2;rw [Int.zero_add] at hi0;obtain ⟨hD0,hn0⟩:=DelInv.start (p:=p) hil hx0 hp0 hb0;refine zc4 (i:=0) rfl (fun h0 he=> ?_) (fun b off cap hv hcap=> ?_)
  ·exfalso;have:=congrArg List.length he;simp at this;subst this;simp at hil
  rw [Ag] at hv hcap;subst hv;refine gz2 ?_;refine dq (zaq (zbf rfl rfl (by rw [hi0];omega) (by rw [hi0];omega)) (congrArg _ (by rw [hi0]))) ?_;refine gz3 ?_;refine uV2 [5,3,16,20] (fun (j:Nat) (D:List Str)=>[(6,.int .i64 (j:Int)),(5,.int .i64 (((l.take j).filter (fun x=> !p x)).length:Int))]) (fun (j:Nat) (D:List Str)=>[.arr (.slice (some ⟨b,off,none⟩) l.length cap) 1 (D.map HVal.str)]) (fun (j:Nat) (D:List Str)=>DelInv p l j D) (fun (j:Nat) (D:List Str)=>l.length-j) (i0+1) (l) ?_ ?_ ?_ ?_
  ·exact hD0
  ·exact ⟨rfl,zW (by rw [hn0,hi0]),trivial⟩
  ·exact Ab _
  ·intro j D hD
   have hlt0:=hD.lt;have hle0:=hD.len;refine gz4 ?_;refine de rfl (za6 (i:=0) zu rfl rfl ?_)
   refine gz2 ?_;refine uCo (fun h3=> ?_) fun h4=> ?_
   ·obtain ⟨x,hx⟩: ∃x,l[j]? =some x:=⟨_,Aa uO⟩
    refine gz7 ?_;refine dq (zM (j:=j) zu ty9 rfl rfl rfl uO) ?_;refine de rfl (zax (i:=0) (j:=j) 0 ty9 rfl rfl rfl (hD.get hx) rfl rfl ?_)
    refine gz5 ?_;refine dq (zaB hca rfl rfl (WeakL.refl _) (hp _)) ?_;refine gz2 ?_;refine uCo (fun h5=> ?_) fun h6=> ?_
    ·refine gz4 ?_;refine dq (zM (j:=((l.take j).filter (fun x=> !p x)).length) zu ty9 rfl rfl rfl (by have:=hD.lt;omega)) ?_;refine de0 (zbh (i:=0) (j:=((l.take j).filter (fun x=> !p x)).length) (y:=D[((l.take j).filter (fun x=> !p x)).length]'(by have:=hD.lt;have:=hD.len;omega)) (y':=x) ty9 rfl rfl rfl rfl (Aa _) rfl rfl rfl ?_)
     refine gz3 ?_;refine dq (zbf rfl rfl uO (by have:=hD.lt;omega)) ?_;refine gz9 ?_;exact ⟨j+1,_,(hD.keep hx uSa).1,uD,⟨rfl,zW (by rw [(hD.keep hx uSa).2];rfl),trivial⟩,uK,Ab _⟩
    ·refine gz8 ?_;exact ⟨j+1,_,(hD.skip hx uSa).1,uD,⟨rfl,zW (by rw [(hD.skip hx uSa).2]),trivial⟩,uK,Ab _⟩
   ·obtain rfl:j=l.length:=by have:=hD.jle;omega
    have hend:=hD.done;refine gz2 ?_;refine zY ?_;refine gz5 ?_;refine dq (zeF (l:=((l.take l.length).filter (fun x=> !p x)).length) zu ty9 rfl ⟨_,_,rfl,rfl⟩ rfl uO uO hcap) ?_;refine de0 (zet (i:=0) (m:=((l.take l.length).filter (fun x=> !p x)).length) (((l.take l.length).filter (fun x=> !p x)).length) zu ty9 rfl rfl rfl (zhs uO hcap) rfl uO (Af _) (by rw [Ag,hD.len];omega) ?_)
    refine gz4 ?_;refine dq (zfK (h:=((l.take l.length).filter (fun x=> !p x)).length) zu ty9 rfl ⟨_,_,rfl,rfl⟩ uO) ?_;refine gz3 ?_
    (refine zaf rfl ⟨_,rfl,?_⟩
     rw [Aw,<-Bu,hend];rfl)
theorem zqD [Tracks]:KeyOk prog 350 eWk:=zl9 (cs:=fun x:Str×Int=>zd (eWk x)) ztP zAa (fun x y=>⟨rfl,⟨_,_,_,_,ty9,rfl⟩,⟨rfl,⟨_,_,_,_,ty3,rfl⟩,trivial⟩⟩)
 (fun x y=>by obtain ⟨a,b⟩:=x;obtain ⟨c,d⟩:=y;show (_&&(_&&true))=_;rw [AL];simp [eqH,Prod.mk.injEq]) (fun x=>rfl)
theorem zn0 [Tracks] {v:Value} {l:List Str} {s:Str} {i ub:Nat} {el2:TypeId} (hi:i<=l.length) (hl:l.length<=1000000):
 Con prog 319 [.raw v,.int .i64 i,.raw (.slice (some ⟨ub,0,none⟩) 1 1)] [.arr v 1 (l.map .str),.obj ub (.cells #[zbC s] el2 (0,0))]
  fun x M'=> ∃v',x= .raw v'/\M'=[.arr v' 1 ((zfd l i s).map .str),.obj ub (.cells #[zbC s] el2 (0,0))]:=ztl zqQ hi hl
theorem zxE [Tracks] (l:List Str) (s:Str):zdC l s<=l.length:=List.countP_le_length
theorem zfb [Tracks] {x s:Str}:ConP prog 321 [.str x,.vptr [.str s] 0] (.bool (x==s)):=by
 refine uOb func321 ntmps321 ?_;refine zaD ?_;refine zC rfl ?_
 rfl
theorem zgb [Tracks] {l:List Str} {s:Str} (hl:l.length<=1000000):ConP prog 282 [eSs l,.str s] (eSs (zho l s)):=by
 refine uOb func282 ntmps282 ?_;refine gz6 ?_;refine de rfl (uCa zlW rfl (zay uS) fun v6=> ?_)
 refine gz1 ?_
 focus first
 |refine de rfl (uCx 0 zqw rfl rfl (zbm (l:=l) (p:=fun x=>x==s) zqx (fun _=>zfb) hl) ?_)
 |refine de rfl (uCx 1 zqw rfl rfl (zbm (l:=l) (p:=fun x=>x==s) zqx (fun _=>zfb) hl) ?_)
 |refine de rfl (uCx 2 zqw rfl rfl (zbm (l:=l) (p:=fun x=>x==s) zqx (fun _=>zfb) hl) ?_)
 |refine de rfl (uCx 3 zqw rfl rfl (zbm (l:=l) (p:=fun x=>x==s) zqx (fun _=>zfb) hl) ?_)
 rintro _ _ ⟨u8,rfl,rfl⟩;refine gz3 ?_;refine zB (ztS 4 rfl) rfl ⟨?_,rfl⟩
 rfl
theorem ziJ [Tracks] {l:List Str} {s:Str} (hl:l.length<=1000000) (hs:SortedS l):ConP prog 281 [eSs l,.str s] (eSs (zfr l s)):=by
 refine uOb func281 ntmps281 ?_;refine gz6 ?_;refine dq (uCl zz6 rfl (zfC uS uS)) ?_;refine gz8 ?_;refine de rfl (uCa zlW rfl (zay uS) fun v14=> ?_)
 refine gz2 ?_;refine de rfl (zn6 zu ty9 rfl rfl fun ub=> ?_)
 refine de rfl (zbe (M1:=[.arr v14 1 (l.map .str),.obj ub (.cells #[zbC s] _ (0,0))]) (R:=[]) zz7 rfl (WeakL.refl _) (List.Perm.swap _ _ _) (zn0 (i:=zdC l s) (zxE l s) hl) ?_)
 rintro _ _ ⟨v18,rfl,rfl⟩;refine gz3 ?_;refine zB ((zap 4 (i:=0) rfl rfl).trans Ghost.clear) rfl ⟨?_,rfl⟩
 rfl
theorem zhL [Tracks] {kb pb hb ob db ab:Nat} {b:BoundS} {k:RosS} {p:Str} {n:Int} (hn:0<=n/\n<=345686399999) (hD: ∀q∈k.D,0<=q.2/\q.2<=345686399999):Con prog 73 [.raw (.pointer (some ⟨kb,0,none⟩)),.str p,.int .i64 n] (zcH kb pb hb ob db ab b k) (fun x M'=>x= .bool (zhy b k p n)/\M'=(zcH kb pb hb ob db ab b k)):=by
 have hq0:0<=(alk p k.D).getD 0/\(alk p k.D).getD 0<=345686399999:=by
  cases hq:alk p k.D with
  |none=>simp
  |some d=>exact hD (p,d) (zbv hq)
 refine uOb func73 ntmps73 ?_;refine gz5 ?_;refine dq ((by first|exact zw rfl|exact zn rfl)) ?_;refine gz1 ?_;refine de rfl (uZ 0 ?_)
 refine gz1 ?_;refine de rfl (ziO (i:=4) (f:=HVal.int .i64) (z0:=(0:Int)) zfM ty9 ty3 rfl rfl rfl rfl ?_)
 refine zfW ?_;refine uGr rfl (fun hc=>(by first|exact zw rfl|exact zn rfl)) ?_;refine gz2 ?_;refine dgl rfl rfl (fun hc=>⟨_,OpenTo.upd (t:=26) rfl uC (OpenTo.refl _),zV (i:=0) ty3 rfl rfl (.inl ⟨rfl,rfl⟩) ⟨rfl,rfl⟩⟩) ?_;refine gz5 ?_;refine zaf rfl ⟨?_,rfl⟩
 show HVal.bool _=_
 unfold zhy
 cases alk p k.D with
 |none=>rfl
 |some d=>simp
theorem zmT [Tracks] {kb pb hb ob db ab:Nat} {b:BoundS} {k:RosS} {x:MoveS} (hx:0<=x.At/\x.At<=345686399999) (hD: ∀q∈k.D,0<=q.2/\q.2<=345686399999) (hP: ∀t,(rPl k t).length<=1000000) (hH: ∀t,(rHu k t).length<=1000000):Con prog 280 [.raw (.pointer (some ⟨kb,0,none⟩)),zcK x] (zcH kb pb hb ob db ab b k) (fun x1 M'=>x1= .int .i64 (zcG b k x)/\M'=(zcH kb pb hb ob db ab b k)):=by
 refine uOb func280 ntmps280 ?_;refine gz4 ?_;refine zbu (fun M=>M=(zcH kb pb hb ob db ab b k)) [3,6,10,13,17,20] mixed ?_;refine gz1 ?_;refine uB 1 rfl ((by first|exact zw rfl|exact zn rfl)) ?_;refine gz1 ?_;refine uM 3 rfl rfl (fun M hM=>by subst hM;exact zV (i:=0) zim rfl rfl (.inl ⟨rfl,rfl⟩) ⟨rfl,rfl⟩) ?_;refine uB 4 rfl ((by first|exact ze zv rfl ty9 (by decide) rfl|exact zb zv rfl ty9 (by decide) rfl)) ?_;refine gz1 ?_;refine uM 6 rfl rfl (fun M hM=>by subst hM;exact ze3 (i:=3) (f:=HVal.str) (z0:=([]:Str)) zim ty9 ty9 rfl rfl rfl rfl ⟨rfl,rfl⟩) ?_;refine gz1 ?_;refine uB 8 rfl ((by first|exact zw rfl|exact zn rfl)) ?_;refine gz1 ?_;refine uM 10 rfl rfl (fun M hM=>by subst hM;exact zV (i:=0) zdh rfl rfl (.inl ⟨rfl,rfl⟩) ⟨rfl,rfl⟩) ?_;refine uB 11 rfl ((by first|exact ze zv rfl ty9 (by decide) rfl|exact zb zv rfl ty9 (by decide) rfl)) ?_;refine gz1 ?_;refine uM 13 rfl rfl (fun M hM=>by subst hM;exact ze4 (i:=1) (f:=eSs) (z0:=([]:List Str)) zdh ty9 zu rfl rfl rfl (zX 1) ⟨rfl,rfl⟩) ?_;refine gz1 ?_;refine uB 15 rfl ((by first|exact zw rfl|exact zn rfl)) ?_;refine gz1 ?_;refine uM 17 rfl rfl (fun M hM=>by subst hM;exact zV (i:=0) zdh rfl rfl (.inl ⟨rfl,rfl⟩) ⟨rfl,rfl⟩) ?_;refine uB 18 rfl ((by first|exact ze zv rfl ty9 (by decide) rfl|exact zb zv rfl ty9 (by decide) rfl)) ?_;refine gz1 ?_;refine uM 20 rfl rfl (fun M hM=>by subst hM;exact ze4 (i:=2) (f:=eSs) (z0:=([]:List Str)) zdh ty9 zu rfl rfl rfl (zX 1) ⟨rfl,rfl⟩) ?_;refine gz6 ?_;refine dq ((by first|exact ze zv rfl ty3 (by decide) rfl|exact zb zv rfl ty3 (by decide) rfl)) ?_;refine gz7 ?_;refine uCo (fun h1=> ?_) fun h2=> ?_
 refine gz3 ?_;refine dq ((by first|exact ze zv rfl ty9 (by decide) rfl|exact zb zv rfl ty9 (by decide) rfl)) ?_;refine gz4 ?_;refine uCo (fun h3=> ?_) fun h4=> ?_
 refine gz4 ?_;refine zaf rfl ⟨?_,rfl⟩
 show HVal.int .i64 _=_
 refine congrArg _ ?_;unfold zcG
 focus first
 |(simp_all [zaG,zaZ,rPl,rHu];done)
 |(simp_all [zaG,zaZ,rPl,rHu];(repeat' split)<;>first|rfl|(exfalso;omega)|omega)
 refine gz5 ?_;refine uCo (fun h5=> ?_) fun h6=> ?_
 refine gz4 ?_;refine zaf rfl ⟨?_,rfl⟩
 show HVal.int .i64 _=_
 refine congrArg _ ?_;unfold zcG
 focus first
 |(simp_all [zaG,zaZ,rPl,rHu];done)
 |(simp_all [zaG,zaZ,rPl,rHu];(repeat' split)<;>first|rfl|(exfalso;omega)|omega)
 refine gz2 ?_;refine dq ((by first|exact ze zv rfl ty9 (by decide) rfl|exact zb zv rfl ty9 (by decide) rfl)) ?_;refine gz1 ?_;refine dq ((by first|exact ze zv rfl ty3 (by decide) rfl|exact zb zv rfl ty3 (by decide) rfl)) ?_;refine gz1 ?_;refine de rfl (zbe (M1:=(zcH kb pb hb ob db ab b k)) (R:=[]) ca73 rfl (WeakL.refl _) (by rw [AR]) (zhL hx hD) ?_)
 rintro _ _ ⟨rfl,rfl⟩;refine gz2 ?_;refine uCo (fun h7=> ?_) fun h8=> ?_
 refine gz4 ?_;refine zaf rfl ⟨?_,rfl⟩
 show HVal.int .i64 _=_
 refine congrArg _ ?_;unfold zcG
 focus first
 |(simp_all [zaG,zaZ,rPl,rHu];done)
 |(simp_all [zaG,zaZ,rPl,rHu];(repeat' split)<;>first|rfl|(exfalso;omega)|omega)
 refine zbu (fun M=>M=(zcH kb pb hb ob db ab b k)) [3,10,15] mixed ?_;refine gz1 ?_;refine uB 1 rfl ((by first|exact zw rfl|exact zn rfl)) ?_;refine gz1 ?_;refine uM 3 rfl rfl (fun M hM=>by subst hM;exact zV (i:=0) zin rfl rfl (.inl ⟨rfl,rfl⟩) ⟨rfl,rfl⟩) ?_;refine uB 4 rfl ((by first|exact ze zv rfl ty9 (by decide) rfl|exact zb zv rfl ty9 (by decide) rfl)) ?_;refine gz1 ?_;refine uB 6 rfl ((by first|exact ze zv rfl ty3 (by decide) rfl|exact zb zv rfl ty3 (by decide) rfl)) ?_;refine gz1 ?_;refine uB 8 rfl (zd6 rfl rfl uO uO uO) ?_;refine uB 9 rfl (zO (cs:=[_,_]) ztP zwM rfl) ?_;refine uM 10 rfl rfl (fun M hM=>by subst hM;exact ziP (i:=5) (s:=(x.Team,Int.tdiv x.At 604800000)) (f:=HVal.int .i64) (z0:=(0:Int)) zin zqD ty3 rfl rfl rfl rfl ⟨rfl,rfl⟩) ?_;refine gz1 ?_;refine uB 12 rfl ((by first|exact zw rfl|exact zn rfl)) ?_;refine gz2 ?_;refine uM 15 rfl rfl (fun M hM=>by subst hM;exact zV (i:=0) ty3 rfl rfl (.inl ⟨rfl,rfl⟩) ⟨rfl,rfl⟩) ?_;refine gz3 ?_;refine uCo (fun h9=> ?_) fun h10=> ?_
 refine gz4 ?_;refine zaf rfl ⟨?_,rfl⟩
 show HVal.int .i64 _=_
 refine congrArg _ ?_;unfold zcG
 focus first
 |(simp_all [zaG,zaZ,rPl,rHu];done)
 |(simp_all [zaG,zaZ,rPl,rHu];(repeat' split)<;>first|rfl|(exfalso;omega)|omega)
 refine gz2 ?_;refine dq (zaw (f:=HVal.str) (l:=rPl k x.Team) zu rfl) ?_;refine gz1 ?_;refine dq ((by first|exact zw rfl|exact zn rfl)) ?_;refine gz2 ?_;refine de rfl (uZ 0 ?_)
 refine gz3 ?_;refine uCo (fun h11=> ?_) fun h12=> ?_
 refine gz4 ?_;refine zaf rfl ⟨?_,rfl⟩
 show HVal.int .i64 _=_
 refine congrArg _ ?_;unfold zcG
 focus first
 |(simp_all [zaG,zaZ,rPl,rHu];done)
 |(simp_all [zaG,zaZ,rPl,rHu];(repeat' split)<;>first|rfl|(exfalso;omega)|omega)
 refine gz8 ?_;refine zaf rfl ⟨?_,rfl⟩
 show HVal.int .i64 _=_
 refine congrArg _ ?_;unfold zcG
 focus first
 |(simp_all [zaG,zaZ,rPl,rHu];done)
 |(simp_all [zaG,zaZ,rPl,rHu];(repeat' split)<;>first|rfl|(exfalso;omega)|omega)
 refine gz4 ?_;refine uCo (fun h13=> ?_) fun h14=> ?_
 refine gz2 ?_;refine dq ((by first|exact ze zv rfl ty9 (by decide) rfl|exact zb zv rfl ty9 (by decide) rfl)) ?_;refine gz3 ?_;refine uCo (fun h15=> ?_) fun h16=> ?_
 refine gz4 ?_;refine zaf rfl ⟨?_,rfl⟩
 show HVal.int .i64 _=_
 refine congrArg _ ?_;unfold zcG
 focus first
 |(simp_all [zaG,zaZ,rPl,rHu];done)
 |(simp_all [zaG,zaZ,rPl,rHu];(repeat' split)<;>first|rfl|(exfalso;omega)|omega)
 refine gz7 ?_;refine zaf rfl ⟨?_,rfl⟩
 show HVal.int .i64 _=_
 refine congrArg _ ?_;unfold zcG
 focus first
 |(simp_all [zaG,zaZ,rPl,rHu];done)
 |(simp_all [zaG,zaZ,rPl,rHu];(repeat' split)<;>first|rfl|(exfalso;omega)|omega)
 refine gz4 ?_;refine uCo (fun h17=> ?_) fun h18=> ?_
 refine gz3 ?_;refine dq ((by first|exact ze zv rfl ty9 (by decide) rfl|exact zb zv rfl ty9 (by decide) rfl)) ?_;refine gz1 ?_;refine dq (uCl zfU rfl (zH (l:=rPl k x.Team) (by have:=hP x.Team;omega))) ?_;refine gz3 ?_;refine uCo (fun h19=> ?_) fun h20=> ?_
 refine gz4 ?_;refine zaf rfl ⟨?_,rfl⟩
 show HVal.int .i64 _=_
 refine congrArg _ ?_;unfold zcG
 focus first
 |(simp_all [zaG,zaZ,rPl,rHu];done)
 |(simp_all [zaG,zaZ,rPl,rHu];(repeat' split)<;>first|rfl|(exfalso;omega)|omega)
 refine gz2 ?_;refine dq (zaw (f:=HVal.str) (l:=rHu k x.Team) zu rfl) ?_;refine gz1 ?_;refine dq ((by first|exact zw rfl|exact zn rfl)) ?_;refine gz2 ?_;refine de rfl (uZ 0 ?_)
 refine gz3 ?_;refine uCo (fun h21=> ?_) fun h22=> ?_
 refine gz4 ?_;refine zaf rfl ⟨?_,rfl⟩
 show HVal.int .i64 _=_
 refine congrArg _ ?_;unfold zcG
 focus first
 |(simp_all [zaG,zaZ,rPl,rHu];done)
 |(simp_all [zaG,zaZ,rPl,rHu];(repeat' split)<;>first|rfl|(exfalso;omega)|omega)
 refine gz8 ?_;refine zaf rfl ⟨?_,rfl⟩
 show HVal.int .i64 _=_
 refine congrArg _ ?_;unfold zcG
 focus first
 |(simp_all [zaG,zaZ,rPl,rHu];done)
 |(simp_all [zaG,zaZ,rPl,rHu];(repeat' split)<;>first|rfl|(exfalso;omega)|omega)
 refine gz4 ?_;refine uCo (fun h23=> ?_) fun h24=> ?_
 refine gz3 ?_;refine dq ((by first|exact ze zv rfl ty9 (by decide) rfl|exact zb zv rfl ty9 (by decide) rfl)) ?_;refine gz1 ?_;refine dq (uCl zfU rfl (zH (l:=rHu k x.Team) (by have:=hH x.Team;omega))) ?_;refine gz3 ?_;refine uCo (fun h25=> ?_) fun h26=> ?_
 refine gz4 ?_;refine zaf rfl ⟨?_,rfl⟩
 show HVal.int .i64 _=_
 refine congrArg _ ?_;unfold zcG
 focus first
 |(simp_all [zaG,zaZ,rPl,rHu];done)
 |(simp_all [zaG,zaZ,rPl,rHu];(repeat' split)<;>first|rfl|(exfalso;omega)|omega)
 refine gz2 ?_;refine dq (zaw (f:=HVal.str) (l:=rPl k x.Team) zu rfl) ?_;refine gz1 ?_;refine dq ((by first|exact zw rfl|exact zn rfl)) ?_;refine gz2 ?_;refine de rfl (uZ 0 ?_)
 refine gz3 ?_;refine uCo (fun h27=> ?_) fun h28=> ?_
 refine gz4 ?_;refine zaf rfl ⟨?_,rfl⟩
 show HVal.int .i64 _=_
 refine congrArg _ ?_;unfold zcG
 focus first
 |(simp_all [zaG,zaZ,rPl,rHu];done)
 |(simp_all [zaG,zaZ,rPl,rHu];(repeat' split)<;>first|rfl|(exfalso;omega)|omega)
 refine gz8 ?_;refine zaf rfl ⟨?_,rfl⟩
 show HVal.int .i64 _=_
 refine congrArg _ ?_;unfold zcG
 focus first
 |(simp_all [zaG,zaZ,rPl,rHu];done)
 |(simp_all [zaG,zaZ,rPl,rHu];(repeat' split)<;>first|rfl|(exfalso;omega)|omega)
 refine gz7 ?_;refine zaf rfl ⟨?_,rfl⟩
 show HVal.int .i64 _=_
 refine congrArg _ ?_;unfold zcG
 focus first
 |(simp_all [zaG,zaZ,rPl,rHu];done)
 |(simp_all [zaG,zaZ,rPl,rHu];(repeat' split)<;>first|rfl|(exfalso;omega)|omega)
end
end Go.Proofs.YtahegdhbakjdoaaGreatDoor
namespace Go.HL
section
open Go
theorem zmk {b:BoundS} {n:Int} {x:MoveS}: ∀{l:List MoveS} {i:Nat} {k:RosS},l[i]? =some x->zgj b n k (l.take (i+1))=if x.At<=n then zgk b (zgj b n k (l.take i)) x else zgj b n k (l.take i)
 |[],i,k,h=>by cases i<;>cases h
 |y::r,0,k,h=>by
   obtain rfl:=Av h
   rfl
 |y::r,i+1,k,h=>by
   show zgj b n _ (r.take (i+1))=if x.At<=n then zgk b (zgj b n _ (r.take i)) x else zgj b n _ (r.take i)
   exact zmk (l:=r) h
structure RosW (k:RosS):Prop where
 p: ∀t,SortedS (rPl k t)/\(rPl k t).length<=100000
 h: ∀t,SortedS (rHu k t)/\(rHu k t).length<=100000
 a: ∀w,0<=zaZ k w/\zaZ k w<=100000
 dr: ∀q∈k.D,0<=q.2/\q.2<=345686399999
 dj: ∀t p,p∈rPl k t->p∉rHu k t
theorem RosOk.w {n:Nat} {k:RosS} (h:RosOk n k) (hn:n<=100000):RosW k:=
 ⟨fun t=>⟨(h.sp t).1,by have:=(h.sp t).2.1;omega⟩,fun t=>⟨(h.sh t).1,by have:=(h.sh t).2.1;omega⟩,fun w=>by have:=h.ad w;omega,h.dr,h.dj⟩
theorem zuS {b:BoundS} {l:List MoveS} {n:Int} (hl: ∀x∈l,(0<=x.At/\x.At<=345686399999)/\(1<=x.Kind/\x.Kind<=4)/\x.Team≠[]) (hn:l.length<=2000) (i:Nat):RosW (zgj b n znB (l.take i)):=
 (zpk (b:=b) (m:=n) zpo (l:=l.take i) fun x hx=>hl x (AZ hx)).w (by rw [AC];omega)
def zjz (b:BoundS) (l:List MoveS) (p:Str) (n:Int):Int:=if orI [zcl b,zcj l]≠0 then orI [zcl b,zcj l] else if key p=false then 5 else if zL n=false then 1 else 0
def frE (b:BoundS) (l:List MoveS) (ps:List Str) (n:Int):Int:=
 if orI [zcl b,zcj l]≠0 then orI [zcl b,zcj l] else if 500<ps.length then 2 else if (ps.any fun s=> !key s)=true then 5 else if zL n=false then 1 else 0
theorem zxU {b:BoundS} {l:List MoveS} {p:Str} {n:Int} (h:zjz b l p n=0):zcj l=0/\key p=true/\zL n=true:=by
 unfold zjz at h
 by_cases h1:orI [zcl b,zcj l]≠0
 rw [if_pos h1] at h;exact absurd h h1;rw [if_neg h1] at h
 by_cases h2:key p=false
 rw [if_pos h2] at h;cases h;rw [if_neg h2] at h
 by_cases h3:zL n=false
 rw [if_pos h3] at h;cases h;exact ⟨(or2z (Decidable.not_not.1 h1)).2,by simpa using h2,by simpa using h3⟩
theorem zAb {b:BoundS} {l:List MoveS} {ps:List Str} {n:Int} (h:frE b l ps n=0):zcj l=0/\zL n=true:=by
 unfold frE at h
 by_cases h1:orI [zcl b,zcj l]≠0
 rw [if_pos h1] at h;exact absurd h h1;rw [if_neg h1] at h
 by_cases h2:500<ps.length
 rw [if_pos h2] at h;cases h;rw [if_neg h2] at h
 by_cases h4:(ps.any fun s=> !key s)=true
 rw [if_pos h4] at h;cases h;rw [if_neg h4] at h
 by_cases h3:zL n=false
 rw [if_pos h3] at h;cases h;exact ⟨(or2z (Decidable.not_not.1 h1)).2,by simpa using h3⟩
theorem zsi {b:BoundS} {l:List MoveS} {ps:List Str} {n:Int} (h1:orI [zcl b,zcj l]=0) (h2: ¬500<ps.length) (h3:(ps.any fun s=> !key s)=false) (h4:zL n=true):frE b l ps n=0:=by
 unfold frE;rw [if_neg (fun q=>q h1),if_neg h2,if_neg (by rw [h3];simp),if_neg (by rw [h4];simp)]
theorem fr1 {b:BoundS} {l:List MoveS} {ps:List Str} {n:Int} (h1: ¬orI [zcl b,zcj l]=0):frE b l ps n=orI [zcl b,zcj l]:=by unfold frE;rw [if_pos h1]
theorem fr2 {b:BoundS} {l:List MoveS} {ps:List Str} {n:Int} (h1:orI [zcl b,zcj l]=0) (h2:500<ps.length):frE b l ps n=2:=by unfold frE;rw [if_neg (fun q=>q h1),if_pos h2]
theorem fr3 {b:BoundS} {l:List MoveS} {ps:List Str} {n:Int} (h1:orI [zcl b,zcj l]=0) (h2: ¬500<ps.length) (h3:(ps.any fun s=> !key s)=true):frE b l ps n=5:=by unfold frE;rw [if_neg (fun q=>q h1),if_neg h2,if_pos h3]
theorem fr4 {b:BoundS} {l:List MoveS} {ps:List Str} {n:Int} (h1:orI [zcl b,zcj l]=0) (h2: ¬500<ps.length) (h3:(ps.any fun s=> !key s)=false) (h4:zL n=false):frE b l ps n=1:=by unfold frE;rw [if_neg (fun q=>q h1),if_neg h2,if_neg (by rw [h3];simp),if_pos h4]
theorem zmJ {b:BoundS} {l:List MoveS} {n:Int} (hm:zcj l=0):RosW (zah b l n):=by
 obtain ⟨hl,hml⟩:=zrs hm;have:=zuS (b:=b) (n:=n) (l:=l) (fun x hx=>⟨(hml x hx).1,(hml x hx).2.1,fun e=>by have:=(hml x hx).2.2.1;rw [e] at this;cases this⟩) hl l.length;rw [Aw] at this;exact this
theorem zuF {n:Int} (h:zL n=true):0<=n/\n<=345686399999:=by
 simp [zL,out] at h;omega
theorem zhS (b:BoundS) (k:RosS) (n:Int) (l:List Str):(zb0 b k n l).length<=l.length:=AW _ _
theorem zoc {b:BoundS} {k:RosS} {n:Int} {l:List Str} {i:Nat} {x:Str} (hx:l[i]? =some x):
 zb0 b k n (l.take (i+1))=if (decide (zaG k x=[])&& !zhy b k x n)=true then zb0 b k n (l.take i)++[x] else zb0 b k n (l.take i):=by
 unfold zb0;rw [za1 hx,A8]
 split
 rename_i h;rw [BG (p:=fun s=>decide (zaG k s=[])&& !zhy b k s n) h];rfl
 rename_i h;rw [BF (p:=fun s=>decide (zaG k s=[])&& !zhy b k s n) h];simp
end
end Go.HL
namespace Go.Proofs.YtahegdhbakjdoaaGreatDoor
set_option maxRecDepth 100000
set_option linter.unusedVariables false
set_option linter.unusedSimpArgs false
section
open Go.Proofs.Tryz
open Go.HL
theorem zkF [Tracks] {kb pb hb ob db ab:Nat} {b:BoundS} {k:RosS} {x:MoveS} (hx:0<=x.At/\x.At<=345686399999) (hk:1<=x.Kind/\x.Kind<=4) (hP: ∀t,SortedS (rPl k t)/\(rPl k t).length<=100000) (hH: ∀t,SortedS (rHu k t)/\(rHu k t).length<=100000) (hA: ∀w,0<=zaZ k w/\zaZ k w<=100000) (hD: ∀q∈k.D,0<=q.2/\q.2<=345686399999) (hd: ∀t p,p∈rPl k t->p∉rHu k t):Con prog 223 [.raw (.pointer (some ⟨kb,0,none⟩)),zcK x] (zcH kb pb hb ob db ab b k) (fun x1 M'=>x1= .int .i64 (zcG b k x)/\M'=(zcH kb pb hb ob db ab b (zgk b k x))):=by
 refine uOb func223 ntmps223 ?_;refine gz7 ?_;refine de rfl (zbe (M1:=(zcH kb pb hb ob db ab b k)) (R:=[]) zz0 rfl (WeakL.refl _) (by rw [AR]) (zmT hx hD (fun t=>by have:=(hP t).2;omega) (fun t=>by have:=(hH t).2;omega)) ?_)
 rintro _ _ ⟨rfl,rfl⟩;refine gz2 ?_;refine zbu (fun M=>M=(zcH kb pb hb ob db ab b k)) [3,6,10,13] mixed ?_;refine gz1 ?_;refine uB 1 rfl ((by first|exact zw rfl|exact zn rfl)) ?_;refine gz1 ?_;refine uM 3 rfl rfl (fun M hM=>by subst hM;exact zV (i:=0) zdh rfl rfl (.inl ⟨rfl,rfl⟩) ⟨rfl,rfl⟩) ?_;refine uB 4 rfl ((by first|exact ze zv rfl ty9 (by decide) rfl|exact zb zv rfl ty9 (by decide) rfl)) ?_;refine gz1 ?_;refine uM 6 rfl rfl (fun M hM=>by subst hM;exact ze4 (i:=1) (f:=eSs) (z0:=([]:List Str)) zdh ty9 zu rfl rfl rfl (zX 1) ⟨rfl,rfl⟩) ?_;refine gz1 ?_;refine uB 8 rfl ((by first|exact zw rfl|exact zn rfl)) ?_;refine gz1 ?_;refine uM 10 rfl rfl (fun M hM=>by subst hM;exact zV (i:=0) zdh rfl rfl (.inl ⟨rfl,rfl⟩) ⟨rfl,rfl⟩) ?_;refine uB 11 rfl ((by first|exact ze zv rfl ty9 (by decide) rfl|exact zb zv rfl ty9 (by decide) rfl)) ?_;refine gz1 ?_;refine uM 13 rfl rfl (fun M hM=>by subst hM;exact ze4 (i:=2) (f:=eSs) (z0:=([]:List Str)) zdh ty9 zu rfl rfl rfl (zX 1) ⟨rfl,rfl⟩) ?_;refine gz3 ?_;refine uVj [6,2,25,76] (fun (q:RosS×List Str×List Str)=>[(6,eSs q.2.1),(7,eSs q.2.2)]) (fun (q:RosS×List Str×List Str)=>(zcH kb pb hb ob db ab b q.1)) (fun (q:RosS×List Str×List Str)=>zgk b k x=⟨zy x.Team q.2.1 q.1.P,zy x.Team q.2.2 q.1.H,q.1.O,q.1.D,q.1.A⟩) ?_ ?_
 skip
 refine gz4 ?_;refine uCo (fun h1=> ?_) fun h2=> ?_
 refine gz1 ?_;refine dq ((by first|exact ze zv rfl ty3 (by decide) rfl|exact zb zv rfl ty3 (by decide) rfl)) ?_;refine gz7 ?_;refine za3 rfl (fun h3=> ?_) (fun h4=> ?_)
 try simp at h3
 refine gz2 ?_;refine dq ((by first|exact ze zv rfl ty9 (by decide) rfl|exact zb zv rfl ty9 (by decide) rfl)) ?_;refine gz1 ?_;refine dq (uCl ztf rfl (ziJ (l:=(rPl k x.Team)) (by have:=(hP x.Team).2;omega) (hP x.Team).1)) ?_;refine gz2 ?_;refine zbu (fun M=>M=(zcH kb pb hb ob db ab b k)) [3] mixed ?_;refine gz1 ?_;refine uB 1 rfl ((by first|exact zw rfl|exact zn rfl)) ?_;refine gz1 ?_;refine uM 3 rfl rfl (fun M hM=>by subst hM;exact zV (i:=0) zim rfl rfl (.inl ⟨rfl,rfl⟩) ⟨rfl,rfl⟩) ?_;refine uB 4 rfl ((by first|exact ze zv rfl ty9 (by decide) rfl|exact zb zv rfl ty9 (by decide) rfl)) ?_;refine gz1 ?_;refine uB 6 rfl ((by first|exact ze zv rfl ty9 (by decide) rfl|exact zb zv rfl ty9 (by decide) rfl)) ?_;refine gz1 ?_;refine uF 8 ?_;refine zT (zck (i:=3) (f:=HVal.str) (L:=k.O) (v:=x.Team) zim ty9 rfl rfl rfl rfl ?_)
 refine ⟨uE,?_⟩
 refine gz1 ?_;refine zba (fun M=>M=(zcH kb pb hb ob db ab b (⟨k.P,k.H,zy x.Player x.Team k.O,k.D,k.A⟩:RosS))\/∃j st,zbI (x.Team,Int.tdiv x.At 604800000) (zdx (x.Team,Int.tdiv x.At 604800000) (HVal.int .i64 0) (em (HVal.int .i64) k.A))=some j/\M=[MObj.cells kb (kBk b pb hb ob db ab),MObj.map pb (sk (em eSs k.P)),MObj.map hb (sk (em eSs k.H)),MObj.map ob (sk (em HVal.str (zy x.Player x.Team k.O))),MObj.map db (sk (em (HVal.int .i64) k.D)),MObj.mape ab (kk eWk (zdx (x.Team,Int.tdiv x.At 604800000) (HVal.int .i64 0) (em (HVal.int .i64) k.A))) j st]) [3,10] mixed ?_;refine gz1 ?_;refine uB 1 rfl ((by first|exact zw rfl|exact zn rfl)) ?_;refine gz1 ?_;refine uM 3 rfl (.inl rfl) (fun M hM=>by
 rcases hM with rfl|⟨j,st,hj,rfl⟩
 exact zV (i:=0) zin rfl rfl (.inl ⟨rfl,rfl⟩) ⟨rfl,rfl⟩;exact zV (i:=0) zin rfl rfl (.inl ⟨rfl,rfl⟩) ⟨rfl,rfl⟩) ?_
 refine uB 4 rfl ((by first|exact ze zv rfl ty9 (by decide) rfl|exact zb zv rfl ty9 (by decide) rfl)) ?_;refine gz1 ?_;refine uB 6 rfl ((by first|exact ze zv rfl ty3 (by decide) rfl|exact zb zv rfl ty3 (by decide) rfl)) ?_;refine gz1 ?_;refine uB 8 rfl (zd6 rfl rfl uO uO uO) ?_;refine uB 9 rfl (zO (cs:=[_,_]) ztP zwM rfl) ?_;refine uM 10 rfl (.inl rfl) (fun M hM=>by
 rcases hM with rfl|⟨j,st,hj,rfl⟩
 exact ziP (i:=5) (s:=(x.Team,Int.tdiv x.At 604800000)) (z0:=(0:Int)) (f:=HVal.int .i64) zin zqD ty3 rfl rfl rfl rfl ⟨rfl,rfl⟩;exact zrf (i:=5) (s:=(x.Team,Int.tdiv x.At 604800000)) (z0:=(0:Int)) (f:=HVal.int .i64) zin zqD ty3 rfl rfl rfl rfl ⟨rfl,rfl⟩) ?_
 refine uB 11 rfl (zbf rfl rfl (by have:=hA (x.Team,Int.tdiv x.At 604800000);unfold zaZ at this;dsimp only;omega) (by have:=hA (x.Team,Int.tdiv x.At 604800000);unfold zaZ at this;dsimp only;omega)) ?_;refine uF 12 ?_;refine zA rfl (zqo (i:=5) (s:=(x.Team,Int.tdiv x.At 604800000)) (z0:=(0:Int)) (f:=HVal.int .i64) zin zqD ty3 rfl rfl rfl rfl fun j55 st55 hj55=> ?_)
 refine ⟨fun _=> .inl (.inr ⟨j55,st55,hj55,rfl⟩),?_⟩
 refine gz1 ?_;refine uF 14 ?_;refine zT (zn8 (i:=5) (s:=(x.Team,Int.tdiv x.At 604800000)) (f:=HVal.int .i64) (z0:=(0:Int)) (v:=zaZ k (x.Team,Int.tdiv x.At 604800000)+1) rfl rfl rfl rfl hj55 ?_)
 refine ⟨uE,?_⟩
 refine gz2 ?_;exact ⟨((⟨k.P,k.H,zy x.Player x.Team k.O,k.D,zy (x.Team,Int.tdiv x.At 604800000) (zaZ k (x.Team,Int.tdiv x.At 604800000)+1) k.A⟩:RosS),zfr (rPl k x.Team) x.Player,(rHu k x.Team)),by rw [zgk,if_neg (by simpa using h1),if_pos (by assumption)],⟨rfl,rfl,trivial⟩,uK,Ab _⟩
 try simp at h4
 refine gz4 ?_;refine uCo (fun h5=> ?_) fun h6=> ?_
 refine uDr mixed ?_;refine gz1 ?_;refine uB 1 rfl ((by first|exact ze zv rfl ty9 (by decide) rfl|exact zb zv rfl ty9 (by decide) rfl)) ?_;refine gz1 ?_;refine uB 3 rfl (uCl zqu rfl (zgb (l:=(rPl k x.Team)) (by have:=(fun t=>(hP t).2) x.Team;omega))) ?_;refine gz1 ?_;refine uB 5 rfl ((by first|exact ze zv rfl ty9 (by decide) rfl|exact zb zv rfl ty9 (by decide) rfl)) ?_;refine gz1 ?_;refine uB 7 rfl (uCl zqu rfl (zgb (l:=(rHu k x.Team)) (by have:=(fun t=>(hH t).2) x.Team;omega))) ?_;refine gz3 ?_;refine zbu (fun M=>M=(zcH kb pb hb ob db ab b k)) [3] mixed ?_;refine gz1 ?_;refine uB 1 rfl ((by first|exact zw rfl|exact zn rfl)) ?_;refine gz1 ?_;refine uM 3 rfl rfl (fun M hM=>by subst hM;exact zV (i:=0) zim rfl rfl (.inl ⟨rfl,rfl⟩) ⟨rfl,rfl⟩) ?_;refine uB 4 rfl ((by first|exact ze zv rfl ty9 (by decide) rfl|exact zb zv rfl ty9 (by decide) rfl)) ?_;refine gz1 ?_;refine uF 6 ?_;refine zT (ztn (i:=3) (f:=HVal.str) (L:=k.O) (s:=x.Player) zim ty9 rfl rfl rfl ?_)
 refine ⟨uE,?_⟩
 refine gz1 ?_;refine zba (fun M=>M=(zcH kb pb hb ob db ab b (⟨k.P,k.H,zb4 x.Player k.O,k.D,k.A⟩:RosS))) [3] mixed ?_;refine gz1 ?_;refine uB 1 rfl ((by first|exact zw rfl|exact zn rfl)) ?_;refine gz1 ?_;refine uM 3 rfl rfl (fun M hM=>by subst hM;exact zV (i:=0) zfM rfl rfl (.inl ⟨rfl,rfl⟩) ⟨rfl,rfl⟩) ?_;refine uB 4 rfl ((by first|exact ze zv rfl ty9 (by decide) rfl|exact zb zv rfl ty9 (by decide) rfl)) ?_;refine gz1 ?_;refine uB 6 rfl ((by first|exact ze zv rfl ty3 (by decide) rfl|exact zb zv rfl ty3 (by decide) rfl)) ?_;refine gz1 ?_;refine uF 8 ?_;refine zT (zck (i:=4) (f:=HVal.int .i64) (L:=k.D) (v:=x.At) zfM ty9 rfl rfl rfl rfl ?_)
 refine ⟨uE,?_⟩
 refine gz2 ?_;exact ⟨((⟨k.P,k.H,zb4 x.Player k.O,zy x.Player x.At k.D,k.A⟩:RosS),zho (rPl k x.Team) x.Player,zho (rHu k x.Team) x.Player),by rw [zgk,if_neg (by simpa using h1),if_neg (by assumption),if_pos (by assumption)],⟨rfl,rfl,trivial⟩,uK,Ab _⟩;refine gz4 ?_;refine uCo (fun h7=> ?_) fun h8=> ?_
 refine zmt mixed ?_;refine gz1 ?_;refine uB 1 rfl ((by first|exact ze zv rfl ty9 (by decide) rfl|exact zb zv rfl ty9 (by decide) rfl)) ?_;refine gz1 ?_;refine uB 3 rfl (uCl zqu rfl (zgb (l:=(rPl k x.Team)) (by have:=(fun t=>(hP t).2) x.Team;omega))) ?_;refine gz1 ?_;refine uB 5 rfl ((by first|exact ze zv rfl ty9 (by decide) rfl|exact zb zv rfl ty9 (by decide) rfl)) ?_;refine gz1 ?_;refine uB 7 rfl (uCl ztf rfl (ziJ (l:=(rHu k x.Team)) (by have:=(hH x.Team).2;omega) (hH x.Team).1)) ?_;refine gz4 ?_;exact ⟨(k,zho (rPl k x.Team) x.Player,zfr (rHu k x.Team) x.Player),by rw [zgk,if_neg (by simpa using h1),if_neg (by assumption),if_neg (by assumption),if_pos (by assumption)],⟨rfl,rfl,trivial⟩,uK,Ab _⟩;refine gz4 ?_;refine za3 rfl (fun h9=> ?_) (fun h9=> ?_)
 try simp at h9
 refine zmt mixed ?_;refine gz1 ?_;refine uB 1 rfl ((by first|exact ze zv rfl ty9 (by decide) rfl|exact zb zv rfl ty9 (by decide) rfl)) ?_;refine gz1 ?_;refine uB 3 rfl (uCl ztf rfl (ziJ (l:=(rPl k x.Team)) (by have:=(hP x.Team).2;omega) (hP x.Team).1)) ?_;refine gz1 ?_;refine uB 5 rfl ((by first|exact ze zv rfl ty9 (by decide) rfl|exact zb zv rfl ty9 (by decide) rfl)) ?_;refine gz1 ?_;refine uB 7 rfl (uCl zqu rfl (zgb (l:=(rHu k x.Team)) (by have:=(fun t=>(hH t).2) x.Team;omega))) ?_;refine gz4 ?_;exact ⟨(k,zfr (rPl k x.Team) x.Player,zho (rHu k x.Team) x.Player),by rw [zgk,if_neg (by simpa using h1),if_neg (by assumption),if_neg (by assumption),if_neg (by assumption)],⟨rfl,rfl,trivial⟩,uK,Ab _⟩
 exfalso
 try simp at h9
 omega
 refine gz1 ?_;exact ⟨(k,(rPl k x.Team),(rHu k x.Team)),by rw [zgk,if_pos (by simpa using h2)],⟨rfl,rfl,trivial⟩,uK,Ab _⟩
 intro q hq
 refine zbu (fun M=>M=(zcH kb pb hb ob db ab b q.1)) [3,9] mixed ?_;refine gz1 ?_;refine uB 1 rfl ((by first|exact zw rfl|exact zn rfl)) ?_;refine gz1 ?_;refine uM 3 rfl rfl (fun M hM=>by subst hM;exact zV (i:=0) zdh rfl rfl (.inl ⟨rfl,rfl⟩) ⟨rfl,rfl⟩) ?_;refine uB 4 rfl ((by first|exact ze zv rfl ty9 (by decide) rfl|exact zb zv rfl ty9 (by decide) rfl)) ?_;refine gz2 ?_;refine uB 7 rfl ((by first|exact zw rfl|exact zn rfl)) ?_;refine gz1 ?_;refine uM 9 rfl rfl (fun M hM=>by subst hM;exact zV (i:=0) zdh rfl rfl (.inl ⟨rfl,rfl⟩) ⟨rfl,rfl⟩) ?_;refine uB 10 rfl ((by first|exact ze zv rfl ty9 (by decide) rfl|exact zb zv rfl ty9 (by decide) rfl)) ?_;refine gz3 ?_;refine uF 14 ?_;refine zA rfl (zlh (i:=1) (s:=x.Team) (f:=eSs) (L:=q.1.P) zdh ty9 zu rfl rfl rfl fun j115 st115 hj115=> ?_)
 refine ⟨uE,?_⟩
 refine gz1 ?_;refine uF 16 ?_;refine zT (zjm (i:=1) (s:=x.Team) (f:=eSs) (L:=q.1.P) (v:=q.2.1) rfl rfl rfl rfl hj115 ?_)
 refine ⟨uE,?_⟩
 refine uF 17 ?_;refine zA rfl (zlh (i:=2) (s:=x.Team) (f:=eSs) (L:=q.1.H) zdh ty9 zu rfl rfl rfl fun j117 st117 hj117=> ?_)
 refine ⟨uE,?_⟩
 refine gz1 ?_;refine uF 19 ?_;refine zT (zjm (i:=2) (s:=x.Team) (f:=eSs) (L:=q.1.H) (v:=q.2.2) rfl rfl rfl rfl hj117 ?_)
 refine ⟨uE,?_⟩
 refine gz6 ?_;refine zaf rfl ⟨rfl,?_⟩
 rw [hq];rfl
theorem zql [Tracks] {i e:Int}:ConP prog 150 [.int .i64 i,.int .i64 e] (.tup []):=by
 refine uOb func150 ntmps150 ?_;refine gz1 ?_;refine ztF rfl ?_
 rfl
theorem znZ [Tracks] {b:BoundS} {l:List MoveS} {n:Int} {fid:FuncId} (hm:zcj l=0) (hca:Callable prog fid) (hp: ∀i e:Int,ConP prog fid [.int .i64 i,.int .i64 e] (.tup [])):Con prog 149 [zcn b,zbs l,.int .i64 n,.fn (.func fid) [] []] [] (fun x M'=> ∃kb pb hb ob db ab:Nat,x= .raw (.pointer (some ⟨kb,0,none⟩))/\M'=(zcH kb pb hb ob db ab b (zah b l n))):=by
 obtain ⟨hl,hml⟩:=zrs hm;have hmk: ∀x∈l,(0<=x.At/\x.At<=345686399999)/\(1<=x.Kind/\x.Kind<=4)/\x.Team≠[]:=fun x hx=>⟨(hml x hx).1,(hml x hx).2.1,fun e=>by have:=(hml x hx).2.2.1;rw [e] at this;cases this⟩
 refine uOb func149 ntmps149 ?_;refine gz6 ?_;refine de rfl (zbP fun m13=> ?_)
 refine de rfl (zbP fun m14=> ?_)
 refine de rfl (zbP fun m15=> ?_)
 refine de rfl (zbP fun m16=> ?_)
 refine de rfl (zbP fun m17=> ?_)
 refine dq (zO (cs:=[_,_,_,_,_,_,_,_,_]) zwO zAg rfl) ?_;refine de rfl (zo7 rfl rfl fun kb=> ?_)
 refine gz2 ?_;refine zl (Ghost.perm (M':=zcH kb m13 m14 m15 m16 m17 b znB) uQ) ?_;refine gz7 ?_;refine uT1 [10,2,22,16] (fun i=>[(22,.int .i64 i)]) (fun i=>zcH kb m13 m14 m15 m16 m17 b (zgj b n znB (l.take i))) (fun i=>i<=l.length/\(True)) (fun i=>l.length-i) (0) ?_ ?_;exact ⟨Ad _,trivial⟩;rintro i ⟨hi,-⟩;refine gz4 ?_;refine uCo (fun h1=> ?_) fun h2=> ?_
 obtain ⟨x,hx⟩: ∃x,l[i]? =some x:=⟨_,Aa h1⟩
 have hdx:=zt hx;obtain ⟨hx1,hx2,_⟩:=hmk x (Ac hx);have hok:=zuS (b:=b) (n:=n) hmk hl i;refine gz8 ?_;refine de rfl (zq zv rfl fun b11=> ?_)
 refine gz1 ?_;refine de0 (zz zv rfl rfl rfl rfl rfl ?_)
 refine gz1 ?_;refine zl (zD 11 rfl) ?_;refine gz6 ?_;refine uCo (fun h3=> ?_) fun h4=> ?_
 refine gz5 ?_;refine de rfl (zbe (M1:=zcH kb m13 m14 m15 m16 m17 b (zgj b n znB (l.take i))) (R:=[]) zzy rfl (WeakL.refl _) (by rw [AR]) (zkF hx1 hx2 hok.p hok.h hok.a hok.dr hok.dj) ?_)
 rintro _ _ ⟨rfl,rfl⟩;refine dq (zaB hca rfl rfl (WeakL.refl _) (hp _ _)) ?_;refine gz7 ?_;exact ⟨i+1,⟨by omega,trivial⟩,uD,⟨rfl,trivial⟩,uK,zg (by dsimp only;rw [zmk hx,if_pos (by assumption)];try rfl)⟩;refine gz7 ?_;exact ⟨i+1,⟨by omega,trivial⟩,uD,⟨rfl,trivial⟩,uK,zg (by dsimp only;rw [zmk hx,if_neg uO];try rfl)⟩;have hni:l.length<=i:=by omega
 obtain rfl:i=l.length:=by omega
 rw [Aw];refine gz2 ?_;refine zG ?_;refine gz7 ?_;exact zaf rfl ⟨_,_,_,_,_,_,rfl,rfl⟩
theorem zm0 [Tracks] {b:BoundS} {l:List MoveS} {n:Int} (hm:zcj l=0):Con prog 72 [zcn b,zbs l,.int .i64 n] [] (fun x M'=> ∃kb pb hb ob db ab:Nat,x= .raw (.pointer (some ⟨kb,0,none⟩))/\M'=(zcH kb pb hb ob db ab b (zah b l n))):=by
 refine uOb func72 ntmps72 ?_;refine gz8 ?_;refine de rfl (zbe (M1:=[]) (R:=[]) zyV rfl (WeakL.refl _) (Ab _) (znZ hm zyW (fun _ _=>zql)) ?_)
 rintro _ _ ⟨kb,pb,hb,ob,db,ab,rfl,rfl⟩;refine gz3 ?_;exact zaf rfl ⟨_,_,_,_,_,_,rfl,rfl⟩
theorem zj8 [Tracks] {b:BoundS} {l:List MoveS} (hl:l.length<=1000000):ConP prog 68 [zcn b,zbs l] (.int .i64 (orI [zcl b,zcj l])):=by
 refine uOb func68 ntmps68 ?_;refine gz6 ?_;refine dq (uCl zwh rfl zgL) ?_;refine gz1 ?_;refine dq (uCl zwf rfl (zhb uS)) ?_;refine dq (za (hs:=[_,_]) zeq zgo rfl rfl (by decide) (by decide) rfl) ?_;refine dq (uCl znm rfl (zdr (l:=[_,_]) (by simp))) ?_;refine gz3 ?_;refine zC rfl ?_
 rfl
theorem zlp [Tracks] {b:BoundS} {l:List MoveS} {p:Str} {n:Int} (hl:l.length<=1000000):ConP prog 75 [zcn b,zbs l,.str p,.int .i64 n] (.int .i64 (zjz b l p n)):=by
 refine uOb func75 ntmps75 ?_;refine gz8 ?_;refine dq (uCl ca68 rfl (zj8 uS)) ?_;refine gz6 ?_;refine uCo (fun h1=> ?_) fun h2=> ?_
 refine gz5 ?_;refine uRp ?_;unfold zjz
 simp_all
 refine gz6 ?_;refine dq (uCl zdL rfl zaH) ?_;refine gz3 ?_;refine uCo (fun h3=> ?_) fun h4=> ?_
 refine gz4 ?_;refine uRp ?_;unfold zjz
 simp_all
 refine gz2 ?_;refine dq (uCl ziL rfl zbA) ?_;refine gz3 ?_;refine uCo (fun h5=> ?_) fun h6=> ?_
 refine gz4 ?_;refine uRp ?_;unfold zjz
 simp_all
 refine gz7 ?_;refine uRp ?_;unfold zjz
 simp_all
theorem znY [Tracks] {s:Str}:ConP prog 70 [.str s] (.bool (!key s)):=by
 refine uOb func70 ntmps70 ?_;refine gz5 ?_;refine dq (uCl zdL rfl zaH) ?_;refine gz4 ?_;refine zC rfl ?_
 rfl
theorem zqk [Tracks] {b:BoundS} {l:List MoveS} {ps:List Str} {n:Int} (hl:l.length<=1000000) (hps:ps.length<=1000000):ConP prog 27 [zcn b,zbs l,eSs ps,.int .i64 n] (.tup [eSs (if frE b l ps n≠0 then [] else zb0 b (zah b l n) n ps),.int .i64 (frE b l ps n)]):=by
 refine uOb func27 ntmps27 ?_;refine gz9 ?_;refine dq (uCl ca68 rfl (zj8 uS)) ?_;refine gz6 ?_;refine uCo (fun h1=> ?_) fun h2=> ?_
 refine gz6 ?_
 focus first
 |exact zbD rfl (zas (by rw [if_pos (by rw [fr1 h1];first|exact h1|decide)];exact zX 1) (by rw [fr1 h1];exact Weak.refl _))
 |exact zbD rfl (zas (by rw [if_pos (by rw [fr2 (by simpa using h2) uO];first|exact h1|decide)];exact zX 1) (by rw [fr2 (by simpa using h2) uO];exact Weak.refl _))
 |exact zbD rfl (zas (by rw [if_pos (by rw [fr3 (by simpa using h2) uO (by simpa using h5)];first|exact h1|decide)];exact zX 1) (by rw [fr3 (by simpa using h2) uO (by simpa using h5)];exact Weak.refl _))
 |exact zbD rfl (zas (by rw [if_pos (by rw [fr4 (by simpa using h2) uO (by simpa using h6) (by simpa using h7)];first|exact h1|decide)];exact zX 1) (by rw [fr4 (by simpa using h2) uO (by simpa using h6) (by simpa using h7)];exact Weak.refl _))
 | (refine zB ((zap 8 (i:=6) rfl rfl).trans Ghost.clear) rfl ⟨?_,rfl⟩
    show HVal.tup _=_
    rw [if_neg (fun q=>q hz0),hz0];rfl)
 refine zaD ?_;refine uCo (fun h3=> ?_) fun h4=> ?_
 refine gz5 ?_
 focus first
 |exact zbD rfl (zas (by rw [if_pos (by rw [fr1 h1];first|exact h1|decide)];exact zX 1) (by rw [fr1 h1];exact Weak.refl _))
 |exact zbD rfl (zas (by rw [if_pos (by rw [fr2 (by simpa using h2) uO];first|exact h1|decide)];exact zX 1) (by rw [fr2 (by simpa using h2) uO];exact Weak.refl _))
 |exact zbD rfl (zas (by rw [if_pos (by rw [fr3 (by simpa using h2) uO (by simpa using h5)];first|exact h1|decide)];exact zX 1) (by rw [fr3 (by simpa using h2) uO (by simpa using h5)];exact Weak.refl _))
 |exact zbD rfl (zas (by rw [if_pos (by rw [fr4 (by simpa using h2) uO (by simpa using h6) (by simpa using h7)];first|exact h1|decide)];exact zX 1) (by rw [fr4 (by simpa using h2) uO (by simpa using h6) (by simpa using h7)];exact Weak.refl _))
 | (refine zB ((zap 8 (i:=6) rfl rfl).trans Ghost.clear) rfl ⟨?_,rfl⟩
    show HVal.tup _=_
    rw [if_neg (fun q=>q hz0),hz0];rfl)
 refine gz2 ?_;refine dq (uCl ztj rfl (zbS (l:=ps) (p:=fun s=> !key s) ca70 (fun _=>znY) hps)) ?_;refine gz2 ?_;refine uCo (fun h5=> ?_) fun h6=> ?_
 refine gz5 ?_
 focus first
 |exact zbD rfl (zas (by rw [if_pos (by rw [fr1 h1];first|exact h1|decide)];exact zX 1) (by rw [fr1 h1];exact Weak.refl _))
 |exact zbD rfl (zas (by rw [if_pos (by rw [fr2 (by simpa using h2) uO];first|exact h1|decide)];exact zX 1) (by rw [fr2 (by simpa using h2) uO];exact Weak.refl _))
 |exact zbD rfl (zas (by rw [if_pos (by rw [fr3 (by simpa using h2) uO (by simpa using h5)];first|exact h1|decide)];exact zX 1) (by rw [fr3 (by simpa using h2) uO (by simpa using h5)];exact Weak.refl _))
 |exact zbD rfl (zas (by rw [if_pos (by rw [fr4 (by simpa using h2) uO (by simpa using h6) (by simpa using h7)];first|exact h1|decide)];exact zX 1) (by rw [fr4 (by simpa using h2) uO (by simpa using h6) (by simpa using h7)];exact Weak.refl _))
 | (refine zB ((zap 8 (i:=6) rfl rfl).trans Ghost.clear) rfl ⟨?_,rfl⟩
    show HVal.tup _=_
    rw [if_neg (fun q=>q hz0),hz0];rfl)
 refine gz2 ?_;refine dq (uCl ziL rfl zbA) ?_;refine gz3 ?_;refine uCo (fun h7=> ?_) fun h8=> ?_
 refine gz5 ?_
 focus first
 |exact zbD rfl (zas (by rw [if_pos (by rw [fr1 h1];first|exact h1|decide)];exact zX 1) (by rw [fr1 h1];exact Weak.refl _))
 |exact zbD rfl (zas (by rw [if_pos (by rw [fr2 (by simpa using h2) uO];first|exact h1|decide)];exact zX 1) (by rw [fr2 (by simpa using h2) uO];exact Weak.refl _))
 |exact zbD rfl (zas (by rw [if_pos (by rw [fr3 (by simpa using h2) uO (by simpa using h5)];first|exact h1|decide)];exact zX 1) (by rw [fr3 (by simpa using h2) uO (by simpa using h5)];exact Weak.refl _))
 |exact zbD rfl (zas (by rw [if_pos (by rw [fr4 (by simpa using h2) uO (by simpa using h6) (by simpa using h7)];first|exact h1|decide)];exact zX 1) (by rw [fr4 (by simpa using h2) uO (by simpa using h6) (by simpa using h7)];exact Weak.refl _))
 | (refine zB ((zap 8 (i:=6) rfl rfl).trans Ghost.clear) rfl ⟨?_,rfl⟩
    show HVal.tup _=_
    rw [if_neg (fun q=>q hz0),hz0];rfl)
 refine gz3 ?_;have hz0:frE b l ps n=0:=zsi (by simpa using h2) uO (by simpa using h6) (by simpa using h8);obtain ⟨hm0,hn0⟩:=zAb hz0;have hok:=zmJ (b:=b) (n:=n) hm0;have hn1:=zuF hn0;refine gz4 ?_;refine de rfl (zbe (M1:=[]) (R:=[]) ca72 rfl (WeakL.refl _) (Ab _) (zm0 (b:=b) (l:=l) (n:=n) hm0) ?_)
 rintro _ _ ⟨kb,pb,hb,ob,db,ab,rfl,rfl⟩;refine gz5 ?_;refine zl (zQ 1) ?_;refine gz7 ?_;refine uV2 [12,1,14,1,38,23] (fun (i:Nat) (u:Value)=>[(38,.int .i64 i),(12,.raw u)]) (fun (i:Nat) (u:Value)=>(zcH kb pb hb ob db ab b (zah b l n))++[.arr u 1 ((zb0 b (zah b l n) n (ps.take i)).map .str)]) (fun (i:Nat) (u:Value)=>i<=ps.length/\(True)) (fun (i:Nat) (u:Value)=>ps.length-i) (0) (.slice none 0 0) ?_ ?_ ?_ ?_;exact ⟨Ad _,trivial⟩;exact ⟨rfl,rfl,trivial⟩;exact uQ
 intro i u hinv
 obtain ⟨hi,-⟩:=hinv;refine gz4 ?_;refine uCo (fun h9=> ?_) fun h10=> ?_
 obtain ⟨x,hx⟩: ∃x,ps[i]? =some x:=⟨_,Aa h9⟩
 have hdx:=zt hx;refine zc8 ?_;refine dq ((by first|exact zw rfl|exact zn rfl)) ?_;refine gz1 ?_;refine de rfl (uZ 0 ?_)
 refine gz1 ?_;refine de rfl (ze3 (i:=3) (f:=HVal.str) (z0:=([]:Str)) zim ty9 ty9 rfl rfl rfl rfl ?_)
 refine gz5 ?_;refine dgl (h:= .bool (zhy b (zah b l n) x n)) rfl rfl (fun hc=>⟨_,OpenTo.upd (t:=52) rfl uC (OpenTo.upd (t:=51) rfl uC (OpenTo.upd (t:=50) rfl uC (OpenTo.refl _))),zbe (M1:=(zcH kb pb hb ob db ab b (zah b l n))) (R:=[_]) ca73 rfl (WeakL.refl _) (Ab _) (zhL hn1 hok.dr) (by rintro _ _ ⟨rfl,rfl⟩;exact ⟨rfl,rfl⟩)⟩) ?_;refine gz3 ?_;refine uCo (fun h11=> ?_) fun h12=> ?_
 refine gz3 ?_;refine dq (za (hs:=[_]) zu ty9 rfl rfl (by decide) (by decide) rfl) ?_;refine de rfl (zN (i:=6) zu ty9 rfl rfl rfl rfl rfl (by simp [zal,zd]) (by have:=zhS b (zah b l n) n (ps.take i);simp only [Ag,Ah,Al,AC] at*;omega) fun v59=> ?_)
 refine gz8 ?_;exact ⟨i+1,v59,⟨by omega,trivial⟩,uD,⟨rfl,rfl,trivial⟩,uK,zg (by dsimp only;rw [zoc hx,if_pos (by simp [zaG,h11.1,h11.2]),Ay];rfl)⟩;refine gz7 ?_;exact ⟨i+1,u,⟨by omega,trivial⟩,uD,⟨rfl,rfl,trivial⟩,uK,zg (by dsimp only;rw [zoc hx,if_neg (by intro q;simp [zaG] at q;have q1:=h12 (of_decide_eq_true q.1);rw [q.2] at q1;cases q1)])⟩;have hni:ps.length<=i:=by omega
 obtain rfl:i=ps.length:=by omega
 rw [Aw];refine gz2 ?_;refine zY ?_;refine gz8 ?_
 focus first
 |exact zbD rfl (zas (by rw [if_pos (by rw [fr1 h1];first|exact h1|decide)];exact zX 1) (by rw [fr1 h1];exact Weak.refl _))
 |exact zbD rfl (zas (by rw [if_pos (by rw [fr2 (by simpa using h2) uO];first|exact h1|decide)];exact zX 1) (by rw [fr2 (by simpa using h2) uO];exact Weak.refl _))
 |exact zbD rfl (zas (by rw [if_pos (by rw [fr3 (by simpa using h2) uO (by simpa using h5)];first|exact h1|decide)];exact zX 1) (by rw [fr3 (by simpa using h2) uO (by simpa using h5)];exact Weak.refl _))
 |exact zbD rfl (zas (by rw [if_pos (by rw [fr4 (by simpa using h2) uO (by simpa using h6) (by simpa using h7)];first|exact h1|decide)];exact zX 1) (by rw [fr4 (by simpa using h2) uO (by simpa using h6) (by simpa using h7)];exact Weak.refl _))
 | (refine zB ((zap 8 (i:=6) rfl rfl).trans Ghost.clear) rfl ⟨?_,rfl⟩
    show HVal.tup _=_
    rw [if_neg (fun q=>q hz0),hz0];rfl)
end
end Go.Proofs.YtahegdhbakjdoaaGreatDoor
namespace Go.HL
section
section
variable {κ:Type}
end
end
section
variable {P:Program}
open Go.Sort Go.Proofs
end
section

end
section
def zxS (x:LineS):Prop:=Sh x.Player/\∀s∈x.Stats,Sh s.Name
abbrev LnV:=LineS×Value
structure LG where
 u:Value
 out:List LnV
 a:Nat
def ztT (p:LnV):Prop:=zxS p.1/\p.1.Stats.length<=3
structure LGok (n m:Nat) (q:LG):Prop where
 len:q.out.length<=n
 all: ∀p∈q.out,ztT p
 a:q.a<=m
theorem LGok.mono {n n' m m':Nat} {q:LG} (h:LGok n m q) (hn:n<=n') (hm:m<=m'):LGok n' m' q:=⟨Ax h.len hn,h.all,Ax h.a hm⟩
theorem LGok.same {n m m':Nat} {u:Value} {out:List LnV} {a1 a2:Nat} (h:LGok n m ⟨u,out,a1⟩) (ha:a2<=m'):LGok (n+1) m' ⟨u,out,a2⟩:=⟨Nat.le_succ_of_le h.len,h.all,ha⟩
theorem LGok.add {n m m':Nat} {u u':Value} {out:List LnV} {a1 a2:Nat} {p:LnV} (h:LGok n m ⟨u,out,a1⟩) (hp:ztT p) (ha:a2<=m'):LGok (n+1) m' ⟨u',out++[p],a2⟩:=
 ⟨by have:=h.len;simp only [AB,Ah,Al] at*;omega,fun y hy=>by
  rcases List.mem_append.1 hy with hy|hy
  exact h.all y hy;rw [List.mem_singleton.1 hy];exact hp,ha⟩
end
section
/-! sums-/
def zoD (p:Str) (c:List (Of2×Int)) (s:StatS):List (Of2×Int):=zy (p,s.Name) ((alk (p,s.Name) c).getD 0+s.Count) c
def zwN (p:Str) (c:List (Of2×Int)) (l:List StatS):List (Of2×Int):=l.foldl (zoD p) c
theorem LnOk.le {q:LnS} {n m:Nat} (h:LnOk q n) (hn:n<=m):LnOk q m:=
 ⟨h.c,h.S,h.k,Ax h.cl hn,Ax h.Sl hn,fun e he=>by have:=h.bd e he;omega⟩
theorem LnOk.addC {q:LnS} {n:Nat} (h:LnOk q n) (p:Str) {s:StatS} (hb: -100000<=s.Count/\s.Count<=100000):LnOk ⟨q.S,zoD p q.c s⟩ (n+1):=by
 have hv:=h.val (p,s.Name);refine ⟨h.c.put,h.S,h.k,Ax (zoP _ _ _) (by have:=h.cl;omega),by have:=h.Sl;dsimp only;omega,fun e he=> ?_⟩
 rcases zdA he with rfl|he
 dsimp only;omega
 have:=h.bd e he;omega
theorem LnOk.row (p:Str): ∀(l:List StatS) {q:LnS} {n:Nat},LnOk q n->(∀s∈l,-100000<=s.Count/\s.Count<=100000)->LnOk ⟨q.S,zwN p q.c l⟩ (n+l.length)
 |[],q,n,h,_=>h
 |s::r,q,n,h,hb=>by
   have h1:=LnOk.row p r (h.addC p (hb s Ai)) fun y hy=>hb y (Ap _ hy)
   rw [Ah,show n+(r.length+1)=n+1+r.length by omega];exact h1
theorem zrr {κ α:Type} [DecidableEq κ]: ∀{S D:List (κ×α)},ANodup (D++S)->zpd D S=D++S
 |[],D,_=>by simp [zpd]
 |p::r,D,h=>by
   have hn:alk p.1 D=none:=by
    rw [zff];intro hm;unfold ANodup at h;rw [Ay] at h;exact (List.nodup_append.1 h).2.2 _ hm _ Ai rfl
   have e:zy p.1 p.2 D=D++[p]:=znc hn
   show zpd (zy p.1 p.2 D) r=_
   rw [e,zrr (by simpa using h)]
   simp
end
section
def stP (l:List StatS):List (Str×Int):=l.foldl (fun c s=>zy s.Name s.Count c) []
theorem zsP (l:List StatS):stP l=zpd [] (stA l):=by
 unfold stP zpd stA;rw [List.foldl_map]
theorem zuX (l:List StatS):ANodup (stP l):=by rw [zsP];exact zoo ANodup.nil
theorem zyq {l:List StatS} (h:(l.map (·.Name)).Nodup):stP l=stA l:=by
 rw [zsP,zrr (by simpa using zqa h)];rfl
def zqE (l:List StatS) (s:Str) (n:Int):List StatS:=zoF (zy s n (stP l))
theorem zu3 {κ:Type} [DecidableEq κ] {c:List (κ×Int)} (hn:ANodup c) (k:κ):(alk k (c.filter fun e=>e.2 !=0)).getD 0=(alk k c).getD 0:=by
 have hn2:ANodup (c.filter fun e=>e.2 !=0):=by
  unfold ANodup at*;exact hn.sublist (List.filter_sublist.map _)
 cases hq:alk k (c.filter fun e=>e.2 !=0) with
 |some v=>
   have h1:=(List.mem_filter.1 (zbv hq)).1;rw [(ziq hn).1 h1]
 |none=>
   cases hr:alk k c with
   |none=>rfl
   |some v=>
     by_cases hv:v=0
     rw [hv];rfl;have h1:(k,v)∈c.filter fun e=>e.2 !=0:=List.mem_filter.2 ⟨zbv hr,by simpa using hv⟩
     rw [(ziq hn2).1 h1] at hq
     cases hq
theorem zpm {c:List (Str×Int)} (hn:ANodup c):StOk (zpl c) where
 nd:=by
  unfold zpl;rw [Bb];unfold ANodup at hn;exact hn.sublist (List.filter_sublist.map _)
 nz x hx:=by
  unfold zpl at hx;obtain ⟨e,he,rfl⟩:=List.mem_map.1 hx;have:=(List.mem_filter.1 he).2
  simpa using this
theorem zuZ {c:List (Str×Int)} (hn:ANodup c):StOk (zoF c):=(zpm hn).sort
theorem ztJ {c:List (Str×Int)} (hn:ANodup c) (s:Str):sv (zoF c) s=(alk s c).getD 0:=by
 have h1:sv (zoF c) s=sv (zpl c) s:=zxO (zpm hn).nd (zb5 zhe _) s;have h2:stA (zpl c)=c.filter fun e=>e.2 !=0:=by
  unfold stA zpl;rw [Bb];exact List.map_id _
 rw [h1];unfold sv;rw [h2];exact zu3 hn s
theorem zuY {l:List StatS} (h:(l.map (·.Name)).Nodup) (hw:l.Pairwise fun a b=> ¬zhe b a<0):zaQ zhe l=l:=
 (zoi zkv (fun _ _ hx hy e=>zxp h hx hy (zcz.1 e)) (Ab _) hw).symm
theorem zr5 {l:List StatS} (h:(l.map (·.Name)).Nodup):zaQ zhe (zaQ zhe l)=zaQ zhe l:=by
 have h1:=ziU zkv (l:=l) (fun _ _=>trivial);refine zuY (((zb5 zhe l).map _).nodup_iff.2 h) (h1.imp fun {a b} hab=> ?_)
 have:=zkv.flip a b trivial trivial;have:=zkv.flip b a trivial trivial
 omega
structure RfSt (l:List StatS):Prop where
 ok:StOk l
 so:zaQ zhe l=l
theorem RfSt.nil:RfSt []:=⟨StOk.nil,rfl⟩
theorem RfSt.put {l:List StatS} (h:RfSt l) (s:Str) (n:Int):RfSt (zqE l s n)/\∀t,sv (zqE l s n) t=if t=s then n else sv l t:=by
 have hn:ANodup (zy s n (stP l)):=(zuX l).put;refine ⟨⟨zuZ hn,zr5 (zpm hn).nd⟩,fun t=> ?_⟩
 unfold zqE;rw [ztJ hn,zbQ,zyq h.ok.nd]
 by_cases e:t=s
 rw [if_pos e,if_pos e];rfl;rw [if_neg e,if_neg e];rfl
structure RfOk (G:GrS):Prop where
 nd:ANodup G
 st: ∀q∈G,RfSt q.2
theorem RfOk.get {G:GrS} (h:RfOk G) (p:Plc):RfSt ((alk p G).getD []):=by
 cases hq:alk p G with
 |none=>exact RfSt.nil
 |some l=>exact h.st _ (zbv hq)
theorem zAz {G:GrS} (h:RfOk G):GSOk G:=⟨h.nd,fun q hq=>(h.st q hq).ok⟩
theorem RfOk.put {G:GrS} (h:RfOk G) (p:Plc) (s:Str) (n:Int):RfOk (zy p (zqE ((alk p G).getD []) s n) G):=
 ⟨h.nd.put,fun q hq=>by
  rcases zdA hq with rfl|hq
  exact ((h.get p).put s n).1;exact h.st q hq⟩
end
section
theorem zpv {κ α:Type} [DecidableEq κ] (s:κ) (v v':α): ∀G:List (κ×α),zy s v' (zy s v G)=zy s v' G
 |[]=>by simp [zy]
 |p::r=>by
   have ih:=zpv s v v' r
   by_cases h:s=p.1
   simp [zy,h]
   simp [zy,h,ih]
theorem zpw {κ α:Type} [DecidableEq κ] {s:κ} {v:α}: ∀{G:List (κ×α)},alk s G=some v->zy s v G=G
 |[],h=>by simp [alk] at h
 |p::r,h=>by
   by_cases e:s=p.1
   simp only [alk,if_pos e] at h;have:=Av h;subst this;unfold zy;rw [if_pos e,e];simp only [alk,if_neg e] at h;have ih:=zpw h;simp only [zy,if_neg e,ih]
def rowI (L:List (Str×Int)) (l:List StatS):List (Str×Int):=l.foldl (fun L s=>zy s.Name ((alk s.Name L).getD 0+s.Count) L) L
theorem GrOk.row {S:List Str} {p:Str} {b:Nat}: ∀(l:List StatS) {c:List (Of2×Int)} {G:GrM Str} {L:List (Str×Int)},GrOk S c G->alk p G=some (b,L)->GrOk S (zwN p c l) (zy p (b,rowI L l) G)
 |[],c,G,L,h,hq=>by
   show GrOk S c (zy p (b,L) G)
   rw [zpw hq];exact h
 |s::r,c,G,L,h,hq=>by
   have hL:=h.get hq;have h1:=h.put hq s.Name ((alk s.Name L).getD 0+s.Count);have e:zy (p,s.Name) ((alk s.Name L).getD 0+s.Count) c=zoD p c s:=by unfold zoD;rw [hL,zpQ]
   rw [e] at h1;have h2:=GrOk.row r h1 (L:=zy s.Name ((alk s.Name L).getD 0+s.Count) L) (by rw [zbQ,if_pos rfl]);rw [zpv] at h2;exact h2
end
section
structure DisOk (q:DisS) (n:Nat):Prop where
 c:ANodup q.c
 S:q.S.Nodup
 k: ∀s∈q.S,s.length<=40
 cl:q.c.length<=n
 Sl:q.S.length<=n
 bd: ∀e∈q.c,-(100000*(n:Int))<=e.2/\e.2<=100000*(n:Int)
theorem DisOk.val {q:DisS} {n:Nat} (h:DisOk q n) (s:Str×Of2): -(100000*(n:Int))<=(alk s q.c).getD 0/\(alk s q.c).getD 0<=100000*(n:Int):=by
 cases hq:alk s q.c with
 |none=>simp;omega
 |some v=>exact h.bd _ (zbv hq)
theorem DisOk.up {q:DisS} {n:Nat} (h:DisOk q n):DisOk q (n+1):=
 ⟨h.c,h.S,h.k,by have:=h.cl;omega,by have:=h.Sl;omega,fun e he=>by have:=h.bd e he;omega⟩
theorem DisOk.sput {q:DisS} {n:Nat} (h:DisOk q n) {p:Play} (hp:playFault p=0):DisOk ⟨zdb p.Source q.S,q.c⟩ (n+1):=by
 refine ⟨h.c,zik h.S,fun s hs=> ?_,by have:=h.cl;dsimp only;omega,Ax (zsK _ _) (by have:=h.Sl;omega),fun e he=>by have:=h.bd e he;omega⟩
 rcases zkW.1 hs with rfl|hs
 exact zsv (zg2 hp).1;exact h.k s hs
theorem DisOk.put {q:DisS} {n:Nat} (h:DisOk q n) {p:Play} (hp:playFault p=0):DisOk ⟨zdb p.Source q.S,zxZ q p⟩ (n+1):=by
 have hs:=h.sput hp;obtain ⟨_,_,_,_,_,hb,_⟩:=zg2 hp;have hv:=h.val (zre p);refine ⟨h.c.put,hs.S,hs.k,Ax (zoP _ _ _) (by have:=h.cl;omega),hs.Sl,fun e he=> ?_⟩
 rcases zdA he with rfl|he
 dsimp only;omega
 have:=h.bd e he;omega
end
section

end
section
theorem zoK (x:Of2): ∀(A:List Of2) (p:Option Of2),zeS p (A++[x])=zeS p A++if (A.getLast?.or p)=some x then [] else [x]
 |[],p=>by
   by_cases h:p=some x<;>simp [zeS,h]
 |y::A,p=>by
   have ih:=zoK x A (some y);have e:((y::A).getLast?.or p)=(A.getLast?.or (some y)):=by
    cases A with
    |nil=>simp
    |cons z A=>simp [List.getLast?_cons_cons,List.getLast?_cons]
   simp only [AT,zeS];rw [e,ih]
   split<;>simp
theorem ztQ {l:List Of2} {k:Nat} {x y:Of2} (hx:l[k]? =some x) (hy:l[k-1]? =some y) (h0:0<k):zeS none (l.take (k+1))=zeS none (l.take k)++if x=y then [] else [x]:=by
 have hk:=zx hx;rw [za1 hx,zoK];have e:((l.take k).getLast?.or none)=some y:=by
  rw [List.getLast?_eq_getElem?,AC,Ce (by omega),AI (by omega),hy];rfl
 rw [e]
 by_cases h:x=y
 rw [if_pos h,if_pos (by rw [h])];rw [if_neg h,if_neg (by simpa using fun q:y=x=>h q.symm)]
structure CmpO (l:List Of2) (j:Nat) (D:List Of2):Prop where
 len:D.length=l.length
 lo:D.take (zeS none (l.take j)).length=zeS none (l.take j)
 lt:(zeS none (l.take j)).length<j
 hi: ∀i,j<=i+1->D[i]? =l[i]?
theorem CmpO.same {l D:List Of2} {j:Nat} (h:CmpO l j D) {x y:Of2} (hx:l[j]? =some x) (hy:l[j-1]? =some y) (e:x=y):CmpO l (j+1) D/\(zeS none (l.take (j+1))).length=(zeS none (l.take j)).length:=by
 have h0:=h.lt;have h1:zeS none (l.take (j+1))=zeS none (l.take j):=by rw [ztQ hx hy (by omega),if_pos e];simp
 exact ⟨⟨h.len,by rw [h1];exact h.lo,by rw [h1];omega,fun i hi=>h.hi i (by omega)⟩,by rw [h1]⟩
end
section
theorem zvl {l:List Str} {i:Nat} (h:i<l.length):l.getD i []∈l:=by
 rw [Ae,Aa h];exact BA h
end
section

end
section
open Op
end
end Go.HL
section
namespace Go.HL
section
variable {P:Program} {e:Env} {dst:Option Tmp} {ty:TypeId} {pos:String} {af:Array Edge} {g:Option (Nat×Bool)}
theorem ziZ {t el:TypeId} (hu:P.underlying t=some (.pointer el)) (a:Option Addr) (w:World):(Op.equal t (.pointer a) (.pointer none)).run P w= .ok a.isNone w:=by
 have h: ∀d,(Op.equalIn (d+1) t (.pointer a) (.pointer none)).run P w= .ok a.isNone w:=fun d=>by
  cases a<;>simp only [Op.equalIn,Sem.run_bind,run_underlying hu,Result.andThen_ok,Sem.run_pure,Option.isNone]
 exact h 9999
def zvR:Option (List HVal)->HVal
 |none=> .raw (.pointer none)
 |some cs=> .vptr cs 0
theorem zoy [Tracks] {x y:Operand} {t t' el:TypeId} {size bytes:Nat} {zero:Value} {o:Option (List HVal)} (hf:Fits P t (.ptr el) size bytes zero) (hx:zh e x=some (zvR o)) (hy:zh e y=some (.raw (.pointer none))):
 POp P e ⟨dst,.binOp .eql t x y t',ty,pos,af,g⟩ (.bool o.isNone):=
 zF fun I a w ho=>by
  have hv:=ho.one (x:=x) (by simp [Op.operands]) hx;have h2:=(ho.one (x:=y) (by simp [Op.operands]) hy).raw_inv
  cases o with
  |none=>
    have h1:=hv.raw_inv;refine ⟨_,?_,.bool _⟩
    simp [execOp,h1,h2,eqGuard,binOp,ziZ hf.ptrD]
  |some cs=>
    obtain ⟨b,base,rc,el',fr,h1,h3,h4,h5⟩:=hv.vptr_inv;refine ⟨_,?_,.bool _⟩
    simp [execOp,h1,h2,eqGuard,binOp,ziZ hf.ptrD]
end
end Go.HL
namespace Go.HL
end Go.HL
end
namespace Go.HL
section
open Op
end
section
open Op
end
section
open Op
end
section
open Op
def sp4:List Str:=[[100,102],[102,119],[103,107],[109,102]]
def nm5:List Str:=[[97,110,110],[98,101,97],[99,105,100],[100,97,110],[101,118,101]]
def sl4:List Str:=[[115,98],[115,97],[115,99],[115,100]]
def ru5:List Str:=[[114,97],[114,98],[114,99],[114,100],[114,101]]
structure GoodPy (p:PlayerS):Prop where
 name:p.Name∈zcq
 pos:p.Positions.length<=4
structure GoodPys (l:List PlayerS):Prop where
 len:l.length<=5
 all: ∀p∈l,GoodPy p
def zmw (x:SlotS):Prop:=x.Positions.length<=10
structure GoodSlos (l:List SlotS):Prop where
 len:l.length<=4
 all: ∀x∈l,zmw x
def zjX (x:SlotS):Prop:=x.Positions.length<=4
structure GoodS4s (l:List SlotS):Prop where
 len:l.length<=4
 all: ∀x∈l,zjX x
theorem GoodS4s.up {l:List SlotS} (h:GoodS4s l):GoodSlos l:=⟨h.len,fun x hx=>by have:=h.all x hx;dsimp only [zjX] at this;show x.Positions.length<=10;omega⟩
def zqK (x:HealthS):Prop:= -1000000000000000<=x.To/\x.To<=1000000000000000
structure GoodHes (l:List HealthS):Prop where
 len:l.length<=10
 all: ∀x∈l,zqK x
def ofB (L:List PlayerS) (s:Str):Bool:=decide (zag (fun x:PlayerS=>x.Key==s) L 0<0)&&(s !=[122,101,100])
theorem GoodHes.filter {l:List HealthS} {p:HealthS->Bool} (h1:l.length<=10) (h2: ∀x∈l,zqK x):GoodHes (l.filter p):=
 ⟨Ax (AW _ _) h1,fun x hx=>h2 x (List.mem_filter.1 hx).1⟩
def zu1 (x:RuleS):Prop:=(-1000000000<=x.Num/\x.Num<=1000000000)/\ -1000000000<=x.Den/\x.Den<=1000000000
structure GoodRus (l:List RuleS):Prop where
 len:l.length<=5
 all: ∀x∈l,zu1 x
theorem zsj {n g:Int} (h: -1000<=n/\n<=1000): -1000000000<=n.tdiv g/\n.tdiv g<=1000000000:=by
 have h1:(n.tdiv g).natAbs<=n.natAbs:=by
  rw [Int.natAbs_tdiv];exact Nat.div_le_self _ _
 omega
def zgY (n d:Int):Int:=((Nat.gcd n.natAbs d.natAbs:Nat):Int)
theorem zxk {n d:Int} (h:1<=d):1<=zgY n d:=by
 unfold zgY;have:=Nat.gcd_pos_of_pos_right n.natAbs (show 0<d.natAbs by omega)
 omega
end
section
open Op
def onI (W p n:Int):Int:=if 0<p then 1+((p-1-(W-1)).tmod (n-1)+(n-1)).tmod (n-1) else p
def onS (T:List Str) (W p n:Int):Str:=if T.length<=onI W p n then [] else T.getD (onI W p n).toNat []
theorem zAe {W p n:Int} (hp:0<=p/\p<=10) (hn:2<=n/\n<=10):(-10<=(p-1-(W-1)).tmod (n-1)/\(p-1-(W-1)).tmod (n-1)<=10)/\(0<=((p-1-(W-1)).tmod (n-1)+(n-1)).tmod (n-1)/\((p-1-(W-1)).tmod (n-1)+(n-1)).tmod (n-1)<=10)/\0<=onI W p n:=by
 obtain ⟨m1,m2,_⟩:=zrS (a:=p-1-(W-1)) (b:=n-1) (by omega);have h0:0<=(p-1-(W-1)).tmod (n-1)+(n-1):=by omega
 have h1:=Int.tmod_nonneg (n-1) h0;have h2:=BV ((p-1-(W-1)).tmod (n-1)+(n-1)) (show 0<n-1 by omega);refine ⟨⟨by omega,by omega⟩,⟨h1,by omega⟩,?_⟩
 unfold onI
 split<;>omega
def zgi:List Str->List Str->Int
 |[],[]=>0
 |[],_::_=> -1
 |_::_,[]=>1
 |a::l,b::m=>if zab a b≠0 then zab a b else zgi l m
theorem zvd {l m:List Str} (h:m.length<=0\/m=[]) (hl:l≠[]):zgi l m=1:=by
 have hm:m=[]:=by
  rcases h with h|h
  cases m with
  |nil=>rfl
  |cons _ _=>simp at h
  exact h
 subst hm
 cases l with
 |nil=>exact absurd rfl hl
 |cons _ _=>rfl
theorem zt9 {a b:Str} {l m:List Str} (h:zab a b=0):zgi (a::l) (b::m)=zgi l m:=by rw [zgi,if_neg (by simp [h])]
theorem zua {a b:Str} {l m:List Str} (h:zab a b≠0):zgi (a::l) (b::m)=zab a b:=by rw [zgi,if_pos h]
theorem zkK {m:List Str} {k:Nat} (h:k<m.length):m.drop k=m.getD k []::m.drop (k+1):=by
 rw [List.drop_eq_getElem_cons h,Ae,Aa h];rfl
theorem zq7 {m:List Str} (k:Nat):zgi [] (m.drop k)=if k<m.length then-1 else 0:=by
 split
 rename_i h;rw [zkK h];rfl
 rename_i h;rw [Bo (by omega)];rfl
def znd (x y:FixS):Int:=if zfa [x.Week,x.At] [y.Week,y.At]≠0 then zfa [x.Week,x.At] [y.Week,y.At] else zgi [x.Home] [y.Home]
theorem zu7:Cmp znd fun _=>True:=by
 have h:=zdQ (zfE FixS.Week) (zdQ (zfE FixS.At) (zgx FixS.Home));have e:znd=fun a b=>if zaj a.Week b.Week≠0 then zaj a.Week b.Week else if zaj a.At b.At≠0 then zaj a.At b.At else zab a.Home b.Home:=by
  funext a b
  unfold znd;have e1:zfa [a.Week,a.At] [b.Week,b.At]=if zaj a.Week b.Week≠0 then zaj a.Week b.Week else zaj a.At b.At:=by
   rw [zfa,zfa,zfa]
   by_cases h2:zaj a.At b.At≠0
   rw [if_pos h2];rw [if_neg h2];simp at h2;rw [h2]
  have e2:zgi [a.Home] [b.Home]=zab a.Home b.Home:=by
   rw [zgi,zgi]
   by_cases h2:zab a.Home b.Home≠0
   rw [if_pos h2];rw [if_neg h2];simp at h2;rw [h2]
  rw [e1,e2]
  by_cases h1:zaj a.Week b.Week≠0
  rw [if_pos h1,if_pos h1,if_pos h1];rw [if_neg h1,if_neg h1]
 rw [e];exact h
def nOf (T:List Str):Int:=(T.length:Int)+(T.length:Int).tmod 2
def mOf (T:List Str):Int:=(nOf T).tdiv 2
theorem zyf {T:List Str} (h:2<=T.length/\T.length<=4):(0<=(T.length:Int).tmod 2/\(T.length:Int).tmod 2<=1)/\(2<=nOf T/\nOf T<=4)/\(1<=mOf T/\mOf T<=2)/\2*mOf T=nOf T:=by
 have h3:T.length=2\/T.length=3\/T.length=4:=by omega
 unfold mOf nOf
 rcases h3 with e|e|e<;>(rw [e];decide)
theorem zsn {w:Nat} {x y:Str} (h:w<=10):GamB ⟨(w:Int)+1,x,y,false,0,0,0,0⟩:=⟨by dsimp only;omega,by dsimp only;omega,by dsimp only;omega⟩
structure GoodGas (l:List GameS):Prop where
 len:l.length<=6
 all: ∀x∈l,GamB x
def tm4:List Str:=[[116,97],[116,98],[116,99],[116,100]]
theorem ze1 {y:Int} (h:2<=y):HasAB (tm4.take y.toNat):=by
 obtain ⟨n,hn⟩: ∃n,y.toNat=n+2:=⟨y.toNat-2,by omega⟩
 rw [hn];unfold HasAB tm4
 constructor<;>simp
structure LeaC (g:LeagueS):Prop where
 lea:LeaB g
 gw: ∀x∈g.Games,GamB x
 tr: ∀s∈g.Trust,Sh s
 sl:g.Slots.length<=4
 tm:g.Teams.length<=5
 pl:g.Players.length<=5
 tt:HasAB g.Teams
theorem zit {g:LeagueS} (h1:GoodPys g.Players) (h2:g.Stints.length<=10) (h3:g.Fixtures.length<=12) (h4:GoodRus g.Rules) (h5:GoodSlos g.Slots) (h6:g.Teams.length<=5) (h7:g.Games.length<=6/\∀x∈g.Games,GamB x)
 (h8:g.Breaks.length<=6) (h9:g.Trust.length<=100/\∀s∈g.Trust,Sh s) (h10: -1<=g.Start/\g.Start<=1000000000000) (h11:HasAB g.Teams):LeaC g:=by
 have l1:=h1.len;have l4:=h4.len;have l5:=h5.len;refine ⟨⟨by omega,fun p hp=>(h1.all p hp).name,fun p hp=>by have:=(h1.all p hp).pos;omega,by omega,by omega,by omega,fun x hx=>h4.all x hx,by omega,fun x hx=>by have:=h5.all x hx;dsimp only [zmw] at this;omega,by omega,by omega,
  fun x hx=>⟨(h7.2 x hx).fr,(h7.2 x hx).ot⟩,by omega,by omega,by omega⟩,h7.2,h9.2,l5,h6,l1,h11⟩
structure LeaD (g:LeagueS):Prop where
 pl:GoodPys g.Players
 fx:g.Fixtures.length<=12
 ru:GoodRus g.Rules
 sl:GoodS4s g.Slots
 tm:2<=g.Teams.length/\g.Teams.length<=4
 br:g.Breaks.length<=6
 tr:GoodTr g.Trust
 sta: -1<=g.Start/\g.Start<=1000000000000
 tt:HasAB g.Teams
end
section
open Op
structure HalfG {α:Type} (a b l:List α):Prop where
 sa:List.Sublist a l
 sb:List.Sublist b l
theorem HalfG.nil {α:Type}:HalfG ([]:List α) [] []:=⟨Be _,Be _⟩
theorem HalfG.left {α:Type} {a b l:List α} (h:HalfG a b l) (x:α):HalfG (a++[x]) b (l++[x]):=
 ⟨h.sa.append (Be _),h.sb.trans (BB _ _)⟩
theorem HalfG.right {α:Type} {a b l:List α} (h:HalfG a b l) (x:α):HalfG a (b++[x]) (l++[x]):=
 ⟨h.sa.trans (BB _ _),h.sb.append (Be _)⟩
abbrev MvS:={m:MoveS//MovB m}
abbrev zc7 (x:MvS):HVal:=zcK x.1
def zv4 (x y:MvS):Int:=zga x.1 y.1
theorem zt3:Cmp zv4 fun _=>True:=zs0
end
section
theorem zqZ: ∀a b:Str,Op.bytesLess a b=decide (a<b)
 |[],[]=>by simp [Op.bytesLess]
 |_::_,[]=>by simp [Op.bytesLess]
 |[],_::_=>by simp [Op.bytesLess]
 |a::x,b::y=>by
   have ih:=zqZ x y;rw [AL,decide_eq_true_iff,List.cons_lt_cons_iff];unfold Op.bytesLess;rw [ih]
   simp
structure Half (a b l:List Play):Prop where
 sa:a.Sublist l
 sb:b.Sublist l
 all: ∀x∈l,x∈a\/x∈b
theorem Half.nil:Half [] [] []:=⟨Be _,Be _,fun x h=>by cases h⟩
theorem Half.left {a b l:List Play} (h:Half a b l) (x:Play):Half (a++[x]) b (l++[x]):=
 ⟨h.sa.append (Be _),h.sb.trans (BB _ _),fun y hy=>by
  rcases List.mem_append.1 hy with hy|hy
  rcases h.all y hy with q|q
  exact .inl (As _ q);exact .inr q;exact .inl (Br _ hy)⟩
theorem Half.right {a b l:List Play} (h:Half a b l) (x:Play):Half a (b++[x]) (l++[x]):=
 ⟨h.sa.trans (BB _ _),h.sb.append (Be _),fun y hy=>by
  rcases List.mem_append.1 hy with hy|hy
  rcases h.all y hy with q|q
  exact .inl q;exact .inr (As _ q);exact .inr (Br _ hy)⟩
end
section

end
section
open Op
def zqJ (x:ChoiceS):Prop:=(∀s∈x.Players,Sh s)/\Sh x.Captain/\x.Players.length<=5
def GoodC4 (x:ChoiceS):Prop:=(∀s∈x.Players,Sh s)/\Sh x.Captain/\x.Players.length<=4
theorem GoodC4.up {x:ChoiceS} (h:GoodC4 x):zqJ x:=⟨h.1,h.2.1,Nat.le_succ_of_le h.2.2⟩
structure GoodChs (l:List ChoiceS):Prop where
 len:l.length<=20
 all: ∀x∈l,zqJ x
structure BookG (b:BookS):Prop where
 lea:LeaC b.League
 mv:b.Moves.length<=10
 mb: ∀x∈b.Moves,MovB x
 pl:GoodPl b.Plays
 me:GoodMds b.Mends
 he:GoodHes b.Health
 ch:GoodChs b.Choices
theorem BookG.c {b:BookS} (h:BookG b):BookC b:=by
 have a1:=h.mv;have a2:=h.pl.len;have a3:=h.me.len;have a4:=h.he.len;have a5:=h.ch.len;exact ⟨⟨h.lea.lea,by omega,by omega,by omega,by omega,by omega,fun x hx=>by have:=(h.ch.all x hx).2.2;omega⟩,h.lea.gw,h.mb,h.he.all,h.lea.tr,h.pl.all,h.me.all,fun x hx=>⟨(h.ch.all x hx).1,(h.ch.all x hx).2.1⟩,by omega,by omega,by omega,by omega,by omega,h.lea.tt⟩
def g0L:LeagueS:=⟨[],[],[],[],[⟨[115,97],[[103,107]]⟩],⟨3,0,5,0⟩,[[116,97],[116,98]],[],[],[],0⟩
theorem g0_b:LeaB g0L:=
 ⟨by decide,fun _ h=>(by cases h),fun _ h=>(by cases h),by decide,by decide,by decide,fun _ h=>(by cases h),by decide,fun x hx=>(by simp only [g0L,List.mem_singleton] at hx;subst hx;decide),by decide,by decide,fun _ h=>(by cases h),by decide,by decide,by decide⟩
theorem g0_E:zbp g0L=0:=by decide
theorem g0_W:zcP g0L 604800000=2:=by decide
theorem g0_M:zL 604800000=true:=by decide
end
section
open Go
theorem zju: ∀{l:List Int},orI l=0->∀x∈l,x=0
 |[],_,x,h=>by cases h
 |y::r,h,x,hx=>by
   unfold orI at h
   by_cases e:y≠0
   rw [if_pos e] at h;exact absurd h e;rw [if_neg e] at h
   rcases List.mem_cons.1 hx with rfl|q
   exact Decidable.not_not.1 e;exact zju h x q
theorem zwJ {g:LeagueS} (h:zbp g=0):zgX g=0:=by
 unfold zbp at h
 by_cases e:zgX g≠0
 rw [if_pos e] at h;exact h;exact Decidable.not_not.1 e
theorem zt1 {b:BookS} (h:zbR b=0):zbp b.League=0/\orI [zcj b.Moves,zf8 b.Plays,zeY b.Mends,zo8 b.League.Players b.Health,zo1 b.League.Teams b.League.Slots.length b.Choices]=0:=by
 unfold zbR at h
 by_cases e:zbp b.League≠0
 rw [if_pos e] at h;exact absurd h e;rw [if_neg e] at h;exact ⟨Decidable.not_not.1 e,h⟩
structure BookF (b:BookS):Prop where
 bo:zcl b.League.Bounds=0
 mo:zcj b.Moves=0
 ps:b.League.Players.length<=500
 ky: ∀p∈b.League.Players,key p.Key=true
theorem zlA {b:BookS} (h:zbR b=0):BookF b:=by
 obtain ⟨h1,h2⟩:=zt1 h;have h3:=zju (zwJ h1);have h4:zfZ b.League.Players b.League.Stints=0:=h3 _ (by simp);have h5:zbX b.League.Players=0:=by
  unfold zfZ at h4
  by_cases e:zbX b.League.Players≠0
  rw [if_pos e] at h4;exact h4;exact Decidable.not_not.1 e
 obtain ⟨h6,h7⟩:=zki h5;refine ⟨h3 _ (by simp),zju h2 _ (by simp),h6,fun p hp=> ?_⟩
 obtain ⟨i,hi,rfl⟩:=A1 hp;have:=h7 i _ (Aa hi);unfold zcF at this
 by_cases e:key b.League.Players[i].Key=false
 rw [if_pos e] at this;cases this
 simpa using e
abbrev zkS (b:BookS):List Str:=b.League.Players.map (·.Key)
def mfE (b:BookS) (n:Int):Int:=if zbR b≠0 then zbR b else if zL n=false then 1 else 0
def zdG (b:BookS) (n:Int):Int:=if mfE b n≠0 then mfE b n else frE b.League.Bounds b.Moves (zkS b) n
def zem (b:BookS) (n:Int):List Str:=if zdG b n≠0 then [] else zb0 b.League.Bounds (zah b.League.Bounds b.Moves n) n (zkS b)
theorem BookF.fr {b:BookS} (h:BookF b) {n:Int} (hn:zL n=true):frE b.League.Bounds b.Moves (zkS b) n=0:=by
 refine zsi (by simp [orI,h.bo,h.mo]) (by simp;exact h.ps) ?_ hn
 rw [List.any_eq_false]
 intro s hs
 obtain ⟨p,hp,rfl⟩:=List.mem_map.1 hs;rw [h.ky p hp];simp
theorem zpG {b:BookS} (h:zbR b=0) {n:Int} (hn:zL n=true):zdG b n=0/\zem b n=zb0 b.League.Bounds (zah b.League.Bounds b.Moves n) n (zkS b):=by
 have hm:mfE b n=0:=by unfold mfE;rw [if_neg (fun q=>q h),if_neg (by rw [hn];simp)]
 have he:zdG b n=0:=by unfold zdG;rw [if_neg (fun q=>q hm)];exact (zlA h).fr hn
 exact ⟨he,by unfold zem;rw [if_neg (fun q=>q he)]⟩
end
section
open Go
def zfJ (who:Str) (w:Int) (x:HealthS):Bool:=(x.Player==who&&decide (x.From<=w))&&decide (w<x.To)
def zcC (h:List HealthS) (who:Str) (w:Int):Int:=((h.find? (zfJ who w)).map (·.Kind)).getD 0
def zdw (who:Str) (w:Int) (c:Str):List StintS->Str
 |[]=>c
 |s::r=>zdw who w (if s.Player=who/\s.Week<=w then s.Club else c) r
def zaY (l:List StintS) (who:Str) (w:Int):Str:=zdw who w [] l
def ziT (club:Str) (w:Int) (x:FixS):Bool:=x.Week==w&&(x.Home==club||x.Away==club)
def zbj (f:List FixS) (club:Str) (w:Int):List FixS:=f.filter (ziT club w)
def zgR (l:List StintS) (f:List FixS) (who:Str) (w:Int):Int:=if zaY l who w=[] then 0 else (((zbj f (zaY l who w) w).head?).map (·.At)).getD 0
def zdZ (l:List StintS) (f:List FixS) (who:Str) (w:Int):Bool:=if zaY l who w=[] then false else decide (0<(zbj f (zaY l who w) w).length)
def zmx (L:List PlayerS) (who:Str) (w:Int):Int:=if zbM L who=false then 8 else if zbc w=false then 1 else 0
def zkc (a b:List Str):Bool:=a.any fun s=>b.contains s
def zkR (team:Str) (w at' before:Int) (x:ChoiceS):Bool:=((x.Team==team&&x.Week==w)&&decide (x.At<=at'))&&decide (x.At<before)
def zjj (team:Str) (w at' before:Int) (o:Option ChoiceS):List ChoiceS->Option ChoiceS
 |[]=>o
 |x::r=>zjj team w at' before (if zkR team w at' before x=true then some x else o) r
def zcT (l:List ChoiceS) (team:Str) (w at' before:Int):Option ChoiceS:=zjj team w at' before none l
def zi:Str:=[103,111,110,101]
def zo:Str:=[111,117,116]
def zj:Str:=[105,100,108,101]
def zk:Str:=[116,121,112,101]
def zea (b:BookS) (own:List Str) (key:Str) (s:SlotS) (w:Int):Str:=
 match b.League.Players.find? (fun p=>p.Key==key) with
 |none=>zi
 |some p=>if own.contains key=false then zi else if zcC b.Health key w=2 then zo else if zdZ b.League.Stints b.League.Fixtures key w=false then zj else if zkc p.Positions s.Positions=false then zk else []
theorem zn3 {team:Str} {w at' before:Int} {o:Option ChoiceS} {l:List ChoiceS} {c:ChoiceS} (h:zjj team w at' before o l=some c):o=some c\/c∈l/\zkR team w at' before c=true:=by
 induction l generalizing o with
 |nil=>exact .inl h
 |cons y r ih=>
   rcases ih h with q|⟨q1,q2⟩
   by_cases e:zkR team w at' before y=true
   rw [if_pos e] at q;cases q;exact .inr ⟨Ai,e⟩;rw [if_neg e] at q;exact .inl q;exact .inr ⟨Ap _ q1,q2⟩
end
section
open Op (bytesLess)
theorem zuP {α:Type} {R:α->α->Prop}: ∀{l:List α},l.Pairwise R->∀x∈l,∀y∈l,x=y\/R x y\/R y x
 |[],_,x,hx,_,_=>by simp at hx
 |a::l,h,x,hx,y,hy=>by
   obtain ⟨h1,h2⟩:=List.pairwise_cons.1 h
   rcases List.mem_cons.1 hx with e|hx'<;>rcases List.mem_cons.1 hy with e'|hy'
   exact .inl (e.trans e'.symm);exact .inr (.inl (e▸h1 y hy'));exact .inr (.inr (e'▸h1 x hx'));exact zuP h2 x hx' y hy'
/-! keeps that are right-/
def kLt (a b:Keep):Prop:=bytesLess a.Team b.Team=true\/(a.Team=b.Team/\a.Round<b.Round)
theorem zx4 {a b:Keep} (h: ¬orI [zab b.Team a.Team,zaj b.Round a.Round]<=0):kLt a b:=by
 rw [zfF] at h
 rcases zcO a.Team b.Team with h1|h1|h1
 exact .inl h1;refine .inr ⟨h1,?_⟩
 rw [h1] at h
 simp [zaK,orI,zaj] at h
 split at h
 omega
 split at h<;>omega
 rw [h1] at h;simp [orI] at h
structure KeepsOk (r:Room) (k:List Keep):Prop where
 all: ∀x∈k,x.Team∈r.Teams/\x.Player∈r.Players/\1<=x.Round/\x.Round<=r.Rounds
 lt:k.Pairwise kLt
theorem zts {r:Room} {l:List Keep}: ∀(t:List Keep) (k:Nat) (kept:List Str) (tw:Bool),l.drop k=t->zpa r l k kept tw t=0->
 (∀x∈t,x.Team∈r.Teams/\x.Player∈r.Players/\1<=x.Round/\x.Round<=r.Rounds)/\∀(i:Nat) (a b:Keep),k<=i+1->l[i]? =some a->l[i+1]? =some b->kLt a b
 |[],k,kept,tw,hd,h=>⟨by simp,fun i a b hi ha hb=>by
    have:=zx hb;have h2:l.length<=k:=by rw [<-List.drop_eq_nil_iff];exact hd
    omega⟩
 |x::t,k,kept,tw,hd,h=>by
   have hk:l[k]? =some x:=by
    have:=congrArg (fun q=>q[0]?) hd
    simpa using this
   have hd':l.drop (k+1)=t:=by
    have:=zt hk;rw [hd] at this;simp at this;exact this.symm
   simp only [zpa] at h
   split at h
   omega
   rename_i h1
   split at h
   omega
   rename_i h2
   split at h
   omega
   rename_i h3
   obtain ⟨h4,h5⟩:=zts t (k+1) _ _ hd' h;have h2':=zeP (by simpa using h2);refine ⟨fun y hy=> ?_,fun i a b hi ha hb=> ?_⟩
   rcases List.mem_cons.1 hy with rfl|hy
   simp at h1;exact ⟨h1.1,h1.2,h2'⟩
   exact h4 y hy
   by_cases e:k=i+1
   subst e;rw [hk] at hb;cases hb;refine zx4 fun hc=>h3 ?_
   simp [List.getD,ha];exact hc
   exact h5 i a b (by omega) ha hb
theorem zmm {l:List Str}: ∀(r:List Str) (k:Nat),zcu l k r=0->∀s∈r,key s=true
 |[],_,_,s,hs=>by simp at hs
 |x::r,k,h,s,hs=>by
   simp only [zcu] at h
   split at h
   omega
   rename_i h1
   split at h
   omega
   rcases List.mem_cons.1 hs with rfl|hs
   simpa using h1
   exact zmm r (k+1) h s hs
def ztp (t:Turn) (x:Keep):Bool:=decide (x.Team=t.of/\x.Round=t.round)
theorem KeepsOk.one {r:Room} {k:List Keep} (h:KeepsOk r k) {t:Turn} {x y:Keep} (hx:x∈k) (hy:y∈k) (fx:ztp t x=true) (fy:ztp t y=true):y=x:=by
 simp [ztp] at fx fy
 rcases zuP h.lt x hx y hy with e|e|e
 exact e.symm
 exfalso
 rcases e with e|⟨e1,e2⟩
 rw [fx.1,fy.1,zaK] at e;cases e
 omega
 exfalso
 rcases e with e|⟨e1,e2⟩
 rw [fx.1,fy.1,zaK] at e;cases e
 omega
def zqA (k:List Keep) (l:List Pick) (s:Str):Bool:=k.any (fun x=>x.Player==s)||l.any (fun p=>p.Player==s)
end
section
open Go
theorem zAp {L:List PlayerS} {s:Str} (hs:SortedS (L.map (·.Key))) (h:(L.map (·.Key)).contains s=true):
 ∃p,L[zdC (L.map (·.Key)) s]? =some p/\p.Key=s/\L.find? (fun p=>p.Key==s)=some p:=by
 obtain ⟨h1,h2⟩:=zxD hs h;have hl:zdC (L.map (·.Key)) s<L.length:=by simpa using zx h1
 refine ⟨L[zdC (L.map (·.Key)) s],Aa hl,?_,?_⟩
 rw [Aj,Aa hl] at h1
 simpa using h1
 rw [List.find?_eq_some_iff_getElem];refine ⟨?_,_,hl,rfl,fun j hj=> ?_⟩
 rw [Aj,Aa hl] at h1
 simpa using h1
 have:=h2 j (L[j]'(by omega)).Key hj (by rw [Aj,Aa (by omega)];rfl)
 simpa using this
theorem zsE {L:List PlayerS} {s:Str} (h:(L.map (·.Key)).contains s=false):L.find? (fun p=>p.Key==s)=none:=by
 rw [List.find?_eq_none]
 intro p hp q
 have:(L.map (·.Key)).contains s=true:=by
  simp only [Ca,decide_eq_true_eq];exact List.mem_map.2 ⟨p,hp,by simpa using q⟩
 rw [h] at this;cases this
abbrev plO (L:List PlayerS) (s:Str):Option PlayerS:=L.find? (fun p=>p.Key==s)
abbrev pPl (o:Option PlayerS):HVal:=zvR (o.map fun p=>zd (zcE p))
abbrev pCh (o:Option ChoiceS):HVal:=zvR (o.map fun c=>zd (z8 c))
theorem zjQ {α:Type} {p:α->Bool} {l:List α} {i:Nat} {x:α} (hx:l[i]? =some x):(l.take (i+1)).filter p=if p x=true then (l.take i).filter p++[x] else (l.take i).filter p:=by
 rw [za1 hx,A8]
 split
 rename_i h;rw [BG h];rfl
 rename_i h;rw [BF h];simp
theorem zjx {who:Str} {w:Int} {x:HealthS} {r:List HealthS} (hc:zfJ who w x=true):zcC (x::r) who w=x.Kind:=by
 unfold zcC;rw [List.find?_cons_of_pos hc];rfl
theorem zrO {who:Str} {w:Int} {x:HealthS} {r:List HealthS} (hc:zfJ who w x=false):zcC (x::r) who w=zcC r who w:=by
 unfold zcC;rw [List.find?_cons_of_neg (by rw [hc];simp)]
theorem zw5 {L:List PlayerS} {h:List HealthS} (hz:ziS L h=0):zbX L=0:=by
 unfold ziS at hz
 by_cases e:zbX L≠0
 rw [if_pos e] at hz;exact hz;exact Decidable.not_not.1 e
theorem zxN {L:List PlayerS} {h:List StintS} (hz:zfZ L h=0):zbX L=0:=by
 unfold zfZ at hz
 by_cases e:zbX L≠0
 rw [if_pos e] at hz;exact hz;exact Decidable.not_not.1 e
theorem ztW {L:List PlayerS} {s:Str} {w:Int} (h1:zbM L s=true) (h2:zbc w=true):zmx L s w=0:=by
 unfold zmx;rw [if_neg (by rw [h1];simp),if_neg (by rw [h2];simp)]
theorem zod {f:List FixS} {c:Str} {w:Int} {i:Nat} {x:FixS} (hx:f[i]? =some x):zbj (f.take (i+1)) c w=if ziT c w x=true then zbj (f.take i) c w++[x] else zbj (f.take i) c w:=zjQ hx
theorem zl3 (f:List FixS) (c:Str) (w:Int):(zbj f c w).length<=f.length:=AW _ _
theorem zgT {l:List StintS} {f:List FixS} {who:Str} {w:Int} (h:zaY l who w=[]):zgR l f who w=0/\zdZ l f who w=false:=by
 unfold zgR zdZ;rw [if_pos h,if_pos h];exact ⟨rfl,rfl⟩
theorem zgS {l:List StintS} {f:List FixS} {who:Str} {w:Int} (h:zbj f (zaY l who w) w=[]):zgR l f who w=0/\zdZ l f who w=false:=by
 unfold zgR zdZ;rw [h]
 split<;>exact ⟨rfl,rfl⟩
theorem zgU {l:List StintS} {f:List FixS} {who:Str} {w:Int} {x:FixS} {r:List FixS} (h0:zaY l who w≠[]) (h:zbj f (zaY l who w) w=x::r):zgR l f who w=x.At/\zdZ l f who w=true:=by
 unfold zgR zdZ;rw [h,if_neg h0,if_neg h0];exact ⟨rfl,by simp⟩
abbrev zkL (t:Str) (p h:List Str):HVal:= .agg [.str t,eSs p,eSs h]
abbrev zmC (b:BookS) (n:Int):HVal:= .agg [.vptr (zd (zbg b)) 0,.int .i64 n]
def zd8 (b:BookS) (t:Str) (w n:Int):Int:=if zbR b≠0 then zbR b else if b.League.Teams.contains t=false then 8 else if zbc w=false\/zL n=false then 1 else 0
def zhu (b:BookS) (own:List Str) (c:ChoiceS) (w:Int) (i:Nat):Option PairS:=
 if c.Players.getD i []=[] then none else if zea b own (c.Players.getD i []) (b.League.Slots.getD i zk8) w=[] then none
 else some ⟨(b.League.Slots.getD i zk8).Key,zea b own (c.Players.getD i []) (b.League.Slots.getD i zk8) w⟩
def zmu (b:BookS) (own:List Str) (c:ChoiceS) (w:Int) (n:Nat):List PairS:=(List.range n).filterMap (zhu b own c w)
def zf2 (b:BookS) (t:Str) (w n:Int):Option ChoiceS->List PairS
 |none=>[]
 |some c=>zmu b (rPl (zah b.League.Bounds b.Moves n) t) c w b.League.Slots.length
def zf1 (b:BookS) (t:Str) (w n:Int):List PairS:=if zd8 b t w n≠0 then [] else zf2 b t w n (zcT b.Choices t w n 345686400000)
theorem zfO {b:BookS} {own:List Str} {s:Str} {x:SlotS} {w:Int} (h:plO b.League.Players s=none):zea b own s x w=zi:=by
 unfold zea;rw [show b.League.Players.find? (fun p=>p.Key==s)=none from h]
theorem zcQ {b:BookS} {own:List Str} {s:Str} {x:SlotS} {w:Int} {p:PlayerS} (h:plO b.League.Players s=some p):
 zea b own s x w=if own.contains s=false then zi else if zcC b.Health s w=2 then zo else if zdZ b.League.Stints b.League.Fixtures s w=false then zj else if zkc p.Positions x.Positions=false then zk else []:=by
 unfold zea;rw [show b.League.Players.find? (fun p=>p.Key==s)=some p from h]
theorem zhv {b:BookS} {t:Str} {w n:Int} (h: ¬zd8 b t w n=0):zf1 b t w n=[]:=by unfold zf1;rw [if_pos h]
theorem znJ {b:BookS} {t:Str} {w n:Int} (h:zd8 b t w n=0) (hc:zcT b.Choices t w n 345686400000=none):zf1 b t w n=[]:=by
 unfold zf1;rw [if_neg (fun q=>q h),hc];rfl
theorem zm (b:BookS) (own:List Str) (c:ChoiceS) (w:Int) (n:Nat):zmu b own c w (n+1)=zmu b own c w n++(zhu b own c w n).toList:=by
 unfold zmu;rw [List.range_succ,List.filterMap_append]
 cases h:zhu b own c w n<;>simp [h]
theorem zdD (b:BookS) (own:List Str) (c:ChoiceS) (w:Int) (n:Nat):(zmu b own c w n).length<=n:=by
 have:=List.length_filterMap_le (zhu b own c w) (List.range n);unfold zmu;simpa using this
theorem zps {b:BookS} {t:Str} {w n:Int} (h:zd8 b t w n=0):zbR b=0/\b.League.Teams.contains t=true/\zbc w=true/\zL n=true:=by
 unfold zd8 at h
 by_cases h1:zbR b≠0
 rw [if_pos h1] at h;exact absurd h h1;rw [if_neg h1] at h
 by_cases h2:b.League.Teams.contains t=false
 rw [if_pos h2] at h;cases h;rw [if_neg h2] at h
 by_cases h3:zbc w=false\/zL n=false
 rw [if_pos h3] at h;cases h;rw [not_or] at h3;exact ⟨Decidable.not_not.1 h1,by simpa using h2,by simpa using h3.1,by simpa using h3.2⟩
structure BookW (b:BookS):Prop where
 f:BookF b
 st:zfZ b.League.Players b.League.Stints=0
 fx:zhm b.League.Fixtures=0
 he:ziS b.League.Players b.Health=0
 py:zbX b.League.Players=0
 so:SortedS (b.League.Players.map (·.Key))
 ch: ∀c∈b.Choices,c.Players.length=b.League.Slots.length/\zbc c.Week=true/\zL c.At=true
 tm: ∀t,b.League.Teams.contains t=true->key t=true
 sl:b.League.Slots.length<=12
theorem zwW {T:List Str} {n:Nat} {l:List ChoiceS} (h:zo1 T n l=0) {c:ChoiceS} (hc:c∈l):c.Players.length=n/\zbc c.Week=true/\zL c.At=true:=by
 obtain ⟨_,h2⟩:=zki h;obtain ⟨i,hi,rfl⟩:=A1 hc;have:=h2 i _ (Aa hi);unfold zbT at this
 split at this
 omega
 split at this
 omega
 split at this
 omega
 rename_i h3 h4
 rw [not_or] at h3;exact ⟨Decidable.not_not.1 h4,by simpa using h3.1,by simpa using h3.2⟩
theorem zqX {b:BookS} (h:zbR b=0):BookW b:=by
 obtain ⟨h1,h2⟩:=zt1 h;have h3:=zju (zwJ h1);have h4:zfZ b.League.Players b.League.Stints=0:=h3 _ (by simp);have h5:zbX b.League.Players=0:=by
  unfold zfZ at h4
  by_cases e:zbX b.League.Players≠0
  rw [if_pos e] at h4;exact h4;exact Decidable.not_not.1 e
 have h6:zfV b.League.Teams b.League.Games=0:=h3 _ (by simp);have h7:zcX b.League.Teams=0:=by
  unfold zfV at h6
  by_cases e:zcX b.League.Teams≠0
  rw [if_pos e] at h6;exact h6;exact Decidable.not_not.1 e
 have h8:zgD b.League.Teams=0:=by
  unfold zcX at h7
  split at h7
  cases h7
  split at h7
  cases h7
  exact h7
 have h9:zeg b.League.Slots=0:=h3 _ (by simp);have h10:zo1 b.League.Teams b.League.Slots.length b.Choices=0:=zju h2 _ (by simp);refine ⟨zlA h,h4,h3 _ (by simp),?_,h5,zih h5,fun c hc=>zwW h10 hc,fun t ht=>zmm _ 0 h8 t (by simpa using ht),?_⟩
 unfold ziS;rw [if_neg (fun q=>q h5)];exact zju h2 _ (by simp);unfold zeg at h9
 split at h9
 cases h9
 split at h9
 cases h9
 omega
end
section
open Go
structure WhS where
 team:Str
 hurt:Bool
 dropped:Int
structure OffS where
 W:List (Str×WhS)
 A:List (Str×List Int)
def wh0:WhS:=⟨[],false,-1⟩
def zrv:OffS:=⟨[],[]⟩
def ofO (o:OffS) (p:Str):WhS:=(alk p o.W).getD wh0
def isO (t:Str) (h:Bool) (x:Str×WhS):Bool:=x.2.team==t&&x.2.hurt==h
def zmG (o:OffS) (t:Str) (h:Bool):Nat:=(o.W.filter (isO t h)).length
def zgG (o:OffS) (t:Str):List Int:=(alk t o.A).getD []
def zh0 (n m:Int):Bool:=Int.tdiv m 604800000==Int.tdiv n 604800000
def zjY (o:OffS) (t:Str) (n:Int):Nat:=(zgG o t).countP (zh0 n)
def zjn (b:BoundS) (o:OffS) (p:Str) (n:Int):Bool:=if 0<=(ofO o p).dropped then decide (n-(ofO o p).dropped<b.Hold) else false
def zar (b:BoundS) (o:OffS) (m:MoveS):Int:=
 if m.Kind=1 then
  if (ofO o m.Player).team=m.Team then 6 else if (ofO o m.Player).team≠[] then 13 else if zjn b o m.Player m.At=true then 11
  else if b.Adds<=(zjY o m.Team m.At:Int) then 16 else if b.Most<=(zmG o m.Team false:Int) then 12 else 0
 else if m.Kind=2 then if (ofO o m.Player).team≠m.Team then 8 else 0
 else if (ofO o m.Player).team≠m.Team\/(ofO o m.Player).hurt=decide (m.Kind=3) then 8
 else if (if m.Kind=3 then b.Hurt else b.Most)<=(zmG o m.Team (decide (m.Kind=3)):Int) then 12 else 0
def zft (b:BoundS) (o:OffS) (m:MoveS):OffS:=
 if zar b o m≠0 then o
 else if m.Kind=1 then ⟨zy m.Player ⟨m.Team,false,(ofO o m.Player).dropped⟩ o.W,zy m.Team (zgG o m.Team++[m.At]) o.A⟩
 else if m.Kind=2 then ⟨zy m.Player ⟨[],false,m.At⟩ o.W,o.A⟩
 else ⟨zy m.Player ⟨(ofO o m.Player).team,decide (m.Kind=3),(ofO o m.Player).dropped⟩ o.W,o.A⟩
def zg0 (b:BoundS) (n:Int) (o:OffS):List MoveS->OffS
 |[]=>o
 |x::r=>zg0 b n (if x.At<=n then zft b o x else o) r
def oAt (b:BoundS) (l:List MoveS) (n:Int):OffS:=zg0 b n zrv l
theorem zxq {p q:Str} {v:WhS} {W:List (Str×WhS)} {A:List (Str×List Int)}:ofO ⟨zy p v W,A⟩ q=if q=p then v else (alk q W).getD wh0:=by
 unfold ofO;rw [zbQ];split<;>rfl
structure Rel (k:RosS) (o:OffS):Prop where
 tm: ∀p,(ofO o p).team=zaG k p
 pl: ∀p t,t≠[]->(p∈rPl k t↔(ofO o p).team=t/\(ofO o p).hurt=false)
 hu: ∀p t,t≠[]->(p∈rHu k t↔(ofO o p).team=t/\(ofO o p).hurt=true)
 dr: ∀p,(ofO o p).dropped=(alk p k.D).getD (-1)
 ad: ∀t n,zaZ k (t,Int.tdiv n 604800000)=(zjY o t n:Int)
 nd:ANodup o.W
 od:ANodup k.O
theorem rel0:Rel znB zrv:=
 ⟨fun _=>rfl,fun p t ht=>⟨fun h=>(by cases h),fun h=>absurd h.1.symm ht⟩,fun p t ht=>⟨fun h=>(by cases h),fun h=>absurd h.1.symm ht⟩,fun _=>rfl,fun _ _=>rfl,A4,A4⟩
theorem zrF {k:RosS} {o:OffS} (h:Rel k o) {t:Str} (ht:t≠[]) (hb:Bool) {p:Str}:p∈(o.W.filter (isO t hb)).map (·.1)↔(ofO o p).team=t/\(ofO o p).hurt=hb:=by
 rw [List.mem_map]
 constructor
 rintro ⟨x,hx,rfl⟩;obtain ⟨h1,h2⟩:=List.mem_filter.1 hx;have h3:alk x.1 o.W=some x.2:=(ziq h.nd).1 h1;unfold ofO;rw [h3]
 simpa [isO] using h2
 rintro ⟨h1,h2⟩
 cases hq:alk p o.W with
 |none=>unfold ofO at h1;rw [hq] at h1;exact absurd h1.symm ht
 |some v=>
   unfold ofO at h1 h2;rw [hq] at h1 h2;exact ⟨(p,v),List.mem_filter.2 ⟨zbv hq,by simpa [isO] using ⟨h1,h2⟩⟩,rfl⟩
theorem zuR {k:RosS} {o:OffS} (h:Rel k o) (t:Str) (hb:Bool):((o.W.filter (isO t hb)).map (·.1)).Nodup:=
 List.Nodup.sublist (List.Sublist.map _ List.filter_sublist) h.nd
theorem zrG {n:Nat} {k:RosS} {o:OffS} (h:Rel k o) (hk:RosOk n k) {t:Str} (ht:t≠[]):((o.W.filter (isO t false)).map (·.1)).Perm (rPl k t):=
 (Bv (zuR h t false) (hk.sp t).1.nodup).2 fun p=>by rw [zrF h ht false,h.pl p t ht]
theorem zp1 {n:Nat} {k:RosS} {o:OffS} (h:Rel k o) (hk:RosOk n k) {t:Str} (ht:t≠[]):((o.W.filter (isO t true)).map (·.1)).Perm (rHu k t):=
 (Bv (zuR h t true) (hk.sh t).1.nodup).2 fun p=>by rw [zrF h ht true,h.hu p t ht]
theorem zsA {n:Nat} {k:RosS} {o:OffS} (h:Rel k o) (hk:RosOk n k) {t:Str} (ht:t≠[]):zmG o t false=(rPl k t).length:=by
 have:=(zrG h hk ht).length_eq;rw [Ag] at this;exact this
theorem zxl {n:Nat} {k:RosS} {o:OffS} (h:Rel k o) (hk:RosOk n k) {t:Str} (ht:t≠[]):zmG o t true=(rHu k t).length:=by
 have:=(zp1 h hk ht).length_eq;rw [Ag] at this;exact this
theorem zrE {b:BoundS} {k:RosS} {o:OffS} (h:Rel k o) (hd: ∀q∈k.D,0<=q.2/\q.2<=345686399999) (p:Str) (n:Int):zjn b o p n=zhy b k p n:=by
 unfold zjn zhy;rw [h.dr p]
 cases hq:alk p k.D with
 |none=>rfl
 |some d=>
   have:=hd (p,d) (zbv hq);simp only [Bh];rw [if_pos this.1]
theorem zxG {n:Nat} {b:BoundS} {k:RosS} {o:OffS} (h:Rel k o) (hk:RosOk n k) {x:MoveS} (hK:1<=x.Kind/\x.Kind<=4) (hT:x.Team≠[]):zar b o x=0↔zcG b k x=0:=by
 unfold zar zcG;rw [h.tm,zrE h hk.dr,<-h.ad,zsA h hk hT]
 by_cases k1:x.Kind=1
 rw [if_pos k1,if_pos k1];rw [if_neg k1,if_neg k1]
 by_cases k2:x.Kind=2
 rw [if_pos k2,if_pos k2];rw [if_neg k2,if_neg k2]
 by_cases k3:x.Kind=3
 rw [if_pos k3,if_pos k3,show decide (x.Kind=3)=true by simp [k3],zxl h hk hT];have hc:((rPl k x.Team).contains x.Player=false)↔(zaG k x.Player≠x.Team\/(ofO o x.Player).hurt=true):=by
  have h1:=h.pl x.Player x.Team hT;rw [h.tm] at h1;rw [<-B3,Bq,h1]
  cases (ofO o x.Player).hurt<;>simp
 by_cases q:(rPl k x.Team).contains x.Player=false
 rw [if_pos q,if_pos (hc.1 q)];rw [if_neg q,if_neg (fun e=>q (hc.2 e))];have k4:x.Kind=4:=by omega
 rw [if_neg k3,if_neg k3,if_pos k4,show decide (x.Kind=3)=false by simp [k3],zsA h hk hT];have hc:((rHu k x.Team).contains x.Player=false)↔(zaG k x.Player≠x.Team\/(ofO o x.Player).hurt=false):=by
  have h1:=h.hu x.Player x.Team hT;rw [h.tm] at h1;rw [<-B3,Bq,h1]
  cases (ofO o x.Player).hurt<;>simp
 by_cases q:(rHu k x.Team).contains x.Player=false
 rw [if_pos q,if_pos (hc.1 q)];rw [if_neg q,if_neg (fun e=>q (hc.2 e))]
theorem zrd {α:Type} {x:Str}: ∀{l:List (Str×α)},ANodup l->ANodup (zb4 x l)/\alk x (zb4 x l)=none
 |[],_=>⟨A4,rfl⟩
 |y::r,h=>by
   have h1:=List.nodup_cons.1 h
   by_cases e:x=y.1
   rw [zb4,if_pos e];exact ⟨h1.2,zff.2 (by rw [e];exact h1.1)⟩;rw [zb4,if_neg e];obtain ⟨h2,h3⟩:=zrd (x:=x) (l:=r) h1.2;refine ⟨List.nodup_cons.2 ⟨fun hm=> ?_,h2⟩,?_⟩
   obtain ⟨z,hz,hze⟩:=List.mem_map.1 hm;exact h1.1 (List.mem_map.2 ⟨z,zo4 hz,hze⟩);rw [alk,if_neg e];exact h3
theorem zvS {k:RosS} {o:OffS} (h:Rel k o) (T:Str):Rel ⟨zy T (rPl k T) k.P,zy T (rHu k T) k.H,k.O,k.D,k.A⟩ o:=by
 refine ⟨h.tm,fun p t ht=> ?_,fun p t ht=> ?_,h.dr,h.ad,h.nd,h.od⟩
 rw [zhr]
 split
 rename_i e;subst e;exact h.pl p t ht
 exact h.pl p t ht;rw [zhq]
 split
 rename_i e;subst e;exact h.hu p t ht
 exact h.hu p t ht
theorem zbW {p q:Str} {o:OffS} {v:WhS} {A:List (Str×List Int)}:ofO ⟨zy p v o.W,A⟩ q=if q=p then v else ofO o q:=zxq
theorem zxF {n:Nat} {b:BoundS} {k:RosS} {o:OffS} (h:Rel k o) (hk:RosOk n k) {x:MoveS} (hK:1<=x.Kind/\x.Kind<=4) (hT:x.Team≠[]):Rel (zgk b k x) (zft b o x):=by
 have hw:=zxG (b:=b) h hk hK hT;unfold zgk zft
 by_cases h0:zcG b k x≠0
 have hw1:zar b o x≠0:=fun e=>h0 (hw.1 e)
 rw [if_pos h0,if_pos hw1];exact zvS h x.Team;have hw1: ¬zar b o x≠0:=fun e=>e (hw.2 (Decidable.not_not.1 h0))
 rw [if_neg h0,if_neg hw1];have h0:=Decidable.not_not.1 h0
 by_cases k1:x.Kind=1
 rw [if_pos k1,if_pos k1];rw [zcG,if_pos k1] at h0;have ho:zaG k x.Player=[]:=by
  by_cases q:zaG k x.Player=x.Team
  rw [if_pos q] at h0;omega;rw [if_neg q] at h0
  by_cases q2:zaG k x.Player≠[]
  rw [if_pos q2] at h0;omega;exact Decidable.not_not.1 q2
 have hno: ∀t,t≠[]->(ofO o x.Player).team≠t:=fun t ht e=>by rw [h.tm,ho] at e;exact ht e.symm
 refine ⟨fun p=> ?_,fun p t ht=> ?_,fun p t ht=> ?_,fun p=> ?_,fun t m=> ?_,h.nd.put,h.od.put⟩
 rw [zbW];unfold zaG;rw [zbQ]
 split
 rfl
 exact h.tm p;rw [zhr,zbW]
 by_cases e:t=x.Team
 rw [if_pos e,zc9]
 by_cases ep:p=x.Player
 rw [if_pos ep];simp [ep,e];rw [if_neg ep,e,h.pl p x.Team hT];simp [ep];rw [if_neg e]
 by_cases ep:p=x.Player
 rw [if_pos ep,ep];refine ⟨fun q=>absurd ((h.pl x.Player t ht).1 q).1 (hno t ht),fun q=>absurd q.1.symm e⟩
 rw [if_neg ep];exact h.pl p t ht;rw [zhq,zbW]
 by_cases ep:p=x.Player
 rw [if_pos ep,ep];refine ⟨fun q=> ?_,fun q=>by cases q.2⟩
 by_cases e:t=x.Team
 rw [if_pos e] at q;exact absurd ((h.hu x.Player x.Team hT).1 q).1 (hno _ hT);rw [if_neg e] at q;exact absurd ((h.hu x.Player t ht).1 q).1 (hno t ht);rw [if_neg ep]
 by_cases e:t=x.Team
 rw [if_pos e,e];exact h.hu p x.Team hT;rw [if_neg e];exact h.hu p t ht;rw [zbW]
 split
 rename_i e;rw [e];exact h.dr x.Player
 exact h.dr p;have h1:=h.ad t m;unfold zaZ at h1⊢;unfold zjY zgG at h1⊢;rw [zbQ,zbQ]
 by_cases e:t=x.Team
 subst e;rw [if_pos rfl];simp only [Bh];rw [List.countP_append];have h2:=h.ad x.Team x.At;unfold zaZ zjY zgG at h2
 by_cases em:Int.tdiv m 604800000=Int.tdiv x.At 604800000
 rw [if_pos (by rw [em])];simp only [Bh];have hcw:zh0 m=zh0 x.At:=by funext z;unfold zh0;rw [em]
 rw [hcw];have:List.countP (zh0 x.At) [x.At]=1:=by simp [zh0]
 rw [this];omega;rw [if_neg (fun q=>em (congrArg Prod.snd q))];have:List.countP (zh0 m) [x.At]=0:=by simp [zh0];exact fun q=>em q.symm
 rw [this];omega;rw [if_neg (fun q=>e (congrArg Prod.fst q)),if_neg e];exact h1;rw [if_neg k1,if_neg k1];rw [zcG,if_neg k1] at h0
 by_cases k2:x.Kind=2
 rw [if_pos k2,if_pos k2];rw [if_pos k2] at h0;have ho:zaG k x.Player=x.Team:=by
  by_cases q:zaG k x.Player≠x.Team
  rw [if_pos q] at h0;omega;exact Decidable.not_not.1 q
 have hat: ∀t,(ofO o x.Player).team=t->t=x.Team:=fun t e=>by rw [h.tm,ho] at e;exact e.symm
 obtain ⟨hd1,hd2⟩:=zrd (x:=x.Player) h.od;refine ⟨fun p=> ?_,fun p t ht=> ?_,fun p t ht=> ?_,fun p=> ?_,h.ad,h.nd.put,hd1⟩
 rw [zbW];unfold zaG
 by_cases ep:p=x.Player
 rw [if_pos ep,ep,hd2];rfl;rw [if_neg ep,zoO ep];exact h.tm p;rw [zhr,zbW]
 by_cases ep:p=x.Player
 rw [if_pos ep,ep];refine ⟨fun q=> ?_,fun q=>absurd q.1.symm ht⟩
 by_cases e:t=x.Team
 rw [if_pos e] at q;exact absurd rfl (zbk.1 q).2;rw [if_neg e] at q;exact absurd (hat t ((h.pl x.Player t ht).1 q).1) e;rw [if_neg ep]
 by_cases e:t=x.Team
 rw [if_pos e,e,zbk,h.pl p x.Team hT];simp [ep];rw [if_neg e];exact h.pl p t ht;rw [zhq,zbW]
 by_cases ep:p=x.Player
 rw [if_pos ep,ep];refine ⟨fun q=> ?_,fun q=>absurd q.1.symm ht⟩
 by_cases e:t=x.Team
 rw [if_pos e] at q;exact absurd rfl (zbk.1 q).2;rw [if_neg e] at q;exact absurd (hat t ((h.hu x.Player t ht).1 q).1) e;rw [if_neg ep]
 by_cases e:t=x.Team
 rw [if_pos e,e,zbk,h.hu p x.Team hT];simp [ep];rw [if_neg e];exact h.hu p t ht;rw [zbW,zbQ]
 split
 rfl
 exact h.dr p;rw [if_neg k2,if_neg k2];rw [if_neg k2] at h0
 by_cases k3:x.Kind=3
 rw [if_pos k3,show decide (x.Kind=3)=true by simp [k3]];rw [if_pos k3] at h0;have hc:x.Player∈rPl k x.Team:=by
  by_cases q:(rPl k x.Team).contains x.Player=false
  rw [if_pos q] at h0;omega
  simpa using q
 have ho:=((h.pl x.Player x.Team hT).1 hc).1;refine ⟨fun p=> ?_,fun p t ht=> ?_,fun p t ht=> ?_,fun p=> ?_,h.ad,h.nd.put,h.od⟩
 rw [zbW]
 split
 rename_i e;rw [e];exact h.tm x.Player
 exact h.tm p;rw [zhr,zbW]
 by_cases ep:p=x.Player
 rw [if_pos ep,ep];refine ⟨fun q=> ?_,fun q=>by cases q.2⟩
 by_cases e:t=x.Team
 rw [if_pos e] at q;exact absurd rfl (zbk.1 q).2;rw [if_neg e] at q;exact absurd (((h.pl x.Player t ht).1 q).1.symm.trans ho) e;rw [if_neg ep]
 by_cases e:t=x.Team
 rw [if_pos e,e,zbk,h.pl p x.Team hT];simp [ep];rw [if_neg e];exact h.pl p t ht;rw [zhq,zbW]
 by_cases ep:p=x.Player
 rw [if_pos ep,ep]
 by_cases e:t=x.Team
 rw [if_pos e,zc9];simp [ho,e];rw [if_neg e];refine ⟨fun q=>absurd (((h.hu x.Player t ht).1 q).1.symm.trans ho) e,fun q=>absurd (q.1.symm.trans ho) e⟩
 rw [if_neg ep]
 by_cases e:t=x.Team
 rw [if_pos e,e,zc9,h.hu p x.Team hT];simp [ep];rw [if_neg e];exact h.hu p t ht;rw [zbW]
 split
 rename_i e;rw [e];exact h.dr x.Player
 exact h.dr p;rw [if_neg k3,show decide (x.Kind=3)=false by simp [k3]];rw [if_neg k3,if_pos (by omega)] at h0;have hc:x.Player∈rHu k x.Team:=by
  by_cases q:(rHu k x.Team).contains x.Player=false
  rw [if_pos q] at h0;omega
  simpa using q
 have ho:=((h.hu x.Player x.Team hT).1 hc).1;refine ⟨fun p=> ?_,fun p t ht=> ?_,fun p t ht=> ?_,fun p=> ?_,h.ad,h.nd.put,h.od⟩
 rw [zbW]
 split
 rename_i e;rw [e];exact h.tm x.Player
 exact h.tm p;rw [zhr,zbW]
 by_cases ep:p=x.Player
 rw [if_pos ep,ep]
 by_cases e:t=x.Team
 rw [if_pos e,zc9];simp [ho,e];rw [if_neg e];refine ⟨fun q=>absurd (((h.pl x.Player t ht).1 q).1.symm.trans ho) e,fun q=>absurd (q.1.symm.trans ho) e⟩
 rw [if_neg ep]
 by_cases e:t=x.Team
 rw [if_pos e,e,zc9,h.pl p x.Team hT];simp [ep];rw [if_neg e];exact h.pl p t ht;rw [zhq,zbW]
 by_cases ep:p=x.Player
 rw [if_pos ep,ep];refine ⟨fun q=> ?_,fun q=>by cases q.2⟩
 by_cases e:t=x.Team
 rw [if_pos e] at q;exact absurd rfl (zbk.1 q).2;rw [if_neg e] at q;exact absurd (((h.hu x.Player t ht).1 q).1.symm.trans ho) e;rw [if_neg ep]
 by_cases e:t=x.Team
 rw [if_pos e,e,zbk,h.hu p x.Team hT];simp [ep];rw [if_neg e];exact h.hu p t ht;rw [zbW]
 split
 rename_i e;rw [e];exact h.dr x.Player
 exact h.dr p
theorem zpn {b:BoundS} {m:Int}: ∀{l:List MoveS} {n:Nat} {k:RosS} {o:OffS},Rel k o->RosOk n k->(∀x∈l,(0<=x.At/\x.At<=345686399999)/\(1<=x.Kind/\x.Kind<=4)/\x.Team≠[])->Rel (zgj b m k l) (zg0 b m o l)
 |[],_,_,_,h,_,_=>h
 |x::r,n,k,o,h,hk,hl=>by
   obtain ⟨h1,h2,h3⟩:=hl x Ai;unfold zgj zg0;have hl':=fun y hy=>hl y (Ap x hy)
   by_cases e:x.At<=m
   rw [if_pos e,if_pos e];exact zpn (zxF h hk h2 h3) (zsH hk h1 h2 h3) hl';rw [if_neg e,if_neg e];exact zpn h hk hl'
theorem zmg {b:BoundS} {n:Int} {x:MoveS}: ∀{l:List MoveS} {i:Nat} {k:OffS},l[i]? =some x->zg0 b n k (l.take (i+1))=if x.At<=n then zft b (zg0 b n k (l.take i)) x else zg0 b n k (l.take i)
 |[],i,k,h=>by cases i<;>cases h
 |y::r,0,k,h=>by
   obtain rfl:=Av h
   rfl
 |y::r,i+1,k,h=>by
   show zg0 b n _ (r.take (i+1))=if x.At<=n then zft b (zg0 b n _ (r.take i)) x else zg0 b n _ (r.take i)
   exact zmg (l:=r) h
theorem zul {b:BoundS} {k:RosS} {o:OffS} (h:Rel k o) (hd: ∀q∈k.D,0<=q.2/\q.2<=345686399999) (n:Int) (l:List Str):
 l.filter (fun s=>decide ((ofO o s).team=[])&& !zjn b o s n)=zb0 b k n l:=by
 unfold zb0;refine List.filter_congr fun s _=> ?_
 rw [h.tm,zrE h hd]
end
section
open Go
abbrev eWh (x:WhS):HVal:= .agg [.str x.team,.bool x.hurt,.int .i64 x.dropped]
def whZ:WhS:=⟨[],false,0⟩
def zlZ (G:Grp Int):List (Str×List Int):=G.map fun p=>(p.1,p.2.2)
abbrev zaX (W:List (Str×WhS)) (G:Grp Int):OffS:=⟨W,zlZ G⟩
theorem zsc {s:Str}: ∀{G:Grp Int},alk s (zlZ G)=(alk s G).map (·.2)
 |[]=>rfl
 |p::r=>by
   have ih:=zsc (s:=s) (G:=r);unfold zlZ at ih⊢;simp only [Ao,alk]
   by_cases h:s=p.1
   rw [if_pos h,if_pos h];rfl;rw [if_neg h,if_neg h];exact ih
theorem zjZ {W:List (Str×WhS)} {G:Grp Int} {t:Str}:zgG (zaX W G) t=gL t G:=by
 unfold zgG gL;rw [show (zaX W G).A=zlZ G from rfl,zsc]
 cases alk t G<;>rfl
theorem zsg {s:Str} {v:Value} {l:List Int}: ∀{G:Grp Int},zlZ (zy s (v,l) G)=zy s l (zlZ G)
 |[]=>rfl
 |p::r=>by
   have ih:=zsg (s:=s) (v:=v) (l:=l) (G:=r);unfold zlZ at ih⊢;simp only [Ao,zy]
   by_cases h:s=p.1
   rw [if_pos h,if_pos h];rfl;rw [if_neg h,if_neg h,Ao,ih]
theorem zuK {W:List (Str×WhS)} {A:List (Str×List Int)} {p:Str} (h:(alk p W).isSome=true):ofO ⟨W,A⟩ p=(alk p W).getD whZ:=by
 show (alk p W).getD wh0=_
 cases hq:alk p W with
 |none=>rw [hq] at h;cases h
 |some v=>rfl
theorem zwK {W:List (Str×WhS)} {A:List (Str×List Int)} {p:Str} (h:(alk p W).isSome=false):ofO ⟨W,A⟩ p=wh0:=by
 show (alk p W).getD wh0=_
 cases hq:alk p W with
 |none=>rfl
 |some v=>rw [hq] at h;cases h
abbrev zs1 (b:BoundS) (pb ab:Nat):List HVal:=[.int .i64 b.Most,.int .i64 b.Hurt,.int .i64 b.Adds,.int .i64 b.Hold,.raw (.map (some pb)),.raw (.map (some ab))]
abbrev zrw (ob pb ab:Nat) (b:BoundS) (W:List (Str×WhS)) (G:Grp Int):List MObj:=[.cells ob (zs1 b pb ab),.map pb (sk (em eWh W)),.map ab (sk (em fG G))]
abbrev zbq (ob pb ab:Nat) (b:BoundS) (W:List (Str×WhS)) (G:Grp Int):List MObj:=zrw ob pb ab b W G++grp 1 (HVal.int .i64) G
def zkX (t:Str) (h:Bool) (E:List (Str×WhS)):Nat:=(E.filter (isO t h)).length
theorem zxm {t:Str} {h:Bool} {E:List (Str×WhS)} {q:Str×WhS} (hq:isO t h q=true):zkX t h (E++[q])=zkX t h E+1:=by
 unfold zkX;rw [A8,BG hq];simp
theorem zyc {t:Str} {h:Bool} {E:List (Str×WhS)} {q:Str×WhS} (hq:isO t h q=false):zkX t h (E++[q])=zkX t h E:=by
 unfold zkX;rw [A8,BF (by rw [hq];simp)];simp
theorem zyb (t:Str) (h:Bool) (E:List (Str×WhS)):zkX t h E<=E.length:=AW _ _
theorem zvy {t:Str} {h:Bool} {E W:List (Str×WhS)} {A:List (Str×List Int)} (hp:E.Perm W):zkX t h E=zmG ⟨W,A⟩ t h:=(hp.filter _).length_eq
structure OffW (n:Nat) (o:OffS):Prop where
 dr: ∀p,-1<=(ofO o p).dropped/\(ofO o p).dropped<=345686399999
 al: ∀t,(zgG o t).length<=n
 ab: ∀t,∀m∈zgG o t,0<=m/\m<=345686399999
 wl:o.W.length<=n
 nd:ANodup o.W
 ad:ANodup o.A
theorem zuL:OffW 0 zrv:=⟨fun _=>⟨Int.le_refl _,show (-1:Int)<=345686399999 by decide⟩,fun _=>Af _,fun _ m h=>(by cases h),Af _,A4,A4⟩
theorem OffW.mono {n m:Nat} {o:OffS} (h:OffW n o) (hm:n<=m):OffW m o:=⟨h.dr,fun t=>Ax (h.al t) hm,h.ab,Ax h.wl hm,h.nd,h.ad⟩
theorem zk2 {α:Type} {x:Str} {v:α} (l:List (Str×α)):(zy x v l).length<=l.length+1:=by rw [znb];split<;>omega
theorem zqS {T t:Str} {l:List Int} {W:List (Str×WhS)} {A:List (Str×List Int)}:zgG ⟨W,zy T l A⟩ t=if t=T then l else (alk t A).getD []:=by
 unfold zgG;rw [zbQ];split<;>rfl
theorem zyh {n:Nat} {b:BoundS} {o:OffS} {x:MoveS} (h:OffW n o) (ha:0<=x.At/\x.At<=345686399999):OffW (n+1) (zft b o x):=by
 unfold zft
 split
 exact h.mono (Bd n)
 split
 refine ⟨fun p=> ?_,fun t=> ?_,fun t m hm=> ?_,Ax (zk2 _) (by have:=h.wl;omega),h.nd.put,h.ad.put⟩
 rw [zbW]
 split
 exact h.dr x.Player;exact h.dr p;rw [zqS]
 split
 rw [AB];have:=h.al x.Team;simp;omega;have:=h.al t;unfold zgG at this;omega;rw [zqS] at hm
 split at hm
 rcases List.mem_append.1 hm with q|q
 exact h.ab x.Team m q;rw [List.mem_singleton.1 q];exact ha;exact h.ab t m hm
 split
 refine ⟨fun p=> ?_,fun t=>Ax (h.al t) (Bd n),h.ab,Ax (zk2 _) (by have:=h.wl;omega),h.nd.put,h.ad⟩
 rw [zbW]
 split
 dsimp only;omega
 exact h.dr p;refine ⟨fun p=> ?_,fun t=>Ax (h.al t) (Bd n),h.ab,Ax (zk2 _) (by have:=h.wl;omega),h.nd.put,h.ad⟩
 rw [zbW]
 split
 exact h.dr x.Player;exact h.dr p
theorem zru {b:BoundS} {m:Int}: ∀{l:List MoveS} {n:Nat} {o:OffS},OffW n o->(∀x∈l,(0<=x.At/\x.At<=345686399999)/\(1<=x.Kind/\x.Kind<=4)/\x.Team≠[])->OffW (n+l.length) (zg0 b m o l)
 |[],_,_,h,_=>h
 |x::r,n,o,h,hl=>by
   unfold zg0;have h1:OffW (n+1) (if x.At<=m then zft b o x else o):=by
    split
    exact zyh h (hl x Ai).1;exact h.mono (Bd n)
   have:=zru (b:=b) (m:=m) h1 (l:=r) fun y hy=>hl y (Ap _ hy)
   rw [Ah,show n+(r.length+1)=n+1+r.length by omega];exact this
theorem zyi {b:BoundS} {l:List MoveS} {n:Int} (hl: ∀x∈l,(0<=x.At/\x.At<=345686399999)/\(1<=x.Kind/\x.Kind<=4)/\x.Team≠[]) (hn:l.length<=2000) (i:Nat):OffW 2000 (zg0 b n zrv (l.take i)):=
 (zru (b:=b) (m:=n) zuL (l:=l.take i) fun x hx=>hl x (AZ hx)).mono (by rw [AC];omega)
section
variable {e:Env} {β:Type} {eb:β->HVal}
theorem zoL [Tracks] {A:List MObj} {G:Grp β} {s:Str} {sz:Nat} (hn:ANodup G):Ghost e (.arr (gV s G) sz ((gL s G).map eb)::(A++grp sz eb (G.filter fun q=>decide (q.1≠s)))) e (A++grp sz eb G):=by
 cases h:alk s G with
 |none=>rw [zhk h];exact Ghost.drop
 |some v=>
   refine Ghost.perm ?_;have h1:(grp sz eb G).Perm (.arr v.1 sz (v.2.map eb)::grp sz eb (G.filter fun q=>decide (q.1≠s))):=(zhl hn h).map _;have h2:gV s G=v.1:=by unfold gV;rw [h];rfl
   have h3:gL s G=v.2:=by unfold gL;rw [h];rfl
   rw [h2,h3];exact (List.perm_middle.symm.trans (List.Perm.append_left A h1.symm))
end
theorem zq8 {l:List Int} {k:Nat} {x:Int} {p:Int->Bool} (hx:l[k]? =some x):(l.take (k+1)).countP p=(l.take k).countP p+(if p x=true then 1 else 0):=by
 rw [za1 hx,List.countP_append]
 congr 1
 by_cases h:p x=true
 rw [if_pos h];simp [h];rw [if_neg h];simp [h]
end
end Go.HL
namespace Go.Proofs.YtahegdhbakjdoaaGreatDoor
set_option maxRecDepth 100000
set_option linter.unusedVariables false
set_option linter.unusedSimpArgs false
section
open Go.Proofs.Tryz
open Go.HL
theorem zj5 [Tracks] {b:BoundS}:Con prog 173 [zcn b] [] (fun x M'=> ∃ob pb ab,x= .raw (.pointer (some ⟨ob,0,none⟩))/\M'=zbq ob pb ab b [] []):=by
 refine uOb func173 ntmps173 ?_;refine gz6 ?_;refine de rfl (zbP fun m4=> ?_)
 refine de rfl (zbP fun m5=> ?_)
 refine dq (zO (cs:=[_,_,_,_,_,_]) zwP zAl rfl) ?_;refine de rfl (zo7 rfl rfl fun ob=> ?_)
 refine gz2 ?_;refine zl (Ghost.perm (M':=zbq ob m4 m5 b [] []) uQ) ?_;refine gz1 ?_;exact zaf rfl ⟨_,_,_,rfl,rfl⟩
theorem zer [Tracks] {ob pb ab:Nat} {b:BoundS} {W:List (Str×WhS)} {G:Grp Int} {p:Str}:Con prog 92 [.raw (.pointer (some ⟨ob,0,none⟩)),.str p] (zbq ob pb ab b W G) (fun x M'=>x=eWh (ofO (zaX W G) p)/\M'=(zbq ob pb ab b W G)):=by
 refine zbz func92 rfl ntmps92 rfl rfl ?_;refine gz1 ?_;refine de rfl (zq zbE rfl fun b4=> ?_)
 refine gz3 ?_;refine dq ((by first|exact zw rfl|exact zn rfl)) ?_;refine gz1 ?_;refine de rfl (uZ 1 ?_)
 refine gz1 ?_;refine de rfl (ziO (i:=2) (f:=eWh) (L:=W) (z0:=whZ) zfN ty9 zbE rfl rfl rfl rfl ?_)
 refine gz3 ?_;refine de rfl (zq zbE rfl fun b5=> ?_)
 refine de0 (zz zbE rfl rfl rfl rfl rfl ?_)
 refine gz2 ?_;refine zl (zD 5 rfl) ?_;refine gz5 ?_;refine uCo (fun h1=> ?_) fun h2=> ?_
 refine gz1 ?_;refine dq (zO (cs:=[_,_,_]) zbE ztz rfl) ?_;refine de0 (zz (h:=eWh wh0) zbE rfl rfl rfl rfl rfl ?_)
 refine gz2 ?_;refine ⟨_,_,zbi 4 (i:=0) rfl rfl,[_],_,⟨⟨_,_,_,_,_,rfl,zbE,.inr ⟨rfl,rfl,rfl⟩⟩,trivial⟩,Weak.refl _,?_,rfl⟩
 show eWh _=eWh _
 focus first
 |(refine congrArg eWh (zwK ?_).symm;simp_all;done)
 |(refine congrArg eWh (zuK ?_).symm;simp_all;done)
 refine gz3 ?_;refine dq (zaV (h:=eWh ((alk p W).getD whZ)) zbE rfl rfl rfl rfl) ?_;refine de0 (zz (h:=eWh ((alk p W).getD whZ)) zbE rfl rfl rfl rfl rfl ?_)
 refine gz2 ?_;refine ⟨_,_,zbi 4 (i:=0) rfl rfl,[_],_,⟨⟨_,_,_,_,_,rfl,zbE,.inr ⟨rfl,rfl,rfl⟩⟩,trivial⟩,Weak.refl _,?_,rfl⟩
 show eWh _=eWh _
 focus first
 |(refine congrArg eWh (zwK ?_).symm;simp_all;done)
 |(refine congrArg eWh (zuK ?_).symm;simp_all;done)
theorem zdK [Tracks] {ob pb ab:Nat} {b:BoundS} {W:List (Str×WhS)} {G:Grp Int} {t:Str} {h:Bool} (hn:ANodup W) (hw:W.length<=1000000):Con prog 237 [.raw (.pointer (some ⟨ob,0,none⟩)),.str t,.bool h] (zbq ob pb ab b W G) (fun x M'=>x= .int .i64 (zmG (zaX W G) t h:Int)/\M'=(zbq ob pb ab b W G)):=by
 refine uOb func237 ntmps237 ?_;refine gz9 ?_;refine dq ((by first|exact zw rfl|exact zn rfl)) ?_;refine gz1 ?_;refine de rfl (uZ 0 ?_)
 refine de rfl (zpC (i:=1) zfN rfl rfl fun r=> ?_)
 refine gz2 ?_;refine uV2 [7,1,9,1,15,16] (fun (vis:List Nat) (E:List (Str×WhS))=>[(7,.int .i64 (zkX t h E:Int))]) (fun (vis:List Nat) (E:List (Str×WhS))=>[.cells ob (zs1 b pb ab),.iter r pb (sk (em eWh W)) vis,.map ab (sk (em fG G))]++grp 1 (HVal.int .i64) G) (fun (vis:List Nat) (E:List (Str×WhS))=>VisOk (W) vis E/\(True)) (fun (vis:List Nat) (E:List (Str×WhS))=>(W).length-vis.length) ([]) ([]) ?_ ?_ ?_ ?_;exact ⟨VisOk.nil _,trivial⟩;exact ⟨rfl,trivial⟩;exact zg rfl
 intro vis E hinv
 obtain ⟨hvis,-⟩:=hinv;have hml:=zyb t h E;have hvl:=hvis.len;refine gz1 ?_;refine de rfl (zpB (i:=1) (L:=W) (enc:=(fun p:Str×WhS=>(HVal.str p.1,eWh p.2))) rfl rfl (zqF _ _) hvis.nd hvis.lt fun cb R vis' hnx=> ?_)
 refine gz3 ?_;refine uCo (fun h1=> ?_) fun h2=> ?_
 obtain ⟨j,q,hq,hj,rfl⟩:=hnx.t h1;have hroom:=hvis.room hq hj;have hstep:=hvis.step hq hj;have hqm:=Ac hq;refine gz4 ?_;refine de rfl (zn7 (i:=1) (L:=W) (enc:=(fun p:Str×WhS=>(HVal.str p.1,eWh p.2))) rfl rfl (zqF _ _) hq ?_)
 refine gz1 ?_;refine de rfl (zq zbE rfl fun b9=> ?_)
 refine de0 (zz zbE rfl rfl rfl rfl rfl ?_)
 refine gz1 ?_;refine zl (zD 9 rfl) ?_;refine gz1 ?_;refine dq ((by first|exact ze zbE rfl ty9 (by decide) rfl|exact zb zbE rfl ty9 (by decide) rfl)) ?_;refine gz4 ?_;refine uGr rfl (fun hc=>(by first|exact ze zbE rfl ty4 (by decide) rfl|exact zb zbE rfl ty4 (by decide) rfl)) ?_;refine gz2 ?_;refine uGr rfl (fun hc=>znz ty4 rfl rfl) ?_;refine gz2 ?_;refine uCo (fun h3=> ?_) fun h4=> ?_
 refine gz6 ?_;exact ⟨_,E++[q],⟨hstep,trivial⟩,by dsimp only;rw [AB];simp only [Ah,Al];omega,⟨zW (by rw [zxm (by simp_all [isO])];omega),trivial⟩,uK,zg rfl⟩;refine gz2 ?_;exact ⟨_,E++[q],⟨hstep,trivial⟩,by dsimp only;rw [AB];simp only [Ah,Al];omega,⟨zW (by rw [zyc (by simp_all [isO])]),trivial⟩,uK,zg rfl⟩;obtain ⟨rfl,hlen⟩:=hnx.f h2;have hEp:=hvis.done hlen;refine gz2 ?_;refine zY ?_;refine gz2 ?_;refine zl (zoN (i:=1) rfl) ?_;refine gz5 ?_;refine zaf rfl ⟨?_,rfl⟩
 rw [zvy hEp]
theorem ziG [Tracks] {ob pb ab:Nat} {b:BoundS} {W:List (Str×WhS)} {G:Grp Int} {t:Str} {n:Int} (hn:ANodup G) (hl:(gL t G).length<=1000000) (hb: ∀m∈gL t G,0<=m/\m<=345686399999) (hnb:0<=n/\n<=345686399999):Con prog 236 [.raw (.pointer (some ⟨ob,0,none⟩)),.str t,.int .i64 n] (zbq ob pb ab b W G) (fun x M'=>x= .int .i64 (zjY (zaX W G) t n:Int)/\M'=(zbq ob pb ab b W G)):=by
 refine uOb func236 ntmps236 ?_;refine gz7 ?_;refine zl (zoM (A:=zrw ob pb ab b W G) (G:=G) (G':=G) (s:=t) hn rfl) ?_;refine gz2 ?_;refine dq ((by first|exact zw rfl|exact zn rfl)) ?_;refine gz1 ?_;refine de rfl (uZ 1 ?_)
 refine gz1 ?_;refine de rfl (ze3 (i:=3) (f:=fG) (L:=G) (z0:=gZ Int) zla ty9 zad rfl rfl rfl rfl ?_)
 show Der _ _ _ _ _ (upd _ 15 (.raw (gV t G))) _
 refine de rfl (za6 (i:=0) (es:=gL t G) zad rfl rfl ?_)
 refine gz3 ?_;refine uT1 [7,1,9,1,17,12] (fun k=>[(17,.int .i64 k),(7,.int .i64 (((gL t G).take k).countP (zh0 n):Nat))]) (fun k=> .arr (gV t G) 1 ((gL t G).map (HVal.int .i64))::(zrw ob pb ab b W G++grp 1 (HVal.int .i64) (G.filter fun q=>decide (q.1≠t)))) (fun k=>k<=(gL t G).length/\(True)) (fun k=>(gL t G).length-k) (0) ?_ ?_;exact ⟨Ad _,trivial⟩;rintro k ⟨hk,-⟩;refine gz4 ?_;refine uCo (fun h1=> ?_) fun h2=> ?_
 obtain ⟨x,hx⟩: ∃x,(gL t G)[k]? =some x:=⟨_,Aa h1⟩
 have hdx:=zt hx;have hxb:=hb x (Ac hx);have hcl:=List.countP_le_length (p:=zh0 n) (l:=(gL t G).take k);rw [AC] at hcl;refine gz4 ?_;refine zc4 (i:=0) rfl (fun h0 he=> ?_) (fun bb off cap hv hcap=> ?_)
 exfalso;have q:=congrArg List.length he;rw [Ag,Al] at q;have:=zx hx;omega
 rw [Ag] at hv hcap;rw [hv];refine gz1 ?_;refine dq (zM (j:=k) zad ty3 rfl rfl rfl uO) ?_;refine de rfl (zax (i:=0) (j:=k) 0 ty3 rfl uO rfl hx rfl rfl ?_)
 refine gz4 ?_;refine dq (zd6 rfl rfl uO uO uO) ?_;refine gz1 ?_;refine dq (zd6 rfl rfl uO uO uO) ?_;refine gz2 ?_;refine uCo (fun h3=> ?_) fun h4=> ?_
 refine zc8 ?_;exact ⟨k+1,⟨by omega,trivial⟩,uD,⟨rfl,zW (by rw [zq8 hx,if_pos (by simp_all [zh0])];omega),trivial⟩,uK,Ab _⟩;refine gz7 ?_;exact ⟨k+1,⟨by omega,trivial⟩,uD,⟨rfl,zW (by rw [zq8 hx,if_neg (by simp_all [zh0])];omega),trivial⟩,uK,Ab _⟩;have hnk:(gL t G).length<=k:=by omega
 obtain rfl:k=(gL t G).length:=by omega
 rw [Aw];refine gz2 ?_;refine zG ?_;refine gz2 ?_;refine zl (zoL (A:=zrw ob pb ab b W G) hn) ?_;refine gz5 ?_;refine zaf rfl ⟨?_,rfl⟩
 rw [zjY,zjZ]
end
end Go.Proofs.YtahegdhbakjdoaaGreatDoor
namespace Go.HL
section
open Go
theorem ztY {a b:Str} (h:Op.bytesLess a b=true):SLt a b:=by
 rw [zqZ,decide_eq_true_iff] at h;exact ⟨List.le_of_lt h,fun e=>by rw [e] at h;exact List.lt_irrefl _ h⟩
theorem zsN {l m:List Str} (hm:SortedS m) (hp:l.Perm m):zfe l=m:=
 ztK (zrN (hp.nodup_iff.2 hm.nodup)) (hm.imp fun {a b} h=>ztY h) fun x=>by rw [zfe,(List.mergeSort_perm _ _).mem_iff,hp.mem_iff]
def plE (t:Str) (h:Bool) (E:List (Str×WhS)):List Str:=(E.filter (isO t h)).map (·.1)
theorem zsD {t:Str} {h:Bool} {E:List (Str×WhS)} {q:Str×WhS} (hq:isO t h q=true):plE t h (E++[q])=plE t h E++[q.1]:=by
 unfold plE;rw [A8,BG hq];simp
theorem zov {t:Str} {h:Bool} {E:List (Str×WhS)} {q:Str×WhS} (hq:isO t h q=false):plE t h (E++[q])=plE t h E:=by
 unfold plE;rw [A8,BF (by rw [hq];simp)];simp
theorem zgz (t:Str) (h:Bool) (E:List (Str×WhS)):(plE t h E).length<=E.length:=by
 unfold plE;rw [Ag];exact AW _ _
theorem zxL {n:Nat} {k:RosS} {o:OffS} (h:Rel k o) (hk:RosOk n k) {t:Str} (ht:t≠[]) {E:List (Str×WhS)} (hE:E.Perm o.W):zfe (plE t false E)=rPl k t:=
 zsN (hk.sp t).1 (((hE.filter _).map _).trans (zrG h hk ht))
theorem zxK {n:Nat} {k:RosS} {o:OffS} (h:Rel k o) (hk:RosOk n k) {t:Str} (ht:t≠[]) {E:List (Str×WhS)} (hE:E.Perm o.W):zfe (plE t true E)=rHu k t:=
 zsN (hk.sh t).1 (((hE.filter _).map _).trans (zp1 h hk ht))
theorem zsB {l:List MoveS} (hm:zcj l=0):l.length<=2000/\∀x∈l,(0<=x.At/\x.At<=345686399999)/\(1<=x.Kind/\x.Kind<=4)/\x.Team≠[]:=by
 obtain ⟨hl,hml⟩:=zrs hm;exact ⟨hl,fun x hx=>⟨(hml x hx).1,(hml x hx).2.1,fun e=>by have:=(hml x hx).2.2.1;rw [e] at this;cases this⟩⟩
theorem zuQ {b:BoundS} {l:List MoveS} {n:Int} (hm:zcj l=0):Rel (zah b l n) (oAt b l n)/\RosOk 2000 (zah b l n)/\OffW 2000 (oAt b l n):=by
 obtain ⟨hl,hml⟩:=zsB hm;refine ⟨zpn rel0 zpo hml,(zpk (b:=b) (m:=n) zpo hml).mono (by omega),(zru (b:=b) (m:=n) zuL hml).mono (by omega)⟩
theorem zcs {b:BoundS} {o:OffS} {x:MoveS} (h:zar b o x≠0):o=zft b o x:=by unfold zft;rw [if_pos h]
theorem zcr {b:BoundS} {W:List (Str×WhS)} {G:Grp Int} {x:MoveS} {v:Value} (h:zar b (zaX W G) x=0) (hk:x.Kind=1):
 zaX (zy x.Player ⟨x.Team,false,(ofO (zaX W G) x.Player).dropped⟩ W) (zy x.Team (v,gL x.Team G++[x.At]) G)=zft b (zaX W G) x:=by
 unfold zft;rw [if_neg (fun q=>q h),if_pos hk,zjZ]
 show (⟨_,zlZ _⟩:OffS)=_
 rw [zsg]
theorem zb1 {b:BoundS} {W:List (Str×WhS)} {G:Grp Int} {x:MoveS} (h:zar b (zaX W G) x=0) (hk:x.Kind=2):zaX (zy x.Player ⟨[],false,x.At⟩ W) G=zft b (zaX W G) x:=by
 unfold zft;rw [if_neg (fun q=>q h),if_neg (by omega),if_pos hk]
theorem zb2 {b:BoundS} {W:List (Str×WhS)} {G:Grp Int} {x:MoveS} (h:zar b (zaX W G) x=0) (h1: ¬x.Kind=1) (h2: ¬x.Kind=2):
 zaX (zy x.Player ⟨(ofO (zaX W G) x.Player).team,x.Kind==3,(ofO (zaX W G) x.Player).dropped⟩ W) G=zft b (zaX W G) x:=by
 unfold zft;rw [if_neg (fun q=>q h),if_neg h1,if_neg h2];rfl
end
section
open Go
theorem zdY [Tracks] {P:Program} {e:Env} {dst:Option Tmp} {ty:TypeId} {pos:String} {af:Array Edge} {g:Option (Nat×Bool)} {M M1 R:List MObj} {K:HVal->List MObj->Prop} {f:FuncId} {args:Array Operand} {ats:Array TypeId}
 {hs hs':List HVal} {h:HVal} (hc:Callable P f) (ha:zcL e args.toList=some hs) (hw:WeakL hs hs') (hm:M.Perm (M1++R)) (hp:Con P f hs' M1 fun x M'=>x=h/\M'=M1) (hk:K h M):
 EOp P e M ⟨dst,.call ⟨.value (.func f),args,ats⟩,ty,pos,af,g⟩ K:=
 zld (zbe hc ha hw hm hp (by rintro _ _ ⟨rfl,rfl⟩;exact ⟨M,hm.symm,hk⟩))
section
variable {P:Program} {e:Env} {dst:Option Tmp} {ty:TypeId} {pos:String} {af:Array Edge} {g:Option (Nat×Bool)}
theorem zmh [Tracks] {x:Operand} {t:TypeId} {fs:List (Nat×Nat)} {size bytes:Nat} {zero:Value} {f foff ft:Nat} {d:TD} {s2 b2:Nat} {z2:Value} {cs:List HVal} {h:HVal}
 (hf:Fits P t (.struct fs) size bytes zero) (hfs:fs[f]? =some (foff,ft)) (hft:Fits P ft d s2 b2 z2) (hd:d.isAgg=false) (hx:zh e x=some (.agg cs)) (hc:cs[foff]? =some h):
 POp P e ⟨dst,.field t x f,ty,pos,af,g⟩ h:=
 zF fun I a w ho=>by
  obtain ⟨vs,h1,h2,h3⟩:=(ho.one (x:=x) (by simp [Op.operands]) hx).agg_inv;obtain ⟨gs,h4,h5⟩:=hf.structD;have h6:(gs.toList.map fun f=>(f.offset,f.type))[f]? =some (foff,ft):=by rw [h5];exact hfs
  rw [Aj] at h6
  cases hg:gs.toList[f]? with
  |none=>rw [hg] at h6;simp at h6
  |some fl=>
    rw [hg] at h6
    simp at h6
    obtain ⟨h7,h8⟩:=h6;have hg':gs[f]? =some fl:=by simpa using hg
    have hl:foff<vs.size:=by have q1:=zx hc;have q2:=h2;rw [AQ] at q2;omega
    refine ⟨vs[foff],?_,h3 foff h _ hc (by simp [hl])⟩
    simp [execOp,Instr.field,h1,run_underlying h4,hg',asAgg,part,h7,h8,hft.run_isAgg,hd,hl]
end
end
end Go.HL
namespace Go.Proofs.YtahegdhbakjdoaaGreatDoor
set_option maxRecDepth 100000
set_option linter.unusedVariables false
set_option linter.unusedSimpArgs false
section
open Go.Proofs.Tryz
open Go.HL
theorem zfP [Tracks] {ob pb ab:Nat} {b:BoundS} {W:List (Str×WhS)} {G:Grp Int} {p:Str} {n:Int} (hn:0<=n/\n<=345686399999) (hD: -1<=(ofO (zaX W G) p).dropped/\(ofO (zaX W G) p).dropped<=345686399999):Con prog 93 [.raw (.pointer (some ⟨ob,0,none⟩)),.str p,.int .i64 n] (zbq ob pb ab b W G) (fun x M'=>x= .bool (zjn b (zaX W G) p n)/\M'=(zbq ob pb ab b W G)):=by
 refine uOb func93 ntmps93 ?_;refine gz6 ?_;refine de rfl (zdY (M1:=(zbq ob pb ab b W G)) (R:=[]) zva rfl (WeakL.refl _) (by rw [AR]) zer ?_)
 refine dq (zmh zbE rfl ty3 rfl rfl rfl) ?_;refine zaD ?_;refine uGr rfl (fun hc=>(by first|exact zw rfl|exact zn rfl)) ?_;refine gz2 ?_;refine dgl rfl rfl (fun hc=>⟨_,OpenTo.upd (t:=21) rfl uC (OpenTo.refl _),zV (i:=0) ty3 rfl rfl (.inl ⟨rfl,rfl⟩) ⟨rfl,rfl⟩⟩) ?_;refine gz5 ?_;refine zaf rfl ⟨?_,rfl⟩
 show HVal.bool _=_
 unfold zjn
 split<;>focus first|(simp_all;done)|(simp_all;intro q;omega)
theorem zh9 [Tracks] {ob pb ab:Nat} {b:BoundS} {W:List (Str×WhS)} {G:Grp Int} {x:MoveS} (hx:0<=x.At/\x.At<=345686399999) (ho:OffW 2000 (zaX W G)) (hn:ANodup G):Con prog 174 [.raw (.pointer (some ⟨ob,0,none⟩)),zcK x] (zbq ob pb ab b W G) (fun x1 M'=> ∃n W' G',x1= .int .i64 n/\zaX W' G'=zft b (zaX W G) x/\ANodup G'/\M'=zbq ob pb ab b W' G'):=by
 refine uOb func174 ntmps174 ?_;refine gz6 ?_;refine dq ((by first|exact ze zv rfl ty9 (by decide) rfl|exact zb zv rfl ty9 (by decide) rfl)) ?_;refine gz1 ?_;refine de rfl (zdY (M1:=(zbq ob pb ab b W G)) (R:=[]) zva rfl (WeakL.refl _) (by rw [AR]) zer ?_)
 refine de rfl (zq zbE rfl fun b5=> ?_)
 focus first
 |refine de0 (uY 0 ?_)
 |refine de0 (uY 1 ?_)
 |refine de0 (uY 2 ?_)
 |refine de0 (uY 3 ?_)
 refine gz3 ?_
 focus first
 |refine de rfl (uZ 0 ?_)
 |refine de rfl (uZ 1 ?_)
 |refine de rfl (uZ 2 ?_)
 |refine de rfl (uZ 3 ?_)
 refine dq ((by first|exact ze zv rfl ty9 (by decide) rfl|exact zb zv rfl ty9 (by decide) rfl)) ?_;refine gz6 ?_;refine dq ((by first|exact ze zv rfl ty3 (by decide) rfl|exact zb zv rfl ty3 (by decide) rfl)) ?_;refine gz7 ?_;refine uCo (fun h1=> ?_) fun h2=> ?_
 refine gz6 ?_;refine uCo (fun h3=> ?_) fun h4=> ?_
 refine gz4 ?_
 focus first
 | (refine zB Ghost.drop rfl ⟨_,W,G,rfl,zcs ?_,hn,rfl⟩
    unfold zar
    by_cases hk3:x.Kind=3
    have hb3:(x.Kind==3)=true:=by simp [hk3]
    focus first|(simp_all;done)|(simp_all;omega)|(simp_all;split<;>omega)
    have hb3:(x.Kind==3)=false:=by simp [hk3]
    focus first|(simp_all;done)|(simp_all;omega)|(simp_all;split<;>omega))
 | (refine zB Ghost.drop rfl ⟨_,_,(zy x.Team (v115,gL x.Team G++[x.At]) G),rfl,zcr (v:=v115) ?_ ?_,hn.put,rfl⟩
    unfold zar
    by_cases hk3:x.Kind=3
    have hb3:(x.Kind==3)=true:=by simp [hk3]
    focus first|(simp_all;done)|(simp_all;omega)|(simp_all;split<;>omega)
    have hb3:(x.Kind==3)=false:=by simp [hk3]
    focus first|(simp_all;done)|(simp_all;omega)|(simp_all;split<;>omega)
    assumption)
 | (refine zB Ghost.drop rfl ⟨_,_,G,rfl,zb1 ?_ ?_,hn,rfl⟩
    unfold zar
    by_cases hk3:x.Kind=3
    have hb3:(x.Kind==3)=true:=by simp [hk3]
    focus first|(simp_all;done)|(simp_all;omega)|(simp_all;split<;>omega)
    have hb3:(x.Kind==3)=false:=by simp [hk3]
    focus first|(simp_all;done)|(simp_all;omega)|(simp_all;split<;>omega)
    assumption)
 | (refine zB Ghost.drop rfl ⟨_,_,G,rfl,zb2 ?_ ?_ ?_,hn,rfl⟩
    unfold zar
    by_cases hk3:x.Kind=3
    have hb3:(x.Kind==3)=true:=by simp [hk3]
    focus first|(simp_all;done)|(simp_all;omega)|(simp_all;split<;>omega)
    have hb3:(x.Kind==3)=false:=by simp [hk3]
    focus first|(simp_all;done)|(simp_all;omega)|(simp_all;split<;>omega)
    assumption
    assumption)
 refine gz2 ?_
 focus first
 |refine de rfl (uZ 0 ?_)
 |refine de rfl (uZ 1 ?_)
 |refine de rfl (uZ 2 ?_)
 |refine de rfl (uZ 3 ?_)
 refine gz3 ?_;refine uCo (fun h5=> ?_) fun h6=> ?_
 refine gz4 ?_
 focus first
 | (refine zB Ghost.drop rfl ⟨_,W,G,rfl,zcs ?_,hn,rfl⟩
    unfold zar
    by_cases hk3:x.Kind=3
    have hb3:(x.Kind==3)=true:=by simp [hk3]
    focus first|(simp_all;done)|(simp_all;omega)|(simp_all;split<;>omega)
    have hb3:(x.Kind==3)=false:=by simp [hk3]
    focus first|(simp_all;done)|(simp_all;omega)|(simp_all;split<;>omega))
 | (refine zB Ghost.drop rfl ⟨_,_,(zy x.Team (v115,gL x.Team G++[x.At]) G),rfl,zcr (v:=v115) ?_ ?_,hn.put,rfl⟩
    unfold zar
    by_cases hk3:x.Kind=3
    have hb3:(x.Kind==3)=true:=by simp [hk3]
    focus first|(simp_all;done)|(simp_all;omega)|(simp_all;split<;>omega)
    have hb3:(x.Kind==3)=false:=by simp [hk3]
    focus first|(simp_all;done)|(simp_all;omega)|(simp_all;split<;>omega)
    assumption)
 | (refine zB Ghost.drop rfl ⟨_,_,G,rfl,zb1 ?_ ?_,hn,rfl⟩
    unfold zar
    by_cases hk3:x.Kind=3
    have hb3:(x.Kind==3)=true:=by simp [hk3]
    focus first|(simp_all;done)|(simp_all;omega)|(simp_all;split<;>omega)
    have hb3:(x.Kind==3)=false:=by simp [hk3]
    focus first|(simp_all;done)|(simp_all;omega)|(simp_all;split<;>omega)
    assumption)
 | (refine zB Ghost.drop rfl ⟨_,_,G,rfl,zb2 ?_ ?_ ?_,hn,rfl⟩
    unfold zar
    by_cases hk3:x.Kind=3
    have hb3:(x.Kind==3)=true:=by simp [hk3]
    focus first|(simp_all;done)|(simp_all;omega)|(simp_all;split<;>omega)
    have hb3:(x.Kind==3)=false:=by simp [hk3]
    focus first|(simp_all;done)|(simp_all;omega)|(simp_all;split<;>omega)
    assumption
    assumption)
 refine gz2 ?_;refine dq ((by first|exact ze zv rfl ty9 (by decide) rfl|exact zb zv rfl ty9 (by decide) rfl)) ?_;refine gz1 ?_;refine dq ((by first|exact ze zv rfl ty3 (by decide) rfl|exact zb zv rfl ty3 (by decide) rfl)) ?_;refine gz1 ?_;refine de rfl (zdY (M1:=(zbq ob pb ab b W G)) (R:=[_]) ca93 rfl (WeakL.refl _) (AX (l₁:=[_]) (l₂:=(zbq ob pb ab b W G))) (zfP (p:=x.Player) (n:=x.At) hx (ho.dr x.Player)) ?_)
 refine gz2 ?_;refine uCo (fun h7=> ?_) fun h8=> ?_
 refine gz4 ?_
 focus first
 | (refine zB Ghost.drop rfl ⟨_,W,G,rfl,zcs ?_,hn,rfl⟩
    unfold zar
    by_cases hk3:x.Kind=3
    have hb3:(x.Kind==3)=true:=by simp [hk3]
    focus first|(simp_all;done)|(simp_all;omega)|(simp_all;split<;>omega)
    have hb3:(x.Kind==3)=false:=by simp [hk3]
    focus first|(simp_all;done)|(simp_all;omega)|(simp_all;split<;>omega))
 | (refine zB Ghost.drop rfl ⟨_,_,(zy x.Team (v115,gL x.Team G++[x.At]) G),rfl,zcr (v:=v115) ?_ ?_,hn.put,rfl⟩
    unfold zar
    by_cases hk3:x.Kind=3
    have hb3:(x.Kind==3)=true:=by simp [hk3]
    focus first|(simp_all;done)|(simp_all;omega)|(simp_all;split<;>omega)
    have hb3:(x.Kind==3)=false:=by simp [hk3]
    focus first|(simp_all;done)|(simp_all;omega)|(simp_all;split<;>omega)
    assumption)
 | (refine zB Ghost.drop rfl ⟨_,_,G,rfl,zb1 ?_ ?_,hn,rfl⟩
    unfold zar
    by_cases hk3:x.Kind=3
    have hb3:(x.Kind==3)=true:=by simp [hk3]
    focus first|(simp_all;done)|(simp_all;omega)|(simp_all;split<;>omega)
    have hb3:(x.Kind==3)=false:=by simp [hk3]
    focus first|(simp_all;done)|(simp_all;omega)|(simp_all;split<;>omega)
    assumption)
 | (refine zB Ghost.drop rfl ⟨_,_,G,rfl,zb2 ?_ ?_ ?_,hn,rfl⟩
    unfold zar
    by_cases hk3:x.Kind=3
    have hb3:(x.Kind==3)=true:=by simp [hk3]
    focus first|(simp_all;done)|(simp_all;omega)|(simp_all;split<;>omega)
    have hb3:(x.Kind==3)=false:=by simp [hk3]
    focus first|(simp_all;done)|(simp_all;omega)|(simp_all;split<;>omega)
    assumption
    assumption)
 refine zbu (fun M=>M=(.cells b5 (zd (eWh (ofO (zaX W G) x.Player)))::(zbq ob pb ab b W G))) [10] mixed ?_;refine gz1 ?_;refine uB 1 rfl ((by first|exact ze zv rfl ty9 (by decide) rfl|exact zb zv rfl ty9 (by decide) rfl)) ?_;refine gz1 ?_;refine uB 3 rfl ((by first|exact ze zv rfl ty3 (by decide) rfl|exact zb zv rfl ty3 (by decide) rfl)) ?_;refine gz1 ?_;refine uA 6 ?_;refine uB 7 rfl ((by first|exact zw rfl|exact zn rfl)) ?_;refine gz2 ?_;refine uM 10 rfl rfl (fun M hM=>by subst hM;exact zV (i:=1) ty3 rfl rfl (.inl ⟨rfl,rfl⟩) ⟨rfl,rfl⟩) ?_;refine uF 5 ?_;refine zA rfl (zdY (M1:=(zbq ob pb ab b W G)) (R:=[_]) zzC rfl (WeakL.refl _) (AX (l₁:=[_]) (l₂:=(zbq ob pb ab b W G))) (ziG (t:=x.Team) (n:=x.At) hn (by have:=ho.al x.Team;rw [zjZ] at this;omega) (by have:=ho.ab x.Team;rw [zjZ] at this;exact this) hx) ?_)
 refine ⟨fun _=> .inl rfl,?_⟩
 refine uA 11 ?_;refine gz2 ?_;refine uCo (fun h9=> ?_) fun h10=> ?_
 refine gz4 ?_
 focus first
 | (refine zB Ghost.drop rfl ⟨_,W,G,rfl,zcs ?_,hn,rfl⟩
    unfold zar
    by_cases hk3:x.Kind=3
    have hb3:(x.Kind==3)=true:=by simp [hk3]
    focus first|(simp_all;done)|(simp_all;omega)|(simp_all;split<;>omega)
    have hb3:(x.Kind==3)=false:=by simp [hk3]
    focus first|(simp_all;done)|(simp_all;omega)|(simp_all;split<;>omega))
 | (refine zB Ghost.drop rfl ⟨_,_,(zy x.Team (v115,gL x.Team G++[x.At]) G),rfl,zcr (v:=v115) ?_ ?_,hn.put,rfl⟩
    unfold zar
    by_cases hk3:x.Kind=3
    have hb3:(x.Kind==3)=true:=by simp [hk3]
    focus first|(simp_all;done)|(simp_all;omega)|(simp_all;split<;>omega)
    have hb3:(x.Kind==3)=false:=by simp [hk3]
    focus first|(simp_all;done)|(simp_all;omega)|(simp_all;split<;>omega)
    assumption)
 | (refine zB Ghost.drop rfl ⟨_,_,G,rfl,zb1 ?_ ?_,hn,rfl⟩
    unfold zar
    by_cases hk3:x.Kind=3
    have hb3:(x.Kind==3)=true:=by simp [hk3]
    focus first|(simp_all;done)|(simp_all;omega)|(simp_all;split<;>omega)
    have hb3:(x.Kind==3)=false:=by simp [hk3]
    focus first|(simp_all;done)|(simp_all;omega)|(simp_all;split<;>omega)
    assumption)
 | (refine zB Ghost.drop rfl ⟨_,_,G,rfl,zb2 ?_ ?_ ?_,hn,rfl⟩
    unfold zar
    by_cases hk3:x.Kind=3
    have hb3:(x.Kind==3)=true:=by simp [hk3]
    focus first|(simp_all;done)|(simp_all;omega)|(simp_all;split<;>omega)
    have hb3:(x.Kind==3)=false:=by simp [hk3]
    focus first|(simp_all;done)|(simp_all;omega)|(simp_all;split<;>omega)
    assumption
    assumption)
 refine zbu (fun M=>M=(.cells b5 (zd (eWh (ofO (zaX W G) x.Player)))::(zbq ob pb ab b W G))) [8] mixed ?_;refine gz1 ?_;refine uB 1 rfl ((by first|exact ze zv rfl ty9 (by decide) rfl|exact zb zv rfl ty9 (by decide) rfl)) ?_;refine gz1 ?_;refine uA 4 ?_;refine uB 5 rfl ((by first|exact zw rfl|exact zn rfl)) ?_;refine gz2 ?_;refine uM 8 rfl rfl (fun M hM=>by subst hM;exact zV (i:=1) ty3 rfl rfl (.inl ⟨rfl,rfl⟩) ⟨rfl,rfl⟩) ?_;refine uF 3 ?_;refine zA rfl (zdY (M1:=(zbq ob pb ab b W G)) (R:=[_]) ztd rfl (WeakL.refl _) (AX (l₁:=[_]) (l₂:=(zbq ob pb ab b W G))) (zdK (t:=x.Team) (h:=false) ho.nd (by have h9:W.length<=2000:=ho.wl;omega)) ?_)
 refine ⟨fun _=> .inl rfl,?_⟩
 refine uA 9 ?_;refine gz2 ?_;refine uCo (fun h11=> ?_) fun h12=> ?_
 refine gz4 ?_
 focus first
 | (refine zB Ghost.drop rfl ⟨_,W,G,rfl,zcs ?_,hn,rfl⟩
    unfold zar
    by_cases hk3:x.Kind=3
    have hb3:(x.Kind==3)=true:=by simp [hk3]
    focus first|(simp_all;done)|(simp_all;omega)|(simp_all;split<;>omega)
    have hb3:(x.Kind==3)=false:=by simp [hk3]
    focus first|(simp_all;done)|(simp_all;omega)|(simp_all;split<;>omega))
 | (refine zB Ghost.drop rfl ⟨_,_,(zy x.Team (v115,gL x.Team G++[x.At]) G),rfl,zcr (v:=v115) ?_ ?_,hn.put,rfl⟩
    unfold zar
    by_cases hk3:x.Kind=3
    have hb3:(x.Kind==3)=true:=by simp [hk3]
    focus first|(simp_all;done)|(simp_all;omega)|(simp_all;split<;>omega)
    have hb3:(x.Kind==3)=false:=by simp [hk3]
    focus first|(simp_all;done)|(simp_all;omega)|(simp_all;split<;>omega)
    assumption)
 | (refine zB Ghost.drop rfl ⟨_,_,G,rfl,zb1 ?_ ?_,hn,rfl⟩
    unfold zar
    by_cases hk3:x.Kind=3
    have hb3:(x.Kind==3)=true:=by simp [hk3]
    focus first|(simp_all;done)|(simp_all;omega)|(simp_all;split<;>omega)
    have hb3:(x.Kind==3)=false:=by simp [hk3]
    focus first|(simp_all;done)|(simp_all;omega)|(simp_all;split<;>omega)
    assumption)
 | (refine zB Ghost.drop rfl ⟨_,_,G,rfl,zb2 ?_ ?_ ?_,hn,rfl⟩
    unfold zar
    by_cases hk3:x.Kind=3
    have hb3:(x.Kind==3)=true:=by simp [hk3]
    focus first|(simp_all;done)|(simp_all;omega)|(simp_all;split<;>omega)
    have hb3:(x.Kind==3)=false:=by simp [hk3]
    focus first|(simp_all;done)|(simp_all;omega)|(simp_all;split<;>omega)
    assumption
    assumption)
 refine gz3 ?_;refine zbu (fun M=> ∃i:Nat,M[i]? =some (.cells ob (zs1 b pb ab))) [3,9] mixed ?_;refine gz1 ?_;refine uB 1 rfl ((by first|exact zw rfl|exact zn rfl)) ?_;refine gz1 ?_;refine uM 3 rfl ⟨1,rfl⟩ (fun M hM=>by obtain ⟨i,hi⟩:=hM;exact zV (i:=i) zla rfl hi (.inl ⟨rfl,rfl⟩) ⟨rfl,rfl⟩) ?_;refine uB 4 rfl ((by first|exact ze zv rfl ty9 (by decide) rfl|exact zb zv rfl ty9 (by decide) rfl)) ?_;refine gz2 ?_;refine uB 7 rfl ((by first|exact zw rfl|exact zn rfl)) ?_;refine gz1 ?_;refine uM 9 rfl ⟨1,rfl⟩ (fun M hM=>by obtain ⟨i,hi⟩:=hM;exact zV (i:=i) zla rfl hi (.inl ⟨rfl,rfl⟩) ⟨rfl,rfl⟩) ?_;refine uB 10 rfl ((by first|exact ze zv rfl ty9 (by decide) rfl|exact zb zv rfl ty9 (by decide) rfl)) ?_;refine gz1 ?_;refine uB 13 rfl ((by first|exact ze zv rfl ty3 (by decide) rfl|exact zb zv rfl ty3 (by decide) rfl)) ?_;refine gz1 ?_;refine uB 15 rfl (za (hs:=[_]) zad ty3 rfl rfl (by decide) (by decide) rfl) ?_;refine uF 12 ?_;refine zA rfl (ze3 (i:=3) (f:=fG) (L:=G) (z0:=gZ Int) zla ty9 zad rfl rfl rfl rfl ?_)
 refine ⟨fun _=> .inl ⟨1,rfl⟩,?_⟩
 refine uF 16 ?_;refine zA rfl (zo6 (A:=(.cells b5 (zd (eWh (ofO (zaX W G) x.Player)))::zrw ob pb ab b W G)) (G:=G) (s:=x.Team) (ys:=[x.At]) (eb:=HVal.int .i64) zad ty3 rfl rfl rfl rfl (by simp [zal,zd]) (by have:=ho.al x.Team;rw [zjZ] at this;simp only [Ah,Al];omega) fun v115=> ?_)
 refine ⟨fun _=> .inl ⟨1,rfl⟩,?_⟩
 refine uF 17 ?_;refine zT (zck (i:=3) (f:=fG) (L:=G) (v:=(v115,gL x.Team G++[x.At])) zla ty9 rfl rfl rfl rfl ?_)
 refine ⟨uE,?_⟩
 refine gz1 ?_;refine zba (fun M=>M=(.cells b5 (zd (eWh (ofO (zaX W G) x.Player)))::(zbq ob pb ab b W (zy x.Team (v115,gL x.Team G++[x.At]) G)))) [3,9] mixed ?_;refine gz1 ?_;refine uB 1 rfl ((by first|exact zw rfl|exact zn rfl)) ?_;refine gz1 ?_;refine uM 3 rfl rfl (fun M hM=>by subst hM;exact zV (i:=1) zfN rfl rfl (.inl ⟨rfl,rfl⟩) ⟨rfl,rfl⟩) ?_;refine uB 4 rfl ((by first|exact ze zv rfl ty9 (by decide) rfl|exact zb zv rfl ty9 (by decide) rfl)) ?_;refine gz1 ?_;refine uB 6 rfl ((by first|exact ze zv rfl ty9 (by decide) rfl|exact zb zv rfl ty9 (by decide) rfl)) ?_;refine gz2 ?_;refine uM 9 rfl rfl (fun M hM=>by subst hM;exact zV (i:=0) ty3 rfl rfl (.inl ⟨rfl,rfl⟩) ⟨rfl,rfl⟩) ?_;refine uB 10 rfl (zO (cs:=[_,_,_]) zbE ztz rfl) ?_;refine uF 11 ?_;refine zT (zck (i:=2) (f:=eWh) (L:=W) (v:=⟨x.Team,false,(ofO (zaX W G) x.Player).dropped⟩) zfN ty9 rfl rfl rfl rfl ?_)
 refine ⟨uE,?_⟩
 refine gz7 ?_
 focus first
 | (refine zB Ghost.drop rfl ⟨_,W,G,rfl,zcs ?_,hn,rfl⟩
    unfold zar
    by_cases hk3:x.Kind=3
    have hb3:(x.Kind==3)=true:=by simp [hk3]
    focus first|(simp_all;done)|(simp_all;omega)|(simp_all;split<;>omega)
    have hb3:(x.Kind==3)=false:=by simp [hk3]
    focus first|(simp_all;done)|(simp_all;omega)|(simp_all;split<;>omega))
 | (refine zB Ghost.drop rfl ⟨_,_,(zy x.Team (v115,gL x.Team G++[x.At]) G),rfl,zcr (v:=v115) ?_ ?_,hn.put,rfl⟩
    unfold zar
    by_cases hk3:x.Kind=3
    have hb3:(x.Kind==3)=true:=by simp [hk3]
    focus first|(simp_all;done)|(simp_all;omega)|(simp_all;split<;>omega)
    have hb3:(x.Kind==3)=false:=by simp [hk3]
    focus first|(simp_all;done)|(simp_all;omega)|(simp_all;split<;>omega)
    assumption)
 | (refine zB Ghost.drop rfl ⟨_,_,G,rfl,zb1 ?_ ?_,hn,rfl⟩
    unfold zar
    by_cases hk3:x.Kind=3
    have hb3:(x.Kind==3)=true:=by simp [hk3]
    focus first|(simp_all;done)|(simp_all;omega)|(simp_all;split<;>omega)
    have hb3:(x.Kind==3)=false:=by simp [hk3]
    focus first|(simp_all;done)|(simp_all;omega)|(simp_all;split<;>omega)
    assumption)
 | (refine zB Ghost.drop rfl ⟨_,_,G,rfl,zb2 ?_ ?_ ?_,hn,rfl⟩
    unfold zar
    by_cases hk3:x.Kind=3
    have hb3:(x.Kind==3)=true:=by simp [hk3]
    focus first|(simp_all;done)|(simp_all;omega)|(simp_all;split<;>omega)
    have hb3:(x.Kind==3)=false:=by simp [hk3]
    focus first|(simp_all;done)|(simp_all;omega)|(simp_all;split<;>omega)
    assumption
    assumption)
 refine gz4 ?_;refine uCo (fun h13=> ?_) fun h14=> ?_
 refine gz5 ?_;refine uCo (fun h15=> ?_) fun h16=> ?_
 refine gz4 ?_
 focus first
 | (refine zB Ghost.drop rfl ⟨_,W,G,rfl,zcs ?_,hn,rfl⟩
    unfold zar
    by_cases hk3:x.Kind=3
    have hb3:(x.Kind==3)=true:=by simp [hk3]
    focus first|(simp_all;done)|(simp_all;omega)|(simp_all;split<;>omega)
    have hb3:(x.Kind==3)=false:=by simp [hk3]
    focus first|(simp_all;done)|(simp_all;omega)|(simp_all;split<;>omega))
 | (refine zB Ghost.drop rfl ⟨_,_,(zy x.Team (v115,gL x.Team G++[x.At]) G),rfl,zcr (v:=v115) ?_ ?_,hn.put,rfl⟩
    unfold zar
    by_cases hk3:x.Kind=3
    have hb3:(x.Kind==3)=true:=by simp [hk3]
    focus first|(simp_all;done)|(simp_all;omega)|(simp_all;split<;>omega)
    have hb3:(x.Kind==3)=false:=by simp [hk3]
    focus first|(simp_all;done)|(simp_all;omega)|(simp_all;split<;>omega)
    assumption)
 | (refine zB Ghost.drop rfl ⟨_,_,G,rfl,zb1 ?_ ?_,hn,rfl⟩
    unfold zar
    by_cases hk3:x.Kind=3
    have hb3:(x.Kind==3)=true:=by simp [hk3]
    focus first|(simp_all;done)|(simp_all;omega)|(simp_all;split<;>omega)
    have hb3:(x.Kind==3)=false:=by simp [hk3]
    focus first|(simp_all;done)|(simp_all;omega)|(simp_all;split<;>omega)
    assumption)
 | (refine zB Ghost.drop rfl ⟨_,_,G,rfl,zb2 ?_ ?_ ?_,hn,rfl⟩
    unfold zar
    by_cases hk3:x.Kind=3
    have hb3:(x.Kind==3)=true:=by simp [hk3]
    focus first|(simp_all;done)|(simp_all;omega)|(simp_all;split<;>omega)
    have hb3:(x.Kind==3)=false:=by simp [hk3]
    focus first|(simp_all;done)|(simp_all;omega)|(simp_all;split<;>omega)
    assumption
    assumption)
 refine gz2 ?_;refine zba (fun M=>M=(.cells b5 (zd (eWh (ofO (zaX W G) x.Player)))::(zbq ob pb ab b W G))) [3] mixed ?_;refine gz1 ?_;refine uB 1 rfl ((by first|exact zw rfl|exact zn rfl)) ?_;refine gz1 ?_;refine uM 3 rfl rfl (fun M hM=>by subst hM;exact zV (i:=1) zfN rfl rfl (.inl ⟨rfl,rfl⟩) ⟨rfl,rfl⟩) ?_;refine uB 4 rfl ((by first|exact ze zv rfl ty9 (by decide) rfl|exact zb zv rfl ty9 (by decide) rfl)) ?_;refine gz1 ?_;refine uB 6 rfl ((by first|exact ze zv rfl ty3 (by decide) rfl|exact zb zv rfl ty3 (by decide) rfl)) ?_;refine gz1 ?_;refine uB 8 rfl (zO (cs:=[_,_,_]) zbE ztz rfl) ?_;refine uF 9 ?_;refine zT (zck (i:=2) (f:=eWh) (L:=W) (v:=⟨[],false,x.At⟩) zfN ty9 rfl rfl rfl rfl ?_)
 refine ⟨uE,?_⟩
 refine gz7 ?_
 focus first
 | (refine zB Ghost.drop rfl ⟨_,W,G,rfl,zcs ?_,hn,rfl⟩
    unfold zar
    by_cases hk3:x.Kind=3
    have hb3:(x.Kind==3)=true:=by simp [hk3]
    focus first|(simp_all;done)|(simp_all;omega)|(simp_all;split<;>omega)
    have hb3:(x.Kind==3)=false:=by simp [hk3]
    focus first|(simp_all;done)|(simp_all;omega)|(simp_all;split<;>omega))
 | (refine zB Ghost.drop rfl ⟨_,_,(zy x.Team (v115,gL x.Team G++[x.At]) G),rfl,zcr (v:=v115) ?_ ?_,hn.put,rfl⟩
    unfold zar
    by_cases hk3:x.Kind=3
    have hb3:(x.Kind==3)=true:=by simp [hk3]
    focus first|(simp_all;done)|(simp_all;omega)|(simp_all;split<;>omega)
    have hb3:(x.Kind==3)=false:=by simp [hk3]
    focus first|(simp_all;done)|(simp_all;omega)|(simp_all;split<;>omega)
    assumption)
 | (refine zB Ghost.drop rfl ⟨_,_,G,rfl,zb1 ?_ ?_,hn,rfl⟩
    unfold zar
    by_cases hk3:x.Kind=3
    have hb3:(x.Kind==3)=true:=by simp [hk3]
    focus first|(simp_all;done)|(simp_all;omega)|(simp_all;split<;>omega)
    have hb3:(x.Kind==3)=false:=by simp [hk3]
    focus first|(simp_all;done)|(simp_all;omega)|(simp_all;split<;>omega)
    assumption)
 | (refine zB Ghost.drop rfl ⟨_,_,G,rfl,zb2 ?_ ?_ ?_,hn,rfl⟩
    unfold zar
    by_cases hk3:x.Kind=3
    have hb3:(x.Kind==3)=true:=by simp [hk3]
    focus first|(simp_all;done)|(simp_all;omega)|(simp_all;split<;>omega)
    have hb3:(x.Kind==3)=false:=by simp [hk3]
    focus first|(simp_all;done)|(simp_all;omega)|(simp_all;split<;>omega)
    assumption
    assumption)
 refine gz1 ?_;refine dq ((by first|exact ze zv rfl ty3 (by decide) rfl|exact zb zv rfl ty3 (by decide) rfl)) ?_;refine gz6 ?_;refine dq ((by first|exact zw rfl|exact zn rfl)) ?_;refine gz2 ?_;refine de rfl (uZ 1 ?_)
 refine gz6 ?_;refine uCo (fun h17=> ?_) fun h18=> ?_
 refine gz2 ?_;refine dq ((by first|exact zw rfl|exact zn rfl)) ?_;refine gz2 ?_;refine de rfl (uZ 1 ?_)
 refine zaD ?_;refine dgl rfl rfl (fun hc=>⟨_,OpenTo.upd (t:=38) rfl uC (OpenTo.refl _),zV (i:=0) ty4 rfl rfl (.inl ⟨rfl,rfl⟩) ⟨rfl,rfl⟩⟩) ?_;refine gz1 ?_;refine uGr rfl (fun hc=>znz ty4 rfl rfl) ?_;refine gz3 ?_;refine uCo (fun h19=> ?_) fun h20=> ?_
 refine gz4 ?_
 focus first
 | (refine zB Ghost.drop rfl ⟨_,W,G,rfl,zcs ?_,hn,rfl⟩
    unfold zar
    by_cases hk3:x.Kind=3
    have hb3:(x.Kind==3)=true:=by simp [hk3]
    focus first|(simp_all;done)|(simp_all;omega)|(simp_all;split<;>omega)
    have hb3:(x.Kind==3)=false:=by simp [hk3]
    focus first|(simp_all;done)|(simp_all;omega)|(simp_all;split<;>omega))
 | (refine zB Ghost.drop rfl ⟨_,_,(zy x.Team (v115,gL x.Team G++[x.At]) G),rfl,zcr (v:=v115) ?_ ?_,hn.put,rfl⟩
    unfold zar
    by_cases hk3:x.Kind=3
    have hb3:(x.Kind==3)=true:=by simp [hk3]
    focus first|(simp_all;done)|(simp_all;omega)|(simp_all;split<;>omega)
    have hb3:(x.Kind==3)=false:=by simp [hk3]
    focus first|(simp_all;done)|(simp_all;omega)|(simp_all;split<;>omega)
    assumption)
 | (refine zB Ghost.drop rfl ⟨_,_,G,rfl,zb1 ?_ ?_,hn,rfl⟩
    unfold zar
    by_cases hk3:x.Kind=3
    have hb3:(x.Kind==3)=true:=by simp [hk3]
    focus first|(simp_all;done)|(simp_all;omega)|(simp_all;split<;>omega)
    have hb3:(x.Kind==3)=false:=by simp [hk3]
    focus first|(simp_all;done)|(simp_all;omega)|(simp_all;split<;>omega)
    assumption)
 | (refine zB Ghost.drop rfl ⟨_,_,G,rfl,zb2 ?_ ?_ ?_,hn,rfl⟩
    unfold zar
    by_cases hk3:x.Kind=3
    have hb3:(x.Kind==3)=true:=by simp [hk3]
    focus first|(simp_all;done)|(simp_all;omega)|(simp_all;split<;>omega)
    have hb3:(x.Kind==3)=false:=by simp [hk3]
    focus first|(simp_all;done)|(simp_all;omega)|(simp_all;split<;>omega)
    assumption
    assumption)
 refine gz2 ?_;refine dq ((by first|exact ze zv rfl ty9 (by decide) rfl|exact zb zv rfl ty9 (by decide) rfl)) ?_;refine gz2 ?_;refine de rfl (zdY (M1:=(zbq ob pb ab b W G)) (R:=[_]) ztd rfl (WeakL.refl _) (AX (l₁:=[_]) (l₂:=(zbq ob pb ab b W G))) (zdK (t:=x.Team) (h:=x.Kind==3) ho.nd (by have h9:W.length<=2000:=ho.wl;omega)) ?_)
 refine gz4 ?_;refine uCo (fun h21=> ?_) fun h22=> ?_
 refine gz4 ?_
 focus first
 | (refine zB Ghost.drop rfl ⟨_,W,G,rfl,zcs ?_,hn,rfl⟩
    unfold zar
    by_cases hk3:x.Kind=3
    have hb3:(x.Kind==3)=true:=by simp [hk3]
    focus first|(simp_all;done)|(simp_all;omega)|(simp_all;split<;>omega)
    have hb3:(x.Kind==3)=false:=by simp [hk3]
    focus first|(simp_all;done)|(simp_all;omega)|(simp_all;split<;>omega))
 | (refine zB Ghost.drop rfl ⟨_,_,(zy x.Team (v115,gL x.Team G++[x.At]) G),rfl,zcr (v:=v115) ?_ ?_,hn.put,rfl⟩
    unfold zar
    by_cases hk3:x.Kind=3
    have hb3:(x.Kind==3)=true:=by simp [hk3]
    focus first|(simp_all;done)|(simp_all;omega)|(simp_all;split<;>omega)
    have hb3:(x.Kind==3)=false:=by simp [hk3]
    focus first|(simp_all;done)|(simp_all;omega)|(simp_all;split<;>omega)
    assumption)
 | (refine zB Ghost.drop rfl ⟨_,_,G,rfl,zb1 ?_ ?_,hn,rfl⟩
    unfold zar
    by_cases hk3:x.Kind=3
    have hb3:(x.Kind==3)=true:=by simp [hk3]
    focus first|(simp_all;done)|(simp_all;omega)|(simp_all;split<;>omega)
    have hb3:(x.Kind==3)=false:=by simp [hk3]
    focus first|(simp_all;done)|(simp_all;omega)|(simp_all;split<;>omega)
    assumption)
 | (refine zB Ghost.drop rfl ⟨_,_,G,rfl,zb2 ?_ ?_ ?_,hn,rfl⟩
    unfold zar
    by_cases hk3:x.Kind=3
    have hb3:(x.Kind==3)=true:=by simp [hk3]
    focus first|(simp_all;done)|(simp_all;omega)|(simp_all;split<;>omega)
    have hb3:(x.Kind==3)=false:=by simp [hk3]
    focus first|(simp_all;done)|(simp_all;omega)|(simp_all;split<;>omega)
    assumption
    assumption)
 refine gz6 ?_
 focus first
 |refine de0 (uY 0 ?_)
 |refine de0 (uY 1 ?_)
 |refine de0 (uY 2 ?_)
 |refine de0 (uY 3 ?_)
 refine gz1 ?_;refine zba (fun M=>M=(.cells b5 (zd (eWh ⟨(ofO (zaX W G) x.Player).team,x.Kind==3,(ofO (zaX W G) x.Player).dropped⟩))::(zbq ob pb ab b W G))) [3,6] mixed ?_;refine gz1 ?_;refine uB 1 rfl ((by first|exact zw rfl|exact zn rfl)) ?_;refine gz1 ?_;refine uM 3 rfl rfl (fun M hM=>by subst hM;exact zV (i:=1) zfN rfl rfl (.inl ⟨rfl,rfl⟩) ⟨rfl,rfl⟩) ?_;refine uB 4 rfl ((by first|exact ze zv rfl ty9 (by decide) rfl|exact zb zv rfl ty9 (by decide) rfl)) ?_;refine gz1 ?_;refine uM 6 rfl rfl (fun M hM=>by subst hM;exact zdl (i:=0) (h:=eWh ⟨(ofO (zaX W G) x.Player).team,x.Kind==3,(ofO (zaX W G) x.Player).dropped⟩) zbE rfl rfl rfl rfl rfl ⟨rfl,rfl⟩) ?_;refine uF 7 ?_;refine zT (zck (i:=2) (f:=eWh) (L:=W) (v:=⟨(ofO (zaX W G) x.Player).team,x.Kind==3,(ofO (zaX W G) x.Player).dropped⟩) zfN ty9 rfl rfl rfl rfl ?_)
 refine ⟨uE,?_⟩
 refine gz7 ?_
 focus first
 | (refine zB Ghost.drop rfl ⟨_,W,G,rfl,zcs ?_,hn,rfl⟩
    unfold zar
    by_cases hk3:x.Kind=3
    have hb3:(x.Kind==3)=true:=by simp [hk3]
    focus first|(simp_all;done)|(simp_all;omega)|(simp_all;split<;>omega)
    have hb3:(x.Kind==3)=false:=by simp [hk3]
    focus first|(simp_all;done)|(simp_all;omega)|(simp_all;split<;>omega))
 | (refine zB Ghost.drop rfl ⟨_,_,(zy x.Team (v115,gL x.Team G++[x.At]) G),rfl,zcr (v:=v115) ?_ ?_,hn.put,rfl⟩
    unfold zar
    by_cases hk3:x.Kind=3
    have hb3:(x.Kind==3)=true:=by simp [hk3]
    focus first|(simp_all;done)|(simp_all;omega)|(simp_all;split<;>omega)
    have hb3:(x.Kind==3)=false:=by simp [hk3]
    focus first|(simp_all;done)|(simp_all;omega)|(simp_all;split<;>omega)
    assumption)
 | (refine zB Ghost.drop rfl ⟨_,_,G,rfl,zb1 ?_ ?_,hn,rfl⟩
    unfold zar
    by_cases hk3:x.Kind=3
    have hb3:(x.Kind==3)=true:=by simp [hk3]
    focus first|(simp_all;done)|(simp_all;omega)|(simp_all;split<;>omega)
    have hb3:(x.Kind==3)=false:=by simp [hk3]
    focus first|(simp_all;done)|(simp_all;omega)|(simp_all;split<;>omega)
    assumption)
 | (refine zB Ghost.drop rfl ⟨_,_,G,rfl,zb2 ?_ ?_ ?_,hn,rfl⟩
    unfold zar
    by_cases hk3:x.Kind=3
    have hb3:(x.Kind==3)=true:=by simp [hk3]
    focus first|(simp_all;done)|(simp_all;omega)|(simp_all;split<;>omega)
    have hb3:(x.Kind==3)=false:=by simp [hk3]
    focus first|(simp_all;done)|(simp_all;omega)|(simp_all;split<;>omega)
    assumption
    assumption)
 refine gz9 ?_;refine dgl rfl rfl (fun hc=>⟨_,OpenTo.upd (t:=38) rfl uC (OpenTo.refl _),zV (i:=0) ty4 rfl rfl (.inl ⟨rfl,rfl⟩) ⟨rfl,rfl⟩⟩) ?_;refine gz1 ?_;refine uGr rfl (fun hc=>znz ty4 rfl rfl) ?_;refine gz3 ?_;refine uCo (fun h23=> ?_) fun h24=> ?_
 refine gz4 ?_
 focus first
 | (refine zB Ghost.drop rfl ⟨_,W,G,rfl,zcs ?_,hn,rfl⟩
    unfold zar
    by_cases hk3:x.Kind=3
    have hb3:(x.Kind==3)=true:=by simp [hk3]
    focus first|(simp_all;done)|(simp_all;omega)|(simp_all;split<;>omega)
    have hb3:(x.Kind==3)=false:=by simp [hk3]
    focus first|(simp_all;done)|(simp_all;omega)|(simp_all;split<;>omega))
 | (refine zB Ghost.drop rfl ⟨_,_,(zy x.Team (v115,gL x.Team G++[x.At]) G),rfl,zcr (v:=v115) ?_ ?_,hn.put,rfl⟩
    unfold zar
    by_cases hk3:x.Kind=3
    have hb3:(x.Kind==3)=true:=by simp [hk3]
    focus first|(simp_all;done)|(simp_all;omega)|(simp_all;split<;>omega)
    have hb3:(x.Kind==3)=false:=by simp [hk3]
    focus first|(simp_all;done)|(simp_all;omega)|(simp_all;split<;>omega)
    assumption)
 | (refine zB Ghost.drop rfl ⟨_,_,G,rfl,zb1 ?_ ?_,hn,rfl⟩
    unfold zar
    by_cases hk3:x.Kind=3
    have hb3:(x.Kind==3)=true:=by simp [hk3]
    focus first|(simp_all;done)|(simp_all;omega)|(simp_all;split<;>omega)
    have hb3:(x.Kind==3)=false:=by simp [hk3]
    focus first|(simp_all;done)|(simp_all;omega)|(simp_all;split<;>omega)
    assumption)
 | (refine zB Ghost.drop rfl ⟨_,_,G,rfl,zb2 ?_ ?_ ?_,hn,rfl⟩
    unfold zar
    by_cases hk3:x.Kind=3
    have hb3:(x.Kind==3)=true:=by simp [hk3]
    focus first|(simp_all;done)|(simp_all;omega)|(simp_all;split<;>omega)
    have hb3:(x.Kind==3)=false:=by simp [hk3]
    focus first|(simp_all;done)|(simp_all;omega)|(simp_all;split<;>omega)
    assumption
    assumption)
 refine gz2 ?_;refine dq ((by first|exact ze zv rfl ty9 (by decide) rfl|exact zb zv rfl ty9 (by decide) rfl)) ?_;refine gz2 ?_;refine de rfl (zdY (M1:=(zbq ob pb ab b W G)) (R:=[_]) ztd rfl (WeakL.refl _) (AX (l₁:=[_]) (l₂:=(zbq ob pb ab b W G))) (zdK (t:=x.Team) (h:=x.Kind==3) ho.nd (by have h9:W.length<=2000:=ho.wl;omega)) ?_)
 refine gz4 ?_;refine uCo (fun h25=> ?_) fun h26=> ?_
 refine gz4 ?_
 focus first
 | (refine zB Ghost.drop rfl ⟨_,W,G,rfl,zcs ?_,hn,rfl⟩
    unfold zar
    by_cases hk3:x.Kind=3
    have hb3:(x.Kind==3)=true:=by simp [hk3]
    focus first|(simp_all;done)|(simp_all;omega)|(simp_all;split<;>omega)
    have hb3:(x.Kind==3)=false:=by simp [hk3]
    focus first|(simp_all;done)|(simp_all;omega)|(simp_all;split<;>omega))
 | (refine zB Ghost.drop rfl ⟨_,_,(zy x.Team (v115,gL x.Team G++[x.At]) G),rfl,zcr (v:=v115) ?_ ?_,hn.put,rfl⟩
    unfold zar
    by_cases hk3:x.Kind=3
    have hb3:(x.Kind==3)=true:=by simp [hk3]
    focus first|(simp_all;done)|(simp_all;omega)|(simp_all;split<;>omega)
    have hb3:(x.Kind==3)=false:=by simp [hk3]
    focus first|(simp_all;done)|(simp_all;omega)|(simp_all;split<;>omega)
    assumption)
 | (refine zB Ghost.drop rfl ⟨_,_,G,rfl,zb1 ?_ ?_,hn,rfl⟩
    unfold zar
    by_cases hk3:x.Kind=3
    have hb3:(x.Kind==3)=true:=by simp [hk3]
    focus first|(simp_all;done)|(simp_all;omega)|(simp_all;split<;>omega)
    have hb3:(x.Kind==3)=false:=by simp [hk3]
    focus first|(simp_all;done)|(simp_all;omega)|(simp_all;split<;>omega)
    assumption)
 | (refine zB Ghost.drop rfl ⟨_,_,G,rfl,zb2 ?_ ?_ ?_,hn,rfl⟩
    unfold zar
    by_cases hk3:x.Kind=3
    have hb3:(x.Kind==3)=true:=by simp [hk3]
    focus first|(simp_all;done)|(simp_all;omega)|(simp_all;split<;>omega)
    have hb3:(x.Kind==3)=false:=by simp [hk3]
    focus first|(simp_all;done)|(simp_all;omega)|(simp_all;split<;>omega)
    assumption
    assumption)
 refine gz6 ?_
 focus first
 |refine de0 (uY 0 ?_)
 |refine de0 (uY 1 ?_)
 |refine de0 (uY 2 ?_)
 |refine de0 (uY 3 ?_)
 refine gz1 ?_;refine zba (fun M=>M=(.cells b5 (zd (eWh ⟨(ofO (zaX W G) x.Player).team,x.Kind==3,(ofO (zaX W G) x.Player).dropped⟩))::(zbq ob pb ab b W G))) [3,6] mixed ?_;refine gz1 ?_;refine uB 1 rfl ((by first|exact zw rfl|exact zn rfl)) ?_;refine gz1 ?_;refine uM 3 rfl rfl (fun M hM=>by subst hM;exact zV (i:=1) zfN rfl rfl (.inl ⟨rfl,rfl⟩) ⟨rfl,rfl⟩) ?_;refine uB 4 rfl ((by first|exact ze zv rfl ty9 (by decide) rfl|exact zb zv rfl ty9 (by decide) rfl)) ?_;refine gz1 ?_;refine uM 6 rfl rfl (fun M hM=>by subst hM;exact zdl (i:=0) (h:=eWh ⟨(ofO (zaX W G) x.Player).team,x.Kind==3,(ofO (zaX W G) x.Player).dropped⟩) zbE rfl rfl rfl rfl rfl ⟨rfl,rfl⟩) ?_;refine uF 7 ?_;refine zT (zck (i:=2) (f:=eWh) (L:=W) (v:=⟨(ofO (zaX W G) x.Player).team,x.Kind==3,(ofO (zaX W G) x.Player).dropped⟩) zfN ty9 rfl rfl rfl rfl ?_)
 refine ⟨uE,?_⟩
 refine gz7 ?_
 focus first
 | (refine zB Ghost.drop rfl ⟨_,W,G,rfl,zcs ?_,hn,rfl⟩
    unfold zar
    by_cases hk3:x.Kind=3
    have hb3:(x.Kind==3)=true:=by simp [hk3]
    focus first|(simp_all;done)|(simp_all;omega)|(simp_all;split<;>omega)
    have hb3:(x.Kind==3)=false:=by simp [hk3]
    focus first|(simp_all;done)|(simp_all;omega)|(simp_all;split<;>omega))
 | (refine zB Ghost.drop rfl ⟨_,_,(zy x.Team (v115,gL x.Team G++[x.At]) G),rfl,zcr (v:=v115) ?_ ?_,hn.put,rfl⟩
    unfold zar
    by_cases hk3:x.Kind=3
    have hb3:(x.Kind==3)=true:=by simp [hk3]
    focus first|(simp_all;done)|(simp_all;omega)|(simp_all;split<;>omega)
    have hb3:(x.Kind==3)=false:=by simp [hk3]
    focus first|(simp_all;done)|(simp_all;omega)|(simp_all;split<;>omega)
    assumption)
 | (refine zB Ghost.drop rfl ⟨_,_,G,rfl,zb1 ?_ ?_,hn,rfl⟩
    unfold zar
    by_cases hk3:x.Kind=3
    have hb3:(x.Kind==3)=true:=by simp [hk3]
    focus first|(simp_all;done)|(simp_all;omega)|(simp_all;split<;>omega)
    have hb3:(x.Kind==3)=false:=by simp [hk3]
    focus first|(simp_all;done)|(simp_all;omega)|(simp_all;split<;>omega)
    assumption)
 | (refine zB Ghost.drop rfl ⟨_,_,G,rfl,zb2 ?_ ?_ ?_,hn,rfl⟩
    unfold zar
    by_cases hk3:x.Kind=3
    have hb3:(x.Kind==3)=true:=by simp [hk3]
    focus first|(simp_all;done)|(simp_all;omega)|(simp_all;split<;>omega)
    have hb3:(x.Kind==3)=false:=by simp [hk3]
    focus first|(simp_all;done)|(simp_all;omega)|(simp_all;split<;>omega)
    assumption
    assumption)
theorem zgH [Tracks] {b:BoundS} {l:List MoveS} {n:Int} (hm:zcj l=0):Con prog 91 [zcn b,zbs l,.int .i64 n] [] (fun x M'=> ∃ob pb ab W G,x= .raw (.pointer (some ⟨ob,0,none⟩))/\zaX W G=oAt b l n/\ANodup G/\M'=zbq ob pb ab b W G):=by
 obtain ⟨hl,hml⟩:=zsB hm;refine uOb func91 ntmps91 ?_;refine gz6 ?_;refine de rfl (zbe (M1:=[]) (R:=[]) zy3 rfl (WeakL.refl _) (Ab _) (zj5 (b:=b)) ?_)
 rintro _ _ ⟨ob,pb,ab,rfl,rfl⟩;refine gz9 ?_;refine uU3 [9,1,14,12] (fun (k:Nat) (W1:List (Str×WhS)) (G1:Grp Int)=>[(14,.int .i64 k)]) (fun (k:Nat) (W1:List (Str×WhS)) (G1:Grp Int)=>zbq ob pb ab b W1 G1) (fun (k:Nat) (W1:List (Str×WhS)) (G1:Grp Int)=>k<=l.length/\(zaX W1 G1=zg0 b n zrv (l.take k)/\ANodup G1)) (fun (k:Nat) (W1:List (Str×WhS)) (G1:Grp Int)=>l.length-k) (0) ([]) ([]) ?_ ?_;exact ⟨Ad _,rfl,A4⟩;rintro k W1 G1 ⟨hk,he1,hn1⟩;refine gz4 ?_;refine uCo (fun h1=> ?_) fun h2=> ?_
 obtain ⟨x,hx⟩: ∃x,l[k]? =some x:=⟨_,Aa h1⟩
 have hdx:=zt hx;refine gz7 ?_;refine de rfl (zq zv rfl fun b9=> ?_)
 refine de0 (zz zv rfl rfl rfl rfl rfl ?_)
 refine gz1 ?_;refine zl (zD 9 rfl) ?_;refine gz6 ?_;refine uCo (fun h3=> ?_) fun h4=> ?_
 refine gz3 ?_;refine de rfl (zbe (M1:=zbq ob pb ab b W1 G1) (R:=[]) zy4 rfl (WeakL.refl _) (by rw [AR]) (zh9 (hml x (Ac hx)).1 (by rw [he1];exact zyi hml hl k) hn1) ?_)
 rintro _ _ ⟨n24,W2,G2,rfl,he2,hn2,rfl⟩;refine gz7 ?_;exact ⟨k+1,W2,G2,⟨by omega,by rw [zmg hx,if_pos (by assumption),<-he1];exact he2,hn2⟩,uD,⟨rfl,trivial⟩,uK,zg (by dsimp only;try rw [AR])⟩;refine gz7 ?_;exact ⟨k+1,W1,G1,⟨by omega,by rw [zmg hx,if_neg uO];exact he1,hn1⟩,uD,⟨rfl,trivial⟩,uK,Ab _⟩;have hnk:l.length<=k:=by omega
 obtain rfl:k=l.length:=by omega
 rw [Aw] at he1;refine gz2 ?_;refine zdz ?_;refine gz7 ?_;exact zaf rfl ⟨_,_,_,_,_,rfl,he1,hn1,rfl⟩
end
end Go.Proofs.YtahegdhbakjdoaaGreatDoor
namespace Go.Proofs
section
open Go.Shelf
def Tryz.lays190_ren:Go.Shelf.Ren:=⟨fun|190=>172|125=>198|258=>235|128=>258|129=>259|302=>288|303=>289|304=>290|305=>291|306=>292|307=>293|308=>294|309=>295|310=>296|333=>339|329=>303|330=>304|334=>340|335=>341|336=>300|344=>359|n=>n,fun|31=>33|9=>9|3=>3|46=>284|0=>0|51=>332|53=>334|4=>4|183=>326|182=>325|131=>122|5=>5|218=>362|222=>366|228=>406|229=>407|n=>n,fun|n=>n⟩
theorem zqO:Go.Proofs.Lays.n190 Tryz.prog Tryz.lays190_ren:={
 mixed:=by kernel_rfl
 f125:=Tryz.func198.trans (congrArg some (by kernel_rfl))
 f128:=Tryz.func258.trans (congrArg some (by kernel_rfl))
 f129:=Tryz.func259.trans (congrArg some (by kernel_rfl))
 f190:=Tryz.func172.trans (congrArg some (by kernel_rfl))
 f258:=Tryz.func235.trans (congrArg some (by kernel_rfl))
 f302:=Tryz.func288.trans (congrArg some (by kernel_rfl))
 f303:=Tryz.func289.trans (congrArg some (by kernel_rfl))
 f304:=Tryz.func290.trans (congrArg some (by kernel_rfl))
 f305:=Tryz.func291.trans (congrArg some (by kernel_rfl))
 f306:=Tryz.func292.trans (congrArg some (by kernel_rfl))
 f307:=Tryz.func293.trans (congrArg some (by kernel_rfl))
 f308:=Tryz.func294.trans (congrArg some (by kernel_rfl))
 f309:=Tryz.func295.trans (congrArg some (by kernel_rfl))
 f310:=Tryz.func296.trans (congrArg some (by kernel_rfl))
 f329:=Tryz.func303.trans (congrArg some (by kernel_rfl))
 f330:=Tryz.func304.trans (congrArg some (by kernel_rfl))
 f333:=Tryz.func339.trans (congrArg some (by kernel_rfl))
 f334:=Tryz.func340.trans (congrArg some (by kernel_rfl))
 f335:=Tryz.func341.trans (congrArg some (by kernel_rfl))
 f336:=Tryz.func300.trans (congrArg some (by kernel_rfl))
 f344:=Tryz.func359.trans (congrArg some (by kernel_rfl))
 t0:=Tryz.underlying0
 a0:=Tryz.isAgg0
 z0:=Tryz.sizeOf0
 v0:=Tryz.zeroValue0
 t3:=Tryz.underlying3
 a3:=Tryz.isAgg3
 z3:=Tryz.sizeOf3
 v3:=Tryz.zeroValue3
 t4:=Tryz.underlying4
 a4:=Tryz.isAgg4
 z4:=Tryz.sizeOf4
 v4:=Tryz.zeroValue4
 t5:=Tryz.underlying5
 a5:=Tryz.isAgg5
 z5:=Tryz.sizeOf5
 v5:=Tryz.zeroValue5
 t9:=Tryz.underlying9
 a9:=Tryz.isAgg9
 z9:=Tryz.sizeOf9
 v9:=Tryz.zeroValue9
 t31:=Tryz.underlying33
 a31:=Tryz.isAgg33
 z31:=Tryz.sizeOf33
 v31:=Tryz.zeroValue33
 t46:=Tryz.underlying284
 a46:=Tryz.isAgg284
 z46:=Tryz.sizeOf284
 v46:=Tryz.zeroValue284
 t51:=Tryz.underlying332
 a51:=Tryz.isAgg332
 z51:=Tryz.sizeOf332
 v51:=Tryz.zeroValue332
 t53:=Tryz.underlying334
 a53:=Tryz.isAgg334
 z53:=Tryz.sizeOf334
 v53:=Tryz.zeroValue334
 t131:=Tryz.underlying122
 a131:=Tryz.isAgg122
 z131:=Tryz.sizeOf122
 v131:=Tryz.zeroValue122
 t182:=Tryz.underlying325
 a182:=Tryz.isAgg325
 z182:=Tryz.sizeOf325
 v182:=Tryz.zeroValue325
 t183:=Tryz.underlying326
 a183:=Tryz.isAgg326
 z183:=Tryz.sizeOf326
 v183:=Tryz.zeroValue326
 t218:=Tryz.underlying362
 a218:=Tryz.isAgg362
 z218:=Tryz.sizeOf362
 v218:=Tryz.zeroValue362
 t222:=Tryz.underlying366
 a222:=Tryz.isAgg366
 z222:=Tryz.sizeOf366
 v222:=Tryz.zeroValue366
 t228:=Tryz.underlying406
 a228:=Tryz.isAgg406
 z228:=Tryz.sizeOf406
 v228:=Tryz.zeroValue406
 t229:=Tryz.underlying407
 a229:=Tryz.isAgg407
 z229:=Tryz.sizeOf407
 v229:=Tryz.zeroValue407}
end
end Go.Proofs
namespace Go.Proofs.YtahegdhbakjdoaaGreatDoor
set_option maxRecDepth 100000
set_option linter.unusedVariables false
set_option linter.unusedSimpArgs false
section
open Go.Proofs.Tryz
open Go.HL
theorem zmO [Tracks]:ConP prog 259 [.int .u64 0] (.int .i64 0):=by
 refine uOb func259 ntmps259 ?_;refine gz8 ?_;refine zd3 rfl ?_;refine gz7 ?_;refine zd3 rfl ?_;refine gz7 ?_;refine zd3 rfl ?_;refine gz5 ?_;refine dq (zeQ ztO ty5 rfl) ?_;refine dq (zaT (j:=0) (b:=0) ty9 rfl rfl rfl rfl) ?_;refine dq (zeQ ty5 ty3 rfl) ?_;refine dq (zbf rfl rfl (by decide) (by decide)) ?_;refine gz3 ?_;refine zC rfl ?_
 rfl
theorem znU [Tracks]:ConP prog 198 [.int .u64 0] (.int .i64 0):=by
 refine uOb func198 ntmps198 ?_;refine gz4 ?_;refine zd3 rfl ?_;refine gz4 ?_;refine dq (uCl zzM rfl zmO) ?_;refine gz3 ?_;refine zC rfl ?_
 rfl
theorem zfn [Tracks]:ConP prog 288 [eSs [],.int .i64 0,.int .i64 0] (.tup []):=by
 refine uOb func288 ntmps288 ?_;refine gz6 ?_;refine uU1 [6,2,10,39] (fun (u:Unit)=>[(6,.int .i64 1)]) (fun (u:Unit)=>[]) (fun (u:Unit)=>True) (fun (u:Unit)=>0) (()) ?_ ?_
 trivial
 intro u hu
 refine gz6 ?_;refine zd3 rfl ?_;refine gz2 ?_;refine zG ?_;refine gz1 ?_;refine ztF rfl ?_
 rfl
theorem zgN [Tracks]:ConP prog 235 [eSs [],.int .i64 0,.int .i64 0,.int .i64 0] (.tup []):=by
 refine uOb func235 ntmps235 ?_;refine gz7 ?_;refine uU1 [1,3,8,126] (fun (u:Unit)=>[(1,.int .i64 0),(2,.int .i64 0)]) (fun (u:Unit)=>[]) (fun (u:Unit)=>True) (fun (u:Unit)=>0) (()) ?_ ?_
 trivial
 intro u hu
 refine zfq ?_;refine zpK rfl ?_;refine gz4 ?_;refine dq (uCl zz1 rfl zfn) ?_;refine gz2 ?_;refine zC rfl ?_
 rfl
theorem zmV [Tracks]:ConP prog 172 [eSs []] (.tup []):=by
 refine uOb func172 ntmps172 ?_;refine gz9 ?_;refine dq (zeQ ty3 zoH rfl) ?_;refine dq (uCl zzm rfl znU) ?_;refine dq (uCl zzB rfl zgN) ?_;refine gz1 ?_;refine ztF rfl ?_
 rfl
theorem zlf [Tracks] {l:List Str} {v:Value} (hl:l.length<=1000000):Con prog 172 [.raw v] [.arr v 1 (l.map .str)] fun x M'=>x= .tup []/\M'=[.arr v 1 ((zfe l).map .str)]:=
 zwY (zuV l) (fun b off cap w h1 h2 _=>Any.slices_Sort_string zqO b off cap l w h1 h2 uO) (fun _=>zmV)
end
section
open Go.Proofs.Tryz
open Go.HL
theorem zia [Tracks] {ob pb ab:Nat} {b:BoundS} {W:List (Str×WhS)} {G:Grp Int} {k:RosS} {n:Nat} {t:Str} (hr:Rel k (zaX W G)) (hk:RosOk n k) (ht:t≠[]) (hw:W.length<=1000000):Con prog 95 [.raw (.pointer (some ⟨ob,0,none⟩)),.str t] (zbq ob pb ab b W G) (fun x M'=>x=zkL t (rPl k t) (rHu k t)/\M'=[]):=by
 have hn:ANodup W:=hr.nd;refine zbz func95 rfl ntmps95 rfl rfl ?_;refine gz1 ?_;refine de rfl (zq zdO rfl fun b4=> ?_)
 refine gz3 ?_;refine dq (zO (cs:=[_,_,_]) zdO pl85 rfl) ?_;refine de rfl (zq zdO rfl fun b5=> ?_)
 focus first
 |refine de0 (uY 0 ?_)
 |refine de0 (uY 1 ?_)
 |refine de0 (uY 2 ?_)
 |refine de0 (uY 3 ?_)
 refine gz4 ?_;refine dq ((by first|exact zw rfl|exact zn rfl)) ?_;refine gz1 ?_
 focus first
 |refine de rfl (uZ 0 ?_)
 |refine de rfl (uZ 1 ?_)
 |refine de rfl (uZ 2 ?_)
 |refine de rfl (uZ 3 ?_)
 refine de rfl (zpC (i:=3) zfN rfl rfl fun r=> ?_)
 refine gz1 ?_;refine zl (zQ 1) ?_;refine zl (zQ 1) ?_;refine gz1 ?_;refine zpM [6,7,15,16,17,18,19,20,21,22,23,24,25,26,27,28,29,30,31,32,33,34,35,36,37,38,39] (fun (vis:List Nat) (E:List (Str×WhS)) (u:Value) (v:Value)=>[]) (fun (vis:List Nat) (E:List (Str×WhS)) (u:Value) (v:Value)=>[.arr v 1 ((plE t true E).map HVal.str),.arr u 1 ((plE t false E).map HVal.str),.cells b5 [.str t,.raw u,.raw v],.cells b4 [.str [],.raw (.slice none 0 0),.raw (.slice none 0 0)],.cells ob (zs1 b pb ab),.iter r pb (sk (em eWh W)) vis,.map ab (sk (em fG G))]++grp 1 (HVal.int .i64) G) (fun (vis:List Nat) (E:List (Str×WhS)) (u:Value) (v:Value)=>VisOk (W) vis E/\(True)) (fun (vis:List Nat) (E:List (Str×WhS)) (u:Value) (v:Value)=>(W).length-vis.length) ([]) ([]) (.slice none 0 0) (.slice none 0 0) ?_ ?_ ?_ ?_;exact ⟨VisOk.nil _,trivial⟩;exact trivial;exact zg rfl
 intro vis E u v hinv
 obtain ⟨hvis,-⟩:=hinv;have hvl:=hvis.len;refine gz1 ?_;refine de rfl (zpB (i:=5) (L:=W) (enc:=(fun p:Str×WhS=>(HVal.str p.1,eWh p.2))) rfl rfl (zqF _ _) hvis.nd hvis.lt fun cb R vis' hnx=> ?_)
 refine gz3 ?_;refine uCo (fun h1=> ?_) fun h2=> ?_
 obtain ⟨j,q,hq,hj,rfl⟩:=hnx.t h1;have hroom:=hvis.room hq hj;have hstep:=hvis.step hq hj;have hqm:=Ac hq;refine gz4 ?_;refine de rfl (zn7 (i:=5) (L:=W) (enc:=(fun p:Str×WhS=>(HVal.str p.1,eWh p.2))) rfl rfl (zqF _ _) hq ?_)
 refine gz2 ?_;refine de rfl (zq zbE rfl fun b7=> ?_)
 refine gz1 ?_;refine de0 (zz zbE rfl rfl rfl rfl rfl ?_)
 refine gz1 ?_;refine zl (zD 7 rfl) ?_;refine gz2 ?_;refine dq ((by first|exact ze zbE rfl ty9 (by decide) rfl|exact zb zbE rfl ty9 (by decide) rfl)) ?_;refine gz5 ?_;refine uCo (fun h3=> ?_) fun h4=> ?_
 refine gz3 ?_;exact ⟨_,E++[q],u,v,⟨hstep,trivial⟩,by dsimp only;rw [AB];simp only [Ah,Al];omega,trivial,uK,zg (by dsimp only;rw [zov (t:=t) (h:=false) (by simp_all [isO]),zov (t:=t) (h:=true) (by simp_all [isO])];first|exact rfl|(simp only [Ay,Ao,A3];rfl))⟩;refine gz1 ?_;refine dq ((by first|exact ze zbE rfl ty4 (by decide) rfl|exact zb zbE rfl ty4 (by decide) rfl)) ?_;refine gz3 ?_;refine uCo (fun h5=> ?_) fun h6=> ?_
 refine gz2 ?_
 focus first
 |refine de rfl (uZ 0 ?_)
 |refine de rfl (uZ 1 ?_)
 |refine de rfl (uZ 2 ?_)
 |refine de rfl (uZ 3 ?_)
 refine gz1 ?_;refine dq (za (hs:=[_]) zu ty9 rfl rfl (by decide) (by decide) rfl) ?_;refine de rfl (zN (i:=0) zu ty9 rfl rfl rfl rfl rfl (by simp [zal,zd]) (by have:=zgz t false E;have:=zgz t true E;have:=hvis.len;simp only [Ag,Ah,Al] at*;omega) fun v38=> ?_)
 refine gz1 ?_
 focus first
 |refine de0 (uY 0 ?_)
 |refine de0 (uY 1 ?_)
 |refine de0 (uY 2 ?_)
 |refine de0 (uY 3 ?_)
 refine gz3 ?_;exact ⟨_,E++[q],u,v38,⟨hstep,trivial⟩,by dsimp only;rw [AB];simp only [Ah,Al];omega,trivial,uK,zg (by dsimp only;rw [zov (t:=t) (h:=false) (by simp_all [isO]),zsD (t:=t) (h:=true) (by simp_all [isO])];first|exact rfl|(simp only [Ay,Ao,A3];rfl))⟩;refine gz2 ?_
 focus first
 |refine de rfl (uZ 0 ?_)
 |refine de rfl (uZ 1 ?_)
 |refine de rfl (uZ 2 ?_)
 |refine de rfl (uZ 3 ?_)
 refine gz1 ?_;refine dq (za (hs:=[_]) zu ty9 rfl rfl (by decide) (by decide) rfl) ?_;refine de rfl (zN (i:=1) zu ty9 rfl rfl rfl rfl rfl (by simp [zal,zd]) (by have:=zgz t false E;have:=zgz t true E;have:=hvis.len;simp only [Ag,Ah,Al] at*;omega) fun v24=> ?_)
 refine gz1 ?_
 focus first
 |refine de0 (uY 0 ?_)
 |refine de0 (uY 1 ?_)
 |refine de0 (uY 2 ?_)
 |refine de0 (uY 3 ?_)
 refine gz3 ?_;exact ⟨_,E++[q],v24,v,⟨hstep,trivial⟩,by dsimp only;rw [AB];simp only [Ah,Al];omega,trivial,uK,zg (by dsimp only;rw [zsD (t:=t) (h:=false) (by simp_all [isO]),zov (t:=t) (h:=true) (by simp_all [isO])];first|exact rfl|(simp only [Ay,Ao,A3];rfl))⟩;obtain ⟨rfl,hlen⟩:=hnx.f h2;have hEp:=hvis.done hlen;refine gz2 ?_;refine zrp ?_;refine gz4 ?_
 focus first
 |refine de rfl (uZ 0 ?_)
 |refine de rfl (uZ 1 ?_)
 |refine de rfl (uZ 2 ?_)
 |refine de rfl (uZ 3 ?_)
 refine de rfl (uCx 1 zwm rfl rfl (zlf (l:=plE t false E) (by have:=zgz t false E;have:=zgz t true E;have:=hEp.length_eq;omega)) ?_)
 rintro _ _ ⟨rfl,rfl⟩;refine gz3 ?_
 focus first
 |refine de rfl (uZ 0 ?_)
 |refine de rfl (uZ 1 ?_)
 |refine de rfl (uZ 2 ?_)
 |refine de rfl (uZ 3 ?_)
 refine de rfl (uCx 1 zwm rfl rfl (zlf (l:=plE t true E) (by have:=zgz t false E;have:=zgz t true E;have:=hEp.length_eq;omega)) ?_)
 rintro _ _ ⟨rfl,rfl⟩;refine gz1 ?_;refine zl (ze0 (i:=0) (k:=1) (j:=2) rfl rfl rfl) ?_;refine zl (ze0 (i:=0) (k:=0) (j:=1) rfl rfl rfl) ?_;refine gz1 ?_;refine de rfl (zdl (i:=0) (h:=zkL t (zfe (plE t false E)) (zfe (plE t true E))) zdO rfl rfl rfl rfl rfl ?_)
 refine de0 (zeC (i:=1) (h:=zkL t (zfe (plE t false E)) (zfe (plE t true E))) zdO rfl rfl rfl rfl rfl (Ak rfl) ?_)
 refine gz2 ?_;refine ⟨_,_,(zbi 4 (i:=1) rfl rfl).trans Ghost.clear,[_],_,⟨⟨_,_,_,_,_,rfl,zdO,.inr ⟨rfl,rfl,rfl⟩⟩,trivial⟩,Weak.refl _,?_,rfl⟩
 rw [<-zxL hr hk ht hEp,<-zxK hr hk ht hEp]
 rfl
theorem zkz [Tracks] {b:BoundS} {l:List MoveS} {t:Str} {n:Int} (hm:zcj l=0) (ht:t≠[]):ConP prog 44 [zcn b,zbs l,.str t,.int .i64 n] (zkL t (rPl (zah b l n) t) (rHu (zah b l n) t)):=by
 obtain ⟨hr,hk,hw⟩:=zuQ (b:=b) (n:=n) hm;refine zbz func44 rfl ntmps44 rfl rfl ?_;refine gz2 ?_;refine de rfl (zq zdO rfl fun b8=> ?_)
 refine gz5 ?_;refine de rfl (zbe (M1:=[]) (R:=[_]) ca91 rfl (WeakL.refl _) (Ab _) (zgH (b:=b) (l:=l) (n:=n) hm) ?_)
 rintro _ _ ⟨ob,pb,ab,W,G,rfl,he,hn,rfl⟩;rw [<-he] at hr hw;refine gz1 ?_;refine de rfl (zbe (M1:=zbq ob pb ab b W G) (R:=[_]) ca95 rfl (WeakL.refl _) (Ab _) (zia hr hk ht (Ax hw.wl (by decide))) ?_)
 rintro _ _ ⟨rfl,rfl⟩;refine de0 (zz (h:=zkL t (rPl (zah b l n) t) (rHu (zah b l n) t)) zdO rfl rfl rfl rfl rfl ?_)
 refine gz2 ?_;exact ⟨_,_,zD 8 rfl,[_],_,⟨⟨_,_,_,_,_,rfl,zdO,.inr ⟨rfl,rfl,rfl⟩⟩,trivial⟩,Weak.refl _,rfl,rfl⟩
end
section
open Go.Proofs.Tryz
open Go.HL
theorem zlH [Tracks] {b:BoundS} {l:List MoveS} {p:List Str} {n:Int} (hm:zcj l=0) (hp:p.length<=1000000) (hn:0<=n/\n<=345686399999):ConP prog 41 [zcn b,zbs l,eSs p,.int .i64 n] (eSs (zb0 b (zah b l n) n p)):=by
 obtain ⟨hr,hko,hw⟩:=zuQ (b:=b) (n:=n) hm;refine uOb func41 ntmps41 ?_;refine gz8 ?_;refine de rfl (zbe (M1:=[]) (R:=[]) ca91 rfl (WeakL.refl _) (Ab _) (zgH (b:=b) (l:=l) (n:=n) hm) ?_)
 rintro _ _ ⟨ob,pb,ab,W,G,rfl,he,hn1,rfl⟩;rw [<-he] at hr hw;refine gz5 ?_;refine zl (zQ 1) ?_;refine gz7 ?_;refine uV2 [10,1,12,1,19,21] (fun (k:Nat) (u:Value)=>[(19,.int .i64 k),(10,.raw u)]) (fun (k:Nat) (u:Value)=> .arr u 1 (((p.take k).filter (fun s=>decide ((ofO (zaX W G) s).team=[])&& !zjn b (zaX W G) s n)).map HVal.str)::(zbq ob pb ab b W G)) (fun (k:Nat) (u:Value)=>k<=p.length/\(True)) (fun (k:Nat) (u:Value)=>p.length-k) (0) (.slice none 0 0) ?_ ?_ ?_ ?_;exact ⟨Ad _,trivial⟩;exact ⟨rfl,rfl,trivial⟩;exact (zg (by rw [AR];rfl))
 intro k u hinv
 obtain ⟨hk,-⟩:=hinv;refine gz4 ?_;refine uCo (fun h1=> ?_) fun h2=> ?_
 obtain ⟨x,hx⟩: ∃x,p[k]? =some x:=⟨_,Aa h1⟩
 have hdx:=zt hx;refine zfq ?_;refine de rfl (zdY (M1:=(zbq ob pb ab b W G)) (R:=[_]) zva rfl (WeakL.refl _) (AX (l₁:=[_]) (l₂:=(zbq ob pb ab b W G))) zer ?_)
 refine dq (zmh zbE rfl ty9 rfl rfl rfl) ?_;refine gz5 ?_;refine dgl rfl rfl (fun hc=>⟨_,OpenTo.upd (t:=31) rfl uC (OpenTo.upd (t:=30) rfl uC (OpenTo.upd (t:=29) rfl uC (OpenTo.refl _))),zdY (M1:=(zbq ob pb ab b W G)) (R:=[_]) ca93 rfl (WeakL.refl _) (AX (l₁:=[_]) (l₂:=(zbq ob pb ab b W G))) (zfP (p:=x) (n:=n) hn (hw.dr x)) ⟨rfl,rfl⟩⟩) ?_;refine gz3 ?_;refine uCo (fun h3=> ?_) fun h4=> ?_
 refine gz3 ?_;refine dq (za (hs:=[_]) zu ty9 rfl rfl (by decide) (by decide) rfl) ?_;refine de rfl (zN (i:=0) zu ty9 rfl rfl rfl rfl rfl (by simp [zal,zd]) (by have:=AW (fun s=>decide ((ofO (zaX W G) s).team=[])&& !zjn b (zaX W G) s n) (p.take k);simp only [Ag,Ah,Al,AC] at*;omega) fun v38=> ?_)
 refine gz8 ?_;exact ⟨k+1,v38,⟨by omega,trivial⟩,uD,⟨rfl,rfl,trivial⟩,uK,zg (by dsimp only;rw [zjQ hx,if_pos uSa,Ay];rfl)⟩;refine gz7 ?_;exact ⟨k+1,u,⟨by omega,trivial⟩,uD,⟨rfl,rfl,trivial⟩,uK,zg (by dsimp only;rw [zjQ hx,if_neg uSa])⟩;have hnk:p.length<=k:=by omega
 obtain rfl:k=p.length:=by omega
 rw [Aw];refine gz2 ?_;refine zY ?_;refine gz7 ?_;refine zB ((zap 8 (i:=0) rfl rfl).trans Ghost.clear) rfl ⟨?_,rfl⟩
 rw [<-zul hr hko.dr n]
theorem zlm [Tracks] {h:List HealthS} {s:Str} {w:Int} (hh:h.length<=1000000):ConP prog 46 [zbw h,.str s,.int .i64 w] (.int .i64 (zcC h s w)):=by
 refine uOb func46 ntmps46 ?_;refine zaD ?_;refine uT1 [6,1,8,1,11,23] (fun k=>[(11,.int .i64 k)]) (fun k=>[]) (fun k=>k<=h.length/\(zcC h s w=zcC (h.drop k) s w)) (fun k=>h.length-k) (0) ?_ ?_;exact ⟨Ad _,rfl⟩;rintro k ⟨hk,hg⟩;refine gz4 ?_;refine uCo (fun h1=> ?_) fun h2=> ?_
 obtain ⟨x,hx⟩: ∃x,h[k]? =some x:=⟨_,Aa h1⟩
 have hdx:=zt hx;rw [hdx] at hg;refine gz7 ?_;refine de rfl (zq zbN rfl fun b8=> ?_)
 refine de0 (zz zbN rfl rfl rfl rfl rfl ?_)
 refine gz1 ?_;refine zl (zD 8 rfl) ?_;refine zl5 ?_;refine uCo (fun h3=> ?_) fun h4=> ?_
 refine gz6 ?_;refine uRp ?_
 focus first
 |(rw [hg,zjx (by simp_all [zfJ])];done)
 |(rw [hg];rfl)
 refine gz7 ?_;refine ⟨k+1,?_,?_,⟨rfl,trivial⟩,uK,Ab _⟩
 refine ⟨by omega,?_⟩
 rw [hg,zrO (by simp_all [zfJ])]
 dsimp only;omega
 have hnk:h.length<=k:=by omega
 obtain rfl:k=h.length:=by omega
 rw [zP (Af _)] at hg;refine gz2 ?_;refine zG ?_;refine gz6 ?_;refine uRp ?_
 focus first
 |(rw [hg,zjx (by simp_all [zfJ])];done)
 |(rw [hg];rfl)
theorem zes [Tracks] {l:List FixS} {fid:FuncId} {caps:List HVal} {p:FixS->Bool} (hca:Callable prog fid) (hp: ∀x,ConP prog fid ([zau x]++caps) (.bool (p x))) (hl:l.length<=1000000):ConP prog 238 [.slice 4 (l.map zau),.fn (.func fid) [] caps] (.int .i64 (zag p l 0)):=by
 refine uOb func238 ntmps238 ?_;refine zaD ?_;refine uT1 [4,2,8,11] (fun k=>[(8,.int .i64 k)]) (fun k=>[]) (fun k=>k<=l.length/\(zag p l 0=zag p (l.drop k) k)) (fun k=>l.length-k) (0) ?_ ?_;exact ⟨Ad _,rfl⟩;rintro k ⟨hk,hg⟩;refine gz4 ?_;refine uCo (fun h1=> ?_) fun h2=> ?_
 obtain ⟨x,hx⟩: ∃x,l[k]? =some x:=⟨_,Aa h1⟩
 have hdx:=zt hx;rw [hdx] at hg;refine zeu ?_;refine dq (zaB hca rfl rfl (WeakL.refl _) (hp _)) ?_;refine gz1 ?_;refine uCo (fun h3=> ?_) fun h4=> ?_
 refine gz5 ?_;refine uRp ?_
 first|(rw [hg];rfl)|(rw [hg];simp_all [zag])
 refine gz7 ?_;refine ⟨k+1,?_,?_,⟨rfl,trivial⟩,uK,Ab _⟩
 refine ⟨by omega,?_⟩
 rw [hg,zag,if_neg uSa];rfl
 dsimp only;omega
 have hnk:l.length<=k:=by omega
 obtain rfl:k=l.length:=by omega
 rw [zP (Af _)] at hg;refine gz2 ?_;refine zG ?_;refine gz6 ?_;refine uRp ?_
 first|(rw [hg];rfl)|(rw [hg];simp_all [zag])
theorem zel [Tracks] {l:List FixS} {fid:FuncId} {caps:List HVal} {p:FixS->Bool} {v:Value} (hca:Callable prog fid) (hp: ∀x,ConP prog fid ([zau x]++caps) (.bool (p x))) (hl:l.length<=1000000):Con prog 176 [.raw v,.fn (.func fid) [] caps] [.arr v 4 (l.map zau)] (fun x M'=> ∃u,x= .raw u/\M'=[.arr u 4 ((l.filter (fun x=> !p x)).map zau)]):=by
 refine uOb func176 ntmps176 ?_;refine gz6 ?_;refine de rfl (zjl (hs':=[.slice 4 (l.map zau),.fn (.func fid) [] caps]) zzD rfl ⟨.arr (i:=0) rfl,.weak (Weak.refl _),trivial⟩ (zes (p:=p) hca hp hl) rfl ?_)
 refine gz7 ?_;refine uCo (fun h1=> ?_) fun h2=> ?_
 ·refine gz5 ?_
  first
  | (refine zaf rfl ⟨_,rfl,?_⟩
     rw [zgy p l 0 uO h1]
     done)
  | (refine zaf rfl ⟨_,rfl,?_⟩
     rw [Aw,<-Bu,hend];rfl)
 ·refine gz3 ?_;obtain ⟨i0,hi0,hil,⟨x0,hx0,hp0⟩,hb0⟩:=zgW p l 0 uO h2;rw [Int.zero_add] at hi0;obtain ⟨hD0,hn0⟩:=DelInv.start (p:=p) hil hx0 hp0 hb0;refine zc4 (i:=0) rfl (fun h0 he=> ?_) (fun b off cap hv hcap=> ?_)
  ·exfalso;have:=congrArg List.length he;simp at this;subst this;simp at hil
  rw [Ag] at hv hcap;subst hv;refine gz2 ?_;refine dq (zaq (zbf rfl rfl (by rw [hi0];omega) (by rw [hi0];omega)) (congrArg _ (by rw [hi0]))) ?_;refine gz3 ?_;refine uV2 [5,3,16,20] (fun (j:Nat) (D:List FixS)=>[(6,.int .i64 (j:Int)),(5,.int .i64 (((l.take j).filter (fun x=> !p x)).length:Int))]) (fun (j:Nat) (D:List FixS)=>[.arr (.slice (some ⟨b,off,none⟩) l.length cap) 4 (D.map zau)]) (fun (j:Nat) (D:List FixS)=>DelInv p l j D) (fun (j:Nat) (D:List FixS)=>l.length-j) (i0+1) (l) ?_ ?_ ?_ ?_
  ·exact hD0
  ·exact ⟨rfl,zW (by rw [hn0,hi0]),trivial⟩
  ·exact Ab _
  ·intro j D hD
   have hlt0:=hD.lt;have hle0:=hD.len;refine gz4 ?_
   first
   |refine de rfl (za6 (i:=0) zaF rfl rfl ?_)
   |refine de rfl (za6 (i:=1) zaF rfl rfl ?_)
   |refine de rfl (za6 (i:=2) zaF rfl rfl ?_)
   |refine de rfl (za6 (i:=3) zaF rfl rfl ?_)
   refine gz2 ?_;refine uCo (fun h3=> ?_) fun h4=> ?_
   ·obtain ⟨x,hx⟩: ∃x,l[j]? =some x:=⟨_,Aa uO⟩
    refine gz7 ?_;refine dq (zM (j:=j) zaF zaa rfl rfl rfl uO) ?_;refine de rfl (zao (i:=0) (j:=j) zaa rfl rfl rfl (hD.get hx) rfl rfl rfl ?_)
    refine de rfl (zq zaa rfl fun b7=> ?_)
    refine de0 (zz zaa rfl rfl rfl rfl rfl ?_)
    refine gz1 ?_;refine zl (zD 7 rfl) ?_;refine gz3 ?_;refine dq (zaB hca rfl rfl (WeakL.refl _) (hp _)) ?_;refine gz2 ?_;refine uCo (fun h5=> ?_) fun h6=> ?_
    ·refine gz4 ?_;refine dq (zM (j:=((l.take j).filter (fun x=> !p x)).length) zaF zaa rfl rfl rfl (by have:=hD.lt;omega)) ?_;refine de0 (zbh (i:=0) (j:=((l.take j).filter (fun x=> !p x)).length) (y:=D[((l.take j).filter (fun x=> !p x)).length]'(by have:=hD.lt;have:=hD.len;omega)) (y':=x) zaa rfl rfl rfl rfl (Aa _) rfl rfl rfl ?_)
     refine gz3 ?_;refine dq (zbf rfl rfl uO (by have:=hD.lt;omega)) ?_;refine gz9 ?_
     first
     |exact ⟨j+1,_,(hD.keep hx uSa).1,uD,⟨rfl,zW (by rw [(hD.keep hx uSa).2];rfl),trivial⟩,uK,Ab _⟩
     |exact ⟨j+1,_,(hD.skip hx uSa).1,uD,⟨rfl,zW (by rw [(hD.skip hx uSa).2]),trivial⟩,uK,Ab _⟩
    ·refine gz8 ?_
     first
     |exact ⟨j+1,_,(hD.keep hx uSa).1,uD,⟨rfl,zW (by rw [(hD.keep hx uSa).2];rfl),trivial⟩,uK,Ab _⟩
     |exact ⟨j+1,_,(hD.skip hx uSa).1,uD,⟨rfl,zW (by rw [(hD.skip hx uSa).2]),trivial⟩,uK,Ab _⟩
   ·obtain rfl:j=l.length:=by have:=hD.jle;omega
    have hend:=hD.done;refine gz2 ?_;refine zY ?_;refine gz5 ?_;refine dq (zeF (l:=((l.take l.length).filter (fun x=> !p x)).length) zaF zaa rfl ⟨_,_,rfl,rfl⟩ rfl uO uO hcap) ?_;refine de0 (zet (i:=0) (m:=((l.take l.length).filter (fun x=> !p x)).length) (((l.take l.length).filter (fun x=> !p x)).length) zaF zaa rfl rfl rfl (zhs uO hcap) rfl uO (Af _) (by rw [Ag,hD.len];omega) ?_)
    refine gz4 ?_;refine dq (zfK (h:=((l.take l.length).filter (fun x=> !p x)).length) zaF zaa rfl ⟨_,_,rfl,rfl⟩ uO) ?_;refine gz3 ?_
    first
    | (refine zaf rfl ⟨_,rfl,?_⟩
       rw [zgy p l 0 uO h1]
       done)
    | (refine zaf rfl ⟨_,rfl,?_⟩
       rw [Aw,<-Bu,hend];rfl)
theorem zj4 [Tracks] {x:FixS} {c:Str} {w:Int}:ConP prog 178 [zau x,.vptr [.int .i64 w] 0,.vptr [.str c] 0] (.bool (!ziT c w x)):=by
 refine uOb func178 ntmps178 ?_;refine gz24 ?_;refine zC rfl ?_
 show HVal.bool _=_
 unfold ziT
 simp_all [bne]
end
end Go.Proofs.YtahegdhbakjdoaaGreatDoor
namespace Go.HL
section
open Go
def StO (l:List StintS):Prop:=l.Pairwise fun a b=>a.Player=b.Player->a.Week<b.Week
theorem zq3 {α:Type} {r:α->α->Prop} (ht: ∀a b c,r a b->r b c->r a c): ∀{l:List α},(∀(i:Nat) (x y:α),l[i]? =some x->l[i+1]? =some y->r x y)->l.Pairwise r
 |[],_=>List.Pairwise.nil
 |[x],_=>List.pairwise_singleton _ _
 |x::y::t,h=>by
   have ih:(y::t).Pairwise r:=zq3 ht fun i a b ha hb=>h (i+1) a b ha hb
   refine List.pairwise_cons.2 ⟨fun z hz=> ?_,ih⟩
   have h1:=h 0 x y rfl rfl
   rcases List.mem_cons.1 hz with rfl|hz
   exact h1;exact ht _ _ _ h1 ((List.pairwise_cons.1 ih).1 z hz)
def ztH (a b:StintS):Prop:=zab a.Player b.Player<0\/(a.Player=b.Player/\a.Week<b.Week)
theorem ztI (a b c:StintS) (h1:ztH a b) (h2:ztH b c):ztH a c:=by
 rcases h1 with h1|⟨e1,w1⟩
 rcases h2 with h2|⟨e2,w2⟩
 have h3:=zgQ (Int.le_of_lt h1) (Int.le_of_lt h2);refine .inl (Decidable.byContradiction fun q=> ?_)
 have h4:zab a.Player c.Player=0:=by omega
 have:=(zlg (Int.le_of_lt h1) (Int.le_of_lt h2) h4).1
 omega
 exact .inl (by rw [<-e2];exact h1)
 rcases h2 with h2|⟨e2,w2⟩
 exact .inl (by rw [e1];exact h2);exact .inr ⟨e1.trans e2,by omega⟩
theorem zxM {L:List PlayerS} {l:List StintS} (h:zfZ L l=0):StO l/\(∀x∈l,1<=x.Week)/\l.length<=1000:=by
 unfold zfZ at h
 split at h
 rename_i h1;exact absurd h h1
 obtain ⟨h1,h2⟩:=zki h;have h3: ∀(i:Nat) (x:StintS),l[i]? =some x->zbc x.Week=true/\(0<i->0<orI [zab x.Player (l.getD (i-1) zd7).Player,zaj x.Week (l.getD (i-1) zd7).Week]):=by
  intro i x hx
  have:=h2 i x hx;unfold zdd at this
  split at this
  omega
  split at this
  omega
  split at this
  omega
  split at this
  omega
  rename_i q1 q2
  exact ⟨by simpa using q1,fun hi=>by
   have:=not_and.1 q2 hi
   omega⟩
 refine ⟨?_,fun x hx=> ?_,h1⟩
 have hp:l.Pairwise ztH:=zq3 ztI fun i x y hx hy=>by
  have h4:=(h3 (i+1) y hy).2 (by omega);rw [show i+1-1=i by omega,Ae,hx,Bh,zee] at h4
  split at h4
  have:=zeB y.Player x.Player;exact .inl (by omega)
  rename_i h5
  have h6:zab y.Player x.Player=0:=Decidable.not_not.1 h5;rw [zsC] at h4;refine .inr ⟨(zcz.1 h6).symm,Decidable.byContradiction fun q=> ?_⟩
  have:=zo2.2 (Int.not_lt.1 q)
  omega
 refine hp.imp fun {a b} hab e=> ?_
 rcases hab with q|q
 rw [e,zcz.2 rfl] at q;omega;exact q.2;obtain ⟨i,hi,rfl⟩:=A1 hx;have:=(h3 i _ (Aa hi)).1;have h7:out l[i].Week 1 60=false:=by unfold zbc at this;simpa using this
 exact (zeP h7).1
def zjV (s:Str) (k:Int) (c:Str):List StintS->Str
 |[]=>c
 |x::r=>zjV s k (if x.Player=s/\x.Week=k then x.Club else c) r
theorem zpu {s:Str} {k:Int}: ∀{l:List StintS} {c:Str},(∀x∈l,x.Player=s->k<x.Week)->zjV s k c l=c
 |[],_,_=>rfl
 |x::r,c,h=>by
   have h1: ¬(x.Player=s/\x.Week=k):=fun q=>by have:=h x Ai q.1;omega
   rw [zjV,if_neg h1];exact zpu fun y hy=>h y (Ap _ hy)
theorem zhO {s:Str} {k:Int}: ∀{l:List StintS} {c:Str},(∀x∈l,x.Player=s->k<x.Week)->zdw s k c l=c
 |[],_,_=>rfl
 |x::r,c,h=>by
   have h1: ¬(x.Player=s/\x.Week<=k):=fun q=>by have:=h x Ai q.1;omega
   rw [zdw,if_neg h1];exact zhO fun y hy=>h y (Ap _ hy)
theorem zlY {s:Str} {k:Int}: ∀{l:List StintS} {c:Str},StO l->zjV s (k+1) (zdw s k c l) l=zdw s (k+1) c l
 |[],_,_=>rfl
 |x::r,c,h=>by
   obtain ⟨h1,h2⟩:=List.pairwise_cons.1 h
   by_cases e:x.Player=s
   by_cases e1:x.Week<=k
   rw [zdw,if_pos ⟨e,e1⟩,zjV,if_neg (fun q=>by omega),zdw,if_pos ⟨e,by omega⟩];exact zlY h2
   by_cases e2:x.Week=k+1
   have h3: ∀y∈r,y.Player=s->k+1<y.Week:=fun y hy q=>by have:=h1 y hy (e.trans q.symm);omega
   rw [zjV,if_pos ⟨e,e2⟩,zpu h3]
   show _=zdw s (k+1) c (x::r)
   rw [zdw,if_pos ⟨e,by omega⟩,zhO h3];have h3: ∀y∈x::r,y.Player=s->k+1<y.Week:=fun y hy q=>by
    rcases List.mem_cons.1 hy with rfl|hy
    omega
    have:=h1 y hy (e.trans q.symm);omega
   rw [zhO fun y hy q=>by have:=h3 y hy q;omega,zpu h3,zhO h3];rw [zdw,if_neg (fun q=>e q.1),zjV,if_neg (fun q=>e q.1),zdw,if_neg (fun q=>e q.1)];exact zlY h2
theorem zt8 {s:Str} {l:List StintS} (h: ∀x∈l,1<=x.Week):zaY l s 0=[]:=zhO fun x hx _=>by have:=h x hx;omega
end
end Go.HL
namespace Go.Proofs.YtahegdhbakjdoaaGreatDoor
set_option maxRecDepth 100000
set_option linter.unusedVariables false
set_option linter.unusedSimpArgs false
section
open Go.Proofs.Tryz
open Go.HL
theorem zlG [Tracks] {l:List StintS} {s:Str} {w:Int} (hl:l.length<=1000000) (hs:StO l) (h1: ∀x∈l,1<=x.Week) (hw:0<=w/\w<=1000000):ConP prog 99 [zbJ l,.str s,.int .i64 w] (.str (zaY l s w)):=by
 refine uOb func99 ntmps99 ?_;refine zc8 ?_;refine uV1 [7,2,10,25] (fun (j:Nat)=>[(8,.int .i64 ((j:Int)+1)),(7,.str (zaY l s (j:Int)))]) (fun (j:Nat)=>[]) (fun (j:Nat)=>j<=w.toNat) (fun (j:Nat)=>w.toNat-j) (0) ?_ ?_ ?_ ?_;exact Ad _;exact ⟨rfl,congrArg (fun z=>some (HVal.str z)) (zt8 h1).symm,trivial⟩;exact Ab _
 intro j hj
 refine gz6 ?_;refine uCo (fun h1=> ?_) fun h2=> ?_
 have hj2:j<w.toNat:=by simp_all;omega
 refine zaD ?_;refine uU2 [7,1,10,1,18,17] (fun (k:Nat) (c:Str)=>[(18,.int .i64 k),(7,.str c)]) (fun (k:Nat) (c:Str)=>[]) (fun (k:Nat) (c:Str)=>k<=l.length/\(zjV s ((j:Int)+1) c (l.drop k)=zaY l s ((j:Int)+1))) (fun (k:Nat) (c:Str)=>l.length-k) (0) (zaY l s (j:Int)) ?_ ?_;exact ⟨Ad _,zlY hs⟩;rintro k c ⟨hk,hg⟩;refine gz4 ?_;refine uCo (fun h3=> ?_) fun h4=> ?_
 obtain ⟨x,hx⟩: ∃x,l[k]? =some x:=⟨_,Aa h3⟩
 have hdx:=zt hx;refine gz7 ?_;refine de rfl (zq zbY rfl fun b10=> ?_)
 refine de0 (zz zbY rfl rfl rfl rfl rfl ?_)
 refine gz1 ?_;refine zl (zD 10 rfl) ?_;refine zfq ?_;refine uCo (fun h5=> ?_) fun h6=> ?_
 refine zc8 ?_;refine ⟨k+1,_,?_,?_,⟨rfl,rfl,trivial⟩,uK,Ab _⟩
 refine ⟨by omega,?_⟩
 rw [<-hg,hdx,zjV]
 congr 1
 focus first|(rw [if_pos uSa];done)|(rw [if_neg uSa];done)
 dsimp only;omega
 refine gz7 ?_;refine ⟨k+1,_,?_,?_,⟨rfl,rfl,trivial⟩,uK,Ab _⟩
 refine ⟨by omega,?_⟩
 rw [<-hg,hdx,zjV]
 congr 1
 focus first|(rw [if_pos uSa];done)|(rw [if_neg uSa];done)
 dsimp only;omega
 have hnk:l.length<=k:=by omega
 obtain rfl:k=l.length:=by omega
 rw [zP (Af _)] at hg;refine gz2 ?_;refine zY ?_;refine gz8 ?_;exact ⟨j+1,by omega,uD,⟨rfl,congrArg (fun z=>some (HVal.str z)) (hg:c=zaY l s ((j+1:Nat):Int)),trivial⟩,uK,Ab _⟩;obtain rfl:j=w.toNat:=by simp_all;omega
 refine gz2 ?_;refine zG ?_;refine gz7 ?_;refine zC rfl ?_
 show HVal.str _=_
 rw [Int.toNat_of_nonneg hw.1]
theorem ze8 [Tracks] {l:List FixS} (hl:l.length<=1000000):zsQ prog 177 [.slice 4 (l.map zau)] 4 (l.map zau):=by
 refine uOb func177 ntmps177 ?_;refine gz6 ?_;refine de rfl (zpA zaF rfl rfl fun b4 hb4=> ?_)
 refine gz1 ?_;refine uCo (fun h1=> ?_) fun h2=> ?_
 refine gz4 ?_
 first|exact ztD rfl rfl|exact zB (zQ 4) rfl ⟨_,rfl,by simp_all⟩
 refine gz3 ?_;refine de rfl (zsh zaF zaa fun v5=> ?_)
 refine gz1 ?_;refine de rfl (zN (i:=0) zaF zaa rfl rfl rfl rfl rfl (by simp [zal,zd]) (by first|omega|(simp;omega)) fun v7=> ?_)
 refine gz3 ?_
 first|exact ztD rfl rfl|exact zB (zQ 4) rfl ⟨_,rfl,by simp_all⟩
theorem zll [Tracks] {f:List FixS} {c:Str} {w:Int} (hf:f.length<=1000000):ConP prog 100 [zde f,.str c,.int .i64 w] (zde (zbj f c w)):=by
 refine uOb func100 ntmps100 ?_;refine gz7 ?_;refine de rfl (uCa zy7 rfl (ze8 (l:=f) hf) fun v8=> ?_)
 refine gz1 ?_;refine de rfl (uCx 0 zy6 rfl rfl (zel (l:=f) (p:=fun x=> !ziT c w x) zy8 (fun _=>zj4) hf) ?_)
 rintro _ _ ⟨u10,rfl,rfl⟩;refine gz3 ?_;refine zB (zap 6 (i:=0) rfl rfl) rfl ⟨?_,rfl⟩
 show HVal.slice 4 _=HVal.slice 4 _
 simp only [zbj,Bool.not_not]
theorem zdE [Tracks] {l:List StintS} {f:List FixS} {s:Str} {w:Int} (hl:l.length<=1000000) (hf:f.length<=1000000) (hs:StO l) (h1: ∀x∈l,1<=x.Week) (hw:0<=w/\w<=1000000):ConP prog 48 [zbJ l,zde f,.str s,.int .i64 w] (.tup [.int .i64 (zgR l f s w),.bool (zdZ l f s w)]):=by
 refine uOb func48 ntmps48 ?_;refine gz8 ?_;refine dq (uCl ca99 rfl (zlG (l:=l) (s:=s) hl hs h1 hw)) ?_;refine gz6 ?_;refine dq (uCl zyz rfl (zll (f:=f) hf)) ?_;refine gz3 ?_;have hgl:=zl3 f (zaY l s w) w;refine gz5 ?_;refine uGr rfl (fun hc=>zaw (f:=zau) (l:=zbj f (zaY l s w) w) zaF rfl) ?_;refine gz3 ?_;refine uCo (fun h1=> ?_) fun h2=> ?_
 refine gz5 ?_;refine zC rfl ?_
 show HVal.tup [.int .i64 _,.bool _]=_
 rcases Decidable.em (zaY l s w=[]) with q|q
 obtain ⟨e1,e2⟩:=zgT (l:=l) (f:=f) q
 focus focus first|(rw [e1,e2];done)|(rw [e1,e2];rfl)|(rw [e1,e2];exfalso;simp_all;done)
 rcases hgz:zbj f (zaY l s w) w with _|⟨g1,gr1⟩
 obtain ⟨e1,e2⟩:=zgS (l:=l) hgz
 focus focus first|(rw [e1,e2];done)|(rw [e1,e2];rfl)|(rw [e1,e2];exfalso;simp_all;done)
 obtain ⟨e1,e2⟩:=zgU (l:=l) q hgz
 focus focus first|(rw [e1,e2];done)|(rw [e1,e2];rfl)|(rw [e1,e2];simp_all;done)
 refine gz2 ?_;obtain ⟨g0,gr,hgs⟩: ∃g0 gr,zbj f (zaY l s w) w=g0::gr:=by
  cases hq:zbj f (zaY l s w) w with
  |nil=>simp_all
  |cons a r=>exact ⟨a,r,rfl⟩
 have hg0:(zbj f (zaY l s w) w)[0]? =some g0:=by rw [hgs];rfl
 refine gz2 ?_;refine dq (zK (f:=zau) (l:=zbj f (zaY l s w) w) (j:=0) (a:=g0) zaF zaa rfl rfl rfl hg0) ?_;refine gz6 ?_;refine zC rfl ?_
 show HVal.tup [.int .i64 _,.bool _]=_
 rcases Decidable.em (zaY l s w=[]) with q|q
 obtain ⟨e1,e2⟩:=zgT (l:=l) (f:=f) q
 focus focus first|(rw [e1,e2];done)|(rw [e1,e2];rfl)|(rw [e1,e2];exfalso;simp_all;done)
 rcases hgz:zbj f (zaY l s w) w with _|⟨g1,gr1⟩
 obtain ⟨e1,e2⟩:=zgS (l:=l) hgz
 focus focus first|(rw [e1,e2];done)|(rw [e1,e2];rfl)|(rw [e1,e2];exfalso;simp_all;done)
 obtain ⟨e1,e2⟩:=zgU (l:=l) q hgz
 focus focus first|(rw [e1,e2];done)|(rw [e1,e2];rfl)|(rw [e1,e2];simp_all;done)
theorem zj1 [Tracks] {c:Bool}:ConP prog 40 [.bool c] (.int .i64 (if c=true then 8 else 0)):=by
 refine uOb func40 ntmps40 ?_;refine gz7 ?_;refine uCo (fun h1=> ?_) fun h2=> ?_
 refine gz4 ?_;refine uRp ?_
 simp_all
 refine gz6 ?_;refine uRp ?_
 simp_all
theorem zi4 [Tracks] {a n:Int}:ConP prog 43 [.int .i64 a,.vptr [.int .i64 n] 0] (.bool (decide (a<=n))):=by
 refine uOb func43 ntmps43 ?_;refine zaD ?_;refine zC rfl ?_
 rfl
end
end Go.Proofs.YtahegdhbakjdoaaGreatDoor
namespace Go.Proofs
section
open Go.Shelf
def Tryz.g112_ren:Go.Shelf.Ren:=⟨fun|6=>112|15=>198|14=>197|28=>258|29=>259|20=>250|21=>251|22=>252|23=>253|24=>254|25=>255|26=>256|27=>257|46=>302|47=>303|48=>304|49=>305|50=>306|57=>343|n=>n,fun|22=>34|24=>204|25=>206|3=>3|39=>284|0=>0|53=>332|55=>334|4=>4|46=>326|45=>325|50=>122|5=>5|9=>9|66=>362|70=>366|76=>406|77=>407|n=>n,fun|n=>n⟩
theorem ztV:Go.Proofs.SlLaysF0.n6 Tryz.prog Tryz.g112_ren:={
 mixed:=by kernel_rfl
 f6:=⟨Tryz.f112.name,by decide,Tryz.func112.trans (congrArg some (by kernel_rfl))⟩
 f14:=⟨Tryz.f197.name,by decide,Tryz.func197.trans (congrArg some (by kernel_rfl))⟩
 f15:=Tryz.func198.trans (congrArg some (by kernel_rfl))
 f20:=⟨Tryz.f250.name,by decide,Tryz.func250.trans (congrArg some (by kernel_rfl))⟩
 f21:=⟨Tryz.f251.name,by decide,Tryz.func251.trans (congrArg some (by kernel_rfl))⟩
 f22:=⟨Tryz.f252.name,by decide,Tryz.func252.trans (congrArg some (by kernel_rfl))⟩
 f23:=⟨Tryz.f253.name,by decide,Tryz.func253.trans (congrArg some (by kernel_rfl))⟩
 f24:=⟨Tryz.f254.name,by decide,Tryz.func254.trans (congrArg some (by kernel_rfl))⟩
 f25:=⟨Tryz.f255.name,by decide,Tryz.func255.trans (congrArg some (by kernel_rfl))⟩
 f26:=⟨Tryz.f256.name,by decide,Tryz.func256.trans (congrArg some (by kernel_rfl))⟩
 f27:=⟨Tryz.f257.name,by decide,Tryz.func257.trans (congrArg some (by kernel_rfl))⟩
 f28:=Tryz.func258.trans (congrArg some (by kernel_rfl))
 f29:=Tryz.func259.trans (congrArg some (by kernel_rfl))
 f46:=⟨Tryz.f302.name,by decide,Tryz.func302.trans (congrArg some (by kernel_rfl))⟩
 f47:=Tryz.func303.trans (congrArg some (by kernel_rfl))
 f48:=Tryz.func304.trans (congrArg some (by kernel_rfl))
 f49:=⟨Tryz.f305.name,by decide,Tryz.func305.trans (congrArg some (by kernel_rfl))⟩
 f50:=⟨Tryz.f306.name,by decide,Tryz.func306.trans (congrArg some (by kernel_rfl))⟩
 f57:=⟨Tryz.f343.name,by decide,Tryz.func343.trans (congrArg some (by kernel_rfl))⟩
 t0:=Tryz.underlying0
 a0:=Tryz.isAgg0
 z0:=Tryz.sizeOf0
 v0:=Tryz.zeroValue0
 t3:=Tryz.underlying3
 a3:=Tryz.isAgg3
 z3:=Tryz.sizeOf3
 v3:=Tryz.zeroValue3
 t4:=Tryz.underlying4
 a4:=Tryz.isAgg4
 z4:=Tryz.sizeOf4
 v4:=Tryz.zeroValue4
 t5:=Tryz.underlying5
 a5:=Tryz.isAgg5
 z5:=Tryz.sizeOf5
 v5:=Tryz.zeroValue5
 t9:=Tryz.underlying9
 a9:=Tryz.isAgg9
 z9:=Tryz.sizeOf9
 v9:=Tryz.zeroValue9
 t22:=Tryz.underlying34
 a22:=Tryz.isAgg34
 z22:=Tryz.sizeOf34
 v22:=Tryz.zeroValue34
 t25:=Tryz.underlying206
 a25:=Tryz.isAgg206
 z25:=Tryz.sizeOf206
 v25:=Tryz.zeroValue206
 t39:=Tryz.underlying284
 a39:=Tryz.isAgg284
 z39:=Tryz.sizeOf284
 v39:=Tryz.zeroValue284
 t45:=Tryz.underlying325
 a45:=Tryz.isAgg325
 z45:=Tryz.sizeOf325
 v45:=Tryz.zeroValue325
 t46:=Tryz.underlying326
 a46:=Tryz.isAgg326
 z46:=Tryz.sizeOf326
 v46:=Tryz.zeroValue326
 t50:=Tryz.underlying122
 a50:=Tryz.isAgg122
 z50:=Tryz.sizeOf122
 v50:=Tryz.zeroValue122
 t53:=Tryz.underlying332
 a53:=Tryz.isAgg332
 z53:=Tryz.sizeOf332
 v53:=Tryz.zeroValue332
 t55:=Tryz.underlying334
 a55:=Tryz.isAgg334
 z55:=Tryz.sizeOf334
 v55:=Tryz.zeroValue334
 t66:=Tryz.underlying362
 a66:=Tryz.isAgg362
 z66:=Tryz.sizeOf362
 v66:=Tryz.zeroValue362
 t70:=Tryz.underlying366
 a70:=Tryz.isAgg366
 z70:=Tryz.sizeOf366
 v70:=Tryz.zeroValue366
 t76:=Tryz.underlying406
 a76:=Tryz.isAgg406
 z76:=Tryz.sizeOf406
 v76:=Tryz.zeroValue406
 t77:=Tryz.underlying407
 a77:=Tryz.isAgg407
 z77:=Tryz.sizeOf407
 v77:=Tryz.zeroValue407}
end
end Go.Proofs
namespace Go.HL
section
variable {P:Program}
open Go.Sort Go.Proofs Go.Shelf Go.RowKit
theorem zri [Tracks] {w w':World} {J:Imm} {M:List MObj} (hT:Tracks.on=true) (hl:Le (zci w) J) (hs:Sat P J M w'): ∃q os,w'=grow (w.drewN q) os:=by
 have hb:=zlz hl hs;have hd:w.drawn<=w'.drawn:=Ax (hl.low hT) (hs.low hT);refine ⟨w'.drawn-w.drawn,w'.heap.extract w.heap.size w'.heap.size,?_⟩
 have hh:w'.heap=w.heap++w'.heap.extract w.heap.size w'.heap.size:=by
  apply Array.ext_getElem?
  intro i
  by_cases hi:i<w.heap.size
  rw [AD hi];exact hb.block i hi;rw [Array.getElem?_append_right (by omega),Array.getElem?_extract];have:=hb.size
  split
  congr 1;omega
  rw [Am (by omega)]
 have h1:=hb.os;have h2:=hb.tape;have h3:=hb.output;obtain ⟨a1,a2,a3,a4,a5⟩:=w';obtain ⟨b1,b2,b3,b4,b5⟩:=w;simp only at h1 h2 h3 hd hh;subst h1 h2 h3;simp only [grow,World.drewN,World.mk.injEq];exact ⟨hh,trivial,by omega,trivial,trivial⟩
theorem ConP.calls [Tracks] {f:FuncId} {hargs:List HVal} {h:HVal} (hT:Tracks.on=true) (hc:ConP P f hargs h) {w:World} (ht:TabI P (zci w)) {args:List Value} (ha:VL (zci w) hargs args):
 Calls P f args.toArray w fun e w'=> ∃v,e= .returned v/\V (zci w') h v/\∃q os,w'=grow (w.drewN q) os:=by
 refine (hc (zci w) [] w args ha (zsL ht)).mono ?_;rintro e w' ⟨v,x,M',J,rfl,hle,⟨rfl,rfl⟩,hV,hs⟩;exact ⟨v,rfl,hV.mono hs.le_all,zri hT hle hs⟩
@[reducible] def zpt:Tracks:=⟨true⟩
abbrev ze7 {A:Type} (I:Imm) (e:A->HVal) (k:Nat):Type:={p:A×List Value//p.2.length=k/\(∀v∈p.2,v.oneCell'=true)/\VL I (zd (e p.1)) p.2}
theorem zsJ [Tracks] {A:Type} {I:Imm} {e:A->HVal} {k:Nat} (hk: ∀x,(zd (e x)).length=k) (hf: ∀x,zal (zd (e x))=true) {rc:Array Value}: ∀(l:List A) (off:Nat),off+l.length*k<=rc.size->
 (∀(i j:Nat) (x:A) (c:HVal) (v:Value),l[i]? =some x->(zd (e x))[j]? =some c->rc[off+i*k+j]? =some v->V I c v)->
 ∃d:List (ze7 I e k),d.map (·.1.1)=l/\∀(i j:Nat) (p:ze7 I e k),d[i]? =some p->j<k->rc[off+i*k+j]? =p.1.2[j]?
 |[],off,_,_=>⟨[],rfl,fun i j p h=>by simp at h⟩
 |x::l,off,hb,hV=>by
   have hb':off+k+l.length*k<=rc.size:=by simp [AO] at hb;omega
   obtain ⟨d,h1,h2⟩:=zsJ hk hf l (off+k) hb' fun i j y c v a1 a2 a3=>hV (i+1) j y c v (by simpa using a1) a2 (by rw [AO,Nat.one_mul];rw [show off+(i*k+k)+j=off+k+i*k+j by omega];exact a3)
   have hlen:(rc.extract off (off+k)).toList.length=k:=by simp;omega
   have hg: ∀j,j<k->(rc.extract off (off+k)).toList[j]? =rc[off+j]?:=fun j hj=>by
    rw [AU,Array.getElem?_extract,if_pos (by omega)]
   have hvl:VL I (zd (e x)) (rc.extract off (off+k)).toList:=⟨by rw [hlen,hk],fun j c v a1 a2=>by
    have hj:j<k:=by have:=zx a1;rw [hk] at this;exact this
    rw [hg j hj] at a2;exact hV 0 j x c v rfl a1 (by simpa using a2)⟩
   refine ⟨⟨(x,(rc.extract off (off+k)).toList),hlen,zkN hvl (hf x),hvl⟩::d,by simp [h1],fun i j p hp hj=> ?_⟩
   cases i with
   |zero=>
     simp only [AY,Az] at hp;subst hp;simp only [Nat.zero_mul,BC];exact (hg j hj).symm
   |succ i=>
     simp only [AJ] at hp;rw [<-h2 i j p hp hj,AO,Nat.one_mul]
     congr 1;omega
section
variable {A:Type} {e:A->HVal} {k:Nat}
theorem zp9 {α:Type} [Inhabited α] {enc:α->List Value} {w:World} {b off m:Nat} {dk:Array α} {os:Array Obj} {c:Nat} (hc:c<w.heap.size) (hb:c≠b):(sortWorldK enc k w b off m dk os).heap[c]? =w.heap[c]?:=by
 simp only [sortWorldK,grow,putRowK,putRow,mapBlock,Sort.ahead];rw [AD (by simpa using hc),AF,if_neg (Ne.symm hb)]
theorem zmr {α:Type} [Inhabited α] {enc:α->List Value} {w:World} {b off m:Nat} {dk:Array α} {os:Array Obj} {rc:Array Value} {el:TypeId} {fr:Nat×Nat} (hb:w.heap[b]? =some (.cells rc el fr)):
 (sortWorldK enc k w b off m dk os).heap[b]? =some (.cells (putCells id off (flatK enc k dk) rc) el fr):=by
 have hlt:b<w.heap.size:=lt_of_get' hb;simp only [sortWorldK,grow,putRowK,putRow,mapBlock,Sort.ahead];rw [AD (by simpa using hlt),AF,if_pos rfl,hb]
 rfl
where
 lt_of_get' {α:Type} {a:Array α} {i:Nat} {x:α} (h:a[i]? =some x):i<a.size:=by
  rcases AA i a.size with h'|h'
  exact h'
  simp [Am h'] at h
theorem zpF {α:Type} [Inhabited α] {enc:α->List Value} (hk: ∀x,(enc x).length=k) {dk:Array α} {i j:Nat} {x:α} (hx:dk[i]? =some x) (hj:j<k):some ((flatK enc k dk)[i*k+j]!)=(enc x)[j]?:=by
 have hi:i<dk.size:=by
  rcases AA i dk.size with h'|h'
  exact h'
  simp [Am h'] at hx
 have hle:(i+1)*k<=dk.size*k:=Au _ hi;rw [AO,Nat.one_mul] at hle;rw [get_flatK enc k dk _ (by omega)];have e1:(i*k+j)/k=i:=by rw [BD,Nat.mul_add_div (by omega),Nat.div_eq_of_lt hj];rfl
 have e2:(i*k+j)%k=j:=by rw [BD,Nat.mul_add_mod,Nat.mod_eq_of_lt hj]
 rw [e1,e2];have e3:dk[i]! =x:=by rw [getElem!_pos dk i hi];rw [Aq hi] at hx;exact Av hx
 rw [e3];have hjl:j<(enc x).length:=by rw [hk];exact hj
 rw [Aa hjl,getElem!_pos (enc x) j hjl]
theorem zub [Tracks] {ρ:Ren} (L:SlLaysF0.n6 P ρ) (aE: ∀w,(isAgg (ρ.t 24)).run P w= .ok true w) (zE: ∀w,(Go.sizeOf (ρ.t 24)).run P w= .ok k w) (hk: ∀x,(zd (e x)).length=k) (ha: ∀x,e x= .agg (zd (e x))) (hf: ∀x,zal (zd (e x))=true)
 {c:A->A->Int} (hO:SWO (ltOf c)) {g:FuncId} (hg:Callable P g) {cap:List HVal} (hc: ∀x y, @ConP zpt P g (e x::e y::cap) (.int .i64 (c x y))) {l:List A} (hl:l.length<=1000000) {v:Value}:
 Con P (ρ.f 6) [.raw v,.fn (.func g) [] cap] [.arr v k (l.map e)] fun x M'=> ∃l':List A,x= .tup []/\l'.Perm l/\l'.Pairwise (fun a b=> ¬c b a<0)/\M'=[.arr v k (l'.map e)]:=by
 intro I F w args hargs hs
 obtain ⟨n1,n2⟩:=hargs
 match args,n1,n2 with
 |[u,fv],_,n2=>
   obtain rfl:u=v:=(n2 0 _ _ rfl rfl).raw_inv;obtain ⟨f1,cb,rfl,f2,f3⟩:=(n2 1 _ _ rfl rfl).fn_inv;have hf1:f1= #[]:=by have:=f2.1;simp at this;exact this
   subst hf1
   by_cases h0:l=[]
   subst h0;have hu: ∃p cp,u= .slice p 0 cp:=by
    rcases hs.obj (.arr u k (([]:List A).map e)) (by simp) with ⟨rfl,_⟩|⟨b,off,cp,rc,el,fr,rfl,_⟩
    exact ⟨_,_,rfl⟩;exact ⟨_,_,rfl⟩
   obtain ⟨p,cp,rfl⟩:=hu;refine (AnyF.slices_SortFunc_none L p cp _ w).mono ?_;rintro _ _ ⟨rfl,rfl⟩;exact ⟨_,.tup [],_,I,rfl,.refl I,⟨[],rfl,.refl _,.nil,rfl⟩,.tup (by simp) (fun j c v h _=>by simp at h),hs⟩
   rcases hs.obj (.arr u k (l.map e)) (by simp) with ⟨_,hn⟩|⟨b,off,cp,rc,el,fr,rfl,_⟩
   simp at hn;exact absurd hn h0
   rw [Ag] at hs⊢;obtain ⟨_,rc,el,fr,h2,h3,h4,h5,h6,h7⟩:=zix hs;rw [Ag] at h5;have hblt:b<w.heap.size:=zmr.lt_of_get' h2;have hsz:off+l.length*k<=rc.size:=by
    have:l.length*k<=cp*k:=Au _ h5.1
    omega
   obtain ⟨d,d1,d2⟩:=zsJ (I:=I) (e:=e) hk hf (rc:=rc) l off hsz fun i j x c v a1 a2 a3=>h7 i j (e x) c v (by simp [a1]) a2 a3
   have dl:d.length=l.length:=by rw [<-d1];simp
   obtain ⟨p0,hp0⟩: ∃p,d[0]? =some p:=⟨_,Aa (by have:=List.length_pos_iff.2 h0;omega)⟩
   haveI:Inhabited (ze7 I e k):=⟨p0⟩
   have hkr: ∀x:ze7 I e k,(x.1.2).length=k:=fun x=>x.2.1
   have hH:HoldsK (fun x:ze7 I e k=>x.1.2) k w b off d.toArray:=fun j hj=>by
    simp only [size_flatK,Bl,dl] at hj;have hk0:0<k:=by rcases A5 k with h|h;(subst h;simp at hj);exact h
    have hi:j/k<d.length:=by rw [dl];exact Nat.div_lt_of_lt_mul (by rw [BD];exact hj)
    have hjk:=BQ j hk0;have hdj:j/k*k+j%k=j:=by rw [BD];exact Nat.div_add_mod j k
    have hg1:=d2 (j/k) (j%k) d[j/k] (Aa hi) hjk;have hg2:=zpF (enc:=fun x:ze7 I e k=>x.1.2) (k:=k) hkr (dk:=d.toArray) (i:=j/k) (j:=j%k) (x:=d[j/k]) (by simp [hi]) hjk;rw [hdj] at hg2
    constructor
    rw [zb3 h2];rw [show off+j=off+j/k*k+j%k by omega,hg1,<-hg2];rfl;simp only [World.frozen?,h2];have:=h3 (off+j) (by omega)
    simpa using this
   have hle: ∀(m:Nat) (dk:Array (ze7 I e k)) (os:Array Obj),Le I (zci (sortWorldK (fun x:ze7 I e k=>x.1.2) k w b off m dk os)):=fun m dk os=>
    ⟨fun c o ho=>by
     have hcb:c≠b:=fun hh=>by
      subst hh;have:=hs.apart c (by simp [blocks,MObj.blocks]);rw [this] at ho;cases ho
     have h9:=hs.imm c o ho
     show (sortWorldK _ k w b off m dk os).heap[c]? =some o
     rw [zp9 (zmr.lt_of_get' h9) hcb];exact h9,hs.os,hs.output,hs.tape,fun ht=>Ax (hs.low ht) (B5 _ _)⟩
   have hcmp:CmpLays P g cb (fun x:ze7 I e k=>x.1.2) k (fun x y=>c x.1.1 y.1.1) b off d.toArray.size w:=fun m os dk _ x y=>by
    have hI:=hle m dk os;have hxa: ∀z:ze7 I e k,V (zci (sortWorldK (fun x:ze7 I e k=>x.1.2) k w b off m dk os)) (e z.1.1) (.agg z.1.2.toArray):=fun z=>by
     rw [ha];exact zkr (by simpa using z.2.2.2.mono hI)
    have e9:(#[Value.agg x.1.2.toArray,.agg y.1.2.toArray]++cb)=(Value.agg x.1.2.toArray:: .agg y.1.2.toArray::cb.toList).toArray:=by simp
    rw [e9];refine (@ConP.calls P zpt g _ _ rfl (hc x.1.1 y.1.1) _ (hs.tab.mono hI) _ (VL.cons (hxa x) (VL.cons (hxa y) (f3.mono hI)))).mono ?_;rintro _ w' ⟨u,rfl,hu,q,os',rfl⟩;exact ⟨by rw [hu.int_inv],q,os',rfl⟩
   have hO':SWO (ltOf fun x y:ze7 I e k=>c x.1.1 y.1.1):=⟨fun x=>hO.irrefl x.1.1,fun x y z=>hO.trans x.1.1 y.1.1 z.1.1,fun x y z=>hO.ntrans x.1.1 y.1.1 z.1.1⟩;have hrun:=AnyQ.slices_SortFunc L k aE zE (fun x:ze7 I e k=>x.1.2) hkr (fun x=>x.2.2.1) (fun x y=>c x.1.1 y.1.1) hO' g cb b off cp d.toArray w (zfw hg) hcmp hH hblt (by simp;omega);rw [Bl,dl] at hrun;refine hrun.mono ?_;rintro _ w' ⟨rfl,d',m,os,⟨q1,_,q3⟩,q4,rfl⟩;simp only [Bl,dl] at q1;have q3':d'.toList.Perm d:=by
    have e1:(d'.extract 0 l.length)=d':=by rw [<-q1];exact Array.extract_size
    have e2:(d.toArray.extract 0 l.length)=d.toArray:=by have:=Array.extract_size (xs:=d.toArray);rw [Bl,dl] at this;exact this
    rw [e1,e2] at q3;simpa using q3
   refine ⟨_,.tup [],[.arr (.slice (some ⟨b,off,none⟩) l.length cp) k ((d'.toList.map (·.1.1)).map e)],I,rfl,.refl I,⟨d'.toList.map (·.1.1),rfl,by rw [<-d1];exact q3'.map _,?_,rfl⟩,.tup (by simp) (fun j c v h _=>by simp at h),?_⟩
   refine List.pairwise_iff_getElem.2 fun i j hi hj hij=> ?_
   simp only [Ag,AQ] at hi hj;have:=q4 i j (Ad _) hij (by omega);rw [getElem!_pos d' i hi,getElem!_pos d' j hj] at this;simp only [ltOf,decide_eq_false_iff_not] at this
   simpa using this
   have hchg: ∀x,x<w.heap.size->x∉(MObj.arr (.slice (some ⟨b,off,none⟩) l.length cp) k (l.map e)).blocks->(sortWorldK (fun x:ze7 I e k=>x.1.2) k w b off m d' os).heap[x]? =w.heap[x]?:=fun x hx hnx=>zp9 hx fun hh=>hnx (by rw [hh];simp [MObj.blocks])
   refine hs.change (m':= .arr (.slice (some ⟨b,off,none⟩) l.length cp) k ((d'.toList.map (·.1.1)).map e)) hchg (fun x hx=> .inl hx) (by simp [MObj.blocks]) ?_ rfl rfl rfl (fun _=>B5 _ _)
   refine .inr ⟨b,off,cp,putCells id off (flatK (fun x:ze7 I e k=>x.1.2) k d') rc,el,fr,by simp [q1],zmr h2,by simpa [putCells] using h3,?_,by simp [q1];exact h5,by simpa [putCells] using h6,?_⟩
   intro y hy;obtain ⟨z,_,rfl⟩:=List.mem_map.1 hy;exact hk z
   intro i j y z v a1 a2 a3
   rw [Bb,Aj] at a1
   cases hq:d'.toList[i]? with
   |none=>rw [hq] at a1;simp at a1
   |some r=>
     rw [hq] at a1;simp only [AM,Function.comp_apply,Az] at a1;subst a1;have hj:j<k:=by have:=zx a2;rw [hk] at this;exact this
     have hi:i<l.length:=by have:=zx hq;simp at this;omega
     have hle:(i+1)*k<=l.length*k:=Au _ hi;rw [AO,Nat.one_mul] at hle;have hr:off+i*k+j<rc.size:=by omega
     rw [putCells,Array.getElem?_mapIdx,Aq hr,AM,if_pos ⟨by omega,by rw [size_flatK,q1];omega⟩] at a3;rw [show off+i*k+j-off=i*k+j by omega] at a3;have hg2:=zpF (enc:=fun x:ze7 I e k=>x.1.2) (k:=k) hkr (dk:=d') (i:=i) (j:=j) (x:=r) (by simpa using hq) hj;rw [show (id (flatK (fun x:ze7 I e k=>x.1.2) k d')[i*k+j]!)=(flatK (fun x:ze7 I e k=>x.1.2) k d')[i*k+j]! from rfl,hg2] at a3;exact r.2.2.2.2 j z v a2 a3
end
end
section
variable {P:Program}
theorem ztR [Tracks] {e:Env} {M:List MObj} {o:Oper} {K:HVal->List MObj->Prop} {sz:Nat} {es:List HVal} (h:EOp P e M o fun x M'=> ∃v,x= .raw v/\M'= .arr v sz es::M) (hk:K (.slice sz es) M):EOp P e M o K:=fun I F a w ho hs=>
 za5 (fun _ _ ⟨v,x,M',J,h1,h2,⟨u,h3,h4⟩,h5,h6⟩=>by
  subst h3 h4;obtain ⟨J',g1,g2,g3⟩:=Sat.freeze_arr (M:=M++F) h6;exact ⟨v,_,M,J',h1,h2.trans g1,hk,by rw [h5.raw_inv];exact g3,g2⟩) (h I F a w ho hs)
theorem zmv [Tracks] {e:Env} {M N:List MObj} {o:Oper} {K:HVal->List MObj->Prop} {sz:Nat} {es:List HVal} (i:Nat) (h:EOp P e M o fun x M'=> ∃v,x= .raw v/\M'[i]? =some (.arr v sz es)/\M'.eraseIdx i=N) (hk:K (.slice sz es) N):EOp P e M o K:=fun I F a w ho hs=>
 za5 (fun _ _ ⟨v,x,M',J,h1,h2,⟨u,h3,h4,h5⟩,h6,h7⟩=>by
  subst h3 h5;obtain ⟨J',g1,g2,g3⟩:=(h7.pull h4).freeze_arr;exact ⟨v,_,_,J',h1,h2.trans g1,hk,by rw [h6.raw_inv];exact g3,g2⟩) (h I F a w ho hs)
end
end Go.HL
namespace Go.Proofs.YtahegdhbakjdoaaGreatDoor
set_option maxRecDepth 100000
set_option linter.unusedVariables false
set_option linter.unusedSimpArgs false
section
open Go.HL
set_option linter.unusedSimpArgs false
end
section
open Go.HL
set_option linter.unusedSimpArgs false
end
section
open Go.Proofs.Tryz
open Go.HL
theorem zfS [Tracks] {x n:Int} (hn:n<=4000000000):ConP prog 65 [.int .i64 x,.int .i64 n] (.int .i64 (below x n)):=by
 refine uOb func65 ntmps65 ?_;refine gz8 ?_;refine uCo (fun h1=> ?_) fun h2=> ?_
 refine gz4 ?_;refine uRp ?_
 simp_all [below]
 try omega
 refine gz5 ?_;refine dq (zew rfl rfl uO) ?_;refine gz7 ?_;refine uCo (fun h3=> ?_) fun h4=> ?_
 refine gz3 ?_;have hm:=BV x (show 0<n by omega);obtain ⟨y,hy1,hy2⟩:=zly x n;have hb:below x n=x.tmod n+n:=by unfold below;rw [if_neg uO,if_pos uO]
 refine gz9 ?_;refine uRp ?_
 simp_all [below]
 try omega
 refine gz7 ?_;refine uRp ?_
 simp_all [below]
 try omega
theorem zak [Tracks] {b:Nat} {l:List Int} {a:Nat} {n:Int} (ha:a<=1000000) (hn:n<=4000000000):Con prog 25 [pAt b,.int .i64 n] [St b l a] (fun x M'=> ∃y:Nat,x= .int .i64 (y:Int)/\(y:Int)<max n 1/\M'=[St b l (a+1)]):=by
 refine uOb func25 ntmps25 ?_;refine gz7 ?_;refine de rfl (uZ 0 ?_)
 refine gz3 ?_;refine de0 (uY 0 ?_)
 refine gz6 ?_;refine de rfl (uZ 0 ?_)
 refine gz3 ?_;refine uCo (fun h1=> ?_) fun h2=> ?_
 refine gz4 ?_;refine de rfl (uZ 0 ?_)
 refine dq (zpf rfl rfl) ?_;refine gz1 ?_;refine dq (uCl zu9 rfl (zfS (by assumption))) ?_;refine gz3 ?_;refine zaf rfl ?_;obtain ⟨y,h1,h2⟩:=zly _ n;exact ⟨y,congrArg _ h1,h2,rfl⟩;refine gz2 ?_;have hl0:0<l.length:=List.length_pos_iff.2 (by simpa using h2);refine zbu (fun M=> ∃i:Nat,M[i]? =some (St b l (a+1))) [3,8] mixed ?_;refine gz3 ?_;refine uM 3 rfl (⟨0,rfl⟩) (fun M hM=>by obtain ⟨i,hi⟩:=hM;exact zV (i:=i) ty3 rfl hi (.inl ⟨rfl,rfl⟩) ⟨rfl,rfl⟩) ?_;refine gz4 ?_;refine uM 8 rfl (⟨0,rfl⟩) (fun M hM=>by obtain ⟨i,hi⟩:=hM;exact zV (i:=i) zad rfl hi (.inl ⟨rfl,rfl⟩) ⟨rfl,rfl⟩) ?_;refine gz1 ?_;refine uB 10 rfl (zaq (h':= .int .i64 ((a%l.length:Nat):Int)) (zew rfl rfl uO) (by show HVal.int .i64 (((a:Int)+1-1).tmod _)=_;rw [show ((a:Int)+1-1)=(a:Int) by omega];exact congrArg _ (zrT _ _))) ?_;refine gz2 ?_;refine zbu (fun M=> ∃i:Nat,M[i]? =some (St b l (a+1))) [3,8] mixed ?_;refine gz3 ?_;refine uM 3 rfl (⟨0,rfl⟩) (fun M hM=>by obtain ⟨i,hi⟩:=hM;exact zV (i:=i) ty3 rfl hi (.inl ⟨rfl,rfl⟩) ⟨rfl,rfl⟩) ?_;refine gz4 ?_;refine uM 8 rfl (⟨0,rfl⟩) (fun M hM=>by obtain ⟨i,hi⟩:=hM;exact zV (i:=i) zad rfl hi (.inl ⟨rfl,rfl⟩) ⟨rfl,rfl⟩) ?_;refine gz1 ?_;refine uB 10 rfl (zsF rfl rfl uO) ?_;refine gz6 ?_;refine de rfl (uZ 0 ?_)
 refine gz1 ?_;refine dq (zK (j:=a%l.length) (a:=l[a%l.length]'(BQ _ uO)) zad ty3 rfl rfl rfl (Aa _)) ?_;refine gz1 ?_;refine dq (uCl zu9 rfl (zfS uO)) ?_;refine gz2 ?_;refine dq (zpe rfl rfl) ?_;refine dq (zpf rfl rfl) ?_;refine dq (zpe rfl rfl) ?_;refine gz1 ?_;refine dq (uCl zu9 rfl (zfS (by assumption))) ?_;refine gz3 ?_;refine zaf rfl ?_;obtain ⟨y,h1,h2⟩:=zly _ n;exact ⟨y,congrArg _ h1,h2,rfl⟩
theorem zS [Tracks] {b:Nat} {l:List Int} {a:Nat} {lo hi:Int} (ha:a<=1000000) (hlh:lo<=hi) (h0: -1000000000<=lo) (h1:hi<=1000000000):Con prog 6 [pAt b,.int .i64 lo,.int .i64 hi] [St b l a] (fun x M'=> ∃y:Int,x= .int .i64 y/\(lo<=y/\y<=hi)/\M'=[St b l (a+1)]):=by
 refine uOb func6 ntmps6 ?_;refine gz9 ?_;refine za3 rfl (fun h1=> ?_) (fun h1=> ?_)
 exfalso
 try simp at h1
 omega
 try simp at h1
 refine gz9 ?_;refine de rfl (uCx 0 zhZ rfl rfl (zak (by assumption) uO) ?_)
 rintro _ _ ⟨y17,rfl,hy17,rfl⟩;refine gz4 ?_;exact zaf rfl ⟨_,rfl,by omega,rfl⟩
theorem zI [Tracks] {b:Nat} {l:List Int} {a:Nat} {n:Int} (ha:a<=1000000) (hn:n<=4000000000):Con prog 57 [pAt b,.int .i64 n] [St b l a] (fun x M'=> ∃y:Bool,x= .bool y/\M'=[St b l (a+1)]):=by
 refine uOb func57 ntmps57 ?_;refine gz6 ?_;refine de rfl (uCx 0 zhZ rfl rfl (zak (by assumption) (by assumption)) ?_)
 rintro _ _ ⟨y7,rfl,hy7,rfl⟩;refine gz4 ?_;exact zaf rfl ⟨_,rfl,rfl⟩
theorem zf [Tracks] {b:Nat} {l:List Int} {a:Nat} {L:List Int} (ha:a<=1000000) (h0:0<L.length) (h1:L.length<=1000000):Con prog 37 [pAt b,.slice 1 (L.map (.int .i64))] [St b l a] (fun x M'=> ∃y:Int,x= .int .i64 y/\y∈L/\M'=[St b l (a+1)]):=by
 refine uOb func37 ntmps37 ?_;refine gz8 ?_;refine de rfl (uCx 0 zhZ rfl rfl (zak (by assumption) uO) ?_)
 rintro _ _ ⟨y9,rfl,hy9,rfl⟩;obtain ⟨z,hz,hm⟩:=getI hy9 h0;refine dq (zK (j:=y9) (a:=z) zad ty3 rfl rfl rfl hz) ?_;refine gz4 ?_;exact zaf rfl ⟨_,rfl,hm,rfl⟩
theorem zp [Tracks] {b:Nat} {l:List Int} {a:Nat} {L:List Str} (ha:a<=1000000) (h0:0<L.length) (h1:L.length<=1000000):Con prog 7 [pAt b,eSs L] [St b l a] (fun x M'=> ∃y:Str,x= .str y/\y∈L/\M'=[St b l (a+1)]):=by
 refine uOb func7 ntmps7 ?_;refine gz8 ?_;refine de rfl (uCx 0 zhZ rfl rfl (zak (by assumption) uO) ?_)
 rintro _ _ ⟨y9,rfl,hy9,rfl⟩;obtain ⟨z,hz,hm⟩:=getS hy9 h0;refine dq (zK (j:=y9) (a:=z) zu ty9 rfl rfl rfl hz) ?_;refine gz4 ?_;exact zaf rfl ⟨_,rfl,hm,rfl⟩
end
section
open Go.HL
set_option linter.unusedSimpArgs false
end
section
open Go.HL
set_option linter.unusedSimpArgs false
end
section
open Go.HL
set_option linter.unusedSimpArgs false
end
section
open Go.HL
set_option linter.unusedSimpArgs false
end
end Go.Proofs.YtahegdhbakjdoaaGreatDoor
namespace Go.HL
section
section
variable {r:Room} {k:List Keep} {fr l:List Pick} {p:Pick}
end
structure Wish where
 Team:Str
 Players:List Str
theorem ztq (k:List Keep) (l:List Pick) (p:Pick) (s:Str):zqA k (l++[p]) s=(zqA k l s||p.Player==s):=by
 simp [zqA,B2]
/-! what a run holds-/
structure RunOk (r:Room) (k:List Keep) (s:List Swap) (l:List Pick) (S:List Str):Prop where
 gone: ∀x∈r.Players,S.contains x=zqA k l x
theorem RunOk.add {r:Room} {k:List Keep} {s:List Swap} {l:List Pick} {S:List Str} (ok:RunOk r k s l S) (p:Pick):RunOk r k s (l++[p]) (zdb p.Player S):=
 ⟨fun x hx=>by rw [ztq,zlk,ok.gone x hx]⟩
end
section
section
variable {r:Room} {w:List Wish} {k:Nat} {x:Wish} {t:List Wish}
end
end
end Go.HL
namespace Go.Proofs.YtahegdhbakjdoaaGreatDoor
set_option maxRecDepth 100000
set_option linter.unusedVariables false
set_option linter.unusedSimpArgs false
section
open Go.HL
set_option linter.unusedSimpArgs false
end
section
open Go.HL
set_option linter.unusedSimpArgs false
end
section
open Go.HL
set_option linter.unusedSimpArgs false
end
section
open Go.HL
set_option linter.unusedSimpArgs false
end
section
open Go.HL
set_option linter.unusedSimpArgs false
end
section
open Go.HL
set_option linter.unusedSimpArgs false
end
section
open Go.Proofs.Tryz
open Go.HL
theorem zfi [Tracks] {b:Nat} {l:List Int} {a:Nat} {n:Nat} (ha:a<=800000) (hn1:1<=n) (hn2:n<=1000):Con prog 192 [pAt b,.int .i64 (n:Int)] [St b l a] (fun x M'=> ∃(L:List Int) (a':Nat),x= .slice 1 (L.map (.int .i64))/\(L.length=n/\∀i∈L,(0:Int)<=i/\i<n)/\a'<=a+n/\M'=[St b l a']):=by
 refine uOb func192 ntmps192 ?_;refine gz6 ?_;refine zl (zQ 1) ?_;refine gz6 ?_;refine uV3 [5,2,10,8] (fun (k:Nat) (u:Value) (L:List Int)=>[(10,.int .i64 (k:Int)),(5,.raw u)]) (fun (k:Nat) (u:Value) (L:List Int)=>[.arr u 1 (L.map (HVal.int .i64)),St b l a]) (fun (k:Nat) (u:Value) (L:List Int)=>k<=n/\L.length=k/\∀i∈L,(0:Int)<=i/\i<n) (fun (k:Nat) (u:Value) (L:List Int)=>n-k) (0) (.slice none 0 0) ([]) ?_ ?_ ?_ ?_;exact ⟨by omega,rfl,by simp⟩;exact ⟨rfl,rfl,trivial⟩;exact zg rfl
 intro k u L hinv
 obtain ⟨hk,hL,hLb⟩:=hinv;refine gz4 ?_;refine uCo (fun h1=> ?_) fun h2=> ?_
 have hkn:k<n:=by omega
 refine zc8 ?_;refine dq (za (hs:=[_]) zad ty3 rfl rfl (by decide) (by decide) rfl) ?_;refine de rfl (zN (i:=0) zad ty3 rfl rfl rfl rfl rfl (by simp [zal,zd]) uSo fun v16=> ?_)
 refine gz8 ?_;exact ⟨k+1,v16,L++[(k:Int)],⟨by omega,by simp [hL],fun i hi=>by rcases List.mem_append.1 hi with h|h;exact hLb i h;(simp at h;omega)⟩,uD,⟨rfl,rfl,trivial⟩,uK,zg (by simp)⟩;obtain rfl:n=k:=by omega
 refine gz2 ?_;refine zdz ?_;refine gz3 ?_;refine zl (Ghost.perm (M':=[St b l a,.arr u 1 (L.map (.int .i64))]) uP) ?_;refine zc4 (i:=1) rfl (fun h0 he=> ?_) (fun ob off cap hv hcap=> ?_)
 exfalso;have:=congrArg List.length he;simp at this;subst this;simp at hL;omega
 rw [Ag,hL] at hv hcap;subst hv;refine gz6 ?_;refine uV3 [7,2,20,22] (fun (m:Nat) (L:List Int) (a2:Nat)=>[(7,.int .i64 (m:Int))]) (fun (m:Nat) (L:List Int) (a2:Nat)=>[St b l a2,.arr (.slice (some ⟨ob,off,none⟩) n cap) 1 (L.map (HVal.int .i64))]) (fun (m:Nat) (L:List Int) (a2:Nat)=>m<n/\(L.length=n/\∀i∈L,(0:Int)<=i/\i<n)/\a2+m<=a+n) (fun (m:Nat) (L:List Int) (a2:Nat)=>m) (n-1) (L) (a) ?_ ?_ ?_ ?_;exact ⟨by omega,⟨hL,hLb⟩,by omega⟩;exact ⟨zW uO,trivial⟩;exact Ab _
 intro m L a2 hinv
 obtain ⟨hm,⟨hL,hLb⟩,ha2⟩:=hinv;refine gz5 ?_;refine uCo (fun h3=> ?_) fun h4=> ?_
 have hm0:0<m:=by omega
 refine gz8 ?_;refine de rfl (uCx 0 zhZ rfl rfl (zak uO uO) ?_)
 rintro _ _ ⟨y27,rfl,hy27,rfl⟩;refine gz2 ?_;obtain ⟨z1,hz1⟩: ∃z,L[y27]? =some z:=⟨_,Aa uO⟩
 obtain ⟨z2,hz2⟩: ∃z,L[m]? =some z:=⟨_,Aa uO⟩
 obtain ⟨z3,hz3⟩: ∃z,(L.set m z1)[y27]? =some z:=⟨_,Aa uSo⟩
 refine zba (fun M=> ∃i:Nat,M[i]? =some (.arr (.slice (some ⟨ob,off,none⟩) n cap) 1 (L.map (HVal.int .i64)))) [7,11] mixed ?_;refine gz6 ?_;refine uB 6 rfl (zM (j:=y27) zad ty3 rfl rfl rfl uO) ?_;refine uM 7 rfl (⟨1,rfl⟩) (fun M hM=>by obtain ⟨i,hi⟩:=hM;exact zax (i:=i) (j:=y27) 0 ty3 rfl uO hi hz1 rfl rfl ⟨rfl,rfl⟩) ?_;refine gz2 ?_;refine uB 10 rfl (zM (j:=m) zad ty3 rfl rfl rfl uO) ?_;refine uM 11 rfl (⟨1,rfl⟩) (fun M hM=>by obtain ⟨i,hi⟩:=hM;exact zax (i:=i) (j:=m) 0 ty3 rfl uO hi hz2 rfl rfl ⟨rfl,rfl⟩) ?_;refine uB 12 rfl (zM (j:=m) zad ty3 rfl rfl rfl uO) ?_;refine uF 13 ?_;refine zT (zbh (i:=1) (f:=HVal.int .i64) (es:=L) (j:=m) (y:=z2) (y':=z1) ty3 rfl rfl rfl rfl hz2 rfl rfl rfl ?_)
 refine ⟨uE,?_⟩
 refine uB 14 rfl (zM (j:=y27) zad ty3 rfl rfl rfl uO) ?_;refine uF 15 ?_;refine zT (zbh (i:=1) (f:=HVal.int .i64) (es:=L.set m z1) (j:=y27) (y:=z3) (y':=z2) ty3 rfl rfl rfl rfl hz3 rfl rfl rfl ?_)
 refine ⟨uE,?_⟩
 refine gz8 ?_;exact ⟨m-1,(L.set m z1).set y27 z2,a2+1,⟨by omega,⟨by simp [hL],ze2 (P:=fun i:Int=>0<=i/\i<n) (ze2 (P:=fun i:Int=>0<=i/\i<n) hLb (hLb z1 (Ac hz1))) (hLb z2 (Ac hz2))⟩,by omega⟩,uD,⟨zW uO,trivial⟩,uK,zg (by simp [List.map_set])⟩;refine gz2 ?_;refine zdz ?_;refine gz7 ?_;refine zB (zap 4 (i:=1) rfl rfl) rfl ⟨L,a2,rfl,⟨hL,hLb⟩,by omega,rfl⟩
end
section
open Go.HL
set_option linter.unusedSimpArgs false
end
end Go.Proofs.YtahegdhbakjdoaaGreatDoor
