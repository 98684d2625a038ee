/- The statement is proved: the card of the law, out of its function's contract; no conditions. -/
import Derived.Test.YtnfmbjchkjijpaaGreatDoorQTopTableIsOfResults5
import Derived.Calls
import Derived.Handed
import Derived.LaidMore
import Derived.Lay
import Derived.Lib.LaidU8
import Derived.OpenShut
import Derived.ProofKit
import Derived.SevenTiedAt
import Derived.Shelf.Vars
import Derived.Stop.Joined
import Derived.Test.YtnfmbjchkjijpaaGreatDoorCards
import Derived.Test.YtnfmbjchkjijpaaGreatDoorTie
import GoSem.ClaimGoes
set_option linter.unusedVariables false
set_option linter.unusedSimpArgs false
set_option maxHeartbeats 16000000
namespace Go.Proofs.YtnfmbjchkjijpaaGreatDoor
set_option maxRecDepth 100000
set_option linter.unusedVariables false
set_option linter.unusedSimpArgs false
section
open Go.Proofs.Tryz
open Go.HL
theorem zi8 [Tracks] {b:Nat} {l:List Int} {a:Nat} (ha:a<=500000):Con prog 29 [pAt b] [St b l a] (fun x M'=> ∃g a',x=zfO g/\LeaC g/\a'<=a+500/\M'=[St b l a']):=by
 refine za5 func29 rfl ntmps29 rfl rfl ?_;refine gz1 ?_;refine de rfl (zj zaS rfl fun b2=> ?_)
 refine gz1 ?_;refine uVj [3,1,6,23] (fun (q:Nat×LeagueS×Nat)=>[(3,pAt q.1)]) (fun (q:Nat×LeagueS×Nat)=>[.cells q.1 (lgC q.2.1.Players (.raw (.slice none 0 0)) q.2.1.Fixtures q.2.1.Rules q.2.1.Slots q.2.1.Bounds q.2.1.Teams (.raw (.slice none 0 0)) q.2.1.Breaks q.2.1.Trust q.2.1.Start),.cells b2 zv7,St b l q.2.2]) (fun (q:Nat×LeagueS×Nat)=>LeaD q.2.1/\q.2.2<=a+300) ?_ ?_
 ·skip
  refine zgC mixed ?_;refine gz1 ?_;refine gx4 [2,4,6,8] ?_;refine uB 10 rfl (za (hs:=[_,_,_,_]) zp ty9 rfl rfl (by decide) (by decide) rfl) ?_;refine gz1 ?_;refine uB 12 rfl (za (hs:=[_,_,_]) zX ty3 rfl rfl (by decide) (by decide) rfl) ?_;refine gx3 [15,17,19] ?_;refine uB 20 rfl (za (hs:=[_,_,_]) zX ty3 rfl rfl (by decide) (by decide) rfl) ?_;refine ziz 1 23 rfl rfl (by kernel_rfl) ?_ ?_
  ·skip
   refine zx rfl (uCx 1 ca72 rfl rfl (zel uS) ?_)
   rintro _ _ ⟨k7,a7,rfl,hk7,ha7,rfl⟩;refine ⟨uE,?_⟩
   refine ziz 3 23 rfl rfl (by kernel_rfl) ?_ ?_
   ·skip
    refine zx rfl (uCx 0 zAe rfl rfl (zdn uS) ?_)
    rintro _ _ ⟨k9,a9,rfl,hk9,ha9,rfl⟩;refine ⟨uE,?_⟩
    refine ziz 5 23 rfl rfl (by kernel_rfl) ?_ ?_
    ·skip
     refine zx rfl (uCx 0 zxL rfl rfl (zbX uS) ?_)
     rintro _ _ ⟨k11,a11,rfl,hk11,ha11,rfl⟩;refine ⟨uE,?_⟩
     refine ziz 7 23 rfl rfl (by kernel_rfl) ?_ ?_
     ·skip
      refine zx rfl (uCx 0 zsn rfl rfl (zbr uS) ?_)
      rintro _ _ ⟨k13,a13,rfl,hk13,hn13,ha13,rfl⟩;refine ⟨uE,?_⟩
      refine ziz 9 23 rfl rfl (by kernel_rfl) ?_ ?_
      ·skip
       refine zx rfl (uCx 0 zso rfl rfl (zaT uS) ?_)
       rintro _ _ ⟨y15,rfl,rfl⟩;refine ⟨uE,?_⟩
       refine ziz 13 23 rfl rfl (by kernel_rfl) ?_ ?_
       ·skip
        refine zx rfl (uCx 0 ca5 rfl rfl (zf (L:=[_,_,_]) uS uS uS) ?_)
        rintro _ _ ⟨y19,rfl,hy19,rfl⟩;refine ⟨uE,?_⟩
        refine uB 14 rfl (zaK (es:=tm4) (f:=HVal.str) (h:=y19.toNat) zp ty9 rfl rfl ⟨_,_,rfl,by simp at hy19;omega⟩ uO (by simp [tm4];simp at hy19;omega)) ?_;refine ziz 16 23 rfl rfl (by kernel_rfl) ?_ ?_
        ·skip
         refine zx rfl (uCx 0 zoB rfl rfl (zaO uS) ?_)
         rintro _ _ ⟨k22,a22,rfl,hk22,ha22,rfl⟩;refine ⟨uE,?_⟩
         refine ziz 18 23 rfl rfl (by kernel_rfl) ?_ ?_
         ·skip
          refine zx rfl (uCx 0 zm8 rfl rfl (zaB uS) ?_)
          rintro _ _ ⟨t24,a24,rfl,ht24,ha24,rfl⟩;refine ⟨uE,?_⟩
          refine ziz 21 23 rfl rfl (by kernel_rfl) ?_ ?_
          ·skip
           refine zx rfl (uCx 0 ca5 rfl rfl (zf (L:=[_,_,_]) uS uS uS) ?_)
           rintro _ _ ⟨y27,rfl,hy27,rfl⟩;refine ⟨uE,?_⟩
           refine uB 22 rfl (zi2 zaS zkT) ?_;refine uF 23 ?_;refine zx rfl (zj zaS rfl fun b3=> ?_)
           refine ⟨uE,?_⟩
           refine uF 24 ?_;refine zy (uY 0 ?_)
           refine ⟨uE,?_⟩
           refine uAz ?_;refine ⟨(b3,⟨k7,[],k9,k11,k13,y15,(tm4.take y19.toNat),[],k22,t24,y27⟩,a24+1),?_,⟨rfl,trivial⟩,uK,?_⟩
           ·exact ⟨⟨hk7,hk9,hk11,hk13,⟨by dsimp only;simp [tm4];simp at hy19;omega,by dsimp only;simp [tm4];simp at hy19;omega⟩,hk22,ht24,by simp at hy27;dsimp only;omega,zfK (by simp at hy19;omega)⟩,uD⟩
           ·exact uP
          ·skip
           refine zx rfl (zj zaS rfl fun b3=> ?_)
           refine ⟨uE,?_⟩
           refine uF 21 ?_;refine zx rfl (uCx 1 ca5 rfl rfl (zf (L:=[_,_,_]) uS uS uS) ?_)
           rintro _ _ ⟨y27,rfl,hy27,rfl⟩;refine ⟨uE,?_⟩
           refine uB 22 rfl (zi2 zaS zkT) ?_;refine uF 24 ?_;refine zy (uY 1 ?_)
           refine ⟨uE,?_⟩
           refine uAz ?_;refine ⟨(b3,⟨k7,[],k9,k11,k13,y15,(tm4.take y19.toNat),[],k22,t24,y27⟩,a24+1),?_,⟨rfl,trivial⟩,uK,?_⟩
           ·exact ⟨⟨hk7,hk9,hk11,hk13,⟨by dsimp only;simp [tm4];simp at hy19;omega,by dsimp only;simp [tm4];simp at hy19;omega⟩,hk22,ht24,by simp at hy27;dsimp only;omega,zfK (by simp at hy19;omega)⟩,uD⟩
           ·exact uP
         ·skip
          refine zx rfl (zj zaS rfl fun b3=> ?_)
          refine ⟨uE,?_⟩
          refine uF 18 ?_;refine zx rfl (uCx 1 zm8 rfl rfl (zaB uS) ?_)
          rintro _ _ ⟨t24,a24,rfl,ht24,ha24,rfl⟩;refine ⟨uE,?_⟩
          refine uF 21 ?_;refine zx rfl (uCx 0 ca5 rfl rfl (zf (L:=[_,_,_]) uS uS uS) ?_)
          rintro _ _ ⟨y27,rfl,hy27,rfl⟩;refine ⟨uE,?_⟩
          refine uB 22 rfl (zi2 zaS zkT) ?_;refine uF 24 ?_;refine zy (uY 1 ?_)
          refine ⟨uE,?_⟩
          refine uAz ?_;refine ⟨(b3,⟨k7,[],k9,k11,k13,y15,(tm4.take y19.toNat),[],k22,t24,y27⟩,a24+1),?_,⟨rfl,trivial⟩,uK,?_⟩
          ·exact ⟨⟨hk7,hk9,hk11,hk13,⟨by dsimp only;simp [tm4];simp at hy19;omega,by dsimp only;simp [tm4];simp at hy19;omega⟩,hk22,ht24,by simp at hy27;dsimp only;omega,zfK (by simp at hy19;omega)⟩,uD⟩
          ·exact uP
        ·skip
         refine zx rfl (zj zaS rfl fun b3=> ?_)
         refine ⟨uE,?_⟩
         refine uF 16 ?_;refine zx rfl (uCx 1 zoB rfl rfl (zaO uS) ?_)
         rintro _ _ ⟨k22,a22,rfl,hk22,ha22,rfl⟩;refine ⟨uE,?_⟩
         refine uF 18 ?_;refine zx rfl (uCx 0 zm8 rfl rfl (zaB uS) ?_)
         rintro _ _ ⟨t24,a24,rfl,ht24,ha24,rfl⟩;refine ⟨uE,?_⟩
         refine uF 21 ?_;refine zx rfl (uCx 0 ca5 rfl rfl (zf (L:=[_,_,_]) uS uS uS) ?_)
         rintro _ _ ⟨y27,rfl,hy27,rfl⟩;refine ⟨uE,?_⟩
         refine uB 22 rfl (zi2 zaS zkT) ?_;refine uF 24 ?_;refine zy (uY 1 ?_)
         refine ⟨uE,?_⟩
         refine uAz ?_;refine ⟨(b3,⟨k7,[],k9,k11,k13,y15,(tm4.take y19.toNat),[],k22,t24,y27⟩,a24+1),?_,⟨rfl,trivial⟩,uK,?_⟩
         ·exact ⟨⟨hk7,hk9,hk11,hk13,⟨by dsimp only;simp [tm4];simp at hy19;omega,by dsimp only;simp [tm4];simp at hy19;omega⟩,hk22,ht24,by simp at hy27;dsimp only;omega,zfK (by simp at hy19;omega)⟩,uD⟩
         ·exact uP
       ·skip
        refine zx rfl (zj zaS rfl fun b3=> ?_)
        refine ⟨uE,?_⟩
        refine uF 13 ?_;refine zx rfl (uCx 1 ca5 rfl rfl (zf (L:=[_,_,_]) uS uS uS) ?_)
        rintro _ _ ⟨y19,rfl,hy19,rfl⟩;refine ⟨uE,?_⟩
        refine uB 14 rfl (zaK (es:=tm4) (f:=HVal.str) (h:=y19.toNat) zp ty9 rfl rfl ⟨_,_,rfl,by simp at hy19;omega⟩ uO (by simp [tm4];simp at hy19;omega)) ?_;refine uF 16 ?_;refine zx rfl (uCx 0 zoB rfl rfl (zaO uS) ?_)
        rintro _ _ ⟨k22,a22,rfl,hk22,ha22,rfl⟩;refine ⟨uE,?_⟩
        refine uF 18 ?_;refine zx rfl (uCx 0 zm8 rfl rfl (zaB uS) ?_)
        rintro _ _ ⟨t24,a24,rfl,ht24,ha24,rfl⟩;refine ⟨uE,?_⟩
        refine uF 21 ?_;refine zx rfl (uCx 0 ca5 rfl rfl (zf (L:=[_,_,_]) uS uS uS) ?_)
        rintro _ _ ⟨y27,rfl,hy27,rfl⟩;refine ⟨uE,?_⟩
        refine uB 22 rfl (zi2 zaS zkT) ?_;refine uF 24 ?_;refine zy (uY 1 ?_)
        refine ⟨uE,?_⟩
        refine uAz ?_;refine ⟨(b3,⟨k7,[],k9,k11,k13,y15,(tm4.take y19.toNat),[],k22,t24,y27⟩,a24+1),?_,⟨rfl,trivial⟩,uK,?_⟩
        ·exact ⟨⟨hk7,hk9,hk11,hk13,⟨by dsimp only;simp [tm4];simp at hy19;omega,by dsimp only;simp [tm4];simp at hy19;omega⟩,hk22,ht24,by simp at hy27;dsimp only;omega,zfK (by simp at hy19;omega)⟩,uD⟩
        ·exact uP
      ·skip
       refine zx rfl (zj zaS rfl fun b3=> ?_)
       refine ⟨uE,?_⟩
       refine uF 9 ?_;refine zx rfl (uCx 1 zso rfl rfl (zaT uS) ?_)
       rintro _ _ ⟨y15,rfl,rfl⟩;refine ⟨uE,?_⟩
       refine uF 13 ?_;refine zx rfl (uCx 0 ca5 rfl rfl (zf (L:=[_,_,_]) uS uS uS) ?_)
       rintro _ _ ⟨y19,rfl,hy19,rfl⟩;refine ⟨uE,?_⟩
       refine uB 14 rfl (zaK (es:=tm4) (f:=HVal.str) (h:=y19.toNat) zp ty9 rfl rfl ⟨_,_,rfl,by simp at hy19;omega⟩ uO (by simp [tm4];simp at hy19;omega)) ?_;refine uF 16 ?_;refine zx rfl (uCx 0 zoB rfl rfl (zaO uS) ?_)
       rintro _ _ ⟨k22,a22,rfl,hk22,ha22,rfl⟩;refine ⟨uE,?_⟩
       refine uF 18 ?_;refine zx rfl (uCx 0 zm8 rfl rfl (zaB uS) ?_)
       rintro _ _ ⟨t24,a24,rfl,ht24,ha24,rfl⟩;refine ⟨uE,?_⟩
       refine uF 21 ?_;refine zx rfl (uCx 0 ca5 rfl rfl (zf (L:=[_,_,_]) uS uS uS) ?_)
       rintro _ _ ⟨y27,rfl,hy27,rfl⟩;refine ⟨uE,?_⟩
       refine uB 22 rfl (zi2 zaS zkT) ?_;refine uF 24 ?_;refine zy (uY 1 ?_)
       refine ⟨uE,?_⟩
       refine uAz ?_;refine ⟨(b3,⟨k7,[],k9,k11,k13,y15,(tm4.take y19.toNat),[],k22,t24,y27⟩,a24+1),?_,⟨rfl,trivial⟩,uK,?_⟩
       ·exact ⟨⟨hk7,hk9,hk11,hk13,⟨by dsimp only;simp [tm4];simp at hy19;omega,by dsimp only;simp [tm4];simp at hy19;omega⟩,hk22,ht24,by simp at hy27;dsimp only;omega,zfK (by simp at hy19;omega)⟩,uD⟩
       ·exact uP
     ·skip
      refine zx rfl (zj zaS rfl fun b3=> ?_)
      refine ⟨uE,?_⟩
      refine uF 7 ?_;refine zx rfl (uCx 1 zsn rfl rfl (zbr uS) ?_)
      rintro _ _ ⟨k13,a13,rfl,hk13,hn13,ha13,rfl⟩;refine ⟨uE,?_⟩
      refine uF 9 ?_;refine zx rfl (uCx 0 zso rfl rfl (zaT uS) ?_)
      rintro _ _ ⟨y15,rfl,rfl⟩;refine ⟨uE,?_⟩
      refine uF 13 ?_;refine zx rfl (uCx 0 ca5 rfl rfl (zf (L:=[_,_,_]) uS uS uS) ?_)
      rintro _ _ ⟨y19,rfl,hy19,rfl⟩;refine ⟨uE,?_⟩
      refine uB 14 rfl (zaK (es:=tm4) (f:=HVal.str) (h:=y19.toNat) zp ty9 rfl rfl ⟨_,_,rfl,by simp at hy19;omega⟩ uO (by simp [tm4];simp at hy19;omega)) ?_;refine uF 16 ?_;refine zx rfl (uCx 0 zoB rfl rfl (zaO uS) ?_)
      rintro _ _ ⟨k22,a22,rfl,hk22,ha22,rfl⟩;refine ⟨uE,?_⟩
      refine uF 18 ?_;refine zx rfl (uCx 0 zm8 rfl rfl (zaB uS) ?_)
      rintro _ _ ⟨t24,a24,rfl,ht24,ha24,rfl⟩;refine ⟨uE,?_⟩
      refine uF 21 ?_;refine zx rfl (uCx 0 ca5 rfl rfl (zf (L:=[_,_,_]) uS uS uS) ?_)
      rintro _ _ ⟨y27,rfl,hy27,rfl⟩;refine ⟨uE,?_⟩
      refine uB 22 rfl (zi2 zaS zkT) ?_;refine uF 24 ?_;refine zy (uY 1 ?_)
      refine ⟨uE,?_⟩
      refine uAz ?_;refine ⟨(b3,⟨k7,[],k9,k11,k13,y15,(tm4.take y19.toNat),[],k22,t24,y27⟩,a24+1),?_,⟨rfl,trivial⟩,uK,?_⟩
      ·exact ⟨⟨hk7,hk9,hk11,hk13,⟨by dsimp only;simp [tm4];simp at hy19;omega,by dsimp only;simp [tm4];simp at hy19;omega⟩,hk22,ht24,by simp at hy27;dsimp only;omega,zfK (by simp at hy19;omega)⟩,uD⟩
      ·exact uP
    ·skip
     refine zx rfl (zj zaS rfl fun b3=> ?_)
     refine ⟨uE,?_⟩
     refine uF 5 ?_;refine zx rfl (uCx 1 zxL rfl rfl (zbX uS) ?_)
     rintro _ _ ⟨k11,a11,rfl,hk11,ha11,rfl⟩;refine ⟨uE,?_⟩
     refine uF 7 ?_;refine zx rfl (uCx 0 zsn rfl rfl (zbr uS) ?_)
     rintro _ _ ⟨k13,a13,rfl,hk13,hn13,ha13,rfl⟩;refine ⟨uE,?_⟩
     refine uF 9 ?_;refine zx rfl (uCx 0 zso rfl rfl (zaT uS) ?_)
     rintro _ _ ⟨y15,rfl,rfl⟩;refine ⟨uE,?_⟩
     refine uF 13 ?_;refine zx rfl (uCx 0 ca5 rfl rfl (zf (L:=[_,_,_]) uS uS uS) ?_)
     rintro _ _ ⟨y19,rfl,hy19,rfl⟩;refine ⟨uE,?_⟩
     refine uB 14 rfl (zaK (es:=tm4) (f:=HVal.str) (h:=y19.toNat) zp ty9 rfl rfl ⟨_,_,rfl,by simp at hy19;omega⟩ uO (by simp [tm4];simp at hy19;omega)) ?_;refine uF 16 ?_;refine zx rfl (uCx 0 zoB rfl rfl (zaO uS) ?_)
     rintro _ _ ⟨k22,a22,rfl,hk22,ha22,rfl⟩;refine ⟨uE,?_⟩
     refine uF 18 ?_;refine zx rfl (uCx 0 zm8 rfl rfl (zaB uS) ?_)
     rintro _ _ ⟨t24,a24,rfl,ht24,ha24,rfl⟩;refine ⟨uE,?_⟩
     refine uF 21 ?_;refine zx rfl (uCx 0 ca5 rfl rfl (zf (L:=[_,_,_]) uS uS uS) ?_)
     rintro _ _ ⟨y27,rfl,hy27,rfl⟩;refine ⟨uE,?_⟩
     refine uB 22 rfl (zi2 zaS zkT) ?_;refine uF 24 ?_;refine zy (uY 1 ?_)
     refine ⟨uE,?_⟩
     refine uAz ?_;refine ⟨(b3,⟨k7,[],k9,k11,k13,y15,(tm4.take y19.toNat),[],k22,t24,y27⟩,a24+1),?_,⟨rfl,trivial⟩,uK,?_⟩
     ·exact ⟨⟨hk7,hk9,hk11,hk13,⟨by dsimp only;simp [tm4];simp at hy19;omega,by dsimp only;simp [tm4];simp at hy19;omega⟩,hk22,ht24,by simp at hy27;dsimp only;omega,zfK (by simp at hy19;omega)⟩,uD⟩
     ·exact uP
   ·skip
    refine zx rfl (zj zaS rfl fun b3=> ?_)
    refine ⟨uE,?_⟩
    refine uF 3 ?_;refine zx rfl (uCx 1 zAe rfl rfl (zdn uS) ?_)
    rintro _ _ ⟨k9,a9,rfl,hk9,ha9,rfl⟩;refine ⟨uE,?_⟩
    refine uF 5 ?_;refine zx rfl (uCx 0 zxL rfl rfl (zbX uS) ?_)
    rintro _ _ ⟨k11,a11,rfl,hk11,ha11,rfl⟩;refine ⟨uE,?_⟩
    refine uF 7 ?_;refine zx rfl (uCx 0 zsn rfl rfl (zbr uS) ?_)
    rintro _ _ ⟨k13,a13,rfl,hk13,hn13,ha13,rfl⟩;refine ⟨uE,?_⟩
    refine uF 9 ?_;refine zx rfl (uCx 0 zso rfl rfl (zaT uS) ?_)
    rintro _ _ ⟨y15,rfl,rfl⟩;refine ⟨uE,?_⟩
    refine uF 13 ?_;refine zx rfl (uCx 0 ca5 rfl rfl (zf (L:=[_,_,_]) uS uS uS) ?_)
    rintro _ _ ⟨y19,rfl,hy19,rfl⟩;refine ⟨uE,?_⟩
    refine uB 14 rfl (zaK (es:=tm4) (f:=HVal.str) (h:=y19.toNat) zp ty9 rfl rfl ⟨_,_,rfl,by simp at hy19;omega⟩ uO (by simp [tm4];simp at hy19;omega)) ?_;refine uF 16 ?_;refine zx rfl (uCx 0 zoB rfl rfl (zaO uS) ?_)
    rintro _ _ ⟨k22,a22,rfl,hk22,ha22,rfl⟩;refine ⟨uE,?_⟩
    refine uF 18 ?_;refine zx rfl (uCx 0 zm8 rfl rfl (zaB uS) ?_)
    rintro _ _ ⟨t24,a24,rfl,ht24,ha24,rfl⟩;refine ⟨uE,?_⟩
    refine uF 21 ?_;refine zx rfl (uCx 0 ca5 rfl rfl (zf (L:=[_,_,_]) uS uS uS) ?_)
    rintro _ _ ⟨y27,rfl,hy27,rfl⟩;refine ⟨uE,?_⟩
    refine uB 22 rfl (zi2 zaS zkT) ?_;refine uF 24 ?_;refine zy (uY 1 ?_)
    refine ⟨uE,?_⟩
    refine uAz ?_;refine ⟨(b3,⟨k7,[],k9,k11,k13,y15,(tm4.take y19.toNat),[],k22,t24,y27⟩,a24+1),?_,⟨rfl,trivial⟩,uK,?_⟩
    ·exact ⟨⟨hk7,hk9,hk11,hk13,⟨by dsimp only;simp [tm4];simp at hy19;omega,by dsimp only;simp [tm4];simp at hy19;omega⟩,hk22,ht24,by simp at hy27;dsimp only;omega,zfK (by simp at hy19;omega)⟩,uD⟩
    ·exact uP
  ·skip
   refine zx rfl (zj zaS rfl fun b3=> ?_)
   refine ⟨uE,?_⟩
   refine uF 1 ?_;refine zx rfl (uCx 2 ca72 rfl rfl (zel uS) ?_)
   rintro _ _ ⟨k7,a7,rfl,hk7,ha7,rfl⟩;refine ⟨uE,?_⟩
   refine uF 3 ?_;refine zx rfl (uCx 0 zAe rfl rfl (zdn uS) ?_)
   rintro _ _ ⟨k9,a9,rfl,hk9,ha9,rfl⟩;refine ⟨uE,?_⟩
   refine uF 5 ?_;refine zx rfl (uCx 0 zxL rfl rfl (zbX uS) ?_)
   rintro _ _ ⟨k11,a11,rfl,hk11,ha11,rfl⟩;refine ⟨uE,?_⟩
   refine uF 7 ?_;refine zx rfl (uCx 0 zsn rfl rfl (zbr uS) ?_)
   rintro _ _ ⟨k13,a13,rfl,hk13,hn13,ha13,rfl⟩;refine ⟨uE,?_⟩
   refine uF 9 ?_;refine zx rfl (uCx 0 zso rfl rfl (zaT uS) ?_)
   rintro _ _ ⟨y15,rfl,rfl⟩;refine ⟨uE,?_⟩
   refine uF 13 ?_;refine zx rfl (uCx 0 ca5 rfl rfl (zf (L:=[_,_,_]) uS uS uS) ?_)
   rintro _ _ ⟨y19,rfl,hy19,rfl⟩;refine ⟨uE,?_⟩
   refine uB 14 rfl (zaK (es:=tm4) (f:=HVal.str) (h:=y19.toNat) zp ty9 rfl rfl ⟨_,_,rfl,by simp at hy19;omega⟩ uO (by simp [tm4];simp at hy19;omega)) ?_;refine uF 16 ?_;refine zx rfl (uCx 0 zoB rfl rfl (zaO uS) ?_)
   rintro _ _ ⟨k22,a22,rfl,hk22,ha22,rfl⟩;refine ⟨uE,?_⟩
   refine uF 18 ?_;refine zx rfl (uCx 0 zm8 rfl rfl (zaB uS) ?_)
   rintro _ _ ⟨t24,a24,rfl,ht24,ha24,rfl⟩;refine ⟨uE,?_⟩
   refine uF 21 ?_;refine zx rfl (uCx 0 ca5 rfl rfl (zf (L:=[_,_,_]) uS uS uS) ?_)
   rintro _ _ ⟨y27,rfl,hy27,rfl⟩;refine ⟨uE,?_⟩
   refine uB 22 rfl (zi2 zaS zkT) ?_;refine uF 24 ?_;refine zy (uY 1 ?_)
   refine ⟨uE,?_⟩
   refine uAz ?_;refine ⟨(b3,⟨k7,[],k9,k11,k13,y15,(tm4.take y19.toNat),[],k22,t24,y27⟩,a24+1),?_,⟨rfl,trivial⟩,uK,?_⟩
   ·exact ⟨⟨hk7,hk9,hk11,hk13,⟨by dsimp only;simp [tm4];simp at hy19;omega,by dsimp only;simp [tm4];simp at hy19;omega⟩,hk22,ht24,by simp at hy27;dsimp only;omega,zfK (by simp at hy19;omega)⟩,uD⟩
   ·exact uP
 ·intro q hq0
  obtain ⟨b3,⟨k7,kst,k9,k11,k13,y15,T,kga,k22,t24,y27⟩,a27⟩:=q;obtain ⟨⟨hk7,hk9,hk11,hk13,htl,hk22,ht24,hst,htt⟩,ha27⟩:=hq0;dsimp only at hk7 hk9 hk11 hk13 htl hk22 ht24 hst htt ha27⊢;have hp5:=hk7.len;have htr:t24.length<=100/\∀s∈t24,Sh s:=⟨by have:=ht24.len;omega,ht24.all⟩
  refine gz3 ?_;refine de rfl (uZ 0 ?_)
  refine de rfl (uCx 2 ca79 rfl rfl (zi9 (a:=a27) (L:=k7) uO uO) ?_)
  rintro _ _ ⟨k32,a32,rfl,hk32,ha32,rfl⟩;refine gz1 ?_;refine de0 (uY 1 ?_)
  refine gz4 ?_;refine de rfl (uZ 1 ?_)
  refine de rfl (zaV (M1:=[]) (R:=[_,_,_]) ca80 rfl (WeakL.refl _) (Ac _) (zlQ (T:=T) htl) ?_)
  rintro _ _ ⟨k36,rfl,hk36,rfl⟩;refine gz3 ?_;have hl36:=hk36.len;have hg36:=hk36.all;refine ze (zK 8) ?_;refine gz1 ?_;refine uV2 [5,1,38,14] (fun (k:Nat) (q:GL GameS)=>[(38,.int .i64 k)]) (fun (k:Nat) (q:GL GameS)=>[St b l q.a,.cells b2 zv7,.cells b3 (lgC k7 (zfP k32) k9 k11 k13 y15 T (.raw q.u) k22 t24 y27),.arr q.u 8 (q.out.map zam)]) (fun (k:Nat) (q:GL GameS)=>k<=k36.length/\(GLok GamB k (a32+k) q)) (fun (k:Nat) (q:GL GameS)=>k36.length-k) (0) (⟨.slice none 0 0,[],a32⟩) ?_ ?_ ?_ ?_
  ·exact ⟨Ad _,⟨by simp,by simp,uD⟩⟩
  ·exact ⟨rfl,trivial⟩
  ·exact uP
  ·intro k q hinv
   obtain ⟨hk,hq⟩:=hinv;obtain ⟨u,out,a2⟩:=q;obtain ⟨g1,g2,g3⟩:=id hq;dsimp only at g1 g2 g3;refine gz4 ?_;refine uCo (fun h1=> ?_) fun h2=> ?_
   ·obtain ⟨x,hx⟩: ∃x,k36[k]? =some x:=⟨_,Aa h1⟩
    have hdx:=zg hx;refine gz7 ?_;refine de rfl (zj za8 rfl fun b5=> ?_)
    refine de0 (uY 0 ?_)
    refine gz3 ?_;refine de rfl (uCx 1 zeO rfl rfl (zH uS uS) ?_)
    rintro _ _ ⟨y43,rfl,rfl⟩;refine gz2 ?_;refine uCo (fun h3=> ?_) fun h4=> ?_
    ·refine gz2 ?_;refine de rfl (uZ 3 ?_)
     refine de rfl (zhS (i:=1) (h:=zam x) za8 rfl rfl rfl rfl rfl ?_)
     refine dq (za (hs:=[_]) zcG za8 rfl rfl (by decide) (by decide) rfl) ?_;refine de rfl (zL (i:=4) zcG za8 rfl rfl rfl rfl rfl (by simp [zat,zb,zaM,za6]) uSo fun v49=> ?_)
     refine gz1 ?_;refine de0 (uY 3 ?_)
     refine gz3 ?_;refine ze (zbC 5 (i:=1) rfl rfl) ?_;refine gz4 ?_;exact ⟨k+1,⟨v49,out++[x],a2+1⟩,⟨by omega,hq.add (x:=x) (hg36 x (Ab hx)) uO⟩,uD,⟨rfl,trivial⟩,uK,zk (by dsimp only;rw [Aq];rfl)⟩
    ·refine gz3 ?_;refine ze (zbC 5 (i:=1) rfl rfl) ?_;refine gz4 ?_;exact ⟨k+1,⟨u,out,a2+1⟩,⟨by omega,hq.same uO⟩,uD,⟨rfl,trivial⟩,uK,zk rfl⟩
   ·have hnk:k36.length<=k:=by omega
    obtain rfl:k=k36.length:=by omega
    refine gz2 ?_;refine zI ?_;refine gz4 ?_;refine de rfl (uZ 2 ?_)
    refine de rfl (uCx 3 ca81 rfl rfl (zox (l:=out) g2 uO) ?_)
    rintro _ _ ⟨Z,rfl,hz1,hz2,rfl⟩;have hzl:=hz1.length_eq;refine gz1 ?_;have hgz:Z.length<=6/\∀x∈Z,GamB x:=⟨by omega,fun x hx=>g2 x (hz1.mem_iff.1 hx)⟩
    refine uVj [55,44] (fun (q5:LeagueS×Nat)=>[]) (fun (q5:LeagueS×Nat)=>[St b l q5.2,.cells b2 zv7,.cells b3 (lgC q5.1.Players (zfP q5.1.Stints) q5.1.Fixtures q5.1.Rules q5.1.Slots q5.1.Bounds q5.1.Teams (.raw u) q5.1.Breaks q5.1.Trust q5.1.Start),.arr u 8 (q5.1.Games.map zam)]) (fun (q5:LeagueS×Nat)=>LeaC q5.1/\q5.2<=a+500) ?_ ?_
    ·skip
     refine gz2 ?_;refine de rfl (uCx 1 zeO rfl rfl (zH uS uS) ?_)
     rintro _ _ ⟨y56,rfl,rfl⟩;refine gz1 ?_;refine uCo (fun h5=> ?_) fun h6=> ?_
     ·refine gz2 ?_;refine de rfl (uCx 0 zjr rfl rfl (zap uS uS) ?_)
      rintro _ _ ⟨y58,rfl,hy58,rfl⟩;refine gz6 ?_;refine uCo (fun h7=> ?_) fun h8=> ?_
      ·refine gz2 ?_;refine dq (za (hs:=[_,_,_]) zX ty3 rfl rfl (by decide) (by decide) rfl) ?_;refine de rfl (uCx 0 ca5 rfl rfl (zf (L:=[_,_,_]) uS uS uS) ?_)
       rintro _ _ ⟨y81,rfl,hy81,rfl⟩;refine gz1 ?_;refine de0 (uY 3 ?_)
       refine gz2 ?_;exact ⟨((⟨k7,k32,k9,k11,k13,y15,T,Z,k22,t24,y81⟩:LeagueS),a2+3),⟨zkb (h1:=hk7) (h2:=by dsimp only;omega) (h3:=by dsimp only;omega) (h4:=hk11) (h5:=hk13.up) (h6:=by dsimp only;omega) (h7:=hgz) (h8:=by dsimp only;omega) (h9:=htr) (h10:=by simp at hy81;dsimp only;omega) (h11:=htt),uD⟩,trivial,uK,uP⟩
      ·refine gz4 ?_;refine uCo (fun h9=> ?_) fun h10=> ?_
       ·refine gz2 ?_;refine de rfl (uZ 3 ?_)
        refine de rfl (uCa zkD rfl (zaf uO) fun v87=> ?_)
        refine gz1 ?_;refine dq (za (hs:=[_,_]) zp ty9 rfl rfl (by decide) (by decide) rfl) ?_;refine de rfl (uCx 1 zcn rfl rfl (zq (L:=[_,_]) uS uS uS) ?_)
        rintro _ _ ⟨y90,rfl,hy90,rfl⟩;refine dq (za (hs:=[_]) zp ty9 rfl rfl (by decide) (by decide) rfl) ?_;refine de rfl (zme (N:=[St b l (a2+3),.arr u 8 (Z.map zam),.cells b2 zv7,.cells b3 (lgC k7 (zfP k32) k9 k11 k13 y15 T (.raw u) k22 t24 y27)]) (sz:=1) (es:=(T++[y90]).map .str) 1 (zL (i:=1) zp ty9 rfl rfl rfl rfl rfl (by simp [zat,zb]) uSo fun v=>⟨v,rfl,by simp,rfl⟩) ?_)
        refine gz1 ?_;refine de0 (uY 3 ?_)
        refine gz2 ?_;exact ⟨((⟨k7,k32,k9,k11,k13,y15,T++[y90],Z,k22,t24,y27⟩:LeagueS),a2+3),⟨zkb (h1:=hk7) (h2:=by dsimp only;omega) (h3:=by dsimp only;omega) (h4:=hk11) (h5:=hk13.up) (h6:=by dsimp only;rw [Ax];simp only [Aj,AA];omega) (h7:=hgz) (h8:=by dsimp only;omega) (h9:=htr) (h10:=hst) (h11:=htt.app _),uD⟩,trivial,uK,uP⟩
       ·refine gz4 ?_;refine uCo (fun h11=> ?_) fun h12=> ?_
        ·refine gz2 ?_;refine de rfl (uCx 0 ca83 rfl rfl (zkp uS) ?_)
         rintro _ _ ⟨k97,a97,rfl,hk97,ha97,rfl⟩;refine gz1 ?_;refine de0 (uY 3 ?_)
         refine gz2 ?_;exact ⟨((⟨k7,k32,k9,k11,k97,y15,T,Z,k22,t24,y27⟩:LeagueS),a97),⟨zkb (h1:=hk7) (h2:=by dsimp only;omega) (h3:=by dsimp only;omega) (h4:=hk11) (h5:=hk97) (h6:=by dsimp only;omega) (h7:=hgz) (h8:=by dsimp only;omega) (h9:=htr) (h10:=hst) (h11:=htt),by dsimp only at ha97⊢;omega⟩,trivial,uK,uP⟩
        ·refine gz2 ?_;refine de rfl (uZ 3 ?_)
         refine de rfl (zau (i:=1) zcG rfl rfl ?_)
         refine gz2 ?_;refine uCo (fun h13=> ?_) fun h14=> ?_
         ·have hz0:0<Z.length:=by first|assumption|omega|simp_all
          obtain ⟨x0,hx0⟩: ∃x,Z[0]? =some x:=⟨_,Aa hz0⟩
          refine zbV (i:=1) rfl (fun h0 he=> ?_) (fun ob off cap hv hcap=> ?_)
          ·exfalso;have:=congrArg List.length he;simp at this;subst this;simp at hz0
          subst hv;refine zba (fun M=> ∃i:Nat,M[i]? =some (.cells b3 (lgC k7 (zfP k32) k9 k11 k13 y15 T (.raw (.slice (some ⟨ob,off,none⟩) (Z.map zam).length cap)) k22 t24 y27))) [1,3,5] mixed ?_;refine gz1 ?_;refine uM 1 rfl (⟨3,rfl⟩) (fun M hM=>by obtain ⟨i,hi⟩:=hM;exact zar (i:=i) zcG rfl hi (.inl ⟨rfl,rfl⟩) ⟨rfl,rfl⟩) ?_;refine gz1 ?_;refine uM 3 rfl (⟨3,rfl⟩) (fun M hM=>by obtain ⟨i,hi⟩:=hM;exact zar (i:=i) zcG rfl hi (.inl ⟨rfl,rfl⟩) ⟨rfl,rfl⟩) ?_;refine gz1 ?_;refine uM 5 rfl (⟨3,rfl⟩) (fun M hM=>by obtain ⟨i,hi⟩:=hM;exact zar (i:=i) zcG rfl hi (.inl ⟨rfl,rfl⟩) ⟨rfl,rfl⟩) ?_;refine uB 6 rfl (zF (cs:=[_,_]) zaj zl8 rfl) ?_;refine uB 7 rfl (zF (cs:=[_,_]) zaj zl8 rfl) ?_;refine uB 8 rfl (zv (j:=0) zcG za8 rfl rfl rfl uSo) ?_;refine gz1 ?_;refine uF 10 ?_;refine zy (zV (i:=1) (j:=0) (f:=3) (y:=zam x0) (y':=zam (⟨x0.Week,x0.Home,x0.Away,true,x0.FNum,x0.FDen,x0.ONum,x0.ODen⟩:GameS)) ty4 rfl uO rfl rfl (za3 hx0) rfl rfl (by simp [zb]) rfl ?_)
          refine ⟨fun _=> .inl ⟨3,rfl⟩,?_⟩
          refine uB 11 rfl (zv (j:=0) zcG za8 rfl rfl rfl uSo) ?_;refine gz1 ?_;refine uF 13 ?_;refine zy (zV (i:=1) (j:=0) (f:=4) (y:=zam (⟨x0.Week,x0.Home,x0.Away,true,x0.FNum,x0.FDen,x0.ONum,x0.ODen⟩:GameS)) (y':=zam (⟨x0.Week,x0.Home,x0.Away,true,1,1,x0.ONum,x0.ODen⟩:GameS)) zaj rfl uO rfl rfl (zaL (za3 hx0)) rfl rfl (by simp [zb]) rfl ?_)
          refine ⟨fun _=> .inl ⟨3,rfl⟩,?_⟩
          refine uB 14 rfl (zv (j:=0) zcG za8 rfl rfl rfl uSo) ?_;refine gz1 ?_;refine uF 16 ?_;refine zy (zV (i:=1) (j:=0) (f:=6) (y:=zam (⟨x0.Week,x0.Home,x0.Away,true,1,1,x0.ONum,x0.ODen⟩:GameS)) (y':=zam (⟨x0.Week,x0.Home,x0.Away,true,1,1,1,1⟩:GameS)) zaj rfl uO rfl rfl (zaL (zaL (za3 hx0))) rfl rfl (by simp [zb]) rfl ?_)
          refine ⟨fun _=> .inl ⟨3,rfl⟩,?_⟩
          refine gz2 ?_;exact ⟨((⟨k7,k32,k9,k11,k13,y15,T,Z.set 0 (⟨x0.Week,x0.Home,x0.Away,true,1,1,1,1⟩:GameS),k22,t24,y27⟩:LeagueS),a2+2),⟨zkb (h1:=hk7) (h2:=by dsimp only;omega) (h3:=by dsimp only;omega) (h4:=hk11) (h5:=hk13.up) (h6:=by dsimp only;omega) (h7:=⟨by dsimp only;rw [List.length_set];omega,zfL (P:=GamB) hgz.2 ⟨(hgz.2 x0 (Ab hx0)).week,uD,uD⟩⟩) (h8:=by dsimp only;omega) (h9:=htr) (h10:=hst) (h11:=htt),uD⟩,trivial,uK,uP⟩
         ·refine gz2 ?_;exact ⟨((⟨k7,k32,k9,k11,k13,y15,T,Z,k22,t24,y27⟩:LeagueS),a2+2),⟨zkb (h1:=hk7) (h2:=by dsimp only;omega) (h3:=by dsimp only;omega) (h4:=hk11) (h5:=hk13.up) (h6:=by dsimp only;omega) (h7:=hgz) (h8:=by dsimp only;omega) (h9:=htr) (h10:=hst) (h11:=htt),uD⟩,trivial,uK,uP⟩
     ·refine gz1 ?_;exact ⟨((⟨k7,k32,k9,k11,k13,y15,T,Z,k22,t24,y27⟩:LeagueS),a2+1),⟨zkb (h1:=hk7) (h2:=by dsimp only;omega) (h3:=by dsimp only;omega) (h4:=hk11) (h5:=hk13.up) (h6:=by dsimp only;omega) (h7:=hgz) (h8:=by dsimp only;omega) (h9:=htr) (h10:=hst) (h11:=htt),uD⟩,trivial,uK,uP⟩
    ·intro q5 hq5
     obtain ⟨g5,a5⟩:=q5;obtain ⟨hg5,ha5⟩:=hq5;dsimp only at hg5 ha5;refine ze (ziS (i:=3) (k:=2) (j:=10) rfl rfl rfl) ?_;refine ze (Ghost.perm (M':=[.cells b2 zv7,St b l a5,.cells b3 (zb (zfO g5))]) uP) ?_;refine gz1 ?_;refine de rfl (zhS (i:=2) (h:=zfO g5) zaS rfl rfl rfl rfl rfl ?_)
     refine de0 (zn (h:=zfO g5) zaS rfl rfl rfl rfl rfl ?_)
     refine gz2 ?_;exact ⟨_,_,(zo 2 rfl).trans ((Ghost.perm (List.Perm.swap _ _ _)).trans Ghost.drop),[_],_,⟨⟨_,_,_,_,_,rfl,zaS,.inr ⟨rfl,rfl,rfl⟩⟩,trivial⟩,Weak.refl _,g5,a5,rfl,hg5,ha5,rfl⟩
end
section
open Go.HL
set_option linter.unusedSimpArgs false
end
section
open Go.Proofs.Tryz
open Go.HL
theorem zlp [Tracks] {A X C:List MvS} {ia ib:Int} {n b off cap:Nat} {fid:FuncId} {caps:List HVal} {c:MvS->MvS->Int} (hca:Callable prog fid) (hp: ∀x y,ConP prog fid ([zdx x,zdx y]++caps) (.int .i64 (c x y))) (hn:A.length+X.length+C.length=n) (hia:ia=(A.length:Int)) (hib:ib=(A.length:Int)+X.length) (hl:n<=1000000):Con prog 159 [.raw (.slice (some ⟨b,off,none⟩) n cap),.int .i64 ia,.int .i64 ib,.fn (.func fid) [] caps] [.arr (.slice (some ⟨b,off,none⟩) n cap) 4 ((A++X++C).map zdx)] (fun x M'=>x= .tup []/\M'=[.arr (.slice (some ⟨b,off,none⟩) n cap) 4 ((A++zQ c X++C).map zdx)]):=by
 refine uOb func159 ntmps159 ?_;refine gz6 ?_;refine uV1 [8,2,12,41] (fun (k:Nat)=>[(8,.int .i64 ((A.length+k:Nat):Int))]) (fun (k:Nat)=>[.arr (.slice (some ⟨b,off,none⟩) n cap) 4 ((A++(zQ c (X.take k)++X.drop k)++C).map zdx)]) (fun (k:Nat)=>1<=k) (fun (k:Nat)=>X.length-k) (1) ?_ ?_ ?_ ?_;exact Ae _;exact ⟨zP uO,trivial⟩;exact zk (by rw [zhe])
 intro k hk
 refine gz6 ?_;refine uCo (fun h1=> ?_) fun h2=> ?_
 obtain ⟨x,hx⟩: ∃x,X[k]? =some x:=⟨_,Aa uO⟩
 refine gz9 ?_;refine uV2 [9,1,18,35] (fun (D:List MvS) (B:List MvS)=>[(9,.int .i64 ((A.length+D.length:Nat):Int))]) (fun (D:List MvS) (B:List MvS)=>[.arr (.slice (some ⟨b,off,none⟩) n cap) 4 (((A++D)++x::(B++X.drop (k+1)++C)).map zdx)]) (fun (D:List MvS) (B:List MvS)=>D.length+B.length=k/\zcY c x (zQ c (X.take k))=zcY c x D++B) (fun (D:List MvS) (B:List MvS)=>D.length) (zQ c (X.take k)) ([]) ?_ ?_ ?_ ?_;exact ⟨by simp [zaw];omega,by simp⟩;exact ⟨zP (by simp [zaw];omega),trivial⟩;exact zk (by rw [zg hx];simp)
 intro D B hinv
 obtain ⟨hA,hB⟩:=hinv;have hlA:D.length<X.length:=by omega
 refine gz1 ?_;refine zbb (fun M=>M=[.arr (.slice (some ⟨b,off,none⟩) n cap) 4 (((A++D)++x::(B++X.drop (k+1)++C)).map zdx)]) [8,13] mixed ?_;refine gz7 ?_;refine ahg 7 rfl rfl (by kernel_rfl) (by kernel_rfl) rfl (fun hc=>by
  have hq:0<D.length:=by simp at hc;omega
  exact ⟨_,OpenTo.upd (t:=24) rfl (hc) (OpenTo.upd (t:=23) rfl (hc) (OpenTo.refl _)),zv (j:=(A++D).length) zcv zG rfl rfl (by simp) uSo⟩) ?_
 refine zkj 8 rfl rfl (by kernel_rfl) (by kernel_rfl) (by simp) rfl rfl (fun hc=>⟨_,OpenTo.upd (t:=25) rfl (hc) (OpenTo.refl _),fun M hM=>by
  subst hM;exact z6 (i:=0) (j:=(A++D).length) zG rfl rfl rfl zc8 rfl rfl rfl ⟨rfl,rfl⟩
  ⟩) ?_
 refine gz2 ?_;refine ahg 11 rfl rfl (by kernel_rfl) (by kernel_rfl) rfl (fun hc=>by
  have hq:0<D.length:=by simp at hc;omega
  exact ⟨_,OpenTo.upd (t:=28) rfl (hc) (OpenTo.refl _),zeH rfl rfl uO uO⟩) ?_
 refine ahg 12 rfl rfl (by kernel_rfl) (by kernel_rfl) rfl (fun hc=>by
  have hq:0<D.length:=by simp at hc;omega
  exact ⟨_,OpenTo.upd (t:=29) rfl (hc) (OpenTo.upd (t:=27) rfl (hc) (OpenTo.refl _)),zv (j:=(A++D).length-1) zcv zG rfl rfl uSo uSo⟩) ?_
 refine zkj 13 rfl rfl (by kernel_rfl) (by kernel_rfl) (by simp) rfl rfl (fun hc=>⟨_,OpenTo.upd (t:=30) rfl (hc) (OpenTo.refl _),fun M hM=>by
  have hq:0<D.length:=by simp at hc;omega
  subst hM;exact z6 (i:=0) (j:=(A++D).length-1) zG rfl rfl rfl (zcL uSo) rfl rfl rfl ⟨rfl,rfl⟩
  ⟩) ?_
 refine uGy 14 rfl rfl (fun hc=>zag hca rfl rfl (WeakL.refl _) (hp _ _)) ?_;refine gz3 ?_;refine uCo (fun h3=> ?_) fun h4=> ?_
 obtain ⟨hA0,hcx⟩:=h3;obtain ⟨D1,y,rfl⟩:=zkd (A:=D) uO;rw [zvf] at hcx;have hD1:(D1++[y]).length=D1.length+1:=by simp
 refine gz4 ?_;refine zba (fun M=>M=[.arr (.slice (some ⟨b,off,none⟩) n cap) 4 (((A++(D1++[y]))++x::(B++X.drop (k+1)++C)).map zdx)]) [9,13] mixed ?_;refine gz8 ?_;refine uB 8 rfl (zv (j:=(A++(D1++[y])).length-1) zcv zG rfl rfl uSo uSo) ?_;refine uM 9 rfl rfl (uW (z6 (i:=0) (j:=(A++(D1++[y])).length-1) zG rfl rfl rfl (znk) rfl rfl rfl ⟨rfl,rfl⟩)) ?_;refine gz2 ?_;refine uB 12 rfl (zv (j:=(A++(D1++[y])).length) zcv zG rfl rfl (by simp) uSo) ?_;refine uM 13 rfl rfl (uW (z6 (i:=0) (j:=(A++(D1++[y])).length) zG rfl rfl rfl zc8 rfl rfl rfl ⟨rfl,rfl⟩)) ?_;refine uB 14 rfl (zv (j:=(A++(D1++[y])).length) zcv zG rfl rfl (by simp) uSo) ?_;refine uF 15 ?_;refine zy (zaH (i:=0) (j:=(A++(D1++[y])).length) (y:=x) (y':=y) zG rfl rfl rfl rfl zc8 rfl rfl rfl ?_)
 refine ⟨uE,?_⟩
 refine uB 16 rfl (zv (j:=(A++(D1++[y])).length-1) zcv zG rfl rfl uSo uSo) ?_;refine uF 17 ?_;refine zy (zaH (i:=0) (j:=(A++(D1++[y])).length-1) (y:=y) (y':=x) zG rfl rfl rfl rfl (by rw [A3 (by simp)];exact znk) rfl rfl rfl ?_)
 refine ⟨uE,?_⟩
 refine gz8 ?_;exact ⟨D1,y::B,⟨by simp at hA⊢;omega,zkP hB hcx⟩,uD,⟨zP uO,trivial⟩,uK,zk (by rw [<-AY,zkY];simp)⟩;have hins:=zkO (l:=X) (k:=k) hx hB (by intro h0;have h9:=h4 uO;rw [zo6 h0] at h9;omega);refine gz2 ?_;refine zI ?_;refine gz8 ?_;exact ⟨k+1,by omega,uD,⟨zP uO,trivial⟩,uK,zk (by rw [zwQ hins])⟩;have hend:zQ c (X.take k)++X.drop k=zQ c X:=by rw [A4 uO,zC uO];simp
 refine gz2 ?_;refine zu ?_;refine gz1 ?_;exact zah rfl ⟨rfl,by rw [hend]⟩
theorem zpW [Tracks] {l:List MvS} {n0:Int} {n b off cap:Nat} {fid:FuncId} {caps:List HVal} {c:MvS->MvS->Int} (hca:Callable prog fid) (hp: ∀x y,ConP prog fid ([zdx x,zdx y]++caps) (.int .i64 (c x y))) (hc:Cmp c fun _=>True) (hn:l.length=n) (hn0:n0=(n:Int)) (hl:n<=20):Con prog 84 [.raw (.slice (some ⟨b,off,none⟩) n cap),.int .i64 n0,.fn (.func fid) [] caps] [.arr (.slice (some ⟨b,off,none⟩) n cap) 4 ((l).map zdx)] (fun x M'=> ∃Z:List MvS,x= .tup []/\(Z.Perm l/\Srt c Z)/\M'=[.arr (.slice (some ⟨b,off,none⟩) n cap) 4 ((Z).map zdx)]):=by
 refine uOb func84 ntmps84 ?_;refine zay ?_;refine uV3 [7,2,11,12] (fun (a0:Nat) (k:Nat) (Z:List MvS)=>[(7,.int .i64 (a0:Int)),(8,.int .i64 ((a0+20:Nat):Int))]) (fun (a0:Nat) (k:Nat) (Z:List MvS)=>[.arr (.slice (some ⟨b,off,none⟩) n cap) 4 ((Z++l.drop a0).map zdx)]) (fun (a0:Nat) (k:Nat) (Z:List MvS)=>a0=20*k/\a0<=n/\Blk c 20 Z/\Z.length=a0/\Z.Perm (l.take a0)) (fun (a0:Nat) (k:Nat) (Z:List MvS)=>n-a0) (0) (0) ([]) ?_ ?_ ?_ ?_
 ·exact ⟨rfl,Ad _,Blk.nil,rfl,by simp⟩
 ·exact ⟨rfl,rfl,trivial⟩
 ·exact zk (by simp)
 ·intro a0 k Z hinv
  obtain ⟨ha0,ha1,hZ,hZl,hZp⟩:=hinv;refine gz6 ?_;refine uCo (fun h1=> ?_) fun h2=> ?_
  ·refine gz3 ?_;refine ze (zbl (M':=[.arr (.slice (some ⟨b,off,none⟩) n cap) 4 ((Z++(l.drop a0).take 20++l.drop (a0+20)).map zdx)]) (by rw [AY Z,<-win])) ?_;refine gz5 ?_;refine de rfl (uCx 0 zxB rfl rfl (zlp (A:=Z) (X:=((l.drop a0).take 20)) (C:=(l.drop (a0+20))) (n:=n) hca hp (by first|omega|(simp;omega)) uO (by first|omega|(simp;omega)) uO) ?_)
   rintro _ _ ⟨rfl,rfl⟩;refine zc9 ?_;exact ⟨a0+20,k+1,Z++zQ c ((l.drop a0).take 20),⟨by omega,by omega,hZ.add (k:=k) uO (zlw hc _) (by rw [zaw,Am];omega),by rw [Ax,zaw,Am,A5];omega,by rw [ztK];exact hZp.append (zbh c _)⟩,uD,⟨zP uO,zP uO,trivial⟩,uK,Ac _⟩
  ·refine gz2 ?_;refine zcN ?_;refine gz2 ?_;refine ze (zbl (M':=[.arr (.slice (some ⟨b,off,none⟩) n cap) 4 ((Z++l.drop a0++[]).map zdx)]) (by simp)) ?_;refine gz5 ?_;refine de rfl (uCx 0 zxB rfl rfl (zlp (A:=Z) (X:=(l.drop a0)) (C:=[]) (n:=n) hca hp (by first|omega|(simp;omega)) uO (by first|omega|(simp;omega)) uO) ?_)
   rintro _ _ ⟨rfl,rfl⟩;refine gz2 ?_;refine uV2 [6,4,28,35] (fun (bs:Nat) (D:List MvS)=>[(6,.int .i64 (bs:Int))]) (fun (bs:Nat) (D:List MvS)=>[.arr (.slice (some ⟨b,off,none⟩) n cap) 4 ((D).map zdx)]) (fun (bs:Nat) (D:List MvS)=>20<=bs/\bs<=2*n+20/\Blk c bs D/\D.Perm l) (fun (bs:Nat) (D:List MvS)=>n-bs) (20) (Z++zQ c (l.drop a0)) ?_ ?_ ?_ ?_
   ·refine ⟨Ae _,by omega,hZ.add (k:=k) uO (zlw hc _) (by rw [zaw,A5];omega),?_⟩
    have:=hZp.append (zbh c (l.drop a0))
    rwa [A0] at this
   ·exact ⟨rfl,trivial⟩
   ·exact zk (by simp)
   ·intro bs D hinv
    obtain ⟨hb1,hb2,hD,hDp⟩:=hinv;have hDl:D.length=n:=by rw [hDp.length_eq];exact hn
    refine gz6 ?_;refine z7 rfl (fun h3=> ?_) (fun h3=> ?_)
    ·exfalso
     try simp at h3
     all_goals omega
    ·try simp at h3
     refine gz2 ?_;refine zI ?_;refine gz1 ?_;have hDs:=hD.all uO;exact zah rfl ⟨D,rfl,⟨hDp,hDs⟩,rfl⟩
theorem zqX [Tracks] {v:Value} {fid:FuncId} {caps:List HVal}:Con prog 159 [.raw v,.int .i64 0,.int .i64 0,.fn (.func fid) [] caps] [.arr v 4 []] (fun x M'=>x= .tup []/\M'=[.arr v 4 []]):=by
 refine uOb func159 ntmps159 ?_;refine gz6 ?_;refine uU1 [8,2,12,41] (fun (u:Unit)=>[(8,.int .i64 1)]) (fun (u:Unit)=>[.arr v 4 []]) (fun (u:Unit)=>True) (fun (u:Unit)=>0) (()) ?_ ?_
 ·trivial
 ·intro u hu
  refine gz6 ?_;refine z7 rfl (fun h1=> ?_) (fun h1=> ?_)
  ·exfalso
   try simp at h1
   all_goals omega
  ·try simp at h1
   refine gz2 ?_;refine zu ?_;refine gz1 ?_;exact zah rfl ⟨rfl,rfl⟩
theorem zoz [Tracks] {v:Value} {fid:FuncId} {caps:List HVal}:Con prog 84 [.raw v,.int .i64 0,.fn (.func fid) [] caps] [.arr v 4 []] (fun x M'=>x= .tup []/\M'=[.arr v 4 []]):=by
 refine uOb func84 ntmps84 ?_;refine zay ?_;refine uU1 [7,2,11,12] (fun (u:Unit)=>[(7,.int .i64 0),(8,.int .i64 20)]) (fun (u:Unit)=>[.arr v 4 []]) (fun (u:Unit)=>True) (fun (u:Unit)=>0) (()) ?_ ?_
 ·trivial
 ·intro u hu
  refine gz6 ?_;refine z7 rfl (fun h1=> ?_) (fun h1=> ?_)
  ·exfalso
   try simp at h1
   all_goals omega
  ·try simp at h1
   refine gz2 ?_;refine zu ?_;refine gz7 ?_;refine de rfl (uCx 0 zxB rfl rfl zqX ?_)
   rintro _ _ ⟨rfl,rfl⟩;refine gz2 ?_;refine uU1 [6,4,28,35] (fun (u:Unit)=>[(6,.int .i64 20)]) (fun (u:Unit)=>[.arr v 4 []]) (fun (u:Unit)=>True) (fun (u:Unit)=>0) (()) ?_ ?_
   ·trivial
   ·intro u hu
    refine gz6 ?_;refine z7 rfl (fun h2=> ?_) (fun h2=> ?_)
    ·exfalso
     try simp at h2
     all_goals omega
    ·try simp at h2
     refine gz2 ?_;refine zu ?_;refine gz1 ?_;exact zah rfl ⟨rfl,rfl⟩
theorem zn2 [Tracks] {fid:FuncId} {caps:List HVal}:Con prog 34 [.raw (.slice none 0 0),.fn (.func fid) [] caps] [.arr (.slice none 0 0) 4 []] (fun x M'=>x= .tup []/\M'=[.arr (.slice none 0 0) 4 []]):=by
 refine uOb func34 ntmps34 ?_;refine gz3 ?_;refine dq (zdR zcv rfl) ?_;refine gz1 ?_;refine de rfl (uCx 0 ca84 rfl rfl zoz ?_)
 rintro _ _ ⟨rfl,rfl⟩;refine gz1 ?_;exact zah rfl ⟨rfl,rfl⟩
theorem zn3 [Tracks] {l:List MvS} {n b off cap:Nat} {fid:FuncId} {caps:List HVal} {c:MvS->MvS->Int} (hca:Callable prog fid) (hp: ∀x y,ConP prog fid ([zdx x,zdx y]++caps) (.int .i64 (c x y))) (hc:Cmp c fun _=>True) (hn:l.length=n) (hl:n<=20):Con prog 34 [.raw (.slice (some ⟨b,off,none⟩) n cap),.fn (.func fid) [] caps] [.arr (.slice (some ⟨b,off,none⟩) n cap) 4 ((l).map zdx)] (fun x M'=> ∃Z:List MvS,x= .tup []/\(Z.Perm l/\Srt c Z)/\M'=[.arr (.slice (some ⟨b,off,none⟩) n cap) 4 ((Z).map zdx)]):=by
 refine uOb func34 ntmps34 ?_;refine gz3 ?_;refine dq (zdR zcv rfl) ?_;refine gz1 ?_;refine de rfl (uCx 0 ca84 rfl rfl (zpW hca hp hc hn rfl hl) ?_)
 rintro _ _ ⟨Z,rfl,hz,rfl⟩;refine gz1 ?_;exact zah rfl ⟨Z,rfl,hz,rfl⟩
theorem zoy [Tracks] {l:List MvS} {v:Value} {fid:FuncId} {caps:List HVal} {c:MvS->MvS->Int} (hca:Callable prog fid) (hp: ∀x y,ConP prog fid ([zdx x,zdx y]++caps) (.int .i64 (c x y))) (hc:Cmp c fun _=>True) (hl:l.length<=20):Con prog 34 [.raw v,.fn (.func fid) [] caps] [.arr v 4 (l.map zdx)] fun x M'=> ∃Z:List MvS,x= .tup []/\(Z.Perm l/\Srt c Z)/\M'=[.arr v 4 (Z.map zdx)]:=
 zu2 (fun h1 h2=>by
  have h3:l=[]:=by first|exact List.map_eq_nil_iff.1 h2|simpa using h2
  subst h1 h3;exact zn2.mono fun x M' ⟨e1,e2⟩=>⟨[],e1,⟨Ac _,Srt.nil⟩,e2⟩)
  fun b off cap h1=>by
   rw [Af] at h1;subst h1;exact zn3 hca hp hc rfl hl
theorem zq7 [Tracks] {l:List MoveS} (hb: ∀x∈l,MovB x) (hl:l.length<=20) {v:Value}:
 Con prog 34 [.raw v,.fn (.func 35) [] []] [.arr v 4 (l.map zdu)] fun x M'=> ∃l':List MoveS,x= .tup []/\l'.Perm l/\M'=[.arr v 4 (l'.map zdu)]:=by
 have h:=zoy (l:=l.attachWith _ hb) (v:=v) (c:=zBy) (caps:=[]) ca35 (fun x y=>zhM (a:=x.1) (b:=y.1) x.2 y.2) zyS (by simpa using hl);rw [show ((l.attachWith _ hb).map zdx)=l.map zdu from zqR hb zdu] at h;refine h.mono fun x M' ⟨l',e1,⟨hp,hw⟩,e2⟩=>⟨l'.map Subtype.val,e1,?_,?_⟩
 have h9:=hp.map Subtype.val;rw [zmM hb] at h9;exact h9;rw [e2,A6];rfl
end
section
open Go.Proofs.Tryz
open Go.HL
theorem zko [Tracks] {b:Nat} {l:List Int} {a:Nat} (ha:a<=700000):Con prog 31 [pAt b] [St b l a] (fun x M'=> ∃k a',x=zcy k/\GoodMds k/\a'<=a+100/\M'=[St b l a']):=by
 refine uOb func31 ntmps31 ?_;refine gz6 ?_;refine ze (zK 7) ?_;refine gz2 ?_;refine dq (za (hs:=[_,_,_]) zp ty9 rfl rfl (by decide) (by decide) rfl) ?_;refine dq (zav (f:=HVal.str) (l:=mp3) zp rfl) ?_;refine gz3 ?_;refine uV2 [3,1,5,2,8,2,13,36] (fun (k:Nat) (q:GL MendS)=>[(13,.int .i64 k),(3,.raw q.u)]) (fun (k:Nat) (q:GL MendS)=>[St b l q.a,.arr q.u 7 (q.out.map zbY)]) (fun (k:Nat) (q:GL MendS)=>k<=mp3.length/\(GLok zhX (8*k) (a+24*k) q)) (fun (k:Nat) (q:GL MendS)=>mp3.length-k) (0) (⟨.slice none 0 0,[],a⟩) ?_ ?_ ?_ ?_;exact ⟨by decide,⟨by simp,by simp,uD⟩⟩;exact ⟨rfl,rfl,trivial⟩;exact uP
 intro k q hinv
 obtain ⟨hk,hq⟩:=hinv;have hk3:mp3.length=3:=rfl;obtain ⟨u,out,a2⟩:=q;obtain ⟨g1,g2,g3⟩:=id hq;dsimp only at g1 g2 g3;refine gz4 ?_;refine uCo (fun h1=> ?_) fun h2=> ?_
 obtain ⟨x,hx⟩: ∃x,mp3[k]? =some x:=⟨_,Aa h1⟩
 have hdx:=zg hx;refine gz5 ?_;refine dq (zB (f:=HVal.str) (l:=mp3) (j:=k) (a:=x) zp ty9 rfl rfl rfl hx) ?_;refine gz7 ?_;refine uV2 [3,1,6,1,8,2,17,31] (fun (w:Nat) (q2:GL MendS)=>[(6,.int .i64 ((w:Int)+1)),(3,.raw q2.u)]) (fun (w:Nat) (q2:GL MendS)=>[St b l q2.a,.arr q2.u 7 (q2.out.map zbY)]) (fun (w:Nat) (q2:GL MendS)=>w<=2/\GLok zhX (8*k+4*w) (a+24*k+12*w) q2) (fun (w:Nat) (q2:GL MendS)=>2-w) (0) (⟨u,out,a2⟩) ?_ ?_ ?_ ?_;exact ⟨by omega,hq.mono uO uO⟩;exact ⟨zP uO,rfl,trivial⟩;exact uP
 intro w q2 hinv
 obtain ⟨hw,hq2⟩:=hinv;obtain ⟨u,out,a2⟩:=q2;obtain ⟨g1,g2,g3⟩:=id hq2;dsimp only at g1 g2 g3;refine gz5 ?_;refine uCo (fun h3=> ?_) fun h4=> ?_
 refine gz5 ?_;refine dq (za (hs:=[_,_]) zp ty9 rfl rfl (by decide) (by decide) rfl) ?_;refine dq (zav (f:=HVal.str) (l:=ms2) zp rfl) ?_;refine gz3 ?_;refine uV2 [3,1,8,2,23,25] (fun (j:Nat) (q3:GL MendS)=>[(23,.int .i64 j),(3,.raw q3.u)]) (fun (j:Nat) (q3:GL MendS)=>[St b l q3.a,.arr q3.u 7 (q3.out.map zbY)]) (fun (j:Nat) (q3:GL MendS)=>j<=ms2.length/\(GLok zhX (8*k+4*w+2*j) (a+24*k+12*w+6*j) q3)) (fun (j:Nat) (q3:GL MendS)=>ms2.length-j) (0) (⟨u,out,a2⟩) ?_ ?_ ?_ ?_;exact ⟨by decide,hq2.mono uO uO⟩;exact ⟨rfl,rfl,trivial⟩;exact uP
 intro j q3 hinv
 obtain ⟨hj,hq3⟩:=hinv;have hj2:ms2.length=2:=rfl;obtain ⟨u,out,a2⟩:=q3;obtain ⟨g1,g2,g3⟩:=id hq3;dsimp only at g1 g2 g3;refine gz4 ?_;refine uCo (fun h5=> ?_) fun h6=> ?_
 obtain ⟨z,hz⟩: ∃z,ms2[j]? =some z:=⟨_,Aa h5⟩
 have hdz:=zg hz;refine gz5 ?_;refine dq (zB (f:=HVal.str) (l:=ms2) (j:=j) (a:=z) zp ty9 rfl rfl rfl hz) ?_;refine gz7 ?_;refine uV2 [3,1,9,1,27,20] (fun (v:Nat) (q4:GL MendS)=>[(9,.int .i64 ((v:Int)+1)),(3,.raw q4.u)]) (fun (v:Nat) (q4:GL MendS)=>[St b l q4.a,.arr q4.u 7 (q4.out.map zbY)]) (fun (v:Nat) (q4:GL MendS)=>v<=2/\GLok zhX (8*k+4*w+2*j+v) (a+24*k+12*w+6*j+3*v) q4) (fun (v:Nat) (q4:GL MendS)=>2-v) (0) (⟨u,out,a2⟩) ?_ ?_ ?_ ?_;exact ⟨by omega,hq3.mono uO uO⟩;exact ⟨zP uO,rfl,trivial⟩;exact uP
 intro v q4 hinv
 obtain ⟨hv,hq4⟩:=hinv;obtain ⟨u,out,a2⟩:=q4;obtain ⟨g1,g2,g3⟩:=id hq4;dsimp only at g1 g2 g3;refine gz5 ?_;refine uCo (fun h7=> ?_) fun h8=> ?_
 refine gz6 ?_;refine de rfl (uCx 0 zeO rfl rfl (zH uS uS) ?_)
 rintro _ _ ⟨y32,rfl,rfl⟩;refine gz1 ?_;refine uCo (fun h9=> ?_) fun h10=> ?_
 refine gz6 ?_;refine dq (za (hs:=[_,_,_]) zX ty3 rfl rfl (by decide) (by decide) rfl) ?_;refine de rfl (uCx 0 ca5 rfl rfl (zf (L:=[_,_,_]) uS uS uS) ?_)
 rintro _ _ ⟨y39,rfl,hy39,rfl⟩;refine gz1 ?_;refine dq (za (hs:=[_,_,_]) zX ty3 rfl rfl (by decide) (by decide) rfl) ?_;refine de rfl (uCx 0 ca5 rfl rfl (zf (L:=[_,_,_]) uS uS uS) ?_)
 rintro _ _ ⟨y42,rfl,hy42,rfl⟩;refine gz1 ?_;refine dq (zF (cs:=[_,_,_,_,_,_,_]) zbv zHg rfl) ?_;refine dq (za (hs:=[_]) zg7 zbv rfl rfl (by decide) (by decide) rfl) ?_;refine de rfl (zL (i:=1) zg7 zbv rfl rfl rfl rfl rfl (by simp [zat,zb,zaM,za6]) uSo fun v46=> ?_)
 refine gz9 ?_;exact ⟨v+1,⟨v46,out++[(⟨x,(w:Int)+1,z,y39,y42,(v:Int)+1,[98,111,115,115]⟩:MendS)],a2+1+1+1⟩,⟨by omega,hq4.add (x:=(⟨x,(w:Int)+1,z,y39,y42,(v:Int)+1,[98,111,115,115]⟩:MendS)) ⟨zEj x (Ab hx),zEk z (Ab hz),by unfold Sh;simp⟩ uO⟩,uD,⟨zP uO,rfl,trivial⟩,uK,zk (by dsimp only;rw [Aq];rfl)⟩;refine gz8 ?_;exact ⟨v+1,⟨u,out,a2+1⟩,⟨by omega,hq4.same uO⟩,uD,⟨zP uO,rfl,trivial⟩,uK,uP⟩;refine gz2 ?_;refine zI ?_;refine gz7 ?_;exact ⟨j+1,⟨u,out,a2⟩,⟨by omega,hq4.mono uO uO⟩,uD,⟨rfl,rfl,trivial⟩,uK,uP⟩;have hnj:ms2.length<=j:=by omega
 obtain rfl:j=ms2.length:=by omega
 refine gz2 ?_;refine zI ?_;refine gz8 ?_;exact ⟨w+1,⟨u,out,a2⟩,⟨by omega,hq3.mono uO uO⟩,uD,⟨zP uO,rfl,trivial⟩,uK,uP⟩;refine gz2 ?_;refine zI ?_;refine gz7 ?_;exact ⟨k+1,⟨u,out,a2⟩,⟨by omega,hq2.mono uO uO⟩,uD,⟨rfl,rfl,trivial⟩,uK,uP⟩;have hnk:mp3.length<=k:=by omega
 obtain rfl:k=mp3.length:=by omega
 refine gz2 ?_;refine zI ?_;refine gz2 ?_;refine uVj [10,1,49,59] (fun (q5:List MendS×Nat)=>[]) (fun (q5:List MendS×Nat)=>[St b l q5.2,.arr u 7 (q5.1.map zbY)]) (fun (q5:List MendS×Nat)=>q5.1.length<=24/\(∀x∈q5.1,zhX x)/\q5.2<=a+100) ?_ ?_
 skip
 refine gz2 ?_;refine de rfl (zau (i:=1) zg7 rfl rfl ?_)
 refine gz3 ?_;refine dgx (fun x M'=> ∃(y:Bool) (a3:Nat),x= .bool y/\a3<=a2+1/\M'=[St b l a3,.arr u 7 (out.map zbY)]) rfl rfl (fun hc=>⟨_,false,a2,rfl,by omega,rfl⟩) (fun hc=>⟨_,OpenTo.upd (t:=53) rfl (hc) (OpenTo.refl _),uCx 0 zeO rfl rfl (zH (a:=a2) uO uO) (fun h M' hh=>by
  obtain ⟨y,h1,h2⟩:=hh;exact ⟨y,a2+1,h1,by omega,by rw [h2];rfl⟩)⟩) ?_
 rintro _ _ ⟨y,a3,rfl,ha3,rfl⟩;refine gz2 ?_;refine uCo (fun h11=> ?_) fun h12=> ?_
 have ho0:0<out.length:=by simp_all
 refine zbV (i:=1) rfl (fun h0 he=> ?_) (fun ob off cap hv hcap=> ?_)
 exfalso;have:=congrArg List.length he;simp at this;subst this;simp at ho0
 subst hv;refine gz4 ?_;refine de rfl (zau (i:=1) zg7 rfl rfl ?_)
 refine de rfl (uCx 0 zjr rfl rfl (zap uS uS) ?_)
 rintro _ _ ⟨y60,rfl,hy60,rfl⟩;refine dq (zv (j:=y60) zg7 zbv rfl rfl rfl uSo) ?_;refine gz2 ?_;obtain ⟨x,hx⟩: ∃x,out[y60]? =some x:=⟨_,Aa uO⟩
 refine zba (fun M=> ∃i:Nat,M[i]? =some (.arr (.slice (some ⟨ob,off,none⟩) (out.map zbY).length cap) 7 (out.map zbY))) [9,16,23,30] mixed ?_;refine gz9 ?_;refine uM 9 rfl ⟨1,rfl⟩ (fun M hM=>by obtain ⟨i,hi⟩:=hM;exact zae (i:=i) (j:=y60) 0 ty9 rfl uO hi hx rfl rfl ⟨rfl,rfl⟩) ?_;refine uB 10 rfl (za (hs:=[_,_,_]) zp ty9 rfl rfl (by decide) (by decide) rfl) ?_;refine uA 12 ?_;refine gz3 ?_;refine uM 16 rfl ⟨1,rfl⟩ (fun M hM=>by obtain ⟨i,hi⟩:=hM;exact zae (i:=i) (j:=y60) 1 ty3 rfl uO hi hx rfl rfl ⟨rfl,rfl⟩) ?_;refine uB 17 rfl (za (hs:=[_,_]) zX ty3 rfl rfl (by decide) (by decide) rfl) ?_;refine uA 19 ?_;refine gz3 ?_;refine uM 23 rfl ⟨1,rfl⟩ (fun M hM=>by obtain ⟨i,hi⟩:=hM;exact zae (i:=i) (j:=y60) 3 ty3 rfl uO hi hx rfl rfl ⟨rfl,rfl⟩) ?_;refine uB 24 rfl (za (hs:=[_,_]) zX ty3 rfl rfl (by decide) (by decide) rfl) ?_;refine uA 26 ?_;refine gz3 ?_;refine uM 30 rfl ⟨1,rfl⟩ (fun M hM=>by obtain ⟨i,hi⟩:=hM;exact zae (i:=i) (j:=y60) 5 ty3 rfl uO hi hx rfl rfl ⟨rfl,rfl⟩) ?_;refine uB 31 rfl (za (hs:=[_,_,_]) zX ty3 rfl rfl (by decide) (by decide) rfl) ?_;refine uA 33 ?_;refine uB 34 rfl (za (hs:=[_,_]) zp ty9 rfl rfl (by decide) (by decide) rfl) ?_;refine uF 11 ?_;refine zx rfl (uCx 0 zcn rfl rfl (zq (L:=[_,_,_]) uS uS uS) ?_)
 rintro _ _ ⟨y73,rfl,hy73,rfl⟩;refine ⟨uE,?_⟩
 refine uF 18 ?_;refine zx rfl (uCx 0 ca5 rfl rfl (zf (L:=[_,_]) uS uS uS) ?_)
 rintro _ _ ⟨y80,rfl,hy80,rfl⟩;refine ⟨uE,?_⟩
 refine uF 25 ?_;refine zx rfl (uCx 0 ca5 rfl rfl (zf (L:=[_,_]) uS uS uS) ?_)
 rintro _ _ ⟨y87,rfl,hy87,rfl⟩;refine ⟨uE,?_⟩
 refine uF 32 ?_;refine zx rfl (uCx 0 ca5 rfl rfl (zf (L:=[_,_,_]) uS uS uS) ?_)
 rintro _ _ ⟨y94,rfl,hy94,rfl⟩;refine ⟨uE,?_⟩
 refine uF 35 ?_;refine zx rfl (uCx 0 zcn rfl rfl (zq (L:=[_,_]) uS uS uS) ?_)
 rintro _ _ ⟨y97,rfl,hy97,rfl⟩;refine ⟨uE,?_⟩
 refine gz2 ?_;refine uF 38 ?_;refine zy (zV (i:=1) (j:=y60) (f:=0) (y:=zbY x) (y':=zbY ⟨y73,x.Week,x.Stat,x.Count,x.At,x.Version,x.By⟩) ty9 rfl uO rfl rfl (za3 hx) rfl rfl (by simp [zb]) rfl ?_)
 refine ⟨uE,?_⟩
 refine gz2 ?_;refine uF 41 ?_;refine zy (zV (i:=1) (j:=y60) (f:=1) (y:=zbY ⟨y73,x.Week,x.Stat,x.Count,x.At,x.Version,x.By⟩) (y':=zbY ⟨y73,y80,x.Stat,x.Count,x.At,x.Version,x.By⟩) ty3 rfl uO rfl rfl (zaL (za3 hx)) rfl rfl (by simp [zb]) rfl ?_)
 refine ⟨uE,?_⟩
 refine gz2 ?_;refine uF 44 ?_;refine zy (zV (i:=1) (j:=y60) (f:=3) (y:=zbY ⟨y73,y80,x.Stat,x.Count,x.At,x.Version,x.By⟩) (y':=zbY ⟨y73,y80,x.Stat,y87,x.At,x.Version,x.By⟩) ty3 rfl uO rfl rfl (zaL (zaL (za3 hx))) rfl rfl (by simp [zb]) rfl ?_)
 refine ⟨uE,?_⟩
 refine gz2 ?_;refine uF 47 ?_;refine zy (zV (i:=1) (j:=y60) (f:=5) (y:=zbY ⟨y73,y80,x.Stat,y87,x.At,x.Version,x.By⟩) (y':=zbY ⟨y73,y80,x.Stat,y87,x.At,y94,x.By⟩) ty3 rfl uO rfl rfl (zaL (zaL (zaL (za3 hx)))) rfl rfl (by simp [zb]) rfl ?_)
 refine ⟨uE,?_⟩
 refine gz2 ?_;refine uF 50 ?_;refine zy (zV (i:=1) (j:=y60) (f:=6) (y:=zbY ⟨y73,y80,x.Stat,y87,x.At,y94,x.By⟩) (y':=zbY ⟨y73,y80,x.Stat,y87,x.At,y94,y97⟩) ty9 rfl uO rfl rfl (zaL (zaL (zaL (zaL (za3 hx))))) rfl rfl (by simp [zb]) rfl ?_)
 refine ⟨uE,?_⟩
 refine gz1 ?_;exact ⟨(out.set y60 ⟨y73,y80,x.Stat,y87,x.At,y94,y97⟩,a3+1+1+1+1+1+1),⟨by simp;omega,zfL (P:=zhX) g2 (by
  have hgx:=g2 x (Ab hx);exact ⟨by simp at hy73;rcases hy73 with rfl|rfl|rfl;exact hgx.1;exact zrE;(unfold Sh;simp),hgx.2.1,by simp at hy97;rcases hy97 with rfl|rfl<;>(unfold Sh;simp)⟩),uD⟩,trivial,uK,uP⟩
 refine gz1 ?_;exact ⟨(out,a3),⟨uD,g2,uD⟩,trivial,uK,uP⟩
 intro q5 hq5
 obtain ⟨k1,a4⟩:=q5;dsimp only at hq5;obtain ⟨q1,q2,q3⟩:=hq5;refine gz5 ?_;exact zao (zaD 2 (i:=1) rfl rfl) rfl ⟨k1,a4,rfl,⟨by omega,q2⟩,by omega,rfl⟩
end
section
open Go.Proofs.Tryz
open Go.HL
theorem ziu [Tracks] {b:Nat} {l:List Int} {a:Nat} (ha:a<=500000):Con prog 12 [pAt b] [St b l a] (fun x M'=> ∃k a',x=zbp k/\BookG k/\a'<=a+2000/\M'=[St b l a']):=by
 refine za5 func12 rfl ntmps12 rfl rfl ?_;refine gz1 ?_;refine de rfl (zj zbo rfl fun b2=> ?_)
 refine gz3 ?_;refine de rfl (uCx 1 ca29 rfl rfl (zi8 uS) ?_)
 rintro _ _ ⟨g13,a13,rfl,hg13,ha13,rfl⟩;refine gz1 ?_;refine de rfl (uCx 0 ca30 rfl rfl (zkZ uS) ?_)
 rintro _ _ ⟨p15,a15,rfl,hp15,ha15,rfl⟩;refine gz1 ?_;refine de rfl (uCx 0 ca31 rfl rfl (zko uS) ?_)
 rintro _ _ ⟨m17,a17,rfl,hm17,ha17,rfl⟩;refine dq (zHv zbo pl43) ?_;refine de rfl (zj zbo rfl fun b3=> ?_)
 refine de0 (uY 0 ?_)
 refine zay ?_;refine de rfl (uCx 1 zg2 rfl rfl (zT uS uS uS uS) ?_)
 rintro _ _ ⟨y20,rfl,hy20,rfl⟩;refine gz2 ?_;refine ze (zK 4) ?_;refine gz1 ?_;refine uV3 [5,1,21,24] (fun (n:Nat) (at1:Int) (q:GL MoveS)=>[(21,.int .i64 (n:Int)),(5,.int .i64 at1)]) (fun (n:Nat) (at1:Int) (q:GL MoveS)=>[St b l q.a,.cells b2 zjD,.cells b3 (bkC g13 (.raw q.u) (zb4 p15) (zcy m17) (.raw (.slice none 0 0)) (.raw (.slice none 0 0))),.arr q.u 4 (q.out.map zdu)]) (fun (n:Nat) (at1:Int) (q:GL MoveS)=>(n:Int)<=y20/\(0<=at1/\at1<=20*n)/\GLok MovB n (a17+1+4*n) q) (fun (n:Nat) (at1:Int) (q:GL MoveS)=>y20.toNat-n) (0) (0) (⟨.slice none 0 0,[],a17+1⟩) ?_ ?_ ?_ ?_
 ·exact ⟨by omega,by omega,⟨by simp,by simp,uD⟩⟩
 ·exact ⟨rfl,rfl,trivial⟩
 ·exact by repeat (first|exact List.Perm.nil|refine zaE 0 rfl ?_|refine zaE 1 rfl ?_|refine zaE 2 rfl ?_|refine zaE 3 rfl ?_|refine zaE 4 rfl ?_|refine zaE 5 rfl ?_|(refine zas 0 rfl ?hq ?_;(case hq=>simp [zaG,zb];done))|(refine zas 1 rfl ?hq ?_;(case hq=>simp [zaG,zb];done))|(refine zas 2 rfl ?hq ?_;(case hq=>simp [zaG,zb];done))|(refine zas 3 rfl ?hq ?_;(case hq=>simp [zaG,zb];done))|(refine zas 4 rfl ?hq ?_;(case hq=>simp [zaG,zb];done))|(refine zas 5 rfl ?hq ?_;(case hq=>simp [zaG,zb];done))|fail)
 ·intro n at1 q hinv
  obtain ⟨hn,hat,hq⟩:=hinv;obtain ⟨u,out,a1⟩:=q;obtain ⟨g1,g2,g3⟩:=id hq;dsimp only at g1 g2 g3;refine gz4 ?_;refine uCo (fun h1=> ?_) fun h2=> ?_
  ·refine gz7 ?_;refine dq (za (hs:=[_,_,_,_]) zX ty3 rfl rfl (by decide) (by decide) rfl) ?_;refine de rfl (uCx 0 ca5 rfl rfl (zf (L:=[_,_,_,_]) uS uS uS) ?_)
   rintro _ _ ⟨y26,rfl,hy26,rfl⟩;refine dq (zbi rfl rfl (by simp at hy26;omega) (by simp at hy26;omega)) ?_;refine gz2 ?_;refine zba (fun M=> ∃i:Nat,M[i]? =some (.cells b3 (bkC g13 (.raw u) (zb4 p15) (zcy m17) (.raw (.slice none 0 0)) (.raw (.slice none 0 0))))) [1] mixed ?_;refine gz1 ?_;refine uM 1 rfl ⟨2,rfl⟩ (fun M hM=>by obtain ⟨i,hi⟩:=hM;exact zar (i:=i) (h:= .raw u) zcv rfl hi (.inl ⟨rfl,rfl⟩) ⟨rfl,rfl⟩) ?_;refine gz2 ?_;refine uB 4 rfl (za (hs:=[_,_,_,_,_,_]) zX ty3 rfl rfl (by decide) (by decide) rfl) ?_;refine uA 6 ?_;refine uB 7 rfl (za (hs:=[_,_]) zp ty9 rfl rfl (by decide) (by decide) rfl) ?_;refine uA 9 ?_;refine uB 10 rfl (za (hs:=[_,_,_,_,_]) zp ty9 rfl rfl (by decide) (by decide) rfl) ?_;refine uF 5 ?_;refine zx rfl (uCx 0 ca5 rfl rfl (zf (L:=[_,_,_,_,_,_]) uS uS uS) ?_)
   rintro _ _ ⟨y33,rfl,hy33,rfl⟩;refine ⟨uE,?_⟩
   refine uF 8 ?_;refine zx rfl (uCx 0 zcn rfl rfl (zq (L:=[_,_]) uS uS uS) ?_)
   rintro _ _ ⟨y36,rfl,hy36,rfl⟩;refine ⟨uE,?_⟩
   refine uF 11 ?_;refine zx rfl (uCx 0 zcn rfl rfl (zq (L:=[_,_,_,_,_]) uS uS uS) ?_)
   rintro _ _ ⟨y39,rfl,hy39,rfl⟩;refine ⟨uE,?_⟩
   refine uB 12 rfl (zF (cs:=[_,_,_,_]) zG zHd rfl) ?_;refine uB 13 rfl (za (hs:=[_]) zcv zG rfl rfl (by decide) (by decide) rfl) ?_;refine uF 14 ?_;refine zx rfl (zL (i:=3) zcv zG rfl rfl rfl rfl rfl (by simp [zat,zb]) (by first|omega|(simp;omega)) fun v42=> ?_)
   refine ⟨uE,?_⟩
   refine gz1 ?_;refine uF 16 ?_;refine zy (uY 2 ?_)
   refine ⟨uE,?_⟩
   refine gz7 ?_;exact ⟨n+1,at1+y26,⟨v42,out++[(⟨at1+y26,y33,y36,y39⟩:MoveS)],a1+1+1+1+1⟩,⟨by omega,by simp at hy26;omega,hq.add (x:=(⟨at1+y26,y33,y36,y39⟩:MoveS)) ⟨by simp at hy26;dsimp only;omega,by simp at hy33;dsimp only;omega⟩ uO⟩,uD,⟨rfl,rfl,trivial⟩,uK,uQ⟩
  ·refine gz2 ?_;refine zcN ?_;refine gz4 ?_;refine de rfl (uZ 2 ?_)
   refine de rfl (uCx 3 ca34 rfl rfl (zq7 (l:=out) g2 uO) ?_)
   rintro _ _ ⟨Z,rfl,hzp,rfl⟩;have hzl:=hzp.length_eq;refine gz3 ?_;refine de rfl (uZ 3 ?_)
   refine de rfl (uCx 0 ca36 rfl rfl (zg0 (l:=Z) uO) ?_)
   rintro _ _ ⟨u50,rfl,rfl⟩;refine gz1 ?_;refine de0 (uY 3 ?_)
   refine gz1 ?_;have hul:=ztL Z none;have hub: ∀x∈zan none Z,MovB x:=fun x hx=>g2 x (hzp.mem_iff.1 (zo7 Z none x hx))
   refine ze (Ghost.perm (M':=[St b l a1,.cells b2 zjD,.cells b3 (bkC g13 (.raw u50) (zb4 p15) (zcy m17) (.raw (.slice none 0 0)) (.raw (.slice none 0 0))),.arr u50 4 ((zan none Z).map zdu)]) uQ) ?_;refine ze (ziS (i:=3) (k:=2) (j:=14) rfl rfl rfl) ?_;refine gz4 ?_;refine de rfl (uZ 2 ?_)
   refine de rfl (uCx 0 ca37 rfl rfl (zi7 (a:=a1) (L:=g13.Players) uO (by have:=hg13.pl;omega)) ?_)
   rintro _ _ ⟨k56,a56,rfl,hk56,ha56,rfl⟩;refine gz1 ?_;refine de0 (uY 2 ?_)
   refine gz5 ?_;refine de rfl (uZ 2 ?_)
   refine dq (zav (f:=HVal.str) (l:=g13.Teams) zp rfl) ?_;refine gz2 ?_;refine ze (zK 5) ?_;refine gz1 ?_;refine uV2 [7,4,62,54] (fun (k:Nat) (q:GL ChoiceS)=>[(62,.int .i64 k)]) (fun (k:Nat) (q:GL ChoiceS)=>[St b l q.a,.cells b2 zjD,.cells b3 (bkC g13 (zcJ (zan none Z)) (zb4 p15) (zcy m17) (zcI k56) (.raw q.u)),.arr q.u 5 (q.out.map zaq)]) (fun (k:Nat) (q:GL ChoiceS)=>k<=g13.Teams.length/\(GLok GoodC4 (4*k) (a56+28*k) q)) (fun (k:Nat) (q:GL ChoiceS)=>g13.Teams.length-k) (0) (⟨.slice none 0 0,[],a56⟩) ?_ ?_ ?_ ?_
   ·exact ⟨Ad _,⟨by simp,by simp,uD⟩⟩
   ·exact ⟨rfl,trivial⟩
   ·exact by repeat (first|exact List.Perm.nil|refine zaE 0 rfl ?_|refine zaE 1 rfl ?_|refine zaE 2 rfl ?_|refine zaE 3 rfl ?_|refine zaE 4 rfl ?_|refine zaE 5 rfl ?_|(refine zas 0 rfl ?hq ?_;(case hq=>simp [zaG,zb];done))|(refine zas 1 rfl ?hq ?_;(case hq=>simp [zaG,zb];done))|(refine zas 2 rfl ?hq ?_;(case hq=>simp [zaG,zb];done))|(refine zas 3 rfl ?hq ?_;(case hq=>simp [zaG,zb];done))|(refine zas 4 rfl ?hq ?_;(case hq=>simp [zaG,zb];done))|(refine zas 5 rfl ?hq ?_;(case hq=>simp [zaG,zb];done))|fail)
   ·intro k q hinv
    obtain ⟨hk,hq⟩:=hinv;obtain ⟨u,out,a2⟩:=q;obtain ⟨g1,g2,g3⟩:=id hq;dsimp only at g1 g2 g3;have htm:=hg13.tm;refine gz4 ?_;refine uCo (fun h3=> ?_) fun h4=> ?_
    ·obtain ⟨x,hx⟩: ∃x,g13.Teams[k]? =some x:=⟨_,Aa h3⟩
     have hdx:=zg hx;refine gz5 ?_;refine dq (zB (f:=HVal.str) (l:=g13.Teams) (j:=k) (a:=x) zp ty9 rfl rfl rfl hx) ?_;refine gz7 ?_;refine uV2 [8,3,66,49] (fun (w:Nat) (q2:GL ChoiceS)=>[(8,.int .i64 ((w:Int)+1))]) (fun (w:Nat) (q2:GL ChoiceS)=>[St b l q2.a,.cells b2 zjD,.cells b3 (bkC g13 (zcJ (zan none Z)) (zb4 p15) (zcy m17) (zcI k56) (.raw q2.u)),.arr q2.u 5 (q2.out.map zaq)]) (fun (w:Nat) (q2:GL ChoiceS)=>w<=2/\GLok GoodC4 (4*k+2*w) (a56+28*k+14*w) q2) (fun (w:Nat) (q2:GL ChoiceS)=>2-w) (0) (⟨u,out,a2⟩) ?_ ?_ ?_ ?_
     ·exact ⟨by omega,hq.mono uO uO⟩
     ·exact ⟨zP uO,trivial⟩
     ·exact by repeat (first|exact List.Perm.nil|refine zaE 0 rfl ?_|refine zaE 1 rfl ?_|refine zaE 2 rfl ?_|refine zaE 3 rfl ?_|refine zaE 4 rfl ?_|refine zaE 5 rfl ?_|(refine zas 0 rfl ?hq ?_;(case hq=>simp [zaG,zb];done))|(refine zas 1 rfl ?hq ?_;(case hq=>simp [zaG,zb];done))|(refine zas 2 rfl ?hq ?_;(case hq=>simp [zaG,zb];done))|(refine zas 3 rfl ?hq ?_;(case hq=>simp [zaG,zb];done))|(refine zas 4 rfl ?hq ?_;(case hq=>simp [zaG,zb];done))|(refine zas 5 rfl ?hq ?_;(case hq=>simp [zaG,zb];done))|fail)
     ·intro w q2 hinv
      obtain ⟨hw,hq2⟩:=hinv;obtain ⟨u,out,a2⟩:=q2;obtain ⟨g1,g2,g3⟩:=id hq2;dsimp only at g1 g2 g3;refine gz5 ?_;refine uCo (fun h5=> ?_) fun h6=> ?_
      ·refine gz8 ?_;refine dq (za (hs:=[_,_,_]) zX ty3 rfl rfl (by decide) (by decide) rfl) ?_;refine de rfl (uCx 0 ca5 rfl rfl (zf (L:=[_,_,_]) uS uS uS) ?_)
       rintro _ _ ⟨y74,rfl,hy74,rfl⟩;refine gz2 ?_;have hb74:0<=y74/\y74<=604799999:=by simp at hy74;omega
       refine gz2 ?_;refine dq (za (hs:=[_,_,_,_]) zX ty3 rfl rfl (by decide) (by decide) rfl) ?_;refine de rfl (uCx 0 ca5 rfl rfl (zf (L:=[_,_,_,_]) uS uS uS) ?_)
       rintro _ _ ⟨y77,rfl,hy77,rfl⟩;refine gz2 ?_;have hb77:0<=y77/\y77<=2:=by simp at hy77;omega
       refine gz1 ?_;refine uV3 [9,2,78,37] (fun (n:Nat) (at2:Int) (q3:GL ChoiceS)=>[(78,.int .i64 (n:Int)),(9,.int .i64 at2)]) (fun (n:Nat) (at2:Int) (q3:GL ChoiceS)=>[St b l q3.a,.cells b2 zjD,.cells b3 (bkC g13 (zcJ (zan none Z)) (zb4 p15) (zcy m17) (zcI k56) (.raw q3.u)),.arr q3.u 5 (q3.out.map zaq)]) (fun (n:Nat) (at2:Int) (q3:GL ChoiceS)=>(n:Int)<=y77/\(0<=at2/\at2<=604800000*((n:Int)+1))/\GLok GoodC4 (4*k+2*w+n) (a56+28*k+14*w+2+6*n) q3) (fun (n:Nat) (at2:Int) (q3:GL ChoiceS)=>y77.toNat-n) (0) (y74) (⟨u,out,a2+1+1⟩) ?_ ?_ ?_ ?_
       ·exact ⟨by omega,by omega,⟨uD,g2,uD⟩⟩
       ·exact ⟨rfl,rfl,trivial⟩
       ·exact by repeat (first|exact List.Perm.nil|refine zaE 0 rfl ?_|refine zaE 1 rfl ?_|refine zaE 2 rfl ?_|refine zaE 3 rfl ?_|refine zaE 4 rfl ?_|refine zaE 5 rfl ?_|(refine zas 0 rfl ?hq ?_;(case hq=>simp [zaG,zb];done))|(refine zas 1 rfl ?hq ?_;(case hq=>simp [zaG,zb];done))|(refine zas 2 rfl ?hq ?_;(case hq=>simp [zaG,zb];done))|(refine zas 3 rfl ?hq ?_;(case hq=>simp [zaG,zb];done))|(refine zas 4 rfl ?hq ?_;(case hq=>simp [zaG,zb];done))|(refine zas 5 rfl ?hq ?_;(case hq=>simp [zaG,zb];done))|fail)
       ·intro n at2 q3 hinv
        obtain ⟨hn,hat2,hq3⟩:=hinv;obtain ⟨u,out,a2⟩:=q3;obtain ⟨g1,g2,g3⟩:=id hq3;dsimp only at g1 g2 g3;refine gz4 ?_;refine uCo (fun h7=> ?_) fun h8=> ?_
        ·refine gz9 ?_;refine dq (za (hs:=[_,_,_,_]) zp ty9 rfl rfl (by decide) (by decide) rfl) ?_;refine de rfl (uCx 0 zcn rfl rfl (zq (L:=[_,_,_,_]) uS uS uS) ?_)
         rintro _ _ ⟨y85,rfl,hy85,rfl⟩;refine dq (zF (cs:=[_,_,_,_,_]) zeJ zHe rfl) ?_;refine de rfl (zj zeJ rfl fun b10=> ?_)
         refine de0 (uY 0 ?_)
         refine gz5 ?_;refine de rfl (uZ 3 ?_)
         refine dq (zav (f:=zbZ) (l:=g13.Slots) zf0 rfl) ?_;refine gz2 ?_;refine ze (zK 1) ?_;refine gz1 ?_;refine uV2 [91,11] (fun (j:Nat) (p:GL Str)=>[(91,.int .i64 j)]) (fun (j:Nat) (p:GL Str)=>[St b l p.a,.cells b10 [.str x,.int .i64 ((w:Int)+1),.int .i64 at2,.raw p.u,.str y85],.arr p.u 1 (p.out.map .str),.cells b2 zjD,.cells b3 (bkC g13 (zcJ (zan none Z)) (zb4 p15) (zcy m17) (zcI k56) (.raw u)),.arr u 5 (out.map zaq)]) (fun (j:Nat) (p:GL Str)=>j<=g13.Slots.length/\(p.out.length=j/\(∀s∈p.out,Sh s)/\p.a=a2+1+j)) (fun (j:Nat) (p:GL Str)=>g13.Slots.length-j) (0) (⟨.slice none 0 0,[],a2+1⟩) ?_ ?_ ?_ ?_
         ·exact ⟨Ad _,rfl,by simp,rfl⟩
         ·exact ⟨rfl,trivial⟩
         ·exact by repeat (first|exact List.Perm.nil|refine zaE 0 rfl ?_|refine zaE 1 rfl ?_|refine zaE 2 rfl ?_|refine zaE 3 rfl ?_|refine zaE 4 rfl ?_|refine zaE 5 rfl ?_|(refine zas 0 rfl ?hq ?_;(case hq=>simp [zaG,zb];done))|(refine zas 1 rfl ?hq ?_;(case hq=>simp [zaG,zb];done))|(refine zas 2 rfl ?hq ?_;(case hq=>simp [zaG,zb];done))|(refine zas 3 rfl ?hq ?_;(case hq=>simp [zaG,zb];done))|(refine zas 4 rfl ?hq ?_;(case hq=>simp [zaG,zb];done))|(refine zas 5 rfl ?hq ?_;(case hq=>simp [zaG,zb];done))|fail)
         ·intro j p hinv
          obtain ⟨hj,hp⟩:=hinv;obtain ⟨v,ps,a5⟩:=p;dsimp only at hp;obtain ⟨hp1,hp2,hp3⟩:=hp;have hsl:=hg13.sl;refine gz4 ?_;refine uCo (fun h9=> ?_) fun h10=> ?_
          ·obtain ⟨z,hz⟩: ∃z,g13.Slots[j]? =some z:=⟨_,Aa h9⟩
           have hdz:=zg hz;refine gz4 ?_;refine zba (fun M=> ∃i:Nat,M[i]? =some (.cells b10 [.str x,.int .i64 ((w:Int)+1),.int .i64 at2,.raw v,.str y85])) [1] mixed ?_;refine gz1 ?_;refine uM 1 rfl ⟨1,rfl⟩ (fun M hM=>by obtain ⟨i,hi⟩:=hM;exact zar (i:=i) (h:= .raw v) zp rfl hi (.inl ⟨rfl,rfl⟩) ⟨rfl,rfl⟩) ?_;refine gz1 ?_;refine uB 3 rfl (za (hs:=[_,_,_,_,_,_,_,_]) zp ty9 rfl rfl (by decide) (by decide) rfl) ?_;refine uF 4 ?_;refine zx rfl (uCx 0 zcn rfl rfl (zq (L:=[_,_,_,_,_,_,_,_]) uS uS uS) ?_)
           rintro _ _ ⟨y97,rfl,hy97,rfl⟩;refine ⟨uE,?_⟩
           refine uB 5 rfl (za (hs:=[_]) zp ty9 rfl rfl (by decide) (by decide) rfl) ?_;refine uF 6 ?_;refine zx rfl (zL (i:=2) zp ty9 rfl rfl rfl rfl rfl (by simp [zat,zb]) (by first|omega|(simp;omega)) fun v99=> ?_)
           refine ⟨uE,?_⟩
           refine gz1 ?_;refine uF 8 ?_;refine zy (uY 1 ?_)
           refine ⟨uE,?_⟩
           refine gz7 ?_;exact ⟨j+1,⟨v99,ps++[y97],a5+1⟩,⟨by omega,by simp;omega,fun s hs=>by
            rcases List.mem_append.1 hs with hs|hs
            ·exact hp2 s hs
            ·rw [List.mem_singleton.1 hs];simp at hy97;rcases hy97 with rfl|rfl|rfl|rfl|rfl|rfl|rfl|rfl<;>(unfold Sh;simp),uD⟩,uD,⟨rfl,trivial⟩,uK,uQ⟩
          ·have hnj:g13.Slots.length<=j:=by omega
           obtain rfl:j=g13.Slots.length:=by omega
           refine gz2 ?_;refine zI ?_;refine gz2 ?_;refine ze (ziS (i:=2) (k:=1) (j:=3) rfl rfl rfl) ?_;refine ze (zbl (M':=[St b l a5,.cells b10 (zb (zaq (⟨x,(w:Int)+1,at2,ps,y85⟩:ChoiceS))),.cells b2 zjD,.cells b3 (bkC g13 (zcJ (zan none Z)) (zb4 p15) (zcy m17) (zcI k56) (.raw u)),.arr u 5 (out.map zaq)]) rfl) ?_;refine ze (zbC 10 (i:=1) rfl rfl) ?_;refine gz2 ?_;refine de rfl (uZ 2 ?_)
           refine gz1 ?_;refine dq (za (hs:=[_]) zgA zeJ rfl rfl (by decide) (by decide) rfl) ?_;refine de rfl (zL (i:=3) zgA zeJ rfl rfl rfl rfl rfl (by simp [zat,zb,zaM,za6]) uSo fun v106=> ?_)
           refine gz1 ?_;refine de0 (uY 2 ?_)
           refine gz5 ?_;refine dq (za (hs:=[_,_,_]) zX ty3 rfl rfl (by decide) (by decide) rfl) ?_;refine de rfl (uCx 0 ca5 rfl rfl (zf (L:=[_,_,_]) uS uS uS) ?_)
           rintro _ _ ⟨y112,rfl,hy112,rfl⟩;refine dq (zbi rfl rfl (by simp at hy112;omega) (by simp at hy112;omega)) ?_;refine gz8 ?_;exact ⟨n+1,at2+y112,⟨v106,out++[(⟨x,(w:Int)+1,at2,ps,y85⟩:ChoiceS)],a5+1⟩,⟨by omega,by simp at hy112;omega,hq3.add (x:=(⟨x,(w:Int)+1,at2,ps,y85⟩:ChoiceS)) ⟨hp2,by simp at hy85;rcases hy85 with rfl|rfl|rfl|rfl<;>(unfold Sh;simp),by have:=hg13.sl;dsimp only;omega⟩ (by have:=hg13.sl;omega)⟩,uD,⟨rfl,rfl,trivial⟩,uK,uQ⟩
        ·refine gz2 ?_;refine zcN ?_;refine gz8 ?_;exact ⟨w+1,⟨u,out,a2⟩,⟨by omega,hq3.mono uO uO⟩,uD,⟨zP uO,trivial⟩,uK,uQ⟩
      ·refine gz2 ?_;refine zI ?_;refine gz7 ?_;exact ⟨k+1,⟨u,out,a2⟩,⟨by omega,hq2.mono uO uO⟩,uD,⟨rfl,trivial⟩,uK,uQ⟩
    ·have hnk:g13.Teams.length<=k:=by omega
     obtain rfl:k=g13.Teams.length:=by omega
     refine gz2 ?_;refine zI ?_;refine gz2 ?_;refine uVj [11,1,116,52] (fun (q5:List ChoiceS×Nat)=>[]) (fun (q5:List ChoiceS×Nat)=>[St b l q5.2,.cells b2 zjD,.cells b3 (bkC g13 (zcJ (zan none Z)) (zb4 p15) (zcy m17) (zcI k56) (.raw u)),.arr u 5 (q5.1.map zaq)]) (fun (q5:List ChoiceS×Nat)=>GoodChs q5.1/\q5.2<=a2+10) ?_ ?_
     ·skip
      refine gz2 ?_;refine de rfl (uZ 2 ?_)
      refine de rfl (zau (i:=3) (es:=out) zgA rfl rfl ?_)
      refine gz3 ?_;refine dgx (fun x M'=> ∃(y:Bool) (a3:Nat),x= .bool y/\a3<=a2+1/\M'=[St b l a3,.cells b2 zjD,.cells b3 (bkC g13 (zcJ (zan none Z)) (zb4 p15) (zcy m17) (zcI k56) (.raw u)),.arr u 5 (out.map zaq)]) rfl rfl (fun hc=>⟨_,false,a2,rfl,by omega,rfl⟩) (fun hc=>⟨_,OpenTo.upd (t:=121) rfl (hc) (OpenTo.refl _),uCx 0 zeO rfl rfl (zH (a:=a2) uO uO) (fun h M' hh=>by
       obtain ⟨y,h1,h2⟩:=hh;exact ⟨y,a2+1,h1,by omega,by rw [h2];rfl⟩)⟩) ?_
      rintro _ _ ⟨y,a3,rfl,ha3,rfl⟩;refine gz2 ?_;refine uCo (fun h11=> ?_) fun h12=> ?_
      ·have ho0:0<out.length:=by simp_all
       refine zbV (i:=3) rfl (fun h0 he=> ?_) (fun ob off cap hv hcap=> ?_)
       ·exfalso;have:=congrArg List.length he;simp at this;subst this;simp at ho0
       subst hv;refine zbb (fun M=> ∃i:Nat,M[i]? =some (.cells b3 (bkC g13 (zcJ (zan none Z)) (zb4 p15) (zcy m17) (zcI k56) (.raw (.slice (some ⟨ob,off,none⟩) (out.map zaq).length cap))))) [1,4] mixed ?_;refine gz1 ?_;refine uM 1 rfl ⟨2,rfl⟩ (fun M hM=>by obtain ⟨i,hi⟩:=hM;exact zar (i:=i) (h:= .raw (.slice (some ⟨ob,off,none⟩) (out.map zaq).length cap)) zgA rfl hi (.inl ⟨rfl,rfl⟩) ⟨rfl,rfl⟩) ?_;refine gz2 ?_;refine uM 4 rfl ⟨2,rfl⟩ (fun M hM=>by obtain ⟨i,hi⟩:=hM;exact zar (i:=i) (h:= .raw (.slice (some ⟨ob,off,none⟩) (out.map zaq).length cap)) zgA rfl hi (.inl ⟨rfl,rfl⟩) ⟨rfl,rfl⟩) ?_;refine uF 5 ?_;refine zx rfl (zau (i:=3) (es:=out) zgA rfl rfl ?_)
       refine ⟨fun _=> .inl ⟨2,rfl⟩,?_⟩
       refine uF 6 ?_;refine zx rfl (uCx 0 zjr rfl rfl (zap uS uS) ?_)
       rintro _ _ ⟨y130,rfl,hy130,rfl⟩;refine ⟨uE,?_⟩
       refine uB 7 rfl (zv (j:=y130) zgA zeJ rfl rfl rfl uSo) ?_;refine gz2 ?_;refine ze (Ghost.perm (M':=[St b l (a3+1),.arr (.slice (some ⟨ob,off,none⟩) (out.map zaq).length cap) 5 (out.map zaq),.cells b2 zjD,.cells b3 (bkC g13 (zcJ (zan none Z)) (zb4 p15) (zcy m17) (zcI k56) (.raw (.slice (some ⟨ob,off,none⟩) (out.map zaq).length cap)))]) uQ) ?_;obtain ⟨x,hx⟩: ∃x,out[y130]? =some x:=⟨_,Aa uO⟩
       have hgx:=g2 x (Ab hx);dsimp only [GoodC4] at hgx;refine zba (fun M=> ∃i:Nat,M[i]? =some (.arr (.slice (some ⟨ob,off,none⟩) (out.map zaq).length cap) 5 (out.map zaq))) [8,15,24] mixed ?_;refine gz8 ?_;refine uM 8 rfl ⟨1,rfl⟩ (fun M hM=>by obtain ⟨i,hi⟩:=hM;exact zae (i:=i) (j:=y130) 0 ty9 rfl uO hi hx rfl rfl ⟨rfl,rfl⟩) ?_;refine uB 9 rfl (za (hs:=[_,_]) zp ty9 rfl rfl (by decide) (by decide) rfl) ?_;refine uA 11 ?_;refine gz3 ?_;refine uM 15 rfl ⟨1,rfl⟩ (fun M hM=>by obtain ⟨i,hi⟩:=hM;exact zae (i:=i) (j:=y130) 1 ty3 rfl uO hi hx rfl rfl ⟨rfl,rfl⟩) ?_;refine uB 16 rfl (za (hs:=[_,_]) zX ty3 rfl rfl (by decide) (by decide) rfl) ?_;refine uA 18 ?_;refine uB 19 rfl (za (hs:=[_,_]) zp ty9 rfl rfl (by decide) (by decide) rfl) ?_;refine uA 21 ?_;refine gz2 ?_;refine uM 24 rfl ⟨1,rfl⟩ (fun M hM=>by obtain ⟨i,hi⟩:=hM;exact zae (i:=i) (j:=y130) 3 zp rfl uO hi hx rfl rfl ⟨rfl,rfl⟩) ?_;refine uB 26 rfl (za (hs:=[_]) zp ty9 rfl rfl (by decide) (by decide) rfl) ?_;refine uF 10 ?_;refine zx rfl (uCx 0 zcn rfl rfl (zq (L:=[_,_]) uS uS uS) ?_)
       rintro _ _ ⟨y142,rfl,hy142,rfl⟩;refine ⟨uE,?_⟩
       refine uF 17 ?_;refine zx rfl (uCx 0 ca5 rfl rfl (zf (L:=[_,_]) uS uS uS) ?_)
       rintro _ _ ⟨y149,rfl,hy149,rfl⟩;refine ⟨uE,?_⟩
       refine uF 20 ?_;refine zx rfl (uCx 0 zcn rfl rfl (zq (L:=[_,_]) uS uS uS) ?_)
       rintro _ _ ⟨y152,rfl,hy152,rfl⟩;refine ⟨uE,?_⟩
       refine uF 25 ?_;refine zx rfl (uCa zkD rfl (zaf uO) fun v157=> ?_)
       refine ⟨uE,?_⟩
       refine uF 27 ?_;refine zx rfl (zme (N:=[St b l (a3+1+1+1+1),.arr (.slice (some ⟨ob,off,none⟩) (out.map zaq).length cap) 5 (out.map zaq),.cells b2 zjD,.cells b3 (bkC g13 (zcJ (zan none Z)) (zb4 p15) (zcy m17) (zcI k56) (.raw (.slice (some ⟨ob,off,none⟩) (out.map zaq).length cap)))]) (sz:=1) (es:=(x.Players++[[97,110,110]]).map .str) 0 (zL (i:=0) zp ty9 rfl rfl rfl rfl rfl (by simp [zat,zb,zaM,za6]) uSo fun v=>⟨v,rfl,by simp [zaM,za6],rfl⟩) ?_)
       refine ⟨fun _=> .inl ⟨1,rfl⟩,?_⟩
       refine gz2 ?_;refine uF 30 ?_;refine zy (zV (i:=1) (j:=y130) (f:=0) (y:=zaq x) (y':=zaq ⟨y142,x.Week,x.At,x.Players,x.Captain⟩) ty9 rfl uO rfl rfl (za3 hx) rfl rfl (by simp [zb]) rfl ?_)
       refine ⟨uE,?_⟩
       refine gz2 ?_;refine uF 33 ?_;refine zy (zV (i:=1) (j:=y130) (f:=1) (y:=zaq ⟨y142,x.Week,x.At,x.Players,x.Captain⟩) (y':=zaq ⟨y142,y149,x.At,x.Players,x.Captain⟩) ty3 rfl uO rfl rfl (zaL (za3 hx)) rfl rfl (by simp [zb]) rfl ?_)
       refine ⟨uE,?_⟩
       refine gz2 ?_;refine uF 36 ?_;refine zy (zV (i:=1) (j:=y130) (f:=4) (y:=zaq ⟨y142,y149,x.At,x.Players,x.Captain⟩) (y':=zaq ⟨y142,y149,x.At,x.Players,y152⟩) ty9 rfl uO rfl rfl (zaL (zaL (za3 hx))) rfl rfl (by simp [zb]) rfl ?_)
       refine ⟨uE,?_⟩
       refine gz2 ?_;refine uF 39 ?_;refine zy (zV (i:=1) (j:=y130) (f:=3) (y:=zaq ⟨y142,y149,x.At,x.Players,y152⟩) (y':=zaq ⟨y142,y149,x.At,x.Players++[[97,110,110]],y152⟩) zp rfl uO rfl rfl (zaL (zaL (zaL (za3 hx)))) rfl rfl (by simp [zb]) rfl ?_)
       refine ⟨uE,?_⟩
       refine gz1 ?_;exact ⟨(out.set y130 (⟨y142,y149,x.At,x.Players++[[97,110,110]],y152⟩:ChoiceS),a3+1+1+1+1),⟨⟨by simp;omega,zfL (P:=zuC) (fun x hx=>(g2 x hx).up) ⟨fun s hs=>by
        rcases List.mem_append.1 hs with hs|hs
        ·exact hgx.1 s hs
        ·rw [List.mem_singleton.1 hs];unfold Sh;simp,by simp at hy152;rcases hy152 with rfl|rfl<;>(unfold Sh;simp),by simp;omega⟩⟩,uD⟩,trivial,uK,uQ⟩
      ·refine gz1 ?_;exact ⟨(out,a3),⟨⟨uD,fun x hx=>(g2 x hx).up⟩,uD⟩,trivial,uK,uQ⟩
     ·intro q5 hq5
      obtain ⟨k1,a6⟩:=q5;obtain ⟨hk1,ha6⟩:=hq5;dsimp only at hk1 ha6;refine ze (ziS (i:=3) (k:=2) (j:=18) rfl rfl rfl) ?_;refine ze (Ghost.perm (M':=[.cells b2 zjD,St b l a6,.cells b3 (zb (zbp (⟨g13,(zan none Z),p15,m17,k56,k1⟩:BookS)))]) uQ) ?_;refine gz1 ?_;refine de rfl (zhS (i:=2) (h:=zbp (⟨g13,(zan none Z),p15,m17,k56,k1⟩:BookS)) zbo rfl rfl rfl rfl rfl ?_)
      refine de0 (zn (h:=zbp (⟨g13,(zan none Z),p15,m17,k56,k1⟩:BookS)) zbo rfl rfl rfl rfl rfl ?_)
      refine gz2 ?_;exact ⟨_,_,(zo 2 rfl).trans ((Ghost.perm (List.Perm.swap _ _ _)).trans Ghost.drop),[_],_,⟨⟨_,_,_,_,_,rfl,zbo,.inr ⟨rfl,rfl,rfl⟩⟩,trivial⟩,Weak.refl _,(⟨g13,(zan none Z),p15,m17,k56,k1⟩:BookS),a6,rfl,⟨hg13,uD,hub,hp15,hm17,hk56,hk1⟩,by omega,rfl⟩
end
section
open Go.Proofs.Tryz
open Go.HL
theorem zv4 [Tracks]:Weak (.agg [.raw (.slice none 0 0),.raw (.slice none 0 0),.raw (.slice none 0 0),.raw (.slice none 0 0),.slice 2 [.agg [.str [115,97],.slice 1 [.str [103,107]]]],.int .i64 3,.int .i64 0,.int .i64 5,.int .i64 0,.slice 1 [.str [116,97],.str [116,98]],.raw (.slice none 0 0),.raw (.slice none 0 0),.raw (.slice none 0 0),.int .i64 0,.raw (.slice none 0 0),.raw (.slice none 0 0),.raw (.slice none 0 0),.raw (.slice none 0 0),.raw (.slice none 0 0)]) (zbp g0B):=by
 refine zBv rfl fun j h h' h1 h2=> ?_
 match j,h1,h2 with
 |0,h1,h2|1,h1,h2|2,h1,h2|3,h1,h2|10,h1,h2|11,h1,h2|12,h1,h2|14,h1,h2|15,h1,h2|16,h1,h2|17,h1,h2|18,h1,h2=>cases h1;cases h2;exact zM _
 |4,h1,h2|5,h1,h2|6,h1,h2|7,h1,h2|8,h1,h2|9,h1,h2|13,h1,h2=>cases h1;cases h2;exact Weak.refl _
 |n+19,h1,h2=>cases h1
theorem zgZ [Tracks] {b:Nat} {l:List Int} {a:Nat} (hT:Tracks.on=false) (ha:a<=100000):Con prog 4 [pAt b] [St b l a] (fun x M'=> ∃k a',x=zbp k/\zdt k=0/\BookC k/\a'<=a+24000/\M'=[St b l a']):=by
 refine za5 func4 rfl ntmps4 rfl rfl ?_;refine gz1 ?_;refine de rfl (zj zbo rfl fun b2=> ?_)
 refine gz6 ?_;refine uT2 [3,10] (fun i a1=>[(4,.int .i64 (i:Int))]) (fun i a1=>[.cells b2 [.raw (.slice none 0 0),.raw (.slice none 0 0),.raw (.slice none 0 0),.raw (.slice none 0 0),.raw (.slice none 0 0),.int .i64 0,.int .i64 0,.int .i64 0,.int .i64 0,.raw (.slice none 0 0),.raw (.slice none 0 0),.raw (.slice none 0 0),.raw (.slice none 0 0),.int .i64 0,.raw (.slice none 0 0),.raw (.slice none 0 0),.raw (.slice none 0 0),.raw (.slice none 0 0),.raw (.slice none 0 0)],St b l a1]) (fun i a1=>i<=12/\a1<=a+2000*i) (fun i a1=>12-i) (0) (a) ?_ ?_
 ·exact ⟨by omega,by omega⟩
 ·rintro i a1 ⟨hi,ha1⟩;refine gz4 ?_;refine uCo (fun h1=> ?_) fun h2=> ?_
  ·refine gz6 ?_;refine de rfl (uCx 1 ca12 rfl rfl (ziu (a:=a1) uO) ?_)
   rintro _ _ ⟨k7,a7,rfl,hk7,ha7,rfl⟩;refine de rfl (zj zbo rfl fun b3=> ?_)
   refine de0 (zn zbo rfl rfl rfl rfl rfl ?_)
   refine gz1 ?_;refine ze (zo 3 rfl) ?_;refine gz1 ?_;refine dq (zax (h:=zbp k7) zbo rfl rfl rfl rfl) ?_;refine dq (uCl ca13 rfl (zmi (b:=k7) hT hk7.c)) ?_;refine gz2 ?_;refine uCo (fun h3=> ?_) fun h4=> ?_
   ·refine gz1 ?_;refine dq (zax (h:=zbp k7) zbo rfl rfl rfl rfl) ?_;refine de0 (uY 1 ?_)
    refine gz2 ?_
    first
    |exact ⟨_,_,(Ghost.perm (List.Perm.swap _ _ _)).trans ((zo 2 rfl)),[_],_,⟨⟨_,_,_,_,_,rfl,zbo,.inr ⟨rfl,rfl,rfl⟩⟩,trivial⟩,Weak.refl _,k7,a7,rfl,by assumption,hk7.c,by omega,rfl⟩
    |exact ⟨_,_,zo 2 rfl,[_],_,⟨⟨_,_,_,_,_,rfl,zbo,.inr ⟨rfl,rfl,rfl⟩⟩,trivial⟩,zv4,g0B,a1,rfl,zCe,zCf,by omega,rfl⟩
   ·refine gz7 ?_;exact ⟨i+1,a7,⟨by omega,by omega⟩,uD,⟨rfl,trivial⟩,uK,uP⟩
  ·obtain rfl:i=12:=by omega
   refine gz2 ?_;refine zI ?_;refine gz3 ?_;refine dq (za (hs:=[_]) zp ty9 rfl rfl (by decide) (by decide) rfl) ?_;refine dq (zF (cs:=[_,_]) zdM zA5 rfl) ?_;refine dq (za (hs:=[_]) zf0 zdM rfl rfl (by decide) (by decide) rfl) ?_;refine dq (zF (cs:=[_,_,_,_]) zjB pl32 rfl) ?_;refine dq (za (hs:=[_,_]) zp ty9 rfl rfl (by decide) (by decide) rfl) ?_;refine dq (zF (cs:=[_,_,_,_,_,_,_,_,_,_,_,_,_,_]) zaS zkT rfl) ?_;refine dq (zF (cs:=[_,_,_,_,_,_,_,_,_,_,_,_,_,_,_,_,_,_,_]) zbo pl43 rfl) ?_;refine de0 (uY 0 ?_)
   refine gz2 ?_
   first
   |exact ⟨_,_,(Ghost.perm (List.Perm.swap _ _ _)).trans ((zo 2 rfl)),[_],_,⟨⟨_,_,_,_,_,rfl,zbo,.inr ⟨rfl,rfl,rfl⟩⟩,trivial⟩,Weak.refl _,k7,a7,rfl,by assumption,hk7.c,by omega,rfl⟩
   |exact ⟨_,_,zo 2 rfl,[_],_,⟨⟨_,_,_,_,_,rfl,zbo,.inr ⟨rfl,rfl,rfl⟩⟩,trivial⟩,zv4,g0B,a1,rfl,zCe,zCf,by omega,rfl⟩
end
section
open Go.Proofs.Tryz
open Go.HL
theorem eq59 [Tracks]:EqOk prog 59:=⟨by kernel_rfl,by kernel_rfl,by kernel_rfl⟩
theorem ziw [Tracks] (hT:Tracks.on=false):ConP prog 8 [] (.bool true):=by
 refine uOb func8 ntmps8 ?_;refine gz4 ?_;refine dq (zF (cs:=[_,_,_,_,_,_,_,_,_]) zb7 zvC rfl) ?_;refine dq (za (hs:=[_]) zhH zb7 rfl rfl (by decide) (by decide) rfl) ?_;refine dq (za (hs:=[_]) zp ty9 rfl rfl (by decide) (by decide) rfl) ?_;refine dq (znq (hs':=[zb4 [zpz],eSs [[115]],.int .i64 1,.int .i64 5]) ca17 rfl (WeakL.refl _) (zos hT (by decide) (by decide))) ?_;refine gz6 ?_;simp only [zDB,zDC];refine gz1 ?_;refine dq (za (hs:=[_,_]) zp ty9 rfl rfl (by decide) (by decide) rfl) ?_;refine dq (za (hs:=[_,_,_,_]) zp ty9 rfl rfl (by decide) (by decide) rfl) ?_;refine dq (zF (cs:=[_,_,_,_,_,_]) zyE pl76 rfl) ?_;refine de rfl (zj zyE rfl fun b3=> ?_)
 refine de0 (zn zyE rfl rfl rfl rfl rfl ?_)
 refine gz1 ?_;refine ze (zo 3 rfl) ?_;refine gz2 ?_;refine dq (znq (hs':=[zrd zuv,zoH []]) ca18 rfl ⟨Weak.refl _,zM 3,trivial⟩ (ztQ (r:=zuv) (s:=[]) (by decide) (by decide) (by decide))) ?_;refine gz6 ?_;simp only [zwu,zBl];refine gz1 ?_;refine dq (zF (cs:=[_,_,_]) zdE pl82 rfl) ?_;refine dq (za (hs:=[_]) ziR zdE rfl rfl (by decide) (by decide) rfl) ?_;refine dq (zF (cs:=[_,_]) zpm pl85 rfl) ?_;refine dq (za (hs:=[_]) zBt zpm rfl rfl (by decide) (by decide) rfl) ?_;refine dq (znq (hs':=[zj8 [zi5],zpt [zmx]]) ca19 rfl (WeakL.refl _) (zq9 (l:=[zi5]) (p:=[zmx]) (by decide) (by decide))) ?_;refine gz8 ?_;simp only [zEn,zDj,zzC];refine zay ?_;refine uGr rfl (fun hc=>zB (j:=0) (a:=zx5) znE zcZ rfl rfl rfl rfl) ?_;refine zco ?_;refine uGr rfl (fun hc=>za (hs:=[_,_,_,_]) zp ty9 rfl rfl (by decide) (by decide) rfl) ?_;refine uGr rfl (fun hc=>uCl ca20 rfl (ziB (l:=[[97],[98],[98],[97]]) (m:=[[97],[98],[98],[97]]) (by decide))) ?_;refine zc9 ?_;refine zt rfl ?_
 rfl
theorem zfq [Tracks] {l m:List StandS} (hl:l.length<=1000000):ConP prog 11 [zc4 l,zc4 m] (.bool (zgM zS l m)):=by
 refine uOb func11 ntmps11 ?_;refine zco ?_;refine uCo (fun h1=> ?_) fun h2=> ?_
 refine gz4 ?_;refine zt rfl ?_
 show HVal.bool _=_
 first|(congr 1;symm;exact zlv uO)|(rw [hg.2,zgM,show zqu zS x y=false from h5];rfl)|(rw [hg.2,zC (Bv hg.1.symm)];rfl)
 refine gz9 ?_;refine uT1 [4,2,13,13] (fun k=>[(13,.int .i64 k)]) (fun k=>[]) (fun k=>k<=l.length/\(l.length=m.length/\zgM zS l m=zgM zS (l.drop k) (m.drop k))) (fun k=>l.length-k) (0) ?_ ?_;refine ⟨Ad _,?_,rfl⟩
 omega
 rintro k ⟨hk,hg⟩;refine gz4 ?_;refine uCo (fun h3=> ?_) fun h4=> ?_
 obtain ⟨x,hx⟩: ∃x,l[k]? =some x:=⟨_,Aa h3⟩
 have hdx:=zg hx;obtain ⟨y,hy⟩: ∃y,m[k]? =some y:=⟨_,Aa uO⟩
 rw [hdx,zg hy] at hg;refine gz8 ?_;refine uDr mixed ?_;refine gz8 ?_;refine uB 8 rfl (zyn zcq eq59 rfl rfl ⟨rfl,.inr ⟨_,_,_,_,_,_,_,_,rfl,rfl,ty3,rfl,⟨rfl,.inr ⟨_,_,_,_,_,_,_,_,rfl,rfl,ty9,rfl,⟨rfl,.inr ⟨_,_,_,_,_,_,_,_,rfl,rfl,ty3,rfl,⟨rfl,.inr ⟨_,_,_,_,_,_,_,_,rfl,rfl,ty3,rfl,⟨rfl,.inr ⟨_,_,_,_,_,_,_,_,rfl,rfl,ty3,rfl,⟨rfl,.inr ⟨_,_,_,_,_,_,_,_,rfl,rfl,ty3,rfl,⟨rfl,.inl ⟨_,_,_,_,zaj,zsv,Ak rfl,Ak rfl,⟨rfl,⟨_,_,_,_,ty3,rfl⟩,⟨rfl,⟨_,_,_,_,ty3,rfl⟩,trivial⟩⟩,⟨rfl,.inl ⟨_,_,_,_,zaj,zsv,Ak rfl,Ak rfl,⟨rfl,⟨_,_,_,_,ty3,rfl⟩,⟨rfl,⟨_,_,_,_,ty3,rfl⟩,trivial⟩⟩,⟨rfl,rfl⟩⟩⟩⟩⟩⟩⟩⟩⟩⟩⟩⟩⟩⟩⟩⟩⟩) ?_;refine gz1 ?_;refine uCo (fun h5=> ?_) fun h6=> ?_
 refine gz4 ?_;refine zt rfl ?_
 show HVal.bool _=_
 first|(congr 1;symm;exact zlv uO)|(rw [hg.2,zgM,show zqu zS x y=false from h5];rfl)|(rw [hg.2,zC (Bv hg.1.symm)];rfl)
 refine gz7 ?_;refine ⟨k+1,?_,?_,⟨rfl,trivial⟩,uK,Ac _⟩
 refine ⟨by omega,hg.1,?_⟩
 rw [hg.2,zgM,show zqu zS x y=true from h6];rfl
 dsimp only;omega
 have hnk:l.length<=k:=by omega
 obtain rfl:k=l.length:=by omega
 rw [zC (Ae _)] at hg;refine gz2 ?_;refine zu ?_;refine gz6 ?_;refine zt rfl ?_
 show HVal.bool _=_
 first|(congr 1;symm;exact zlv uO)|(rw [hg.2,zgM,show zqu zS x y=false from h5];rfl)|(rw [hg.2,zC (Bv hg.1.symm)];rfl)
theorem zsb [Tracks] {b:BookS} {n:Int} (hT:Tracks.on=false) (hb:BookC b):ConP prog 7 [zbp b,.int .i64 n] (.tup [zc4 (zuH b n),.int .i64 (zuG b n)]):=by
 have hl6:=hb.l6;have hga:=hb.bb.lea.ga;have hbr:=hb.bb.lea.br;refine uOb func7 ntmps7 ?_;refine gz6 ?_;refine dq (zax (h:=zbp b) zbo rfl rfl rfl rfl) ?_;refine gz1 ?_;refine dq (uCl ca6 rfl (zky (b:=b) (n:=n) hT hb)) ?_;refine zco ?_;refine uCo (fun h1=> ?_) fun h2=> ?_
 refine gz6 ?_
 focus first
 |exact zbz rfl (zad (by rw [zuH,if_pos (by simpa using h1)];exact zM 10) (by rw [zsS (by simpa using h1)];exact Weak.refl _))
 | (obtain ⟨q1,q2,q3⟩:=zrX hRz
    refine zt rfl ?_;rw [q3,q1,q2])
 refine gz2 ?_;have hRz:zeK b n=0:=by simpa using h2
 obtain ⟨hbz,_,hgz⟩:=zuF hRz;have hX:=zuT hbz;have hfb:=zvM hb hX.w hgz;rw [zqe,if_neg (fun q=>q hRz)];refine gz3 ?_;refine dq (zJ (h:=eSs b.League.Teams) zp rfl rfl rfl) ?_;refine gz3 ?_;refine dq (zJ (h:= .slice 1 (b.League.Breaks.map (HVal.int .i64))) zX rfl rfl rfl) ?_;refine dq (uCl ca10 rfl (znJ (T:=b.League.Teams) (g:=zeR b n) (bs:=b.League.Breaks) (by have q:=hl6;omega) (by rw [Af];exact hga) hfb hbr)) ?_;refine gz6 ?_
 focus first
 |exact zbz rfl (zad (by rw [zuH,if_pos (by simpa using h1)];exact zM 10) (by rw [zsS (by simpa using h1)];exact Weak.refl _))
 | (obtain ⟨q1,q2,q3⟩:=zrX hRz
    refine zt rfl ?_;rw [q3,q1,q2])
theorem zez [Tracks] {l:List Int} (hT:Tracks.on=false):ConP prog 3 [.slice 1 (l.map (.int .i64))] (.bool true):=by
 refine uOb func3 ntmps3 ?_;refine gz5 ?_;refine dq (zF (cs:=[_,_]) ty25 pl25 rfl) ?_;refine de rfl (zwG rfl rfl fun b=> ?_)
 refine zDV (M':=[St b l 0]) rfl ?_;refine gz4 ?_;refine de rfl (uCx 0 ca4 rfl rfl (zgZ (a:=0) hT uO) ?_)
 rintro _ _ ⟨k15,a15,rfl,hz15,hc15,ha15,rfl⟩;refine gz1 ?_;refine dq (za (hs:=[_,_,_,_]) zX ty3 rfl rfl (by decide) (by decide) rfl) ?_
 focus first
 |refine de rfl (uCx 0 ca5 rfl rfl (zf (L:=[_,_,_,_]) uS uS uS) ?_)
 |refine de rfl (uCx 1 ca5 rfl rfl (zf (L:=[_,_,_,_]) uS uS uS) ?_)
 |refine de rfl (uCx 2 ca5 rfl rfl (zf (L:=[_,_,_,_]) uS uS uS) ?_)
 |refine de rfl (uCx 3 ca5 rfl rfl (zf (L:=[_,_,_,_]) uS uS uS) ?_)
 rintro _ _ ⟨y18,rfl,hy18,rfl⟩;refine de rfl (zj zbo rfl fun b4=> ?_)
 refine de0 (zn zbo rfl rfl rfl rfl rfl ?_)
 refine gz2 ?_;refine ze (zo 4 rfl) ?_;have hl6:=hc15.l6;have hga:=hc15.bb.lea.ga;have hbr:=hc15.bb.lea.br;refine gz1 ?_;refine dq (zax (h:=zbp k15) zbo rfl rfl rfl rfl) ?_;refine gz1 ?_;refine dq (uCl ca6 rfl (zky (b:=k15) (n:=y18) hT hc15)) ?_;refine gz7 ?_;refine dq (zax (h:=zbp k15) zbo rfl rfl rfl rfl) ?_;refine gz1 ?_;refine dq (uCl ca7 rfl (zsb (b:=k15) (n:=y18) hT hc15)) ?_;refine zoW ?_;refine uCo (fun h1=> ?_) fun h2=> ?_
 have hR0:zeK k15 y18≠0:=fun q=>by
  have q2:=(zrX q).1
  simp_all
 have hT0:=zsS hR0;refine gz5 ?_;refine uGr rfl (fun hc=>uCl ca8 rfl (ziw hT)) ?_;refine gz4 ?_;refine zao Ghost.clear rfl ⟨?_,rfl⟩
 show HVal.bool _=_
 focus first|rfl|(rw [hT0];simp;done)|(rw [q2];simp;done)|(simp_all;done)
 refine gz3 ?_;have hR0:zeK k15 y18=0:=by first|exact h2.2|simp_all
 obtain ⟨q1,q2,q3⟩:=zrX hR0;obtain ⟨hbz,hg0,hgz⟩:=zuF hR0;have hX:=zuT hbz;have hfb:=zvM hc15 hX.w hgz;rw [zqe,if_neg (fun q=>q hR0),q3];refine gz3 ?_;refine dq (zJ (h:=eSs k15.League.Teams) zp rfl rfl rfl) ?_;refine gz1 ?_;refine dq (uCl ca9 rfl (zeB (T:=k15.League.Teams) (l:=(zeR k15 y18)) hc15.bb.lea.tm (by rw [Af];exact hga) hfb)) ?_;refine gz3 ?_;refine uGr rfl (fun hc=>zav (f:=zam) (l:=(zeR k15 y18)) zcG rfl) ?_;refine gz2 ?_;refine uGr rfl (fun hc=>zJ (h:=zb3 k15.League.Games) zcG rfl rfl rfl) ?_;refine uGr rfl (fun hc=>zav (f:=zam) (l:=k15.League.Games) zcG rfl) ?_;refine gz3 ?_;refine z7 rfl (fun h3=> ?_) (fun h3=> ?_)
 exfalso
 try simp at h3
 simp_all
 try simp at h3
 refine gz5 ?_;refine dq (zJ (h:=eSs k15.League.Teams) zp rfl rfl rfl) ?_;refine gz3 ?_;refine dq (zJ (h:= .slice 1 (k15.League.Breaks.map (HVal.int .i64))) zX rfl rfl rfl) ?_;refine dq (uCl ca10 rfl (znJ (T:=k15.League.Teams) (g:=zeR k15 y18) (bs:=k15.League.Breaks) (by have q:=hl6;omega) (by rw [Af];exact hga) hfb hbr)) ?_;refine zc9 ?_;refine uGr rfl (fun hc=>by have hq:=hc;(try simp at hq);exact zY (h':= .bool true) (uCl ca11 rfl (zfq (l:=(zkg k15.League.Teams (zeR k15 y18) k15.League.Breaks)) (m:=(zkg k15.League.Teams (zeR k15 y18) k15.League.Breaks)) (by have q:=zDb (T:=k15.League.Teams) (g:=(zeR k15 y18)) (B:=k15.League.Breaks);omega))) (congrArg HVal.bool (zG2 _))) ?_;refine gz2 ?_;refine uGr rfl (fun hc=>uCl ca8 rfl (ziw hT)) ?_;refine gz4 ?_;refine zao Ghost.clear rfl ⟨?_,rfl⟩
 show HVal.bool _=_
 focus first|rfl|(rw [hT0];simp;done)|(rw [q2];simp;done)|(simp_all;done)
end
end Go.Proofs.YtnfmbjchkjijpaaGreatDoor
namespace Go.HL
section
open Go
theorem zzc {P:Program} (h:P.funcs.toList.any Func.goes=false) (f:FuncId):P.goes f=false:=by
 have hf: ∀g:Nat,(P.funcs[g]?).any Func.goes=false:=fun g=>by
  cases hg:P.funcs[g]? with
  |none=>rfl
  |some fn=>
    have:fn∈P.funcs.toList:=by
     obtain ⟨hlt,rfl⟩:=Array.getElem?_eq_some_iff.1 hg
     simp
    have:=List.any_eq_false.1 h fn this
    simpa using this
 have ha:P.funcs.any Func.goes=false:=by rw [<-Array.any_toList];exact h
 unfold Program.goes;rw [ha,Bool.and_false,Bo];rw [BZ]
 intro g _
 rw [hf g];simp
theorem goesBy_none {P:Program} {c:OpenClaim} (h:P.funcs.toList.any Func.goes=false):false=c.goesBy P:=by
 have hg:=zzc h;unfold OpenClaim.goesBy Program.goesAt Program.goesFrom;have h1:(P.funcNamed c.func).any P.goes=false:=by
  cases P.funcNamed c.func with
  |none=>rfl
  |some f=>exact hg f
 have h2:P.inits.toList.any P.goes=false:=List.any_eq_false.2 fun x _=>by rw [hg x];simp
 rw [h1]
 cases c.start<;>simp [h2,hg]
end
section
open Go
theorem zt7 {H:Type} {enc:TypeId×Value->H} {a:Assume} {C:Checked} {os:Os} {f:FuncId} {fn:Func} {s:ChangeSpec} {conds:List PathCond} {apart fresh handsOn again:Bool} {X:World->Array Value->Prop}
 (hX: ∀(w w':World) (args:Array Value),w.heap=w'.heap->X w args->X w' args)
 (own:ownKnob C.prog.godebug=none) (started:os.Started) (noInit:C.prog.inits.idxOf? f=none) (hfn:C.prog.funcs[f]? =some fn)
 (witness: ∃(w:World) (tape:Tape) (i:Input),w.os=os/\(w.forCall tape i).Shaped C.prog/\i.vars=[]/\Input.okWide C.prog (w.forCall tape i) .any w.heap.size f i/\
   ((s.pre enc C.prog fn conds apart (w.forCall tape i).memory i.args/\X (w.forCall tape i).memory i.args)/\sizedMet enc C.prog fn (OpenSpec.ofChange s) apart (w.forCall tape i).memory i.args)/\a.holds C.prog (lone (Frame.enter C.prog f i.args .normal) [] (w.forCall tape i)))
 (contract: ∀(W:World) (base:Nat) (args:Array Value) (ds gs:List (DataW H)) (before:List MemPlace),
   (∀(j:Nat) t v,fn.params[j]? =some t->args[j]? =some v->Value.okWide C.prog W .any base t v)->DataW.Whole enc C.prog fn.params.toList s.vars apart W args.toList ds gs before->
   X W args->W.ShapedOpen C.prog->Calls C.prog f args W fun e W'=> ∃v,e= .returned v/\s.post enc C.prog fn apart fresh handsOn again W args v W'):
 ReturnsInHanded a C os f .any (fun w args=>(s.pre enc C.prog fn conds apart w args/\X w args)/\sizedMet enc C.prog fn (OpenSpec.ofChange s) apart w args) (s.post enc C.prog fn apart fresh handsOn again):=by
 refine returnsInHanded_of_calls own started noInit witness fun w tape i _ hsh _ hok hpre _=> ?_
 obtain ⟨_,_,_,fn',hfn',_,_,_,_,hval⟩:=hok;obtain rfl:fn'=fn:=Ay (hfn'.symm.trans hfn);obtain ⟨⟨⟨ds,gs,before,hw,_⟩,hx⟩,_⟩:=hpre;refine (contract (w.forCall tape i) w.heap.size i.args ds gs before hval (DataW.Whole.of_heap (w':=w.forCall tape i) (by rfl) hw) (hX _ _ _ (by rfl) hx) hsh).mono fun e W' ⟨v,he,hp⟩=> ?_
 subst he;exact ChangeSpec.post_blind hp
end
section
open Go.Sort Go.Proofs Go.RowKit Go.Lib
variable {P:Program}
theorem zv3 {W:World} {laid:List (String×DataW Unit)} {i3 i4 g3 g4 t5 t119 t138 t139:Nat} {fs:Array Field} (h:laidMet P laid W)
 (e3:laid[i3]? =some ("unicode/utf8.first",firstData)) (e4:laid[i4]? =some ("unicode/utf8.acceptRanges",acceptData))
 (n3:P.globalNamed "unicode/utf8.first" =some g3) (n4:P.globalNamed "unicode/utf8.acceptRanges" =some g4) (y3:(P.globals[g3]?).map (·.type)=some t119) (y4:(P.globals[g4]?).map (·.type)=some t139)
 (u5:P.underlying t5=some (.int .u8)) (u119:P.underlying t119=some (.array 256 t5)) (u138:P.underlying t138=some (.struct fs)) (u139:P.underlying t139=some (.array 16 t138))
 (c5:P.cellsOf t5=1) (c119:P.cellsOf t119=256) (c138:P.cellsOf t138=2) (hs:fs.size=2) (hf:(fs.toList.map fun f=>(f.type,f.offset))=[(t5,0),(t5,1)]):
 (∀c,c<256->W.cell? ⟨g3,c,none⟩=some (.int .u8 (Lib.firstT c)))/\(∀i,i<16->W.cell? ⟨g4,2*i,none⟩=some (.int .u8 (Lib.accLo i))/\W.cell? ⟨g4,2*i+1,none⟩=some (.int .u8 (Lib.accHi i))):=by
 obtain ⟨ps,h1,_⟩:=h;have h3:VarReads P W "unicode/utf8.first" firstData:=zsB h1 i3 e3;have h4:VarReads P W "unicode/utf8.acceptRanges" acceptData:=zsB h1 i4 e4;refine ⟨fun c hc=> ?_,fun i hi=> ?_⟩
 obtain ⟨g,t,cs,fuel,p,hg,hty,hvar,hd⟩:=h3;obtain rfl:=Ay (n3.symm.trans hg);obtain rfl:=Ay (y3.symm.trans hty);have hcs:=cells_of_tab u119 u5 c5 c119 hd;have:=World.var?_cell hg hvar c;rw [this,<-AU,hcs]
 simp [firstTab,hc]
 obtain ⟨g,t,cs,fuel,p,hg,hty,hvar,hd⟩:=h4;obtain rfl:=Ay (n4.symm.trans hg);obtain rfl:=Ay (y4.symm.trans hty);obtain ⟨fuel',d,q,hdi,he⟩:=array_elem u139 hd i hi;simp only [Ah,BQ hi,AK,Az] at hdi;subst hdi;rw [c138] at he;have hcs:=ints_of_struct u138 (fun j f hj=>by
  have hq:(fs.toList.map fun f=>(f.type,f.offset))[j]? =some (f.type,f.offset):=by rw [Ah,AU,hj];rfl
  rw [hf] at hq
  match j,hq with
  |0,hq=>simp at hq;exact ⟨by rw [<-hq.1];exact u5,hq.2.symm,by rw [<-hq.1];exact c5⟩
  |1,hq=>simp at hq;exact ⟨by rw [<-hq.1];exact u5,hq.2.symm,by rw [<-hq.1];exact c5⟩
  |j+2,hq=>simp at hq) (by rw [c138,hs]) he
 have a0:=congrArg (·[0]?) hcs;have a1:=congrArg (·[1]?) hcs;simp only [Ba,AG] at a0 a1
 constructor
 rw [World.var?_cell hg hvar (2*i),<-AU]
 simpa [BP] using a0
 rw [World.var?_cell hg hvar (2*i+1),<-AU]
 simpa [BP] using a1
theorem zvZ [Tracks] {W:World} (hp:P.globalNamed "internal/strconv.uint64pow10" =none)
 (hl: ∀g,P.globalNamed "internal/bytealg.MaxLen" =some g->∃m,W.cell? ⟨g,0,none⟩=some (.int .i64 m))
 (hu: ∀g3 g4,P.globalNamed "unicode/utf8.first" =some g3->P.globalNamed "unicode/utf8.acceptRanges" =some g4->(∀c,c<256->W.cell? ⟨g3,c,none⟩=some (.int .u8 (Lib.firstT c)))/\(∀i,i<16->W.cell? ⟨g4,2*i,none⟩=some (.int .u8 (Lib.accLo i))/\W.cell? ⟨g4,2*i+1,none⟩=some (.int .u8 (Lib.accHi i)))):TabI P (zcF W):=by
 refine ⟨fun g hg=>(by rw [hp] at hg;cases hg),fun g hg=> ?_,fun g3 g4 h3 h4=> ?_⟩
 obtain ⟨m,hm⟩:=hl g hg;unfold World.cell? at hm
 cases hh:W.heap[g]? with
 |none=>rw [hh] at hm;cases hm
 |some o=>
   rw [hh] at hm
   cases o with
   |cells c t fr=>exact ⟨c,t,fr,m,hh,by simpa using hm⟩
   |_=>cases hm
 obtain ⟨u1,u2⟩:=hu g3 g4 h3 h4;have key: ∀(g:Nat) (v:Value),W.cell? ⟨g,0,none⟩=some v->∃c t fr,W.heap[g]? =some (.cells c t fr):=fun g v hv=>by
  unfold World.cell? at hv
  cases hh:W.heap[g]? with
  |none=>rw [hh] at hv;cases hv
  |some o=>
    rw [hh] at hv
    cases o with
    |cells c t fr=>exact ⟨c,t,fr,rfl⟩
    |_=>cases hv
 obtain ⟨c3,t3,f3,x3⟩:=key g3 _ (u1 0 (by omega));obtain ⟨c4,t4,f4,x4⟩:=key g4 _ (u2 0 (by omega)).1;refine ⟨c3,t3,f3,c4,t4,f4,x3,x4,fun k hk=> ?_,fun i hi=> ?_⟩
 rw [<-zcm x3];exact u1 k hk;exact ⟨by rw [<-zcm x4];exact (u2 i hi).1,by rw [<-zcm x4];exact (u2 i hi).2⟩
end
end Go.HL
namespace Go.Proofs.YtnfmbjchkjijpaaGreatDoor
section
open Go.Proofs.Tryz
open Go.ChangeShapes Go.WideShapes Go.ChangeAt Go.RowKit Go.HL
theorem zl7:ownKnob prog.godebug=none:=by kernel_rfl
theorem zfH:laidOutB prog=true:=by kernel_rfl
theorem zkG:prog.cellsOf 3=1:=by kernel_rfl
theorem zmc {W:World} (h:laidMetH prog Rows.topTableIsOfResultsRow.laid W) (hsh:W.ShapedOpen prog):TabI prog (zcF W):=by
 rw [MakeChecks.laidMetH_plain _ _ _ (by kernel_rfl)] at h
 letI:Tracks:=⟨false⟩
 refine zvZ (by kernel_rfl) (fun g hg=> ?_) (fun g3 g4 h3 h4=> ?_)
 obtain rfl:0=g:=Ay ((show prog.globalNamed "internal/bytealg.MaxLen" =some 0 by kernel_rfl).symm.trans hg);exact Go.Proofs.cell_of_shapedOpen_int (zero:= #[.int .i64 0]) (t:=3) hsh (of_decide_eq_true (by kernel_rfl)) (by kernel_rfl) rfl (by kernel_rfl) (by kernel_rfl) underlying3;obtain rfl:1=g3:=Ay ((show prog.globalNamed "unicode/utf8.first" =some 1 by kernel_rfl).symm.trans h3);obtain rfl:2=g4:=Ay ((show prog.globalNamed "unicode/utf8.acceptRanges" =some 2 by kernel_rfl).symm.trans h4);exact zv3 (i3:=1) (i4:=0) h (by kernel_rfl) (by kernel_rfl) (by kernel_rfl) (by kernel_rfl) (by kernel_rfl) (by kernel_rfl) underlying5 underlying364 underlying366 underlying367 (by kernel_rfl) (by kernel_rfl) (by kernel_rfl) rfl rfl
theorem zkF {W:World} (ht:TabI prog (zcF W)) {a:Option Addr} {len cap:Nat} {H:Type} {enc:TypeId×Value->H} {d0:DataW H} {p:List MemPlace} (h:DataW.Trod enc prog W 0 (fun _=>true) true 22 (.slice a len cap) d0 p):
 Calls prog 3 #[.slice a len cap] W fun e W'=>e= .returned (.bool true)/\Below W.heap.size W W':=by
 obtain ⟨fuel,hf⟩:=h
 rcases open_ints underlying22 underlying3 zkG hf with ⟨hcs,hx⟩|⟨a',len',cap',zs,hcs,_,hl,hm,hz,hx,hcell,hwz⟩
 simp [Value.cells] at hcs
 obtain ⟨rfl,rfl,rfl⟩:=hcs
 letI:Tracks:=⟨false⟩
 exact zu5 (l:=[]) (zez rfl) ht (.slice0 _ _ _)
 simp [Value.cells] at hcs
 obtain ⟨rfl,rfl,rfl⟩:=hcs;simp only [if_true] at hz
 letI:Tracks:=⟨false⟩
 exact zu5 (l:=zs.take len) (zez rfl) ht (zED hcell (by omega) hl)
set_option maxRecDepth 100000 in
theorem zjR (os:Os) (started:os.Started) (H:Type) (enc:TypeId×Value->H):
 ReturnsInHanded {} Tryz.checked os 3 .any (fun w args=>(Rows.topTableIsOfResultsSpec.pre enc prog f3 Rows.topTableIsOfResultsRow.domain false w args/\laidMetH prog Rows.topTableIsOfResultsRow.laid w)/\sizedMet enc prog f3 (OpenSpec.ofChange Rows.topTableIsOfResultsSpec) false w args)
  (Rows.topTableIsOfResultsSpec.post enc prog f3 false true false false):=by
 refine zt7 (C:=Tryz.checked) (X:=fun w _=>laidMetH prog Rows.topTableIsOfResultsRow.laid w) (fun _ _ _ hh h=>h.of_heap hh) zl7 started (by kernel_rfl) func3
  (ChangeSpec.witness_shaped (enc:=enc) (C:=Tryz.checked) (os:=os) (X:=fun w _=>laidMetH prog Rows.topTableIsOfResultsRow.laid w) false (World.laidAll prog os Rows.topTableIsOfResultsRow.laid) #[.slice none 0 0] 8 (World.laidAll_os _ _ _)
    (World.shaped_of_ZipB (by kernel_rfl) (by kernel_rfl)) (by kernel_rfl) (by kernel_rfl) (by kernel_rfl)
    (by rw [MakeChecks.laidMetH_plain _ _ _ (by kernel_rfl)];exact laidMet_laidAll _ (by kernel_rfl) (by kernel_rfl))) ?_
 intro W base args ds gs before hval0 hW hL hsh
 have hval: ∀(j:Nat) t v,f3.params[j]? =some t->args[j]? =some v->Value.okWide prog W .any base t v:=hval0
 have hW':=hW;obtain ⟨p,q,hA0,hV,rfl,_,_⟩:=hW;have hA:DataW.TrodAll enc prog W 0 (fun _=>true) true f3.params.toList args.toList ds p:=hA0;rw [Tryz.params3] at hA hval;obtain ⟨v0,d0,rfl,rfl,h0⟩:=trodAll_one hA;obtain ⟨rfl,rfl⟩:=trodVars_none hV;obtain ⟨a0,len,cap,rfl⟩:=okWide_slice underlying22 (hval 0 22 v0 rfl rfl);simp only [A9] at hW';have hlt: ∀x∈p,x.block<W.heap.size:=fun x hx=>by simpa using hW'.lt x hx
 refine (zkF (zmc hL hsh) h0).mono fun e W' ⟨he,hb⟩=> ?_
 subst he;have hargs:DataW.Trod enc prog W' 0 (fun b=>decide (b<W.heap.size)) true 22 (.slice a0 len cap) d0 p:=
  Below.trod zfH (by kernel_rfl) (of_decide_eq_true (by kernel_rfl)) h0 hb hlt
 exact ⟨_,rfl,_,_,_,[],p,[],hW',trodAll_mk1 (shut_bool underlying4 _),trodAll_mk1 hargs,rfl,hb.frame _,fun h=>by cases h⟩
theorem zle:mapsRowed prog=true:=by kernel_rfl
theorem zla:(Rows.topTableIsOfResultsRow.inPlace==prog.inPlace 3)=true:=by kernel_rfl
theorem zlh:(Rows.topTableIsOfResultsRow.unfollowed==prog.unfollowed 3)=true:=by kernel_rfl
theorem zlf:(Rows.topTableIsOfResultsRow.recurses==prog.recurses 3)=true:=by kernel_rfl
theorem zli:(Rows.topTableIsOfResultsRow.named==prog.varsNamed 3)=true:=by kernel_rfl
theorem zlb:joinedFacts prog 3 f3 Rows.topTableIsOfResultsSpec Rows.topTableIsOfResultsRow=true:=by
 simp only [joinedFacts,Bi]
 repeat' apply And.intro
 all_goals first
  |with_reducible exact zfH
  |with_reducible exact zle
  |with_reducible exact zla
  |with_reducible exact zlh
  |with_reducible exact zlf
  |with_reducible exact zli
  |kernel_rfl
theorem zlc:false=prog.looks []:=by kernel_rfl
theorem zk9:false=Rows.topTableIsOfResultsRow.goesBy prog:=Go.HL.goesBy_none (by kernel_rfl)
theorem zlj:Rows.topTableIsOfResultsRow.wfByText (OpenSpec.ofChange Rows.topTableIsOfResultsSpec)=true:=by kernel_rfl
theorem zld:prog.mainIs=some ("c1429b2120b954c04b48dca5e86954feec5ed42a97c165899bf0c8920cb655a9" |>fun h=>(true,h.toList)):=by kernel_rfl
theorem zlg:([22].all fun u=> !prog.wantsStandIn u)=true:=by kernel_rfl
theorem zgW:prog.funcNamed Rows.topTableIsOfResultsRow.func=some 3:=by kernel_rfl
theorem zkN:Rows.TopTableIsOfResultsSaid:=
 OpenClaim.holds_of_wide 3 f3 rfl rfl rfl rfl rfl rfl rfl ⟨rfl,rfl,rfl,rfl,rfl⟩ rfl rfl rfl rfl rfl zgW func3 zlb
  (of_decide_eq_true (by kernel_rfl)) (by unfold Func.isWrapper;first|(rw [if_pos (by decide+kernel)];kernel_rfl)|(rw [if_neg (by decide+kernel)];exact ⟨rfl,rfl⟩))
  (fun os started H enc _=>zjR os started H enc)
theorem cardTopTableIsOfResults:Rows.TopTableIsOfResultsCardSaid:=
 Claim7.holds_tied_plain_at .later [] [.data,.pinned] true (true,"c1429b2120b954c04b48dca5e86954feec5ed42a97c165899bf0c8920cb655a9") false zkN (fun _ h=>by cases h) zlj (fun _ h=>by cases h) topTableIsOfResults_row_tie rfl ⟨rfl,rfl⟩ zld rfl
  (fun f fn hf hfn=>by
    obtain rfl:f=3:=Ay (zgW.symm.trans hf)|>.symm
    obtain rfl:fn=f3:=(Ay (func3.symm.trans hfn)).symm;exact ⟨zlc,fun j t ht=>by
     rw [Tryz.params3] at ht;have hm:t∈[22]:=by simpa using Array.mem_of_getElem? ht
     have hall:=zlg;exact (show prog.wantsStandIn t=false by simpa using List.all_eq_true.1 hall t hm)⟩)
  zk9
end
end Go.Proofs.YtnfmbjchkjijpaaGreatDoor
