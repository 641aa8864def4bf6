/- The values of places; sums and products of places: they rise, they turn round. -/
import Derived.Test.YtfmecpembnmnkaaGreatDoorPIF
import Derived.Test.YtfmecpembnmnkaaGreatDoorPGC
import Derived.Test.YtfmecpembnmnkaaGreatDoorPHB
import Derived.Deep.CutRange
namespace Go.Proofs.YtfmecpembnmnkaaGreatDoor
section
open Go.RowKit
def vv (k:Int):Int:=vI 1074 (kb k)
theorem kX {k:Int}(h1: -(aG:Int)<k) (h2:k<aG):W64 (kb k)∧aK (kb k)=true∧aU (kb k)=false∧ky (kb k)=k:=by
 obtain⟨a,b,c⟩:=jY (k:=k) (by omega) (by omega)
 exact⟨a,(gW a b).2 (by omega),dF.2 b,c⟩
theorem zY {k:Int}(h1: -(aG:Int)≤k) (h2:k≤aG):aK (kb k)=decide (-(aG:Int)<k∧k<aG):=by
 obtain⟨a,b,c⟩:=jY (k:=k) (by omega) (by omega)
 have h:=gW a b
 rw [c]at h
 cases hf:aK (kb k)
 ·exact(decide_eq_false (fun h3=>by have:=h.2 h3;rw [hf]at this;cases this)).symm
 ·exact(decide_eq_true (h.1 hf)).symm
theorem aTd :vv 0=0:=by unfold vv;rw [aLa];exact mJ _
theorem aEi {k j:Int}(h1: -(aG:Int)<k) (h2:k<aG) (h3: -(aG:Int)<j) (h4:j<aG):k≤j↔vv k≤vv j:=by
 obtain⟨a,b,c,d⟩:=kX h1 h2
 obtain⟨a',b',c',d'⟩:=kX h3 h4
 have:=iG a a' b b' (Int.le_refl 1074)
 rw [d,d']at this
 exact this
theorem aIz {k:Int}(h1: -(aG:Int)<k) (h2:k<aG):(0≤k↔0≤vv k)∧(k≤0↔vv k≤0):=by
 have hk:(0:Int)<aG:=by decide
 have a:=aEi (k:=0) (j:=k) (by omega) hk h1 h2
 have b:=aEi (k:=k) (j:=0) h1 h2 (by omega) hk
 rw [aTd]at a b
 exact⟨a,b⟩
theorem aPx {x y x' y':Int}(mode:Int) (hx: -(aG:Int)<x∧x<aG) (hy: -(aG:Int)<y∧y<aG) (hx': -(aG:Int)<x'∧x'<aG) (hy': -(aG:Int)<y'∧y'<aG)
  (h:vv x+vv y≤vv x'+vv y'):adK (kb x) (kb y) mode≤adK (kb x') (kb y') mode:=by
 have e1:=gV (kX hx.1 hx.2).2.1
 have e2:=gV (kX hy.1 hy.2).2.1
 have e3:=gV (kX hx'.1 hx'.2).2.1
 have e4:=gV (kX hy'.1 hy'.2).2.1
 unfold adK
 refine pV (M:=1074) mode (by omega) (aAq (by omega) (by omega)) (aAq (by omega) (by omega)) ?_
 rw [aBw (by omega) (by omega),aBw (by omega) (by omega)]
 exact h
theorem aVs (x y:Nat):adK x y 4≤adK x y 3∧adK x y 4<aG∧-(aG:Int)≤adK x y 4∧-(aG:Int)<adK x y 3∧adK x y 3≤aG:=by
 have h:=kC (plZ (aO x) (pE x) (aO y) (pE y)) (plE (aO x) (pE x) (aO y) (pE y))
 have h2:=iH (plZ (aO x) (pE x) (aO y) (pE y)) (plE (aO x) (pE x) (aO y) (pE y))
 obtain⟨a,b⟩:=bU (plZ (aO x) (pE x) (aO y) (pE y)) (plE (aO x) (pE x) (aO y) (pE y)) 3
 have h3:=kQ a b
 unfold adK
 omega
theorem aXu (x y:Nat):mlK x y 4≤mlK x y 3∧mlK x y 4<aG∧-(aG:Int)≤mlK x y 4∧-(aG:Int)<mlK x y 3∧mlK x y 3≤aG:=by
 have h:=kC (aO x*aO y) (pE x+pE y)
 have h2:=iH (aO x*aO y) (pE x+pE y)
 obtain⟨a,b⟩:=bU (aO x*aO y) (pE x+pE y) 3
 have h3:=kQ a b
 unfold mlK
 omega
end
section
open Go.RowKit
theorem kF :(0:Int)<aG:=by decide
theorem aLt {x y:Int}(hx: -(aG:Int)≤x∧x≤aG) (hy: -(aG:Int)≤y∧y≤aG) (mode:Int):
  suK (kb x) (kb y) mode=if-(aG:Int)<x∧x<aG then(if-(aG:Int)<y∧y<aG then adK (kb x) (kb y) mode else y)else x:=by
 unfold suK
 rw [zY hx.1 hx.2,zY hy.1 hy.2,(jY hx.1 hx.2).2.2,(jY hy.1 hy.2).2.2]
 by_cases h1: -(aG:Int)<x∧x<aG
 ·by_cases h2: -(aG:Int)<y∧y<aG
  ·rw [decide_eq_true h1,decide_eq_true h2,if_neg (by decide),if_neg (by decide),if_pos h1,if_pos h2]
  ·rw [decide_eq_true h1,decide_eq_false h2,if_neg (by decide),if_pos rfl,if_pos h1,if_neg h2]
 ·rw [decide_eq_false h1,if_pos rfl,if_neg h1]
theorem aF8 {a b:Option (Int×Int)}(ha:Iok a) (hb:Iok b):Iok (nM a b):=by
 rcases a with _|⟨l,h⟩
 ·exact Iok.none
 rcases b with _|⟨m,k⟩
 ·exact Iok.none
 obtain⟨a1,a2,a3,a4,a5⟩:=ha l h rfl
 obtain⟨b1,b2,b3,b4,b5⟩:=hb m k rfl
 intro x y e
 have e2:(suK (kb l) (kb m) 4,suK (kb h) (kb k) 3)=(x,y):=Option.some.inj e
 obtain⟨rfl,rfl⟩:=Prod.mk.inj e2
 rw [aLt ⟨by omega,by omega⟩ ⟨by omega,by omega⟩,aLt ⟨by omega,by omega⟩ ⟨by omega,by omega⟩]
 have c1:=aVs (kb l) (kb m)
 have c2:=aVs (kb h) (kb k)
 by_cases f1: -(aG:Int)<l∧l<aG<;>by_cases f2: -(aG:Int)<m∧m<aG<;>by_cases f3: -(aG:Int)<h∧h<aG<;>by_cases f4: -(aG:Int)<k∧k<aG<;>
  simp only [f1,f2,f3,f4,and_self,if_true,if_false]<;>try omega
 have:=aPx 4 f1 f2 f3 f4 (Int.add_le_add ((aEi f1.1 f1.2 f3.1 f3.2).1 a2) ((aEi f2.1 f2.2 f4.1 f4.2).1 b2))
 omega
theorem aK2 {x y:Int}(hx: -(aG:Int)≤x∧x≤aG) (hy: -(aG:Int)≤y∧y≤aG) (mode:Int):
  prK (kb x) (kb y) mode=if x=0∨y=0 then 0 else if(-(aG:Int)<x∧x<aG)∧(-(aG:Int)<y∧y<aG)then mlK (kb x) (kb y) mode else if(0<x↔0<y)then(aG:Int)else-(aG:Int):=by
 unfold prK sgK
 rw [zY hx.1 hx.2,zY hy.1 hy.2,(jY hx.1 hx.2).2.2,(jY hy.1 hy.2).2.2]
 by_cases h0:x=0∨y=0
 ·rw [if_pos h0,if_pos h0]
 ·rw [if_neg h0,if_neg h0]
  by_cases h1: -(aG:Int)<x∧x<aG<;>by_cases h2: -(aG:Int)<y∧y<aG<;>by_cases h3:0<x<;>by_cases h4:0<y<;>simp [h1,h2,h3,h4]
theorem aK9 {x y:Int}(hx: -(aG:Int)≤x∧x≤aG) (hy: -(aG:Int)≤y∧y≤aG):
  prK (kb x) (kb y) 4≤prK (kb x) (kb y) 3∧-(aG:Int)≤prK (kb x) (kb y) 4∧prK (kb x) (kb y) 3≤aG∧
  (prK (kb x) (kb y) 4=aG→(x=aG∨x= -aG∨y=aG∨y= -aG)∧((0<x∧0<y)∨(x<0∧y<0)))∧
  (prK (kb x) (kb y) 3= -aG→(x=aG∨x= -aG∨y=aG∨y= -aG)∧((0<x∧y<0)∨(x<0∧0<y))):=by
 rw [aK2 hx hy,aK2 hx hy]
 have hb:=aXu (kb x) (kb y)
 have hk:=kF
 by_cases h0:x=0∨y=0
 ·rw [if_pos h0,if_pos h0];omega
 ·rw [if_neg h0,if_neg h0]
  by_cases h1:(-(aG:Int)<x∧x<aG)∧(-(aG:Int)<y∧y<aG)
  ·rw [if_pos h1,if_pos h1];omega
  ·rw [if_neg h1,if_neg h1]
   by_cases h3:(0<x↔0<y)
   ·rw [if_pos h3];omega
   ·rw [if_neg h3];omega
theorem aLc {a b:Option (Int×Int)}(ha:Iok a) (hb:Iok b):Iok (tH a b):=by
 rcases a with _|⟨l,h⟩
 ·exact Iok.none
 rcases b with _|⟨m,k⟩
 ·exact Iok.none
 obtain⟨a1,a2,a3,a4,a5⟩:=ha l h rfl
 obtain⟨b1,b2,b3,b4,b5⟩:=hb m k rfl
 intro x y e
 obtain⟨rfl,rfl⟩:=Prod.mk.inj (Option.some.inj e)
 have c1:=aK9 (x:=l) (y:=m) ⟨by omega,by omega⟩ ⟨by omega,by omega⟩
 have c2:=aK9 (x:=l) (y:=k) ⟨by omega,by omega⟩ ⟨by omega,by omega⟩
 have c3:=aK9 (x:=h) (y:=m) ⟨by omega,by omega⟩ ⟨by omega,by omega⟩
 have c4:=aK9 (x:=h) (y:=k) ⟨by omega,by omega⟩ ⟨by omega,by omega⟩
 have hk:=kF
 generalize prK (kb l) (kb m) 4=p1 at*
 generalize prK (kb l) (kb k) 4=p2 at*
 generalize prK (kb h) (kb m) 4=p3 at*
 generalize prK (kb h) (kb k) 4=p4 at*
 generalize prK (kb l) (kb m) 3=q1 at*
 generalize prK (kb l) (kb k) 3=q2 at*
 generalize prK (kb h) (kb m) 3=q3 at*
 generalize prK (kb h) (kb k) 3=q4 at*
 clear e
 generalize (aG:Int)=I at*
 obtain⟨c11,c12,c13,c14,c15⟩:=c1
 obtain⟨c21,c22,c23,c24,c25⟩:=c2
 obtain⟨c31,c32,c33,c34,c35⟩:=c3
 obtain⟨c41,c42,c43,c44,c45⟩:=c4
 refine⟨by omega,by omega,by omega,?_,?_⟩
 ·have:p1<I∨p2<I∨p3<I∨p4<I:=by
   clear c15 c25 c35 c45
   by_cases g1:p1=I
   ·by_cases g2:p2=I
    ·by_cases g3:p3=I
     ·by_cases g4:p4=I
      ·have:=c14 g1;have:=c24 g2;have:=c34 g3;have:=c44 g4;omega
      ·omega
     ·omega
    ·omega
   ·omega
  omega
 ·have: -I<q1∨-I<q2∨-I<q3∨-I<q4:=by
   clear c14 c24 c34 c44
   by_cases g1:q1= -I
   ·by_cases g2:q2= -I
    ·by_cases g3:q3= -I
     ·by_cases g4:q4= -I
      ·have:=c15 g1;have:=c25 g2;have:=c35 g3;have:=c45 g4;omega
      ·omega
     ·omega
    ·omega
   ·omega
  omega
end
end Go.Proofs.YtfmecpembnmnkaaGreatDoor
