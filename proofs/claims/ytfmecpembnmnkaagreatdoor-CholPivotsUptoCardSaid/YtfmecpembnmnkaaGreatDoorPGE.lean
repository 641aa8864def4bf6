/- Walks: big.Int's sums. Printed by wip/gen/int5.py. -/
import Derived.Test.YtfmecpembnmnkaaGreatDoorPGD
namespace Go.Proofs.YtfmecpembnmnkaaGreatDoor
section
set_option maxRecDepth 100000
set_option maxHeartbeats 6400000
open Go.RowKit
theorem aH7 (X:Int) (N:Nat) (neg:Bool):
  ((decide (X<0)=neg)→(if neg then-((X.natAbs+N:Nat):Int)else((X.natAbs+N:Nat):Int))=X+(if neg then-(N:Int)else N))∧
  ((decide (X<0)= !neg)→(N≤X.natAbs→(if decide (X<0)then-((X.natAbs-N:Nat):Int)else((X.natAbs-N:Nat):Int))=X+(if neg then-(N:Int)else N))∧
   (X.natAbs≤N→(if neg then-((N-X.natAbs:Nat):Int)else((N-X.natAbs:Nat):Int))=X+(if neg then-(N:Int)else N))):=by
 have hx:=jQ X
 generalize X.natAbs=ax at*
 generalize decide (X<0)=sx at*
 subst hx
 cases sx<;>cases neg<;>simp<;>omega
theorem aGm (b o c p N:Nat) (neg:Bool) (v:Value) (X:Int) (w:World) (hz:fO w b o) (hx:bM w c p X) (hv:Raw .u64 64 w v (ln 64 N) N) (hl:ln 64 X.natAbs≤68719476736) (hk:ln 64 N≤68719476736):
  Calls Tryz.prog 265 #[.pointer (some ⟨b,o,none⟩),.pointer (some ⟨c,p,none⟩),.bool neg,v] w (Puts .u64 64 b o (X+(if neg then-(N:Int)else N)) w):=by
 obtain⟨hxs,hx0,vx,hx1,hrx⟩:=hx
 have hcx:=hxs.1
 have HRx:=jH hrx
 have HV:=jH hv
 have HZ:=jH hz
 obtain⟨f1,f2⟩:=aH7 X N neg
 generalize decide (X<0)=sx at*
 generalize X.natAbs=ax at*
 generalize X+(if neg then-(N:Int)else N)=R at*
 clear hrx hxs hz hv
 by_cases hs:sx=neg
 ·subst hs
  have HF:=jH (f1 rfl)
  have hb:(sx==sx)=true:=by simp
  clear f1 f2
  go_enter Tryz.func265,Tryz.ntmps265
  go_wp2_with fail
  refine(sum_any _ _ _ _ ax N _ HRx.out HV.out ⟨by omega,by omega⟩).mono ?_
  rintro e w1 ⟨v1,rfl,hb1,hr1⟩
  have HB:=jH hb1
  have HR1:=jH hr1
  clear hb1 hr1
  go_wp2_with fail
  refine(fZ b o _ sx _ _ (HZ.out.below HB.out) HR1.out).mono ?_
  rintro e w2 ⟨rfl,hi2,hm2⟩
  have HF2:=jH hi2
  have HM:=jH ((Mod.of_below HB.out HZ.out.1).trans HZ.out.1 hm2)
  clear hi2 hm2
  go_wp2
  go_ret
  rw [←HF.out]
  exact⟨rfl,HF2.out,HM.out⟩
 ·obtain rfl:sx= !neg:=by revert hs;cases sx<;>cases neg<;>simp
  have hb:((!neg)==neg)=false:=by cases neg<;>rfl
  obtain⟨f2,f3⟩:=f2 rfl
  clear f1 hs
  by_cases hge:N≤ax
  ·have HF:=jH (f2 hge)
   have HGE:=jH hge
   have hcmp:decide (dQ ax N<0)=false:=by
    rw [decide_eq_false_iff_not];unfold dQ;rw [if_neg (by omega)];split<;>omega
   have hcmp2:(0:Int)≤dQ ax N:=by simpa using hcmp
   clear f2 f3 hge hcmp
   generalize hcz:dQ (ax:Int) N=cz at hcmp2
   have HCZ:=jH hcz
   clear hcz
   go_enter Tryz.func265,Tryz.ntmps265
   go_wp2_with fail
   refine(qF _ _ ax N _ HRx.out HV.out).mono ?_
   rintro e wd ⟨rfl,nd,rfl⟩
   rw [HCZ.out]
   go_wp2_with fail
   refine bP (fun w'=>w'.cell? ⟨c,p,none⟩=some (.bool (!neg))∧w'.cell? ⟨c,p+1,none⟩=some vx) 11 [(0,true),(1,true),(2,true),(3,true),(4,true),(5,true),(6,true),(7,true),(8,true),(9,true),(10,false)] (by kernel_rfl) (by kernel_rfl) ?_
   have hS:(fun w':World=>w'.cell? ⟨c,p,none⟩=some (.bool (!neg))∧w'.cell? ⟨c,p+1,none⟩=some vx) (w.drewN nd).drew:=⟨by go_simp,by go_simp⟩
   repeat (refine bI (v:= ?_) rfl (fun _ _ _ h=>h) rfl (fun w' hSw=> ?_) hS ?_;rotate_left;focus (go_simp;with_reducible rfl);try simp only [Act.put,aF])
   refine dN rfl fun K' hK=> ?_
   go_simp
   have HB0:Hid (Below w.heap.size w (w.drewN nd).drew):=jH ⟨rfl,rfl,rfl,Nat.le_refl _,fun _ _=>rfl⟩
   refine(aHq _ _ _ _ ax N _ (HRx.out.below HB0.out) (HV.out.below HB0.out) ⟨by omega,by omega⟩ HGE.out).mono ?_
   rintro e w1 ⟨v1,rfl,hb1,hr1⟩
   have HB:=jH (HB0.out.trans hb1)
   have HR1:=jH hr1
   refine hK _ _ ⟨(HB.out.cell (p:=⟨c,p,none⟩) hcx).trans hx0,(HB.out.cell (p:=⟨c,p+1,none⟩) hcx).trans hx1⟩ ?_
   clear hK K' hb1 hr1 hS
   refine dG ?_
   simp only [drL]
   go_wp2_with fail
   refine(fZ b o _ _ _ _ (HZ.out.below HB.out) HR1.out).mono ?_
   rintro e w2 ⟨rfl,hi2,hm2⟩
   have HF2:=jH hi2
   have HM:=jH ((Mod.of_below HB.out HZ.out.1).trans HZ.out.1 hm2)
   clear hi2 hm2
   go_wp2
   go_ret
   rw [←HF.out]
   exact⟨rfl,HF2.out,HM.out⟩
  ·have HF:=jH (f3 (by omega))
   have HLE:Hid (ax≤N):=jH (by omega)
   have hcmp2:dQ ax N<0:=by unfold dQ;rw [if_pos (by omega)];decide
   clear f2 f3 hge
   generalize hcz:dQ (ax:Int) N=cz at hcmp2
   have HCZ:=jH hcz
   clear hcz
   go_enter Tryz.func265,Tryz.ntmps265
   go_wp2_with fail
   refine(qF _ _ ax N _ HRx.out HV.out).mono ?_
   rintro e wd ⟨rfl,nd,rfl⟩
   rw [HCZ.out]
   go_wp2_with fail
   have HB0:Hid (Below w.heap.size w (w.drewN nd)):=jH ⟨rfl,rfl,rfl,Nat.le_refl _,fun _ _=>rfl⟩
   refine(aHq _ _ _ _ N ax _ (HV.out.below HB0.out) (HRx.out.below HB0.out) ⟨by omega,by omega⟩ HLE.out).mono ?_
   rintro e w1 ⟨v1,rfl,hb1,hr1⟩
   have HB:=jH (HB0.out.trans hb1)
   have HR1:=jH hr1
   clear hb1 hr1
   go_wp2_with fail
   refine(fZ b o _ neg _ _ (HZ.out.below HB.out) HR1.out).mono ?_
   rintro e w2 ⟨rfl,hi2,hm2⟩
   have HF2:=jH hi2
   have HM:=jH ((Mod.of_below HB.out HZ.out.1).trans HZ.out.1 hm2)
   clear hi2 hm2
   go_wp2
   go_ret
   rw [←HF.out]
   exact⟨rfl,HF2.out,HM.out⟩
theorem aTn (X Y:Int):X+(if decide (Y<0)then-(Y.natAbs:Int)else Y.natAbs)=X+Y:=by rw [jQ]
theorem aUb (X Y:Int):X+(if(!decide (Y<0))then-(Y.natAbs:Int)else Y.natAbs)=X-Y:=by rw [aGb];omega
theorem nZ (b o c p d q:Nat) (X Y:Int) (w:World) (hz:fO w b o) (hx:bM w c p X) (hy:bM w d q Y) (hl:ln 64 X.natAbs≤68719476736) (hk:ln 64 Y.natAbs≤68719476736):
  Calls Tryz.prog 244 #[.pointer (some ⟨b,o,none⟩),.pointer (some ⟨c,p,none⟩),.pointer (some ⟨d,q,none⟩)] w (Puts .u64 64 b o (X+Y) w):=by
 have HX:=jH hx
 obtain⟨hys,hy0,vy,hy1,hry⟩:=hy
 have HRy:=jH hry
 have HZ:=jH hz
 have HF:=jH (aTn X Y)
 generalize decide (Y<0)=sy at*
 generalize Y.natAbs=ay at*
 clear hx hz hry hys
 go_enter Tryz.func244,Tryz.ntmps244
 go_wp2_with fail
 refine bP (fun w'=>w'.cell? ⟨d,q,none⟩=some (.bool sy)∧w'.cell? ⟨d,q+1,none⟩=some vy) 10 [(0,true),(1,true),(2,true),(3,true),(4,true),(5,true),(6,true),(7,true),(8,true),(9,true)] (by kernel_rfl) (by kernel_rfl) ?_
 have hS:(fun w':World=>w'.cell? ⟨d,q,none⟩=some (.bool sy)∧w'.cell? ⟨d,q+1,none⟩=some vy) w.drew:=⟨by go_simp,by go_simp⟩
 repeat (refine bI (v:= ?_) rfl (fun _ _ _ h=>h) rfl (fun w' hSw=> ?_) hS ?_;rotate_left;focus (go_simp;with_reducible rfl);try simp only [Act.put,aF])
 clear hS
 refine dG ?_
 simp only [drL]
 go_wp2_with fail
 have HB0:Hid (Below w.heap.size w w.drew):=jH ((Below.refl _ _).drew)
 refine(aGm b o c p ay _ _ X _ (HZ.out.below HB0.out) (HX.out.below HB0.out) (HRy.out.below HB0.out) hl hk).mono ?_
 rintro e w2 ⟨rfl,hi2,hm2⟩
 have HF2:=jH hi2
 have HM:=jH ((Mod.of_below HB0.out HZ.out.1).trans HZ.out.1 hm2)
 clear hi2 hm2
 go_wp2
 go_ret
 rw [←HF.out]
 exact⟨rfl,HF2.out,HM.out⟩
theorem aSz (b o c p d q:Nat) (X Y:Int) (w:World) (hz:fO w b o) (hx:bM w c p X) (hy:bM w d q Y) (hl:ln 64 X.natAbs≤68719476736) (hk:ln 64 Y.natAbs≤68719476736):
  Calls Tryz.prog 279 #[.pointer (some ⟨b,o,none⟩),.pointer (some ⟨c,p,none⟩),.pointer (some ⟨d,q,none⟩)] w (Puts .u64 64 b o (X-Y) w):=by
 have HX:=jH hx
 obtain⟨hys,hy0,vy,hy1,hry⟩:=hy
 have HRy:=jH hry
 have HZ:=jH hz
 have HF:=jH (aUb X Y)
 generalize decide (Y<0)=sy at*
 generalize Y.natAbs=ay at*
 clear hx hz hry hys
 go_enter Tryz.func279,Tryz.ntmps279
 go_wp2_with fail
 refine bP (fun w'=>w'.cell? ⟨d,q,none⟩=some (.bool sy)∧w'.cell? ⟨d,q+1,none⟩=some vy) 11 [(0,true),(1,true),(2,true),(3,true),(4,true),(5,true),(6,true),(7,true),(8,true),(9,true),(10,true)] (by kernel_rfl) (by kernel_rfl) ?_
 have hS:(fun w':World=>w'.cell? ⟨d,q,none⟩=some (.bool sy)∧w'.cell? ⟨d,q+1,none⟩=some vy) w.drew:=⟨by go_simp,by go_simp⟩
 repeat (refine bI (v:= ?_) rfl (fun _ _ _ h=>h) rfl (fun w' hSw=> ?_) hS ?_;rotate_left;focus (go_simp;with_reducible rfl);try simp only [Act.put,aF])
 clear hS
 refine dG ?_
 simp only [drL]
 go_wp2_with fail
 have HB0:Hid (Below w.heap.size w w.drew):=jH ((Below.refl _ _).drew)
 refine(aGm b o c p ay _ _ X _ (HZ.out.below HB0.out) (HX.out.below HB0.out) (HRy.out.below HB0.out) hl hk).mono ?_
 rintro e w2 ⟨rfl,hi2,hm2⟩
 have HF2:=jH hi2
 have HM:=jH ((Mod.of_below HB0.out HZ.out.1).trans HZ.out.1 hm2)
 clear hi2 hm2
 go_wp2
 go_ret
 rw [←HF.out]
 exact⟨rfl,HF2.out,HM.out⟩
end
section
set_option maxRecDepth 100000
set_option maxHeartbeats 6400000
open Go.RowKit
theorem aS9 (X Y:Int):
  (decide (X<0)=false→decide (Y<0)=false→dQ X.natAbs Y.natAbs=dQ X Y)∧(decide (X<0)=true→decide (Y<0)=true→dQ Y.natAbs X.natAbs=dQ X Y)∧
   (decide (X<0)=true→decide (Y<0)=false→dQ X Y= -1)∧(decide (X<0)=false→decide (Y<0)=true→dQ X Y=1):=by
 simp only [decide_eq_true_eq,decide_eq_false_iff_not]
 unfold dQ
 refine⟨fun h1 h2=> ?_,fun h1 h2=> ?_,fun h1 h2=> ?_,fun h1 h2=> ?_⟩
 ·have e1:(X.natAbs:Int)=X:=by omega
  have e2:(Y.natAbs:Int)=Y:=by omega
  rw [e1,e2]
 ·have e1:(X.natAbs:Int)= -X:=by omega
  have e2:(Y.natAbs:Int)= -Y:=by omega
  rw [e1,e2]
  by_cases h3:X<Y
  ·rw [if_pos (by omega),if_pos h3]
  ·rw [if_neg (by omega),if_neg h3]
   by_cases h4:Y<X
   ·rw [if_pos (by omega),if_pos h4]
   ·rw [if_neg (by omega),if_neg h4]
 ·rw [if_pos (by omega)]
 ·rw [if_neg (by omega),if_pos (by omega)]
theorem Raw.drewN {k:IntKind}{s:Nat}{w:World}{v:Value}{n N:Nat}(h:Raw k s w v n N) (m:Nat):Raw k s (w.drewN m) v n N:=h.below ⟨rfl,rfl,rfl,Nat.le_refl _,fun _ _=>rfl⟩
theorem aXf (s a b k:Nat):dg s (a&&&b) k=dg s a k&&&dg s b k:=by unfold dg;rw [Nat.and_div_two_pow,Nat.and_mod_two_pow]
theorem aXd (s a b k:Nat):dg s (a|||b) k=dg s a k|||dg s b k:=by unfold dg;rw [Nat.or_div_two_pow,Nat.or_mod_two_pow]
theorem aTy (c p d q:Nat) (X Y:Int) (w:World) (hx:bM w c p X) (hy:bM w d q Y):
  Calls Tryz.prog 280 #[.pointer (some ⟨c,p,none⟩),.pointer (some ⟨d,q,none⟩)] w (aLf (.int .i64 (dQ X Y)) w):=by
 obtain⟨hxs,hx0,vx,hx1,hrx⟩:=hx
 obtain⟨hys,hy0,vy,hy1,hry⟩:=hy
 have HRx:=jH hrx
 have HRy:=jH hry
 obtain⟨f1,f2,f3,f4⟩:=aS9 X Y
 generalize decide (X<0)=sx at*
 generalize decide (Y<0)=sy at*
 generalize X.natAbs=ax at*
 generalize Y.natAbs=ay at*
 clear hrx hry hxs hys
 cases sx<;>cases sy
 ·
  have HF:=jH (f1 rfl rfl)
  clear f1 f2 f3 f4
  go_enter Tryz.func280,Tryz.ntmps280
  go_wp2
  go_quiet (fail)
  go_wp2
  refine bP (fun w':World=>w'.cell? ⟨c,p+1,none⟩=some vx∧w'.cell? ⟨d,q+1,none⟩=some vy) 8 [(0,true),(1,true),(2,true),(3,true),(4,true),(5,true),(6,true),(7,true)] (by kernel_rfl) (by kernel_rfl) ?_
  have hS:(fun w':World=>w'.cell? ⟨c,p+1,none⟩=some vx∧w'.cell? ⟨d,q+1,none⟩=some vy) (w.drewN nq).drew:=⟨by go_simp,by go_simp⟩
  repeat (refine bI (v:= ?_) rfl (fun _ _ _ h=>h) rfl (fun w' hSw=> ?_) hS ?_;rotate_left;focus (go_simp;with_reducible rfl);try simp only [Act.put,aF])
  clear hS
  refine dG ?_
  simp only [drL]
  go_wp2_with fail
  refine(qF _ _ ax ay (w.drewN (nq+1)) (HRx.out.drewN _) (HRy.out.drewN _)).mono ?_
  rintro e wd ⟨rfl,nd,rfl⟩
  go_wp2
  go_ret
  rw [←HF.out]
  exact⟨rfl,_,rfl⟩
 ·
  have HF:=jH (f4 rfl rfl)
  clear f1 f2 f3 f4
  go_enter Tryz.func280,Tryz.ntmps280
  go_wp2
  go_quiet (fail)
  go_wp2
  go_ret
  rw [HF.out]
  exact⟨rfl,_,rfl⟩
 ·
  have HF:=jH (f3 rfl rfl)
  clear f1 f2 f3 f4
  go_enter Tryz.func280,Tryz.ntmps280
  go_wp2
  go_quiet (fail)
  go_wp2
  go_ret
  rw [HF.out]
  exact⟨rfl,_,rfl⟩
 ·
  have HF:=jH (f2 rfl rfl)
  clear f1 f2 f3 f4
  go_enter Tryz.func280,Tryz.ntmps280
  go_wp2
  go_quiet (fail)
  go_wp2
  refine bP (fun w':World=>w'.cell? ⟨c,p+1,none⟩=some vx∧w'.cell? ⟨d,q+1,none⟩=some vy) 8 [(0,true),(1,true),(2,true),(3,true),(4,true),(5,true),(6,true),(7,true)] (by kernel_rfl) (by kernel_rfl) ?_
  have hS:(fun w':World=>w'.cell? ⟨c,p+1,none⟩=some vx∧w'.cell? ⟨d,q+1,none⟩=some vy) (w.drewN nq).drew:=⟨by go_simp,by go_simp⟩
  repeat (refine bI (v:= ?_) rfl (fun _ _ _ h=>h) rfl (fun w' hSw=> ?_) hS ?_;rotate_left;focus (go_simp;with_reducible rfl);try simp only [Act.put,aF])
  clear hS
  refine dG ?_
  simp only [drL]
  go_wp2_with fail
  refine(qF _ _ ay ax (w.drewN (nq+1)) (HRy.out.drewN _) (HRx.out.drewN _)).mono ?_
  rintro e wd ⟨rfl,nd,rfl⟩
  go_wp2
  go_ret
  rw [←HF.out]
  exact⟨rfl,_,rfl⟩
theorem aK4 (X:Int) (n:Nat):
  (decide (X<0)=false→(if false then-((X.natAbs/2^n:Nat):Int)else((X.natAbs/2^n:Nat):Int))=X/2^n)∧
  (decide (X<0)=true→X.natAbs%2^n=0→(if true then-((X.natAbs/2^n:Nat):Int)else((X.natAbs/2^n:Nat):Int))=X/2^n)∧
  (decide (X<0)=true→X.natAbs%2^n≠0→(if true then-((X.natAbs/2^n+1:Nat):Int)else((X.natAbs/2^n+1:Nat):Int))=X/2^n):=by
 have hp:0<2^n:=Nat.two_pow_pos n
 have e:(2:Int)^n=((2^n:Nat):Int):=by simp
 simp only [decide_eq_true_eq,decide_eq_false_iff_not,Bool.false_eq_true,if_false,if_true]
 rw [e]
 generalize 2^n=M at*
 refine⟨fun h=> ?_,fun h h0=> ?_,fun h h0=> ?_⟩
 ·have:X=(X.natAbs:Int):=by omega
  rw [this];simp
 ·have hX:X= -(X.natAbs:Int):=by omega
  generalize X.natAbs=a at*
  subst hX
  have hd:=Nat.div_add_mod a M
  rw [h0,Nat.add_zero]at hd
  generalize a/M=q at*
  rw [←hd]
  have:(-(((M*q:Nat)):Int))=(M:Int)*(-(q:Int)):=by rw [Int.natCast_mul,Int.mul_neg]
  rw [this,Int.mul_ediv_cancel_left _ (by omega)]
 ·have hX:X= -(X.natAbs:Int):=by omega
  generalize X.natAbs=a at*
  subst hX
  have hd:=Nat.div_add_mod a M
  have hlt:=Nat.mod_lt a hp
  generalize a/M=q at*
  generalize a%M=r at*
  have:(-(a:Int))=((M-r:Nat):Int)+(M:Int)*(-((q+1:Nat):Int)):=by
   rw [←hd,Int.mul_neg,←Int.natCast_mul,Nat.mul_add,Nat.mul_one];omega
  rw [this,Int.add_mul_ediv_left _ _ (by omega),Int.ediv_eq_zero_of_lt (by omega) (by omega)]
  omega
theorem Raw.one (w:World):Raw .u64 64 (w.alloc (.cells #[.int .u64 1] 33)) (.slice (some ⟨w.heap.size,0,none⟩) 1 1) 1 1:=by
 refine⟨_,1,rfl,by omega,by decide,by omega,fun _=>⟨w.heap.size,0,rfl,by simp,Elem.new _ _ _,fun i hi=> ?_⟩⟩
 obtain rfl:i=0:=by omega
 rw [show(⟨w.heap.size,0+0,none⟩:Addr)=⟨w.heap.size,0,none⟩from rfl,World.cell?_alloc_new]
 simp [dg]
theorem aBt (b o c p n:Nat) (X:Int) (w:World) (hz:fO w b o) (hx:bM w c p X) (hl:ln 64 X.natAbs≤68719476736) (hn:n≤1099511627776):
  Calls Tryz.prog 252 #[.pointer (some ⟨b,o,none⟩),.pointer (some ⟨c,p,none⟩),.int .u64 n] w (Puts .u64 64 b o (X/2^n) w):=by
 obtain⟨hxs,hx0,vx,hx1,hrx⟩:=hx
 have HRx:=jH hrx
 have HZ:=jH hz
 have hlq:ln 64 (X.natAbs/2^n)≤68719476736:=Nat.le_trans (sN (by decide) (Nat.div_le_self _ _)) hl
 obtain⟨f1,f2,f3⟩:=aK4 X n
 generalize decide (X<0)=sx at*
 generalize X.natAbs=ax at*
 clear hrx hxs hz
 cases sx
 ·have HF:=jH (f1 rfl)
  clear f1 f2 f3
  go_enter Tryz.func252,Tryz.ntmps252
  go_wp2_with fail
  refine(aAn _ ax n _ HRx.out hn hl).mono ?_
  rintro e w1 ⟨v1,rfl,hb1,hr1⟩
  have HB:=jH hb1
  have HR1:=jH hr1
  clear hb1 hr1
  go_wp2_with fail
  refine(fZ b o _ false _ _ (HZ.out.below HB.out) HR1.out).mono ?_
  rintro e w2 ⟨rfl,hi2,hm2⟩
  have HF2:=jH hi2
  have HM:=jH ((Mod.of_below HB.out HZ.out.1).trans HZ.out.1 hm2)
  clear hi2 hm2
  go_wp2
  go_ret
  rw [←HF.out]
  exact⟨rfl,HF2.out,HM.out⟩
 ·by_cases h0:ax%2^n=0
  ·have HF:=jH (f2 rfl h0)
   have HD:Hid (decide (ax%2^n≠0)=false):=jH (by rw [decide_eq_false_iff_not];exact fun h=>h h0)
   clear f1 f2 f3 h0
   go_enter Tryz.func252,Tryz.ntmps252
   go_wp2_with fail
   refine(aAn _ ax n _ HRx.out hn hl).mono ?_
   rintro e w1 ⟨v1,rfl,hb1,hr1⟩
   rw [HD.out]
   have HB:=jH hb1
   have HR1:=jH hr1
   clear hb1 hr1
   go_wp2_with fail
   refine(fZ b o _ true _ _ (HZ.out.below HB.out) HR1.out).mono ?_
   rintro e w2 ⟨rfl,hi2,hm2⟩
   have HF2:=jH hi2
   have HM:=jH ((Mod.of_below HB.out HZ.out.1).trans HZ.out.1 hm2)
   clear hi2 hm2
   go_wp2
   go_ret
   rw [←HF.out]
   exact⟨rfl,HF2.out,HM.out⟩
  ·have HF:=jH (f3 rfl h0)
   have HD:Hid (decide (ax%2^n≠0)=true):=jH (decide_eq_true h0)
   clear f1 f2 f3 h0
   go_enter Tryz.func252,Tryz.ntmps252
   go_wp2_with fail
   refine(aAn _ ax n _ HRx.out hn hl).mono ?_
   rintro e w1 ⟨v1,rfl,hb1,hr1⟩
   rw [HD.out]
   have HB1:=jH hb1
   have HR1:=jH hr1
   clear hb1 hr1
   go_wp2_with fail
   refine(sum_any _ _ _ 1 (ax/2^n) 1 _ (HR1.out.below (Below.aA _ _)) (Raw.one _) ⟨by omega,by omega⟩).mono ?_
   rintro e w3 ⟨v3,rfl,hb3,hr3⟩
   have HB:=jH ((HB1.out.alloc HB1.out.size _).trans (hb3.mono (by have:=HB1.out.size;simp;omega)))
   have HR3:=jH hr3
   clear hb3 hr3
   go_wp2_with fail
   refine(fZ b o _ true _ _ (HZ.out.below HB.out) HR3.out).mono ?_
   rintro e w2 ⟨rfl,hi2,hm2⟩
   have HF2:=jH hi2
   have HM:=jH ((Mod.of_below HB.out HZ.out.1).trans HZ.out.1 hm2)
   clear hi2 hm2
   go_wp2
   go_ret
   rw [←HF.out]
   exact⟨rfl,HF2.out,HM.out⟩
theorem aNh (a b k:Nat):bits .and .u64 ((dg 64 a k:Nat):Int) ((dg 64 b k:Nat):Int)=((dg 64 (a&&&b) k:Nat):Int):=by
 rw [aXf];exact bits_and_u64_nat _ _ (eH _ _) (eH _ _)
theorem aSw (a b k:Nat):bits .or .u64 ((dg 64 a k:Nat):Int) ((dg 64 b k:Nat):Int)=((dg 64 (a|||b) k:Nat):Int):=by
 rw [aXd];exact bits_or_u64_nat _ _ (eH _ _) (eH _ _)
theorem aL9 (b o c p d q:Nat) (X Y:Int) (w:World) (hz:fO w b o) (hx:bM w c p X) (hy:bM w d q Y) (hl:ln 64 X.natAbs≤68719476736) (hk:ln 64 Y.natAbs≤68719476736):
  Calls Tryz.prog 253 #[.pointer (some ⟨b,o,none⟩),.pointer (some ⟨c,p,none⟩),.pointer (some ⟨d,q,none⟩)] w (Puts .u64 64 b o (X.natAbs&&&Y.natAbs:Nat) w):=by
 obtain⟨hxs,hx0,vx,hx1,hrx⟩:=hx
 obtain⟨hys,hy0,vy,hy1,hry⟩:=hy
 have hcx:=hxs.1
 have hcy:=hys.1
 have HRx:=jH hrx
 have HRy:=jH hry
 obtain⟨vax,cpx,rfl,-,hNx,-,hkx⟩:=hrx
 obtain⟨vay,cpy,rfl,-,hNy,-,hky⟩:=hry
 have HCx:=jH hkx
 have HCy:=jH hky
 have HZ:=jH hz
 clear hx0 hy0 hxs hys hz hkx hky
 generalize X.natAbs=ax at*
 generalize Y.natAbs=ay at*
 generalize ln 64 ax=nx at*
 generalize ln 64 ay=ny at*
 obtain⟨m,hm1,hm2,hm3,hmm⟩:∃m,m≤nx∧m≤ny∧m≤68719476736∧min (nx:Int) (ny:Int)=(m:Int):=by
  rcases Nat.lt_or_ge nx ny with h|h
  ·first|exact⟨nx,by omega,by omega,by omega,by omega⟩|exact⟨ny,by omega,by omega,by omega,by omega⟩
  ·first|exact⟨ny,by omega,by omega,by omega,by omega⟩|exact⟨nx,by omega,by omega,by omega,by omega⟩
 have HL:Hid (ax&&&ay<2^(64*m)):=jH (by rcases(show m=nx∨m=ny from by omega)with h|h<;>rw [h]<;>first|exact Nat.and_lt_two_pow _ hNy|(rw [Nat.and_comm];exact Nat.and_lt_two_pow _ hNx))
 have hmk:=run_make_row' (P:=Tryz.prog) 218 33 (.int .u64 0) 8 Tryz.underlying218 Tryz.info33 rfl .i64 .i64 m (by omega) (by omega)
 clear hNx hNy
 go_enter Tryz.func253,Tryz.ntmps253
 go_wp2_with fail
 refine bP (fun w':World=>w'.cell? ⟨c,p+1,none⟩=some (.slice vax nx cpx)∧w'.cell? ⟨d,q+1,none⟩=some (.slice vay ny cpy)) 11 [(0,true),(1,true),(2,true),(3,true),(4,true),(5,true),(6,true),(7,true),(8,true),(9,true),(10,true)] (by kernel_rfl) (by kernel_rfl) ?_
 have hS:(fun w':World=>w'.cell? ⟨c,p+1,none⟩=some (.slice vax nx cpx)∧w'.cell? ⟨d,q+1,none⟩=some (.slice vay ny cpy)) w.drew:=⟨by go_simp,by go_simp⟩
 repeat (refine bI (v:= ?_) rfl (fun _ _ _ h=>h) rfl (fun w' hSw=> ?_) hS ?_;rotate_left;focus (go_simp;with_reducible rfl);try simp only [Act.put,aF])
 clear hS
 refine dG ?_
 simp only [drL]
 go_wp2
 clear hmk hmm
 have HR:=jH (Row.made .u64 64 m w.drew)
 go_loopw [23] (fun i wr=>∃k:Nat,k≤m∧i= .int .i64 k∧Hid (Row .u64 64 w.heap.size m ((ax&&&ay)%2^(64*k)) wr)∧Below w.heap.size w wr)
  (fun i _=>m-(intOf i).toNat)
 case atStart=>exact⟨0,Nat.zero_le _,rfl,jH (by simp only [Nat.mul_zero,Nat.pow_zero,Nat.mod_one];exact HR.out),((Below.refl _ _).drew).alloc (Nat.le_refl _) _⟩
 case round=>
  clear HR
  obtain⟨k,hk2,rfl,HR,hbel⟩:=hrel
  have hs:=HR.out.2.lt
  have hf:=fun p=>HR.out.2.frozen p
  have HB:=jH hbel
  clear hbel
  by_cases hlt:k<m
  ·
   obtain⟨bx,ox,rfl,hbx,-,hkx⟩:=HCx.out (by omega)
   obtain⟨by',oy,rfl,hby,-,hky⟩:=HCy.out (by omega)
   have hi0:(0:Int)≤(k:Int):=by omega
   have hi1:(k:Int)<(nx:Int):=by omega
   have hi2:(k:Int)<(ny:Int):=by omega
   have hfz:=hf k
   obtain⟨v0,hz0⟩:∃v,wr.cell? ⟨w.heap.size,k,none⟩=some v:=⟨_,HR.out.2.cell hlt⟩
   have hop:=aNh ax ay k
   have hj0:(0:Int)≤(k:Int):=by omega
   have hj1:(k:Int)<(m:Int):=by omega
   clear hf
   go_wp2
   refine bP (fun w':World=>(w'.cell? ⟨c,p+1,none⟩=some (.slice (some ⟨bx,ox,none⟩) nx cpx)∧w'.cell? ⟨d,q+1,none⟩=some (.slice (some ⟨by',oy,none⟩) ny cpy))∧w'.cell? ⟨bx,ox+k,none⟩=some (.int .u64 (dg 64 ax k:Nat))∧w'.cell? ⟨by',oy+k,none⟩=some (.int .u64 (dg 64 ay k:Nat))) 18 [(0,true),(1,true),(2,true),(3,true),(4,true),(5,true),(6,true),(7,true),(8,true),(9,true),(10,true),(11,true),(12,true),(13,true),(14,true),(15,true),(16,true),(17,true)] (by kernel_rfl) (by kernel_rfl) ?_
   have hS:(fun w':World=>(w'.cell? ⟨c,p+1,none⟩=some (.slice (some ⟨bx,ox,none⟩) nx cpx)∧w'.cell? ⟨d,q+1,none⟩=some (.slice (some ⟨by',oy,none⟩) ny cpy))∧w'.cell? ⟨bx,ox+k,none⟩=some (.int .u64 (dg 64 ax k:Nat))∧w'.cell? ⟨by',oy+k,none⟩=some (.int .u64 (dg 64 ay k:Nat))) wr.drew:=⟨⟨(HB.out.cell (p:=⟨c,p+1,none⟩) hcx).trans hx1,(HB.out.cell (p:=⟨d,q+1,none⟩) hcy).trans hy1⟩,(HB.out.cell (p:=⟨bx,ox+k,none⟩) hbx).trans (hkx k (by omega)),(HB.out.cell (p:=⟨by',oy+k,none⟩) hby).trans (hky k (by omega))⟩
   clear hkx hky
   repeat (refine bI (v:= ?_) rfl (fun _ _ _ h=>h) rfl (fun w' hSw=> ?_) hS ?_;rotate_left;focus (go_simp;with_reducible rfl);try simp only [Act.put,aF])
   clear hS
   refine dG ?_
   simp only [drL]
   go_wp2
   go_roundw
   case rel=>
    refine⟨k+1,by omega,by go_num,jH ?_,HB.out.drew.setCell (Nat.le_refl _) _⟩
    rw [←mG]
    have h1:=(HR.out.set (i:=k) (iT 64 (ax&&&ay) k) hlt)
    exact⟨h1.1,h1.2⟩
   case measure=>simp [intOf];omega
  ·obtain rfl:k=m:=by omega
   have hraw:=HR.out.raw (by omega)
   rw [Nat.mod_eq_of_lt HL.out]at hraw
   have HW:=jH hraw
   have HF:Hid ((if false then-((ax&&&ay:Nat):Int)else((ax&&&ay:Nat):Int))=((ax&&&ay:Nat):Int)):=jH rfl
   clear hf hraw
   go_wp2_with fail
   refine(nC _ _ _ _ HW.out).mono ?_
   rintro e w1 ⟨v,rfl,rfl,hr2⟩
   have HR1:=jH hr2
   clear hr2
   go_wp2_with fail
   refine(fZ b o _ false _ _ (HZ.out.below HB.out) HR1.out).mono ?_
   rintro e w2 ⟨rfl,hi2,hm2⟩
   have HF2:=jH hi2
   have HM:=jH ((Mod.of_below HB.out HZ.out.1).trans HZ.out.1 hm2)
   clear hi2 hm2
   go_wp2
   go_ret
   rw [←HF.out]
   exact⟨rfl,HF2.out,HM.out⟩
theorem aWa (b o c p d q:Nat) (X Y:Int) (w:World) (hz:fO w b o) (hx:bM w c p X) (hy:bM w d q Y) (hl:ln 64 X.natAbs≤68719476736) (hk:ln 64 Y.natAbs≤68719476736):
  Calls Tryz.prog 247 #[.pointer (some ⟨b,o,none⟩),.pointer (some ⟨c,p,none⟩),.pointer (some ⟨d,q,none⟩)] w (Puts .u64 64 b o (X.natAbs|||Y.natAbs:Nat) w):=by
 obtain⟨hxs,hx0,vx,hx1,hrx⟩:=hx
 obtain⟨hys,hy0,vy,hy1,hry⟩:=hy
 have hcx:=hxs.1
 have hcy:=hys.1
 have HRx:=jH hrx
 have HRy:=jH hry
 obtain⟨vax,cpx,rfl,-,hNx,-,hkx⟩:=hrx
 obtain⟨vay,cpy,rfl,-,hNy,-,hky⟩:=hry
 have HCx:=jH hkx
 have HCy:=jH hky
 have HZ:=jH hz
 clear hx0 hy0 hxs hys hz hkx hky
 generalize X.natAbs=ax at*
 generalize Y.natAbs=ay at*
 generalize ln 64 ax=nx at*
 generalize ln 64 ay=ny at*
 obtain⟨m,hm1,hm2,hm3,hmm⟩:∃m,nx≤m∧ny≤m∧m≤68719476736∧max (nx:Int) (ny:Int)=(m:Int):=by
  rcases Nat.lt_or_ge nx ny with h|h
  ·first|exact⟨nx,by omega,by omega,by omega,by omega⟩|exact⟨ny,by omega,by omega,by omega,by omega⟩
  ·first|exact⟨ny,by omega,by omega,by omega,by omega⟩|exact⟨nx,by omega,by omega,by omega,by omega⟩
 have HL:Hid (ax|||ay<2^(64*m)):=jH (Nat.or_lt_two_pow (Nat.lt_of_lt_of_le hNx (Nat.pow_le_pow_right (by decide) (by omega))) (Nat.lt_of_lt_of_le hNy (Nat.pow_le_pow_right (by decide) (by omega))))
 have hmk:=run_make_row' (P:=Tryz.prog) 218 33 (.int .u64 0) 8 Tryz.underlying218 Tryz.info33 rfl .i64 .i64 m (by omega) (by omega)
 clear hNx hNy
 go_enter Tryz.func247,Tryz.ntmps247
 go_wp2_with fail
 refine bP (fun w':World=>w'.cell? ⟨c,p+1,none⟩=some (.slice vax nx cpx)∧w'.cell? ⟨d,q+1,none⟩=some (.slice vay ny cpy)) 11 [(0,true),(1,true),(2,true),(3,true),(4,true),(5,true),(6,true),(7,true),(8,true),(9,true),(10,true)] (by kernel_rfl) (by kernel_rfl) ?_
 have hS:(fun w':World=>w'.cell? ⟨c,p+1,none⟩=some (.slice vax nx cpx)∧w'.cell? ⟨d,q+1,none⟩=some (.slice vay ny cpy)) w.drew:=⟨by go_simp,by go_simp⟩
 repeat (refine bI (v:= ?_) rfl (fun _ _ _ h=>h) rfl (fun w' hSw=> ?_) hS ?_;rotate_left;focus (go_simp;with_reducible rfl);try simp only [Act.put,aF])
 clear hS
 refine dG ?_
 simp only [drL]
 go_wp2
 clear hmk hmm
 have HR:=jH (Row.made .u64 64 m w.drew)
 go_loopw [23] (fun i wr=>∃k:Nat,k≤m∧i= .int .i64 k∧Hid (Row .u64 64 w.heap.size m ((ax|||ay)%2^(64*k)) wr)∧Below w.heap.size w wr)
  (fun i _=>m-(intOf i).toNat)
 case atStart=>exact⟨0,Nat.zero_le _,rfl,jH (by simp only [Nat.mul_zero,Nat.pow_zero,Nat.mod_one];exact HR.out),((Below.refl _ _).drew).alloc (Nat.le_refl _) _⟩
 case round=>
  clear HR
  obtain⟨k,hk2,rfl,HR,hbel⟩:=hrel
  have hs:=HR.out.2.lt
  have hf:=fun p=>HR.out.2.frozen p
  have HB:=jH hbel
  clear hbel
  by_cases hlt:k<m
  ·
   have hfz:=hf k
   obtain⟨v0,hz0⟩:∃v,wr.cell? ⟨w.heap.size,k,none⟩=some v:=⟨_,HR.out.2.cell hlt⟩
   have hop:=aSw ax ay k
   have hj0:(0:Int)≤(k:Int):=by omega
   have hj1:(k:Int)<(m:Int):=by omega
   clear hf
   go_wp2
   refine bP (fun w':World=>w'.cell? ⟨c,p+1,none⟩=some (.slice vax nx cpx)∧w'.cell? ⟨d,q+1,none⟩=some (.slice vay ny cpy)) 16 [(0,true),(1,true),(2,true),(3,true),(4,true),(5,true),(6,true),(8,true),(9,true),(10,true),(11,true),(12,true),(7,false),(13,false),(14,true),(15,true)] (by kernel_rfl) (by kernel_rfl) ?_
   have hS:(fun w':World=>w'.cell? ⟨c,p+1,none⟩=some (.slice vax nx cpx)∧w'.cell? ⟨d,q+1,none⟩=some (.slice vay ny cpy)) wr.drew:=⟨(HB.out.cell (p:=⟨c,p+1,none⟩) hcx).trans hx1,(HB.out.cell (p:=⟨d,q+1,none⟩) hcy).trans hy1⟩
   repeat (refine bI (v:= ?_) rfl (fun _ _ _ h=>h) rfl (fun w' hSw=> ?_) hS ?_;rotate_left;focus (go_simp;with_reducible rfl);try simp only [Act.put,aF])
   have HBd:=jH HB.out.drew
   refine dN rfl fun K' hK=> ?_
   go_simp
   refine(oK _ _ ax k _ (HRx.out.below HBd.out) (by omega)).mono ?_
   rintro e w1 ⟨rfl,rfl⟩
   refine hK _ _ hS ?_
   clear hK K'
   try simp only [Act.put,aF]
   refine dN rfl fun K' hK=> ?_
   go_simp
   refine(oK _ _ ay k _ (HRy.out.below HBd.out) (by omega)).mono ?_
   rintro e w1 ⟨rfl,rfl⟩
   refine hK _ _ hS ?_
   clear hK K'
   try simp only [Act.put,aF]
   repeat (refine bI (v:= ?_) rfl (fun _ _ _ h=>h) rfl (fun w' hSw=> ?_) hS ?_;rotate_left;focus (go_simp;with_reducible rfl);try simp only [Act.put,aF])
   clear hS
   refine dG ?_
   simp only [drL]
   go_wp2
   go_roundw
   case rel=>
    refine⟨k+1,by omega,by go_num,jH ?_,HB.out.drew.setCell (Nat.le_refl _) _⟩
    rw [←mG]
    have h1:=(HR.out.set (i:=k) (iT 64 (ax|||ay) k) hlt)
    exact⟨h1.1,h1.2⟩
   case measure=>simp [intOf];omega
  ·obtain rfl:k=m:=by omega
   have hraw:=HR.out.raw (by omega)
   rw [Nat.mod_eq_of_lt HL.out]at hraw
   have HW:=jH hraw
   have HF:Hid ((if false then-((ax|||ay:Nat):Int)else((ax|||ay:Nat):Int))=((ax|||ay:Nat):Int)):=jH rfl
   clear hf hraw
   go_wp2_with fail
   refine(nC _ _ _ _ HW.out).mono ?_
   rintro e w1 ⟨v,rfl,rfl,hr2⟩
   have HR1:=jH hr2
   clear hr2
   go_wp2_with fail
   refine(fZ b o _ false _ _ (HZ.out.below HB.out) HR1.out).mono ?_
   rintro e w2 ⟨rfl,hi2,hm2⟩
   have HF2:=jH hi2
   have HM:=jH ((Mod.of_below HB.out HZ.out.1).trans HZ.out.1 hm2)
   clear hi2 hm2
   go_wp2
   go_ret
   rw [←HF.out]
   exact⟨rfl,HF2.out,HM.out⟩
end
end Go.Proofs.YtfmecpembnmnkaaGreatDoor
