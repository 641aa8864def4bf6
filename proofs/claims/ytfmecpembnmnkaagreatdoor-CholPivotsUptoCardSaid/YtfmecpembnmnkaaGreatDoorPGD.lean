/- Walks: big.Int's methods that hand a sign and words on. Printed by wip/gen/int2.py. -/
import Derived.Test.YtfmecpembnmnkaaGreatDoorPGC
namespace Go.Proofs.YtfmecpembnmnkaaGreatDoor
section
set_option maxRecDepth 100000
set_option maxHeartbeats 6400000
open Go.RowKit
theorem aGb (z:Int):(if(!decide (z<0))then-(z.natAbs:Int)else z.natAbs)= -z:=by
 by_cases h:z<0
 ·simp [h];omega
 ·simp [h];omega
theorem jQ (z:Int):(if decide (z<0)then-(z.natAbs:Int)else z.natAbs)=z:=by
 by_cases h:z<0
 ·simp [h];omega
 ·simp [h];omega
theorem aMb (z:Int) (n:Nat):(if decide (z<0)then-((z.natAbs*2^n:Nat):Int)else((z.natAbs*2^n:Nat):Int))=z*2^n:=by
 have h2:=jQ z
 by_cases h:z<0
 ·simp only [h,decide_true,if_true]at h2 ⊢
  rw [←h2]
  simp [Int.neg_mul]
 ·simp only [h,decide_false,Bool.false_eq_true,if_false]at h2 ⊢
  rw [←h2]
  simp
theorem aUm (b o c p:Nat) (X:Int) (w:World) (hz:fO w b o) (hx:bM w c p X) (hl:ln 64 X.natAbs≤68719476736):
  Calls Tryz.prog 271 #[.pointer (some ⟨b,o,none⟩),.pointer (some ⟨c,p,none⟩)] w (Puts .u64 64 b o (X) w):=by
 obtain⟨hxs,hx0,vx,hx1,hrx⟩:=hx
 have hcx:=hxs.1
 have HRx:=jH hrx
 have HZ:=jH hz
 have HF:=jH (jQ X)
 generalize decide (X<0)=sx at*
 generalize X.natAbs=ax at*
 clear hrx hxs hz
 go_enter Tryz.func271,Tryz.ntmps271
 go_wp2_with fail
 refine bP (fun w'=>w'.cell? ⟨c,p,none⟩=some (.bool sx)∧w'.cell? ⟨c,p+1,none⟩=some vx) 10 [(0,true),(1,true),(2,true),(3,true),(4,true),(5,true),(6,true),(7,true),(8,true),(9,false)] (by kernel_rfl) (by kernel_rfl) ?_
 have hS:(fun w':World=>w'.cell? ⟨c,p,none⟩=some (.bool sx)∧w'.cell? ⟨c,p+1,none⟩=some vx) w.drew:=⟨by go_simp,by go_simp⟩
 repeat (refine bI (v:= ?_) rfl (fun _ _ _ h=>h) rfl (fun w' hSw=> ?_) hS ?_;rotate_left;focus (go_simp;with_reducible rfl);try simp only [Act.put,aF])
 refine dN rfl fun K' hK=> ?_
 go_simp
 refine(clone_any _ _ ax _ (HRx.out.below ((Below.refl _ _).drew)) (by omega)).mono ?_
 rintro e w1 ⟨v1,rfl,hb1,hr1⟩
 have HB:=jH (((Below.refl w.heap.size w).drew).trans hb1)
 have HR1:=jH hr1
 refine hK _ _ ⟨(HB.out.cell (p:=⟨c,p,none⟩) hcx).trans hx0,(HB.out.cell (p:=⟨c,p+1,none⟩) hcx).trans hx1⟩ ?_
 clear hK K' hb1 hr1 hS
 refine dG ?_
 simp only [drL]
 go_wp2_with fail
 refine(fZ b o _ _ _ _ (HZ.out.below HB.out) HR1.out).mono ?_
 rintro e w2 ⟨rfl,hi2,hm2⟩
 have HF2:=jH hi2
 have HM:=jH ((Mod.of_below HB.out HZ.out.1).trans HZ.out.1 hm2)
 clear hi2 hm2
 go_wp2
 go_ret
 rw [←HF.out]
 exact⟨rfl,HF2.out,HM.out⟩
theorem aEu (b o c p:Nat) (X:Int) (w:World) (hz:fO w b o) (hx:bM w c p X) (hl:ln 64 X.natAbs≤68719476736):
  Calls Tryz.prog 249 #[.pointer (some ⟨b,o,none⟩),.pointer (some ⟨c,p,none⟩)] w (Puts .u64 64 b o (-X) w):=by
 obtain⟨hxs,hx0,vx,hx1,hrx⟩:=hx
 have hcx:=hxs.1
 have HRx:=jH hrx
 have HZ:=jH hz
 have HF:=jH (aGb X)
 generalize decide (X<0)=sx at*
 generalize X.natAbs=ax at*
 clear hrx hxs hz
 go_enter Tryz.func249,Tryz.ntmps249
 go_wp2_with fail
 refine bP (fun w'=>w'.cell? ⟨c,p,none⟩=some (.bool sx)∧w'.cell? ⟨c,p+1,none⟩=some vx) 11 [(0,true),(1,true),(2,true),(3,true),(4,true),(5,true),(6,true),(7,true),(8,true),(9,true),(10,false)] (by kernel_rfl) (by kernel_rfl) ?_
 have hS:(fun w':World=>w'.cell? ⟨c,p,none⟩=some (.bool sx)∧w'.cell? ⟨c,p+1,none⟩=some vx) w.drew:=⟨by go_simp,by go_simp⟩
 repeat (refine bI (v:= ?_) rfl (fun _ _ _ h=>h) rfl (fun w' hSw=> ?_) hS ?_;rotate_left;focus (go_simp;with_reducible rfl);try simp only [Act.put,aF])
 refine dN rfl fun K' hK=> ?_
 go_simp
 refine(clone_any _ _ ax _ (HRx.out.below ((Below.refl _ _).drew)) (by omega)).mono ?_
 rintro e w1 ⟨v1,rfl,hb1,hr1⟩
 have HB:=jH (((Below.refl w.heap.size w).drew).trans hb1)
 have HR1:=jH hr1
 refine hK _ _ ⟨(HB.out.cell (p:=⟨c,p,none⟩) hcx).trans hx0,(HB.out.cell (p:=⟨c,p+1,none⟩) hcx).trans hx1⟩ ?_
 clear hK K' hb1 hr1 hS
 refine dG ?_
 simp only [drL]
 go_wp2_with fail
 refine(fZ b o _ _ _ _ (HZ.out.below HB.out) HR1.out).mono ?_
 rintro e w2 ⟨rfl,hi2,hm2⟩
 have HF2:=jH hi2
 have HM:=jH ((Mod.of_below HB.out HZ.out.1).trans HZ.out.1 hm2)
 clear hi2 hm2
 go_wp2
 go_ret
 rw [←HF.out]
 exact⟨rfl,HF2.out,HM.out⟩
theorem aLn (b o c p:Nat) (n:Nat) (X:Int) (w:World) (hz:fO w b o) (hx:bM w c p X) (hl:ln 64 X.natAbs≤68719476736) (hn:n≤1099511627776):
  Calls Tryz.prog 246 #[.pointer (some ⟨b,o,none⟩),.pointer (some ⟨c,p,none⟩),.int .u64 n] w (Puts .u64 64 b o (X*2^n) w):=by
 obtain⟨hxs,hx0,vx,hx1,hrx⟩:=hx
 have hcx:=hxs.1
 have HRx:=jH hrx
 have HZ:=jH hz
 have HF:=jH (aMb X n)
 generalize decide (X<0)=sx at*
 generalize X.natAbs=ax at*
 clear hrx hxs hz
 go_enter Tryz.func246,Tryz.ntmps246
 go_wp2_with fail
 refine bP (fun w'=>w'.cell? ⟨c,p,none⟩=some (.bool sx)∧w'.cell? ⟨c,p+1,none⟩=some vx) 11 [(0,true),(1,true),(2,true),(3,true),(4,true),(5,true),(6,true),(7,true),(8,true),(9,true),(10,false)] (by kernel_rfl) (by kernel_rfl) ?_
 have hS:(fun w':World=>w'.cell? ⟨c,p,none⟩=some (.bool sx)∧w'.cell? ⟨c,p+1,none⟩=some vx) w.drew:=⟨by go_simp,by go_simp⟩
 repeat (refine bI (v:= ?_) rfl (fun _ _ _ h=>h) rfl (fun w' hSw=> ?_) hS ?_;rotate_left;focus (go_simp;with_reducible rfl);try simp only [Act.put,aF])
 refine dN rfl fun K' hK=> ?_
 go_simp
 refine(aRz _ ax n _ (HRx.out.below ((Below.refl _ _).drew)) hn hl).mono ?_
 rintro e w1 ⟨v1,rfl,hb1,hr1⟩
 have HB:=jH (((Below.refl w.heap.size w).drew).trans hb1)
 have HR1:=jH hr1
 refine hK _ _ ⟨(HB.out.cell (p:=⟨c,p,none⟩) hcx).trans hx0,(HB.out.cell (p:=⟨c,p+1,none⟩) hcx).trans hx1⟩ ?_
 clear hK K' hb1 hr1 hS
 refine dG ?_
 simp only [drL]
 go_wp2_with fail
 refine(fZ b o _ _ _ _ (HZ.out.below HB.out) HR1.out).mono ?_
 rintro e w2 ⟨rfl,hi2,hm2⟩
 have HF2:=jH hi2
 have HM:=jH ((Mod.of_below HB.out HZ.out.1).trans HZ.out.1 hm2)
 clear hi2 hm2
 go_wp2
 go_ret
 rw [←HF.out]
 exact⟨rfl,HF2.out,HM.out⟩
theorem aFy (b o c p:Nat) (X:Int) (w:World) (hz:fO w b o) (hx:bM w c p X) (hl:ln 64 X.natAbs≤68719476736):
  Calls Tryz.prog 251 #[.pointer (some ⟨b,o,none⟩),.pointer (some ⟨c,p,none⟩)] w (Puts .u64 64 b o X.natAbs w):=by
 obtain⟨hxs,hx0,vx,hx1,hrx⟩:=hx
 have HRx:=jH hrx
 have HZ:=jH hz
 generalize X.natAbs=ax at*
 have HF:Hid ((if false then-(ax:Int)else ax)=ax):=jH rfl
 clear hrx hxs hz
 go_enter Tryz.func251,Tryz.ntmps251
 go_wp2_with fail
 refine(clone_any _ _ ax _ HRx.out (by omega)).mono ?_
 rintro e w1 ⟨v1,rfl,hb1,hr1⟩
 have HB:=jH hb1
 have HR1:=jH hr1
 clear hb1 hr1
 go_wp2_with fail
 refine(fZ b o _ false _ _ (HZ.out.below HB.out) HR1.out).mono ?_
 rintro e w2 ⟨rfl,hi2,hm2⟩
 have HF2:=jH hi2
 have HM:=jH ((Mod.of_below HB.out HZ.out.1).trans HZ.out.1 hm2)
 clear hi2 hm2
 go_wp2
 go_ret
 rw [←HF.out]
 exact⟨rfl,HF2.out,HM.out⟩
theorem aLr (X Y:Int):(if(decide (X<0) !=decide (Y<0))then-((X.natAbs*Y.natAbs:Nat):Int)else((X.natAbs*Y.natAbs:Nat):Int))=X*Y:=by
 have hx:=jQ X
 have hy:=jQ Y
 generalize X.natAbs=ax at*
 generalize Y.natAbs=ay at*
 generalize decide (X<0)=sx at*
 generalize decide (Y<0)=sy at*
 subst hx;subst hy
 cases sx<;>cases sy<;>simp [Int.mul_neg,Int.neg_mul]
theorem aTr (b o c p d q:Nat) (X Y:Int) (w:World) (hz:fO w b o) (hx:bM w c p X) (hy:bM w d q Y) (hl:ln 64 X.natAbs≤68719476736) (hk:ln 64 Y.natAbs≤68719476736):
  Calls Tryz.prog 216 #[.pointer (some ⟨b,o,none⟩),.pointer (some ⟨c,p,none⟩),.pointer (some ⟨d,q,none⟩)] w (Puts .u64 64 b o (X*Y) w):=by
 obtain⟨hxs,hx0,vx,hx1,hrx⟩:=hx
 obtain⟨hys,hy0,vy,hy1,hry⟩:=hy
 have hcx:=hxs.1
 have hcy:=hys.1
 have HRx:=jH hrx
 have HRy:=jH hry
 have HZ:=jH hz
 have HF:=jH (aLr X Y)
 generalize decide (X<0)=sx at*
 generalize decide (Y<0)=sy at*
 generalize X.natAbs=ax at*
 generalize Y.natAbs=ay at*
 clear hrx hxs hz hry hys
 go_enter Tryz.func216,Tryz.ntmps216
 go_wp2_with fail
 refine bP (fun w'=>(w'.cell? ⟨c,p,none⟩=some (.bool sx)∧w'.cell? ⟨c,p+1,none⟩=some vx)∧w'.cell? ⟨d,q,none⟩=some (.bool sy)∧w'.cell? ⟨d,q+1,none⟩=some vy) 19 [(0,true),(1,true),(2,true),(3,true),(4,true),(5,true),(6,true),(7,true),(8,true),(9,true),(10,true),(11,true),(12,true),(13,true),(14,true),(15,true),(16,true),(17,true),(18,false)] (by kernel_rfl) (by kernel_rfl) ?_
 have hS:(fun w':World=>(w'.cell? ⟨c,p,none⟩=some (.bool sx)∧w'.cell? ⟨c,p+1,none⟩=some vx)∧w'.cell? ⟨d,q,none⟩=some (.bool sy)∧w'.cell? ⟨d,q+1,none⟩=some vy) w.drew:=⟨⟨by go_simp,by go_simp⟩,by go_simp,by go_simp⟩
 repeat (refine bI (v:= ?_) rfl (fun _ _ _ h=>h) rfl (fun w' hSw=> ?_) hS ?_;rotate_left;focus (go_simp;with_reducible rfl);try simp only [Act.put,aF])
 refine dN rfl fun K' hK=> ?_
 go_simp
 refine(times_any _ _ _ _ ax ay _ (HRx.out.below ((Below.refl _ _).drew)) (HRy.out.below ((Below.refl _ _).drew)) (by omega)).mono ?_
 rintro e w1 ⟨v1,rfl,hb1,hr1⟩
 have HB:=jH (((Below.refl w.heap.size w).drew).trans hb1)
 have HR1:=jH hr1
 refine hK _ _ ⟨⟨(HB.out.cell (p:=⟨c,p,none⟩) hcx).trans hx0,(HB.out.cell (p:=⟨c,p+1,none⟩) hcx).trans hx1⟩,(HB.out.cell (p:=⟨d,q,none⟩) hcy).trans hy0,(HB.out.cell (p:=⟨d,q+1,none⟩) hcy).trans hy1⟩ ?_
 clear hK K' hb1 hr1 hS
 refine dG ?_
 simp only [drL]
 go_wp2_with fail
 refine(fZ b o _ _ _ _ (HZ.out.below HB.out) HR1.out).mono ?_
 rintro e w2 ⟨rfl,hi2,hm2⟩
 have HF2:=jH hi2
 have HM:=jH ((Mod.of_below HB.out HZ.out.1).trans HZ.out.1 hm2)
 clear hi2 hm2
 go_wp2
 go_ret
 rw [←HF.out]
 exact⟨rfl,HF2.out,HM.out⟩
end
section
set_option maxRecDepth 100000
set_option maxHeartbeats 6400000
open Go.RowKit
theorem aDq (b o N:Nat) (w:World) (hz:fO w b o) (hN:N<18446744073709551616):
  Calls Tryz.prog 257 #[.pointer (some ⟨b,o,none⟩),.int .u64 N] w (Puts .u64 64 b o N w):=by
 have HZ:=jH hz
 have HN:=jH hN
 clear hz hN
 go_enter Tryz.func257,Tryz.ntmps257
 go_wp2_with fail
 refine(aCa N _ HN.out).mono ?_
 rintro e w1 ⟨v1,rfl,hb1,hr1⟩
 have HB:=jH hb1
 have HR1:=jH hr1
 clear hb1 hr1
 go_wp2_with fail
 refine(fZ b o N false _ _ (HZ.out.below HB.out) HR1.out).mono ?_
 rintro e w2 ⟨rfl,hi2,hm2⟩
 have HF2:=jH hi2
 have HM:=jH ((Mod.of_below HB.out HZ.out.1).trans HZ.out.1 hm2)
 clear hi2 hm2
 go_wp2
 go_ret
 exact⟨rfl,HF2.out,HM.out⟩
theorem yQ {z:Int}(h1:z<0) (h2: -9223372036854775808≤z):IntKind.u64.wrap (-(IntKind.u64.wrap z))=((z.natAbs:Nat):Int):=by
 rw [IntKind.wrap_u64,IntKind.wrap_u64];omega
theorem aFj (b o:Nat) (z:Int) (w:World) (hz:fO w b o) (h1: -9223372036854775808≤z) (h2:z≤9223372036854775807):
  Calls Tryz.prog 269 #[.pointer (some ⟨b,o,none⟩),.int .i64 z] w (Puts .u64 64 b o z w):=by
 have HZ:=jH hz
 have hN:z.natAbs<18446744073709551616:=by omega
 have HN:=jH hN
 clear hz hN
 by_cases hneg:z<0
 ·have hw:=yQ hneg h1
  have HE:Hid ((if true then-((z.natAbs:Nat):Int)else z.natAbs)=z):=jH (by simp;omega)
  have HW:=jH hw
  clear hw h1 h2
  go_enter Tryz.func269,Tryz.ntmps269
  go_wp2_with fail
  rw [HW.out]
  refine(aCa _ _ HN.out).mono ?_
  rintro e w1 ⟨v1,rfl,hb1,hr1⟩
  have HB:=jH hb1
  have HR1:=jH hr1
  clear hb1 hr1
  go_wp2_with fail
  refine(fZ b o _ true _ _ (HZ.out.below HB.out) HR1.out).mono ?_
  rintro e w2 ⟨rfl,hi2,hm2⟩
  have HF2:=jH hi2
  have HM:=jH ((Mod.of_below HB.out HZ.out.1).trans HZ.out.1 hm2)
  clear hi2 hm2
  go_wp2
  go_ret
  exact⟨rfl,by rw [←HE.out];exact HF2.out,HM.out⟩
 ·obtain⟨n,rfl⟩:∃n:Nat,z=n:=⟨z.natAbs,by omega⟩
  have HN2:Hid (n<18446744073709551616):=jH (by omega)
  clear HN
  go_enter Tryz.func269,Tryz.ntmps269
  go_wp2_with fail
  refine(aCa n _ HN2.out).mono ?_
  rintro e w1 ⟨v1,rfl,hb1,hr1⟩
  have HB:=jH hb1
  have HR1:=jH hr1
  clear hb1 hr1
  go_wp2_with fail
  refine(fZ b o n false _ _ (HZ.out.below HB.out) HR1.out).mono ?_
  rintro e w2 ⟨rfl,hi2,hm2⟩
  have HF2:=jH hi2
  have HM:=jH ((Mod.of_below HB.out HZ.out.1).trans HZ.out.1 hm2)
  clear hi2 hm2
  go_wp2
  go_ret
  exact⟨rfl,HF2.out,HM.out⟩
def aJn (k:IntKind) (s:Nat) (z:Int) (w:World) (e:Ending) (w':World):Prop:=
 ∃b,e= .returned (.pointer (some ⟨b,0,none⟩))∧w.heap.size≤b∧dB k s w' b 0 z∧Below w.heap.size w w'
theorem aCp (w:World) (c:Array Value) (t i:Nat):(w.alloc (.cells c t)).frozen? ⟨w.heap.size,i,none⟩=false:=by
 have h:(w.alloc (.cells c t)).heap[w.heap.size]? =some (.cells c t (0,0)):=by show(w.heap.push _)[w.heap.size]? =_;simp
 unfold World.frozen?
 rw [h];simp
theorem fO.new (w:World) (t:Nat) (ht:wL t):fO (w.alloc (.cells #[.bool false,.slice none 0 0] t)) w.heap.size 0:=
 ⟨by simp,⟨t,Elem.new _ _ _,ht⟩,aCp _ _ _ _,aCp _ _ _ _,⟨false,by rw [World.cell?_alloc_new];rfl⟩,none,0,0,by rw [World.cell?_alloc_new];rfl⟩
theorem iE (z:Int) (w:World) (h1: -9223372036854775808≤z) (h2:z≤9223372036854775807):
  Calls Tryz.prog 248 #[.int .i64 z] w (aJn .u64 64 z w):=by
 have HZ:=jH (fO.new w _ dO)
 go_enter Tryz.func248,Tryz.ntmps248
 go_wp2_with fail
 refine(aFj _ 0 z _ HZ.out h1 h2).mono ?_
 rintro e w2 ⟨rfl,hi2,hm2⟩
 have HF:=jH hi2
 have HM:=jH (hm2.below (Below.aA w _) (Nat.le_refl _) (by simp))
 clear hi2 hm2
 go_wp2
 go_ret
 exact⟨_,rfl,Nat.le_refl _,HF.out,HM.out⟩
theorem cO (c p:Nat) (X:Int) (w:World) (hx:bM w c p X):
  Calls Tryz.prog 243 #[.pointer (some ⟨c,p,none⟩)] w fun e w'=>e= .returned (.int .i64 X.sign)∧w=w':=by
 obtain⟨hxs,hx0,vx,hx1,hrx⟩:=hx
 obtain⟨ao,cap,rfl,-⟩:=hrx
 have hp:=kL (s:=64) (N:=X.natAbs) (by decide)
 by_cases h1:X<0
 ·rw [decide_eq_true h1]at hx0
  have HF:=jH (Int.sign_eq_neg_one_of_neg h1)
  rw [HF.out]
  clear h1 hp hxs HF
  go_enter Tryz.func243,Tryz.ntmps243
  go_wp2
  go_ret
  exact⟨rfl,rfl⟩
 ·rw [decide_eq_false h1]at hx0
  by_cases h2:X=0
  ·subst h2
   rw [show(0:Int).natAbs=0 from rfl,eG]at hx1
   rw [show(0:Int).sign=0 from rfl]
   clear h1 hp hxs
   go_enter Tryz.func243,Tryz.ntmps243
   go_wp2
   go_ret
   exact⟨rfl,rfl⟩
  ·have hlp:0<ln 64 X.natAbs:=hp.2 (by omega)
   have HF:=jH (Int.sign_eq_one_of_pos (show 0<X by omega))
   rw [HF.out]
   clear h1 hp hxs HF h2
   generalize ln 64 X.natAbs=n at*
   have hb:((n:Int)==0)=false:=by simp;omega
   go_enter Tryz.func243,Tryz.ntmps243
   go_wp2
   go_ret
   exact⟨rfl,rfl⟩
theorem sJ (c p:Nat) (X:Int) (w:World) (hx:bM w c p X):
  Calls Tryz.prog 220 #[.pointer (some ⟨c,p,none⟩)] w fun e w'=>e= .returned (.int .i64 (bl X.natAbs:Nat))∧w=w':=by
 obtain⟨hxs,hx0,vx,hx1,hrx⟩:=hx
 have HR:=jH hrx
 clear hrx hxs
 go_enter Tryz.func220,Tryz.ntmps220
 go_wp2_with fail
 refine(aJ9 _ _ _ HR.out).mono ?_
 rintro e w1 ⟨rfl,rfl⟩
 go_wp2
 go_ret
 exact⟨rfl,rfl⟩
theorem xQ (c p:Nat) (X:Int) (w:World) (hx:bM w c p X):
  Calls Tryz.prog 224 #[.pointer (some ⟨c,p,none⟩)] w fun e w'=>e= .returned (.int .u64 (dg 64 X.natAbs 0:Nat))∧w=w':=by
 obtain⟨hxs,hx0,vx,hx1,hrx⟩:=hx
 have HR:=jH hrx
 clear hrx hxs
 go_enter Tryz.func224,Tryz.ntmps224
 go_wp2_with fail
 refine(aT8 _ _ _ _ HR.out).mono ?_
 rintro e w1 ⟨rfl,rfl⟩
 go_wp2
 go_ret
 exact⟨rfl,rfl⟩
end
section
set_option maxRecDepth 100000
set_option maxHeartbeats 6400000
open Go.RowKit
theorem aI2 {s N W r:Nat}(h:dg s N W/2^r<18446744073709551616):bits .and .u64 ((dg s N W:Nat)/2^r) 1=((dg s N W/2^r%2:Nat):Int):=by
 rw [uX]
 have:=bits_and_u64_nat (dg s N W/2^r) 1 h (by decide)
 rw [Nat.and_one_is_mod]at this
 exact this
theorem aBq (c p i:Nat) (X:Int) (w:World) (hx:bM w c p X) (hi:i≤1099511627776):
  Calls Tryz.prog 272 #[.pointer (some ⟨c,p,none⟩),.int .i64 i] w fun e w'=>e= .returned (.int .u64 (X.natAbs/2^i%2:Nat))∧w=w':=by
 obtain⟨hxs,hx0,vx,hx1,hrx⟩:=hx
 have HR:=jH hrx
 obtain⟨W,r,hW,hr,hq1,hq2,hiW⟩:∃W r:Nat,W≤17179869184∧r<64∧(i:Int)/64=(W:Int)∧(i:Int)%64=(r:Int)∧Hid (W=i/64∧r=i%64):=
  ⟨i/64,i%64,by omega,by omega,by omega,by omega,jH ⟨rfl,rfl⟩⟩
 have HD:Hid (dg 64 X.natAbs W/2^r%2=X.natAbs/2^i%2):=by
  refine jH ?_
  rw [hiW.out.1,hiW.out.2];exact aO0 (by decide)
 have hand:=aI2 (s:=64) (N:=X.natAbs) (W:=W) (r:=r) (Nat.lt_of_le_of_lt (Nat.div_le_self _ _) (eH _ _))
 clear hrx hxs
 go_enter Tryz.func272,Tryz.ntmps272
 go_wp2_with fail
 refine(yV _ _ _ W _ _ HR.out (by omega) rfl).mono ?_
 rintro e w1 ⟨rfl,rfl⟩
 go_wp2
 go_ret
 exact⟨congrArg Ending.returned (congrArg (Value.int .u64) (by rw [←HD.out];simp)),rfl⟩
theorem uN (c p:Nat) (X:Int) (w:World) (hx:bM w c p X) (hT:eY w) (hl:ln 64 X.natAbs≤68719476736):
  Calls Tryz.prog 273 #[.pointer (some ⟨c,p,none⟩)] w fun e w'=>e= .returned (.int .u64 (tzb X.natAbs:Nat))∧w=w':=by
 obtain⟨hxs,hx0,vx,hx1,hrx⟩:=hx
 obtain⟨ao,cap,rfl,-,hN,-,hcx⟩:=hrx
 have HC:=jH hcx
 have HN:=jH hN
 have HT:=jH hT
 generalize X.natAbs=N at*
 generalize ln 64 N=n at*
 clear hcx hN hT hxs hx0
 go_enter Tryz.func273,Tryz.ntmps273
 go_wp2
 go_loop [10] (fun i=>∃k:Nat,k≤n∧i= .int .i64 k∧Hid (N%2^(64*k)=0)) (fun i=>n-(intOf i).toNat)
 case atStart=>exact⟨0,Nat.zero_le _,rfl,jH (by simp [Nat.mod_one])⟩
 case round=>
  obtain⟨k,hk,rfl,HR⟩:=hrel
  by_cases hlt:k<n
  ·obtain⟨b,off,rfl,hb,-,hc⟩:=HC.out (by omega)
   have hck:=hc k hlt
   clear hc
   by_cases hd:dg 64 N k=0
   ·have hb0:(((dg 64 N k:Nat):Int) !=0)=false:=by simp [hd]
    have HD:=jH hd
    clear hd
    go_wp2
    go_round
    case rel=>exact⟨k+1,by omega,by go_num,jH (by rw [mod_succ,HR.out,HD.out,Nat.mul_zero])⟩
    case measure=>simp [intOf];omega
   ·have hb0:(((dg 64 N k:Nat):Int) !=0)=true:=by simp [hd]
    have HE:=jH (aOp HR.out hd)
    have HD:=jH hd
    have hctz:Lib.ctz 64 (dg 64 N k)<64:=by
     obtain⟨m,h1,h2⟩:=Lib.ctzFrom_spec 64 (dg 64 N k) (by omega) (iT 64 N k)
     unfold Lib.ctz;rw [if_neg hd];exact h2
    clear hd
    generalize hg:Lib.ctz 64 (dg 64 N k)=t at hctz HE
    have HG:=jH hg
    clear hg
    go_wp2_with fail
    refine(zF _ (eH _ _) HD.out _ HT.out).mono ?_
    rintro e w1 ⟨rfl,rfl⟩
    rw [HG.out]
    go_wp2
    go_ret
    exact⟨congrArg Ending.returned (congrArg (Value.int .u64) (by rw [HE.out];omega)),rfl⟩
  ·obtain rfl:k=n:=by omega
   have h0:N=0:=by rw [←HR.out];exact(Nat.mod_eq_of_lt HN.out).symm
   have HE:Hid (tzb N=0):=jH (by subst h0;rfl)
   clear h0
   go_wp2
   go_ret
   exact⟨congrArg Ending.returned (congrArg (Value.int .u64) (by rw [HE.out];rfl)),rfl⟩
end
end Go.Proofs.YtfmecpembnmnkaaGreatDoor
