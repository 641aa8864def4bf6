/- Walks: the next number above, below; one step. Printed by wip/gen/iv2.py. -/
import Derived.Test.YtfmecpembnmnkaaGreatDoorPIB
import Derived.Test.YtfmecpembnmnkaaGreatDoorPGV
import Derived.Laws.Bits64
import Derived.Test.YtfmecpembnmnkaaGreatDoorPIA
namespace Go.Proofs.YtfmecpembnmnkaaGreatDoor
section
set_option maxRecDepth 100000
set_option maxHeartbeats 6400000
open Go.RowKit
def aEv (w0 W:World):Prop:=rZ W w0.heap.size∧Below w0.heap.size w0 W
theorem aEv.later {w0 W V:World}(h:aEv w0 W) (hb:Below W.heap.size W V):aEv w0 V:=⟨h.1.below hb,h.2.trans (hb.mono h.2.size)⟩
theorem aEv.new (w:World):aEv w (w.alloc (.cells #[.int .u64 52,.int .i64 2047,.int .i64 1075] 162)):=⟨rZ.new w _,Below.aA w _⟩
theorem aEv.cells {w0 W:World}(h:aEv w0 W):W.cell? ⟨w0.heap.size,0,none⟩=some (.int .u64 52)∧W.cell? ⟨w0.heap.size,1,none⟩=some (.int .i64 2047)∧W.cell? ⟨w0.heap.size,2,none⟩=some (.int .i64 1075):=h.1.2
theorem yT {b:Nat}(h:b<18446744073709551616):bits .xor .u64 (b:Int) (aH:Int)=((bQ b:Nat):Int):=by
 rw [bits_xor_u64_nat b aH h (by decide),←lJ h];rfl
def pvB (b:Nat):Nat:=bQ (nxB (bQ b))
theorem aXl {b:Nat}(h:b<18446744073709551616) (h1:ky b≤aG) (h2: -(aG:Int)<ky b):ky (pvB b)=ky b-1∧pvB b<18446744073709551616∧pvB b%aH≤aG:=by
 have hf:=iF h
 have hk:=lS h
 obtain⟨a1,a2,a3⟩:=aRf hf (by omega) (by omega)
 unfold pvB
 rw [lS a2,a1,hk,uD a2]
 exact⟨by omega,iF a2,a3⟩
theorem aMx {b:Nat}(h:aU b=false):bF b=b:=by unfold bF;rw [h];rfl
theorem next_any (b:Nat) (w:World) (h:b<18446744073709551616) (hf:aK b=true):
  Calls Tryz.prog 211 #[.int .u64 b,F64] w (Gives (.int .u64 (nxB b)) w):=by
 have hn:=jC hf
 have HC:=jH fun w=>rE b w h
 rw [aMx hn]at HC
 have HO:=jH fun w=>aIk w
 have HI:=jH fun w=>tC w
 have HS:=jH fun w=>uS w
 have HW:=jH (aEv.new w)
 unfold F64 at*
 have hw:=jI (vS hf)
 have hk:b%aH<aG:=by
  rcases hw with h1|h1
  ·exact h1.2
  ·rw [h1.1]at hf;cases hf
 have h1:((b:Int)==(aEb:Int))=false:=by rw [beq_eq_false_iff_ne];unfold aEb aH aG at*;omega
 have h2:((b:Int)==(aG:Int))=false:=by rw [beq_eq_false_iff_ne];unfold aH aG at*;omega
 have h3:=qH h
 have h4:=zS h
 by_cases hz:b%aH=0
 ·have hx:nxB b=1:=by unfold nxB aH at*;split<;>(try split)<;>omega
  rw [hx]
  rw [hz]at h3
  clear h4 hz hx hk hw hn hf h
  go_enter Tryz.func211,Tryz.ntmps211
  obtain⟨c0,c1,c2⟩:=HW.out.cells
  go_wp2_with fail
  refine(HC.out _).mono ?_
  rintro e1 w1 ⟨rfl,hb1⟩
  replace HW:=jH (HW.out.later hb1)
  clear hb1 c0 c1 c2
  obtain⟨c0,c1,c2⟩:=HW.out.cells
  go_wp2_with fail
  refine(HO.out _).mono ?_
  rintro e2 w2 ⟨rfl,hb2⟩
  replace HW:=jH (HW.out.later hb2)
  clear hb2 c0 c1 c2
  obtain⟨c0,c1,c2⟩:=HW.out.cells
  go_wp2_with fail
  refine(HI.out _).mono ?_
  rintro e3 w3 ⟨rfl,hb3⟩
  replace HW:=jH (HW.out.later hb3)
  clear hb3 c0 c1 c2
  obtain⟨c0,c1,c2⟩:=HW.out.cells
  go_wp2_with fail
  refine(HS.out _).mono ?_
  rintro e4 w4 ⟨rfl,hb4⟩
  replace HW:=jH (HW.out.later hb4)
  clear hb4 c0 c1 c2
  obtain⟨c0,c1,c2⟩:=HW.out.cells
  go_wp2
  go_ret
  exact⟨rfl,HW.out.2⟩
 ·have h5:(((b%aH:Nat):Int)==0)=false:=by rw [beq_eq_false_iff_ne];omega
  have hne:b≠aH:=fun e=>hz (by rw [e];decide)
  generalize b%aH=m at*
  cases hs:aQ b
  ·have hx:nxB b=b+1:=by unfold aQ at hs;unfold nxB;have:=of_decide_eq_false hs;rw [if_neg (by omega),if_pos (by omega)]
   have h6:IntKind.u64.wrap ((b:Int)+1)=((b+1:Nat):Int):=by rw [show((b:Int)+1)=((b+1:Nat):Int) by omega];exact dU _ (by unfold aQ at hs;have:=of_decide_eq_false hs;unfold aH at this;omega)
   rw [hx]
   rw [hs]at h4
   have h4':bits .and .u64 (b:Int) (aH:Int)=0:=h4
   generalize b+1=R at*
   clear h4 hz hx hk hw hn hf h hs hne
   go_enter Tryz.func211,Tryz.ntmps211
   obtain⟨c0,c1,c2⟩:=HW.out.cells
   go_wp2_with fail
   refine(HC.out _).mono ?_
   rintro e1 w1 ⟨rfl,hb1⟩
   replace HW:=jH (HW.out.later hb1)
   clear hb1 c0 c1 c2
   obtain⟨c0,c1,c2⟩:=HW.out.cells
   go_wp2_with fail
   refine(HO.out _).mono ?_
   rintro e2 w2 ⟨rfl,hb2⟩
   replace HW:=jH (HW.out.later hb2)
   clear hb2 c0 c1 c2
   obtain⟨c0,c1,c2⟩:=HW.out.cells
   go_wp2_with fail
   refine(HI.out _).mono ?_
   rintro e3 w3 ⟨rfl,hb3⟩
   replace HW:=jH (HW.out.later hb3)
   clear hb3 c0 c1 c2
   obtain⟨c0,c1,c2⟩:=HW.out.cells
   go_wp2_with fail
   refine(HS.out _).mono ?_
   rintro e4 w4 ⟨rfl,hb4⟩
   replace HW:=jH (HW.out.later hb4)
   clear hb4 c0 c1 c2
   obtain⟨c0,c1,c2⟩:=HW.out.cells
   go_wp2_with fail
   refine(HS.out _).mono ?_
   rintro e5 w5 ⟨rfl,hb5⟩
   replace HW:=jH (HW.out.later hb5)
   clear hb5 c0 c1 c2
   obtain⟨c0,c1,c2⟩:=HW.out.cells
   go_wp2
   go_ret
   exact⟨rfl,HW.out.2⟩
  ·have hx:nxB b=b-1:=by
    unfold aQ at hs;unfold nxB;have:=of_decide_eq_true hs
    rw [if_neg hne,if_neg (by omega)]
   have h6:IntKind.u64.wrap ((b:Int)-1)=((b-1:Nat):Int):=by
    have:=of_decide_eq_true hs
    unfold aH at this
    rw [show((b:Int)-1)=((b-1:Nat):Int) by omega];exact dU _ (by omega)
   rw [hx]
   rw [hs]at h4
   have h4':bits .and .u64 (b:Int) (aH:Int)=9223372036854775808:=h4
   generalize b-1=R at*
   clear h4 hz hx hk hw hn hf h hs hne
   go_enter Tryz.func211,Tryz.ntmps211
   obtain⟨c0,c1,c2⟩:=HW.out.cells
   go_wp2_with fail
   refine(HC.out _).mono ?_
   rintro e1 w1 ⟨rfl,hb1⟩
   replace HW:=jH (HW.out.later hb1)
   clear hb1 c0 c1 c2
   obtain⟨c0,c1,c2⟩:=HW.out.cells
   go_wp2_with fail
   refine(HO.out _).mono ?_
   rintro e2 w2 ⟨rfl,hb2⟩
   replace HW:=jH (HW.out.later hb2)
   clear hb2 c0 c1 c2
   obtain⟨c0,c1,c2⟩:=HW.out.cells
   go_wp2_with fail
   refine(HI.out _).mono ?_
   rintro e3 w3 ⟨rfl,hb3⟩
   replace HW:=jH (HW.out.later hb3)
   clear hb3 c0 c1 c2
   obtain⟨c0,c1,c2⟩:=HW.out.cells
   go_wp2_with fail
   refine(HS.out _).mono ?_
   rintro e4 w4 ⟨rfl,hb4⟩
   replace HW:=jH (HW.out.later hb4)
   clear hb4 c0 c1 c2
   obtain⟨c0,c1,c2⟩:=HW.out.cells
   go_wp2_with fail
   refine(HS.out _).mono ?_
   rintro e5 w5 ⟨rfl,hb5⟩
   replace HW:=jH (HW.out.later hb5)
   clear hb5 c0 c1 c2
   obtain⟨c0,c1,c2⟩:=HW.out.cells
   go_wp2
   go_ret
   exact⟨rfl,HW.out.2⟩
theorem aR9 (b:Nat) (w:World) (h:b<18446744073709551616) (hf:aK b=true):
  Calls Tryz.prog 212 #[.int .u64 b,F64] w (Gives (.int .u64 (pvB b)) w):=by
 have hn:=jC hf
 have HN:=jH fun w=>aLx b w h
 rw [hn]at HN
 have HX:=jH fun w=>next_any (bQ b) w (iF h) (by rw [jW];exact hf)
 have HS:=jH fun w=>uS w
 have HW:=jH (aEv.new w)
 have h1:=yT h
 have hl:nxB (bQ b)<18446744073709551616:=(aRf (iF h) (by have:=(gW (iF h) (vS (b:=bQ b) (by rw [jW];exact hf))).1 (by rw [jW];exact hf);omega) (by have:=(gW (iF h) (vS (b:=bQ b) (by rw [jW];exact hf))).1 (by rw [jW];exact hf);omega)).2.1
 have h2:=yT hl
 unfold pvB
 unfold F64 at*
 generalize bQ (nxB (bQ b))=R at*
 generalize nxB (bQ b)=N at*
 generalize bQ b=F at*
 clear h hf hn hl
 go_enter Tryz.func212,Tryz.ntmps212
 obtain⟨c0,c1,c2⟩:=HW.out.cells
 go_wp2_with fail
 refine(HN.out _).mono ?_
 rintro e1 w1 ⟨rfl,hb1⟩
 replace HW:=jH (HW.out.later hb1)
 clear hb1 c0 c1 c2
 go_wp2
 refine aC (fun w':World=>w'.cell? ⟨w.heap.size,0,none⟩=some (.int .u64 52)∧w'.cell? ⟨w.heap.size,1,none⟩=some (.int .i64 2047)∧w'.cell? ⟨w.heap.size,2,none⟩=some (.int .i64 1075)) 7 (.take 0 (.take 1 (.take 4 (.take 6 (.run 2 (.take 3 (.run 5 .nil))))))) (by kernel_rfl) (by kernel_rfl) ?_
 replace HW:=jH (HW.out.later (aB _))
 generalize World.drew _=W0 at HW ⊢
 have hS:(fun w':World=>w'.cell? ⟨w.heap.size,0,none⟩=some (.int .u64 52)∧w'.cell? ⟨w.heap.size,1,none⟩=some (.int .i64 2047)∧w'.cell? ⟨w.heap.size,2,none⟩=some (.int .i64 1075)) W0:=HW.out.cells
 repeat (first|(refine tkL (v:= ?_) rfl rfl rfl (fun w' hSw=> ?_) hS ?_;rotate_left;(focus (go_simp;with_reducible rfl));simp only [aF])|(refine skL rfl rfl rfl hS ?_;simp only [aF]))
 clear hS
 refine aI rfl rfl fun K' hK=> ?_
 go_simp
 refine(HS.out _).mono ?_
 rintro e1 W0v1 ⟨rfl,hb1⟩
 replace HW:=jH (HW.out.later hb1)
 refine hK _ _ HW.out.cells ?_
 clear hK K' hb1
 try simp only [Act.put,aF]
 have hS:(fun w':World=>w'.cell? ⟨w.heap.size,0,none⟩=some (.int .u64 52)∧w'.cell? ⟨w.heap.size,1,none⟩=some (.int .i64 2047)∧w'.cell? ⟨w.heap.size,2,none⟩=some (.int .i64 1075)) W0v1:=HW.out.cells
 repeat (first|(refine tkL (v:= ?_) rfl rfl rfl (fun w' hSw=> ?_) hS ?_;rotate_left;(focus (go_simp;with_reducible rfl));simp only [aF])|(refine skL rfl rfl rfl hS ?_;simp only [aF]))
 clear hS
 refine aI rfl rfl fun K' hK=> ?_
 go_simp
 refine(HX.out _).mono ?_
 rintro e1 W0v2 ⟨rfl,hb1⟩
 replace HW:=jH (HW.out.later hb1)
 refine hK _ _ HW.out.cells ?_
 clear hK K' hb1
 try simp only [Act.put,aF]
 have hS:(fun w':World=>w'.cell? ⟨w.heap.size,0,none⟩=some (.int .u64 52)∧w'.cell? ⟨w.heap.size,1,none⟩=some (.int .i64 2047)∧w'.cell? ⟨w.heap.size,2,none⟩=some (.int .i64 1075)) W0v2:=HW.out.cells
 repeat (first|(refine tkL (v:= ?_) rfl rfl rfl (fun w' hSw=> ?_) hS ?_;rotate_left;(focus (go_simp;with_reducible rfl));simp only [aF])|(refine skL rfl rfl rfl hS ?_;simp only [aF]))
 clear hS
 refine aN ?_
 simp only [drL]
 obtain⟨c0,c1,c2⟩:=HW.out.cells
 go_wp2_with fail
 refine(HS.out _).mono ?_
 rintro e9 w9 ⟨rfl,hb9⟩
 replace HW:=jH (HW.out.later hb9)
 clear hb9 c0 c1 c2
 go_wp2
 go_ret
 exact⟨rfl,HW.out.2⟩
theorem aMy (b:Nat) (w:World) (h:b<18446744073709551616) (hf:aK b=true):
  Calls Tryz.prog 182 #[.float .f64 b] w (Gives (.float .f64 (nxB b)) w):=by
 have HX:=jH fun w=>next_any b w h hf
 have HO:=jH fun w=>zU w
 have h0:=gZ b
 have h1:=lM (nxB b)
 generalize nxB b=R at*
 unfold F64 at*
 clear h hf
 go_enter Tryz.func182,Tryz.ntmps182
 go_wp2_with fail
 refine(HO.out _).mono ?_
 rintro e1 w1 ⟨rfl,hb1⟩
 have HB1:=jH hb1
 clear hb1
 go_wp2_with fail
 refine(HX.out _).mono ?_
 rintro e2 w2 ⟨rfl,hb2⟩
 have HB2:=jH (HB1.out.trans (hb2.mono HB1.out.size))
 clear hb2
 go_wp2
 go_ret
 exact⟨rfl,HB2.out⟩
theorem aOe (b:Nat) (w:World) (h:b<18446744073709551616) (hf:aK b=true):
  Calls Tryz.prog 183 #[.float .f64 b] w (Gives (.float .f64 (pvB b)) w):=by
 have HX:=jH fun w=>aR9 b w h hf
 have HO:=jH fun w=>zU w
 have h0:=gZ b
 have h1:=lM (pvB b)
 generalize pvB b=R at*
 unfold F64 at*
 clear h hf
 go_enter Tryz.func183,Tryz.ntmps183
 go_wp2_with fail
 refine(HO.out _).mono ?_
 rintro e1 w1 ⟨rfl,hb1⟩
 have HB1:=jH hb1
 clear hb1
 go_wp2_with fail
 refine(HX.out _).mono ?_
 rintro e2 w2 ⟨rfl,hb2⟩
 have HB2:=jH (HB1.out.trans (hb2.mono HB1.out.size))
 clear hb2
 go_wp2
 go_ret
 exact⟨rfl,HB2.out⟩
def stB (x:Nat) (s:Int) (mode:Int):Nat:=if 0<s∧mode=3 then nxB x else if s<0∧mode=4 then pvB x else x
theorem aBz (x r:Nat) (mode:Int) (w:World) (hx:x<18446744073709551616) (fx:aK x=true) (hr:r<18446744073709551616) (nr:aU r=false) (hm:mode=3∨mode=4):
  Calls Tryz.prog 153 #[.float .f64 x,.float .f64 r,.int .i64 mode] w (Gives (.float .f64 (stB x (ky r) mode)) w):=by
 have HNX:=jH fun w=>aMy x w hx fx
 have HPV:=jH fun w=>aOe x w hx fx
 have hord:=jX hr (by decide:0<18446744073709551616) (dH nr) (by decide)
 rw [dW]at hord
 unfold F6 at hord
 rcases Int.lt_trichotomy (ky r) 0 with h1|h1|h1
 ·rw [Int.compare_eq_lt.2 h1]at hord
  rcases hm with rfl|rfl
  ·rw [show stB x (ky r) 3=x by unfold stB;rw [if_neg (by omega),if_neg (by omega)]]
   clear hx fx hr nr h1
   go_enter Tryz.func153,Tryz.ntmps153
   go_wp2
   go_ret
   exact⟨rfl,Below.refl _ _⟩
  ·rw [show stB x (ky r) 4=pvB x by unfold stB;rw [if_neg (by omega),if_pos ⟨h1,rfl⟩]]
   generalize pvB x=R at*
   clear hx fx hr nr h1
   go_enter Tryz.func153,Tryz.ntmps153
   go_wp2_with fail
   refine(HPV.out _).mono ?_
   rintro e1 w1 ⟨rfl,hb1⟩
   have HB1:=jH hb1
   clear hb1
   go_wp2
   go_ret
   exact⟨rfl,HB1.out⟩
 ·rw [Int.compare_eq_eq.2 h1]at hord
  rw [show stB x (ky r) mode=x by unfold stB;rw [if_neg (by omega),if_neg (by omega)]]
  clear hx fx hr nr h1
  rcases hm with rfl|rfl
  ·go_enter Tryz.func153,Tryz.ntmps153
   go_wp2
   go_ret
   exact⟨rfl,Below.refl _ _⟩
  ·go_enter Tryz.func153,Tryz.ntmps153
   go_wp2
   go_ret
   exact⟨rfl,Below.refl _ _⟩
 ·rw [Int.compare_eq_gt.2 h1]at hord
  rcases hm with rfl|rfl
  ·rw [show stB x (ky r) 3=nxB x by unfold stB;rw [if_pos ⟨h1,rfl⟩]]
   generalize nxB x=R at*
   clear hx fx hr nr h1
   go_enter Tryz.func153,Tryz.ntmps153
   go_wp2_with fail
   refine(HNX.out _).mono ?_
   rintro e1 w1 ⟨rfl,hb1⟩
   have HB1:=jH hb1
   clear hb1
   go_wp2
   go_ret
   exact⟨rfl,HB1.out⟩
  ·rw [show stB x (ky r) 4=x by unfold stB;rw [if_neg (by omega),if_neg (by omega)]]
   clear hx fx hr nr h1
   go_enter Tryz.func153,Tryz.ntmps153
   go_wp2
   go_ret
   exact⟨rfl,Below.refl _ _⟩
def usB (x:Nat):Bool:=decide (553942754166571008<x%aH)&&decide (x%aH<9110782046170513408)
theorem aDz (x:Nat) (w:World) (hx:x<18446744073709551616) (nx:aU x=false):
  Calls Tryz.prog 152 #[.float .f64 x] w (Gives (.bool (usB x)) w):=by
 have HA:=jH fun w=>yF x w hx
 have hk:x%aH<18446744073709551616:=Nat.lt_trans (Nat.mod_lt _ (by decide:0<aH)) (by decide)
 have hn:x%aH%aH≤aG:=by rw [Nat.mod_mod];exact dH nx
 have hy:ky (x%aH)=(x%aH:Nat):=by unfold ky;rw [if_pos (Nat.mod_lt _ (by decide:0<aH))]
 have o1:(FloatKind.f64.format.order (x%aH) 553942754166571008==some Ordering.gt)=decide (553942754166571008<x%aH):=by
  have:=jX hk (by decide:553942754166571008<18446744073709551616) hn (by decide)
  unfold F6 at this
  rw [this,hy,show ky 553942754166571008=553942754166571008 by decide]
  rcases Int.lt_trichotomy ((x%aH:Nat):Int) 553942754166571008 with h|h|h
  ·rw [Int.compare_eq_lt.2 h,decide_eq_false (by omega)];rfl
  ·rw [Int.compare_eq_eq.2 h,decide_eq_false (by omega)];rfl
  ·rw [Int.compare_eq_gt.2 h,decide_eq_true (by omega)];rfl
 have o2:(FloatKind.f64.format.order (x%aH) 9110782046170513408==some Ordering.lt)=decide (x%aH<9110782046170513408):=by
  have:=jX hk (by decide:9110782046170513408<18446744073709551616) hn (by decide)
  unfold F6 at this
  rw [this,hy,show ky 9110782046170513408=9110782046170513408 by decide]
  rcases Int.lt_trichotomy ((x%aH:Nat):Int) 9110782046170513408 with h|h|h
  ·rw [Int.compare_eq_lt.2 h,decide_eq_true (by omega)];rfl
  ·rw [Int.compare_eq_eq.2 h,decide_eq_false (by omega)];rfl
  ·rw [Int.compare_eq_gt.2 h,decide_eq_false (by omega)];rfl
 unfold usB
 clear hk hn hy nx hx
 generalize decide (x%aH<9110782046170513408)=t2 at*
 generalize decide (553942754166571008<x%aH)=t1 at*
 generalize x%aH=m at*
 cases t1
 ·go_enter Tryz.func152,Tryz.ntmps152
  go_wp2_with fail
  refine(HA.out _).mono ?_
  rintro e1 w1 ⟨rfl,hb1⟩
  have HB1:=jH hb1
  clear hb1
  go_wp2
  go_ret
  exact⟨rfl,HB1.out⟩
 ·go_enter Tryz.func152,Tryz.ntmps152
  go_wp2_with fail
  refine(HA.out _).mono ?_
  rintro e1 w1 ⟨rfl,hb1⟩
  have HB1:=jH hb1
  clear hb1
  go_wp2_with fail
  refine(HA.out _).mono ?_
  rintro e2 w2 ⟨rfl,hb2⟩
  have HB2:=jH (HB1.out.trans (hb2.mono HB1.out.size))
  clear hb2
  go_wp2
  go_ret
  exact⟨rfl,HB2.out⟩
end
section
open Go.RowKit
def eX (k:Int) (w:World) (e:Ending) (w':World):Prop:=∃r,e= .returned (.float .f64 r)∧W64 r∧aU r=false∧ky r=k∧Below w.heap.size w w'
def adK (x y:Nat) (mode:Int):Int:=ky (aV (plZ (aO x) (pE x) (aO y) (pE y)) (plE (aO x) (pE x) (aO y) (pE y)) mode)
def mlK (x y:Nat) (mode:Int):Int:=ky (aV (aO x*aO y) (pE x+pE y) mode)
def dvK (x y:Nat) (mode:Int):Int:=ky (aV (qZ x y) (qE x y) mode)
theorem aPv {b:Nat}(h:W64 b) (hf:aK b=true):(fI b).natAbs=wv (b%aH):=by
 unfold fI
 rw [nS h hf (by omega)]
 simp only [Int.sub_self,Int.toNat_zero,Int.pow_zero,Int.mul_one]
 split<;>simp
theorem aPw :wv 9110782046170513408=1073741824*unU:=by decide+kernel
theorem aHf (b:Nat):fI b=vI 1074 b:=rfl
theorem aXb {x:Nat}(nx:aU x=false) (h:x%aH<9110782046170513408):aK x=true:=by
 rcases jI (dH nx)with h1|h1
 ·exact h1.1
 ·unfold aG at h1;omega
theorem aGz {b:Nat}(h:W64 b) (hf:aK b=true) (hb:b%aH<9110782046170513408):(fI b).natAbs<1073741824*unU:=by
 rw [aPv h hf,←aPw];exact aVj hb
theorem pY {b:Nat}{M:Int}(h:W64 b) (hf:aK b=true) (hM:1074≤M):vI M b=fI b*2^(M-1074).toNat:=by
 unfold vI fI
 rw [nS h hf hM,nS h hf (by omega:(1074:Int)≤1074)]
 simp
theorem aW6 {b:Nat}(h:W64 b):(ky b).natAbs=b%aH:=by rw [lT h];split<;>omega
theorem aC2 {x:Nat}{s mode:Int}(hx:W64 x) (fx:aK x=true):
  ky (stB x s mode)=ky x+(if 0<s∧mode=3 then 1 else if s<0∧mode=4 then-1 else 0)∧W64 (stB x s mode)∧aU (stB x s mode)=false:=by
 have hk:=(gW hx (vS fx)).1 fx
 obtain⟨a1,a2,a3⟩:=aRf hx hk.2 (by omega)
 obtain⟨b1,b2,b3⟩:=aXl hx (by omega) hk.1
 unfold stB
 split
 ·exact⟨a1,a2,dF.2 a3⟩
 ·split
  ·exact⟨by rw [b1];omega,b2,dF.2 b3⟩
  ·exact⟨by omega,hx,dF.2 (vS fx)⟩
theorem yC {M z e s mode:Int}{x:Nat}(hM:1074≤M) (h1:0≤e+M) (hx:W64 x) (fx:aK x=true) (hk:ky x=ky (aV z e 0)) (hm:mode=3∨mode=4)
  (s1:0<s↔vI M x<sc M z e) (s2:s<0↔sc M z e<vI M x):ky (stB x s mode)=ky (aV z e mode):=by
 rw [(aC2 hx fx).1]
 obtain⟨l0,n0⟩:=bU z e 0
 have f0:aK (aV z e 0)=true:=(gW l0 n0).2 (by rw [←hk];exact(gW hx (vS fx)).1 fx)
 have ev:vI M x=vI M (aV z e 0):=by
  have a:=iG hx l0 fx f0 hM
  have b:=iG l0 hx f0 fx hM
  omega
 rw [ev]at s1 s2
 rw [hk]
 obtain⟨u1,u2⟩:=aTs hM h1 f0
 obtain⟨d1,d2⟩:=aOj hM h1 f0
 rcases hm with rfl|rfl
 ·by_cases h:0<s
  ·rw [if_pos ⟨h,rfl⟩];have:=u2 (s1.1 h);omega
  ·rw [if_neg (fun hh=>h hh.1),if_neg (by omega)]
   have:=u1 (by have:=mt s1.2 h;omega);omega
 ·rw [if_neg (by omega)]
  by_cases h:s<0
  ·rw [if_pos ⟨h,rfl⟩];have:=d2 (s2.1 h);omega
  ·rw [if_neg (fun hh=>h hh.1)]
   have:=d1 (by have:=mt s2.2 h;omega);omega
theorem aO2 {x y s:Nat}{mode:Int}(hx:W64 x) (hy:W64 y) (fx:aK x=true) (fy:aK y=true) (bx:x%aH<9110782046170513408) (bY:y%aH<9110782046170513408)
  (hs:F6.add x y=some s) (hm:mode=3∨mode=4):
  ∃t p d f r,F6.sub s x=some t∧F6.sub s t=some p∧F6.sub x p=some d∧F6.sub y t=some f∧F6.add d f=some r∧W64 s∧aK s=true∧W64 r∧aU r=false∧
   ky (stB s (ky r) mode)=adK x y mode:=by
 obtain⟨t,p,d,f,r,h1,h2,h3,h4,h5,⟨hsl,fs,-⟩,hrl,fr,hI⟩:=aNn hx hy fx fy (aGz hx fx bx) (aGz hy fy bY) hs
 refine⟨t,p,d,f,r,h1,h2,h3,h4,h5,hsl,fs,hrl,jC fr,?_⟩
 obtain⟨s',hs',-,-,hk⟩:=aLo hx hy fx fy
 obtain rfl:s=s':=by rw [hs]at hs';exact Option.some.inj hs'
 have hpx:=gV fx
 have hpy:=gV fy
 have hE:0≤plE (aO x) (pE x) (aO y) (pE y)+1074:=aAq (by omega) (by omega)
 have hV:sc 1074 (plZ (aO x) (pE x) (aO y) (pE y)) (plE (aO x) (pE x) (aO y) (pE y))=fI x+fI y:=aBw (by omega) (by omega)
 have a:=pU (M:=1074) (by decide:W64 0) hrl (by decide) fr (by decide)
 have b:=pU (M:=1074) hrl (by decide:W64 0) fr (by decide) (by decide)
 rw [dW,mJ,←aHf]at a b
 refine yC (M:=1074) (by decide) hE hsl fs hk hm ?_ ?_
 ·rw [hV,a,hI,←aHf];omega
 ·rw [hV,b,hI,←aHf];omega
theorem aTp {x y c:Nat}(hx:W64 x) (hy:W64 y) (hc:W64 c) (fx:aK x=true) (fy:aK y=true) (fc:aK c=true):
  ∃r Z E,F6.fma x y c=some r∧W64 r∧aU r=false∧ky r=ky (aV Z E 0)∧0≤E+2148∧sc 2148 Z E=fI x*fI y+vI 2148 c:=by
 have h1:=dI fx
 have h2:=dI fy
 have h3:=dI fc
 obtain⟨Z,hZ⟩:∃Z:Int,Ieee.signed (aQ x^^aQ y) (aS x*aS y) (aW x+aW y-min (aW x+aW y) (aW c)).toNat+Ieee.signed (aQ c) (aS c) (aW c-min (aW x+aW y) (aW c)).toNat=Z:=⟨_,rfl⟩
 have hval:sc 2148 Z (min (aW x+aW y) (aW c))=fI x*fI y+vI 2148 c:=by
  have e1:∀k,Ieee.signed (aQ x^^aQ y) (aS x*aS y) k=kZ x*kZ y*2^k:=by
   intro k
   unfold Ieee.signed kZ
   rw [Nat.shiftLeft_eq]
   cases aQ x<;>cases aQ y<;>simp [Int.neg_mul,Int.mul_neg]
  rw [e1,sF]at hZ
  rw [←hZ]
  unfold fI vI
  rw [←kY fx (by omega),←kY fy (by omega),←kY fc (by omega)]
  unfold sc
  rw [Int.add_mul]
  congr 1
  ·rw [Int.mul_assoc,←Int.pow_add,show(aW x+aW y-min (aW x+aW y) (aW c)).toNat+(min (aW x+aW y) (aW c)+2148).toNat=(aW x+1074).toNat+(aW y+1074).toNat by omega,Int.pow_add]
   simp only [Int.mul_assoc,Int.mul_comm,Int.mul_left_comm]
  ·rw [Int.mul_assoc,←Int.pow_add]
   congr 2;omega
 by_cases h0:Z=0
 ·refine⟨if(aQ x^^aQ y)&&aQ c then aH else 0,Z,min (aW x+aW y) (aW c),?_,?_,?_,?_,by omega,hval⟩
  ·unfold Ieee.Format.fma
   rw [dK hx fx,dK hy fy,dK hc fc]
   unfold Ieee.Datum.product
   simp only [Option.bind_some]
   unfold Ieee.Datum.sum
   simp only [hZ,h0,if_true]
   show some (F6.word _ 0)=_
   rw [aBo,Nat.add_zero]
  ·cases(aQ x^^aQ y)&&aQ c<;>decide
  ·cases(aQ x^^aQ y)&&aQ c<;>decide
  ·rw [h0,show aV 0 (min (aW x+aW y) (aW c)) 0=0 from if_pos rfl]
   cases(aQ x^^aQ y)&&aQ c<;>decide
 ·refine⟨aV Z (min (aW x+aW y) (aW c)) 0,Z,min (aW x+aW y) (aW c),?_,(bU _ _ _).1,dF.2 (bU _ _ _).2,rfl,by omega,hval⟩
  unfold Ieee.Format.fma
  rw [dK hx fx,dK hy fy,dK hc fc]
  unfold Ieee.Datum.product
  simp only [Option.bind_some]
  unfold Ieee.Datum.sum
  simp only [hZ,h0,if_false]
  rw [aV,if_neg h0,uI h0];rfl
theorem aM9 (k:Nat):((2^k:Nat):Int)=2^k:=by rw [Int.natCast_pow];rfl
theorem vK (a b:Nat) (h:a≤b):(2:Nat)^a≤2^b:=Nat.pow_le_pow_right (by decide) h
theorem aUk {a b:Nat}(h:a≤b) (m:Int):(2:Int)^a∣m*2^b:=by
 refine Int.dvd_trans ?_ (Int.dvd_mul_left _ _)
 exact⟨2^(b-a),by rw [←Int.pow_add];congr 1;omega⟩
theorem aOf {Z E:Int}(hE:0≤E+2148) (hd:(2:Int)^1074∣sc 2148 Z E):(0<ky (aV Z E 0)↔0<Z)∧(ky (aV Z E 0)<0↔Z<0):=by
 have hp:(0:Int)<2^(E+2148).toNat:=Int.pow_pos (by decide)
 have h1:vI 2148 1=2^1074:=by
  rw [pY (by decide) (by decide) (by decide),show fI 1=1 by decide,Int.one_mul];rfl
 have h2:vI 2148 (bQ 1)= -(2^1074):=by rw [aF1 (by decide) (by decide) (by decide),h1]
 have hk1:ky 1=1:=by decide
 have hk2:ky (bQ 1)= -1:=by decide
 rcases Int.lt_trichotomy Z 0 with h|h|h
 ·have h3:sc 2148 Z E<0:=Int.mul_neg_of_neg_of_pos h hp
  have h4:sc 2148 Z E≤-(2^1074):=by
   have:=Int.le_of_dvd (by omega) (Int.dvd_neg.2 hd)
   generalize (2:Int)^1074=G at*
   omega
  have:=vO (c:=bQ 1) 0 (by decide:(1074:Int)≤2148) hE (by decide) (by decide) (by rw [h2];exact h4)
  omega
 ·subst h
  rw [show aV 0 E 0=0 from if_pos rfl,dW];omega
 ·have h3:0<sc 2148 Z E:=Int.mul_pos h hp
  have h4:2^1074≤sc 2148 Z E:=Int.le_of_dvd h3 hd
  have:=vN (c:=1) 0 (by decide:(1074:Int)≤2148) hE (by decide) (by decide) (by rw [h1];exact h4)
  omega
theorem aQd :fI 553942754166571008=2^174:=by decide+kernel
theorem aNd {x y p:Nat}{mode:Int}(hx:W64 x) (hy:W64 y) (fx:aK x=true) (fy:aK y=true) (hp:F6.mul x y=some p) (hu:usB p=true) (hm:mode=3∨mode=4):
  ∃r,F6.fma x y (bQ p)=some r∧W64 p∧aK p=true∧W64 r∧aU r=false∧ky (stB p (ky r) mode)=mlK x y mode:=by
 obtain⟨p',hp',pl,pn,hk⟩:=aLm hx hy fx fy
 obtain rfl:p=p':=by rw [hp]at hp';exact Option.some.inj hp'
 unfold usB at hu
 simp only [Bool.and_eq_true,decide_eq_true_eq]at hu
 have fp:aK p=true:=aXb (dF.2 pn) hu.2
 obtain⟨r,Z,E,hr,rl,rn,rk,hE,hv⟩:=aTp hx hy (iF pl) fx fy (by rw [jW];exact fp)
 refine⟨r,hr,pl,fp,rl,rn,?_⟩
 have hpx:=gV fx
 have hpy:=gV fy
 have hQ:0≤pE x+pE y+2148:=by omega
 have hV:sc 2148 (aO x*aO y) (pE x+pE y)=fI x*fI y:=aAd (M:=1074) (by omega) (by omega)
 rw [aF1 pl fp (by decide)]at hv
 have hd:(2:Int)^1074∣sc 2148 Z E:=by
  rw [hv]
  have hdp:(2:Int)^1074∣vI 2148 p:=by rw [pY pl fp (by decide)];exact Int.dvd_mul_left _ _
  refine Int.dvd_add ?_ (Int.dvd_neg.2 hdp)
  have ex:=dI fx
  have ey:=dI fy
  have mx:=fP x
  have my:=fP y
  have e1:fI x*fI y=kZ x*kZ y*2^(aW x+aW y+2148).toNat:=by
   unfold fI
   rw [←kY fx (by omega),←kY fy (by omega)]
   unfold sc
   rw [show(aW x+aW y+2148).toNat=(aW x+1074).toNat+(aW y+1074).toNat by omega,Int.pow_add]
   simp only [Int.mul_assoc,Int.mul_comm,Int.mul_left_comm]
  rcases Nat.lt_or_ge (aW x+aW y+2148).toNat 1074 with hl|hl
  ·exfalso
   obtain⟨J,hJ⟩:∃J:Nat,J=1248:=⟨_,rfl⟩
   have hb:(fI x*fI y).natAbs≤2^J:=by
    rw [e1,Int.natAbs_mul,bZ,Int.natAbs_mul,jK,jK]
    have h3:aS x*aS y≤2^53*2^53:=Nat.mul_le_mul (by rw [rH];omega) (by rw [rH];omega)
    obtain⟨K,hK⟩:∃K:Nat,K=1074:=⟨_,rfl⟩
    have h4:(2:Nat)^(aW x+aW y+2148).toNat≤2^K:=vK _ _ (by omega)
    refine Nat.le_trans (Nat.mul_le_mul h3 h4) ?_
    rw [←Nat.pow_add,←Nat.pow_add]
    exact vK _ _ (by omega)
   subst hJ
   have hc:vI 2148 553942754166571008=2^1248:=by
    rw [pY (by decide) (by decide) (by decide),aQd,show((2148:Int)-1074).toNat=1074 from rfl,←Int.pow_add]
   have hcn:=aM9 1248
   have k1:=vO (c:=553942754166571008) 0 (by decide:(1074:Int)≤2148) hQ (by decide) (by decide) (by rw [hV,hc,←hcn];generalize (2^1248:Nat)=G at*;omega)
   have k2:=vN (c:=bQ 553942754166571008) 0 (by decide:(1074:Int)≤2148) hQ (by decide) (by decide) (by rw [hV,aF1 (by decide) (by decide) (by decide),hc,←hcn];generalize (2^1248:Nat)=G at*;omega)
   rw [←hk]at k1 k2
   rw [show ky 553942754166571008=553942754166571008 by decide]at k1
   rw [show ky (bQ 553942754166571008)= -553942754166571008 by decide]at k2
   have:=aW6 pl
   omega
  ·rw [e1];exact aUk hl _
 obtain⟨s1,s2⟩:=aOf hE hd
 have hp2:(0:Int)<2^(E+2148).toNat:=Int.pow_pos (by decide)
 have z1:0<Z↔0<sc 2148 Z E:=by
  constructor
  ·exact fun h=>Int.mul_pos h hp2
  ·intro h
   rcases Int.lt_trichotomy Z 0 with h5|h5|h5
   ·have:sc 2148 Z E<0:=Int.mul_neg_of_neg_of_pos h5 hp2
    omega
   ·rw [h5,fM]at h;omega
   ·exact h5
 have z2:Z<0↔sc 2148 Z E<0:=by
  constructor
  ·exact fun h=>Int.mul_neg_of_neg_of_pos h hp2
  ·intro h
   rcases Int.lt_trichotomy Z 0 with h5|h5|h5
   ·exact h5
   ·rw [h5,fM]at h;omega
   ·have:0<sc 2148 Z E:=Int.mul_pos h5 hp2
    omega
 refine yC (M:=2148) (by decide) hQ pl fp hk hm ?_ ?_
 ·rw [rk,s1,z1,hv,hV];omega
 ·rw [rk,s2,z2,hv,hV];omega
end
section
open Go.RowKit
theorem aFf (a b:Int):(0<a→0<b→0<a*b)∧(0<a→b<0→a*b<0)∧(a<0→0<b→a*b<0)∧(a<0→b<0→0<a*b)∧(a=0→a*b=0):=
 ⟨Int.mul_pos,Int.mul_neg_of_pos_of_neg,Int.mul_neg_of_neg_of_pos,Int.mul_pos_of_neg_of_neg,fun h=>by rw [h,Int.zero_mul]⟩
theorem aBj (a:Int) (k:Nat):(0<a*2^k↔0<a)∧(a*2^k<0↔a<0):=by
 have hp:(0:Int)<2^k:=Int.pow_pos (by decide)
 have:=aFf a (2^k)
 generalize (2:Int)^k=G at*
 omega
theorem aQh {b:Nat}(h:W64 b) (hf:aK b=true) (h0:aO b≠0):(aQ b=false→0<fI b)∧(aQ b=true→fI b<0):=by
 have hm:aS b≠0:=fun e=>h0 (dZ.2 e)
 have hp:0<aS b*2^(aW b+1074).toNat:=Nat.mul_pos (by omega) (Nat.two_pow_pos _)
 rw [gQ h hf]
 generalize aS b*2^(aW b+1074).toNat=g at*
 cases aQ b
 ·exact⟨fun _=>by rw [if_neg (by decide)];omega,fun h=>by cases h⟩
 ·exact⟨fun h=>(by cases h),fun _=>by rw [if_pos rfl];omega⟩
theorem aW4 {x y c:Nat}{M:Int}(hx:W64 x) (hy:W64 y) (hc:W64 c) (fx:aK x=true) (fy:aK y=true) (fc:aK c=true) (x0:aO x≠0) (y0:aO y≠0) (hM:1074≤M) (h1:0≤qE x y+M):
  (0<fI y→(vI M c<sc M (qZ x y) (qE x y)↔fI c*fI y<fI x*2^1074)∧(sc M (qZ x y) (qE x y)<vI M c↔fI x*2^1074<fI c*fI y))∧
  (fI y<0→(vI M c<sc M (qZ x y) (qE x y)↔fI x*2^1074<fI c*fI y)∧(sc M (qZ x y) (qE x y)<vI M c↔fI c*fI y<fI x*2^1074)):=by
 obtain⟨hA,hB⟩:=aCc (M:=M) hx hy hc fx fy fc x0 y0 hM h1
 have hsc:=pY hc fc hM
 have e1:(fI x).natAbs*2^1074=(fI x*2^1074).natAbs:=by rw [Int.natAbs_mul,bZ]
 rw [←Int.natAbs_mul,e1]at hA hB
 have p1:=aBj (fI x) 1074
 have p2:=aBj (fI c) (M-1074).toNat
 rw [←hsc]at p2
 have sx:=aQh hx fx x0
 have sy:=aQh hy fy y0
 have hN:qN x y≠0:=fun h=>by
  have:=(aDa hx hy fx fy x0 y0).2
  unfold qZ at this;rw [h]at this;simp at this
 have sv:(aQ x=aQ y→0<sc M (qZ x y) (qE x y))∧(aQ x≠aQ y→sc M (qZ x y) (qE x y)<0):=by
  have hp:(0:Int)<2^(qE x y+M).toNat:=Int.pow_pos (by decide)
  unfold sc qZ
  refine⟨fun h=> ?_,fun h=> ?_⟩
  ·rw [h,Bool.xor_self,if_neg (by decide)];exact Int.mul_pos (by omega) hp
  ·have hxy:∀p q:Bool,p≠q→(p^^q)=true:=by decide
   rw [hxy _ _ h,if_pos rfl];exact Int.mul_neg_of_neg_of_pos (by omega) hp
 have ms:=aFf (fI c) (fI y)
 generalize sc M (qZ x y) (qE x y)=V at*
 generalize vI M c=C at*
 generalize fI x*2^1074=S at*
 generalize fI c*fI y=T at*
 generalize fI x=X at*
 generalize fI y=Y at*
 generalize fI c=K at*
 clear hsc e1 hN h1 hM
 cases hx2:aQ x<;>cases hy2:aQ y<;>simp only [hx2,hy2,ne_eq,not_true_eq_false,not_false_eq_true,true_implies,false_implies,and_true,true_and,reduceCtorEq]at sx sy sv<;>omega
theorem aDm (n:Nat):∀(todo root:Nat),root*root≤n→n<(root+2^todo)*(root+2^todo)→Ieee.Datum.rootFrom n todo root*Ieee.Datum.rootFrom n todo root≤n∧n<(Ieee.Datum.rootFrom n todo root+1)*(Ieee.Datum.rootFrom n todo root+1):=by
 intro todo
 induction todo with
 |zero=>intro root h1 h2;exact⟨h1,by rw [Nat.pow_zero]at h2;exact h2⟩
 | succ todo ih=>
  intro root h1 h2
  unfold Ieee.Datum.rootFrom
  simp only [Nat.one_shiftLeft]
  split
  ·rename_i h
   exact ih _ h (by rw [Nat.pow_succ]at h2;rw [show root+2^todo+2^todo=root+2^todo*2 by omega];exact h2)
  ·rename_i h
   exact ih _ h1 (by omega)
def oQ (x:Nat):Nat:=(108-(aS x).log2)+((aW x-((108-(aS x).log2:Nat):Int))%2).toNat
def rtN (x:Nat):Nat:=aS x<<<oQ x
def rtW (x:Nat):Nat:=Ieee.Datum.rootFrom (rtN x) ((rtN x).log2/2+1) 0
def rtZ (x:Nat):Nat:=2*rtW x+(rtW x*rtW x !=rtN x).toNat
def rtE (x:Nat):Int:=(aW x-(oQ x:Int))/2-1
def rtK (x:Nat) (mode:Int):Int:=ky (aV (rtZ x) (rtE x) mode)
theorem aGh (x:Nat):rtW x*rtW x≤rtN x∧rtN x<(rtW x+1)*(rtW x+1):=by
 unfold rtW
 refine aDm _ _ _ (by simp) ?_
 rw [Nat.zero_add,←Nat.pow_add]
 have:=Nat.lt_log2_self (n:=rtN x)
 exact Nat.lt_of_lt_of_le this (Nat.pow_le_pow_right (by decide) (by omega))
theorem aDy {x:Nat}(hm:aS x≠0):2^53≤rtW x:=by
 obtain⟨-,h2⟩:=aGh x
 have h3:2^108≤rtN x:=by
  unfold rtN
  rw [Nat.shiftLeft_eq]
  have h4:=Nat.log2_self_le hm
  have h5:2^108≤2^((aS x).log2+oQ x):=Nat.pow_le_pow_right (by decide) (by unfold oQ;omega)
  rw [Nat.pow_add]at h5
  exact Nat.le_trans h5 (Nat.mul_le_mul_right _ h4)
 rcases Nat.lt_or_ge (rtW x) (2^53)with h|h
 ·have:=Nat.mul_le_mul (show rtW x+1≤2^53 by omega) (show rtW x+1≤2^53 by omega)
  omega
 ·exact h
theorem aNp {x:Nat}(hx:W64 x) (fx:aK x=true) (x0:aO x≠0) (hs:aQ x=false):F6.sqrt x=some (aV (rtZ x) (rtE x) 0)∧(rtZ x:Int)≠0:=by
 have mx:aS x≠0:=fun h=>x0 (dZ.2 h)
 have hW:=aDy mx
 have hz:(rtZ x:Int)≠0:=by
   unfold rtZ;have:0<2^53:=by decide
   omega
 refine⟨?_,hz⟩
 unfold aV
 rw [if_neg hz,uI hz,decide_eq_false (by omega),Int.natAbs_natCast]
 unfold Ieee.Format.sqrt
 rw [dK hx fx,aEs,hs]
 unfold Ieee.Datum.root
 simp only [if_neg mx]
 rfl
theorem aS5 {k s u n W:Nat}(hk:k≤2^53) (h1:W*W≤n) (h2:n<(W+1)*(W+1)) (hW:2^53≤W):
  (k*2^s*(k*2^s)≤n*(2^u*2^u)↔2*(k*2^s)≤(2*W+(W*W !=n).toNat)*2^u)∧(n*(2^u*2^u)≤k*2^s*(k*2^s)↔(2*W+(W*W !=n).toNat)*2^u≤2*(k*2^s)):=by
 have hU:=Nat.two_pow_pos u
 have hUU:=Nat.mul_pos hU hU
 have hd:(W*W !=n).toNat=if W*W=n then 0 else 1:=by
  by_cases h:W*W=n
  ·rw [if_pos h,h];simp
  ·rw [if_neg h];simp [h]
 rw [hd]
 by_cases hs:u≤s
 ·obtain⟨j,rfl⟩:=Nat.exists_eq_add_of_le hs
  have e1:k*2^(u+j)=k*2^j*2^u:=by rw [Nat.add_comm,Nat.pow_add,Nat.mul_assoc]
  rw [e1]
  generalize k*2^j=p at*
  have e2:p*2^u*(p*2^u)=p*p*(2^u*2^u):=by simp only [Nat.mul_assoc,Nat.mul_comm,Nat.mul_left_comm]
  have e3:2*(p*2^u)=2*p*2^u:=by rw [Nat.mul_assoc]
  rw [e2,e3,Nat.mul_le_mul_right_iff hUU,Nat.mul_le_mul_right_iff hUU,Nat.mul_le_mul_right_iff hU,Nat.mul_le_mul_right_iff hU]
  have c1:W+1≤p→(W+1)*(W+1)≤p*p:=fun h=>Nat.mul_le_mul h h
  have c2:p≤W→p*p≤W*W:=fun h=>Nat.mul_le_mul h h
  have c3:p+1≤W→(p+1)*(p+1)≤W*W:=fun h=>Nat.mul_le_mul h h
  have c4:p*p<(p+1)*(p+1):=Nat.mul_lt_mul'' (by omega) (by omega)
  have c5:W≤p→W*W≤p*p:=fun h=>Nat.mul_le_mul h h
  generalize (W+1)*(W+1)=WW1 at*
  generalize (p+1)*(p+1)=PP1 at*
  generalize W*W=WW at*
  generalize p*p=PP at*
  constructor
  ·split<;>omega
  ·split<;>omega
 ·have h5:2*(k*2^s)≤2^53*2^u:=by
   have h6:2^s*2≤2^u:=by rw [←Nat.pow_succ];exact Nat.pow_le_pow_right (by decide) (by omega)
   have h7:=Nat.mul_le_mul hk h6
   rw [←Nat.mul_assoc]at h7;omega
  have h8:2^53*2^u≤W*2^u:=Nat.mul_le_mul_right _ hW
  have h9:0<2^53*2^u:=Nat.mul_pos (by decide) hU
  have h10:k*2^s<W*2^u:=by omega
  have h11:=Nat.mul_lt_mul'' h10 h10
  have h12:W*2^u*(W*2^u)=W*W*(2^u*2^u):=by simp only [Nat.mul_assoc,Nat.mul_comm,Nat.mul_left_comm]
  have h13:W*W*(2^u*2^u)≤n*(2^u*2^u):=Nat.mul_le_mul_right _ h1
  have h14:2*W*2^u=2*(W*2^u):=Nat.mul_assoc _ _ _
  have h15:2*W*2^u≤(2*W+if W*W=n then 0 else 1)*2^u:=Nat.mul_le_mul_right _ (Nat.le_add_right _ _)
  constructor
  ·exact⟨fun _=>by omega,fun _=>by omega⟩
  ·exact⟨fun _=>by omega,fun _=>by omega⟩
theorem aNf (m a b c f:Nat) (h:a+b=c+(f+f)):m*2^a*2^b=m*2^c*(2^f*2^f):=by
 rw [Nat.mul_assoc,Nat.mul_assoc,←Nat.pow_add,←Nat.pow_add,←Nat.pow_add,h]
theorem aDv {x c:Nat}{M:Int}(hx:W64 x) (hc:W64 c) (fx:aK x=true) (fc:aK c=true) (x0:aO x≠0) (hM:1074≤M) (h1:0≤rtE x+M):
  ((fI c).natAbs*(fI c).natAbs≤(fI x).natAbs*2^1074↔(vI M c).natAbs≤(sc M (rtZ x) (rtE x)).natAbs)∧
  ((fI x).natAbs*2^1074≤(fI c).natAbs*(fI c).natAbs↔(sc M (rtZ x) (rtE x)).natAbs≤(vI M c).natAbs):=by
 have mx:aS x≠0:=fun h=>x0 (dZ.2 h)
 have ha:=dI fx
 have hcc:=dI fc
 obtain⟨w1,w2⟩:=aGh x
 have ex:(fI x).natAbs=aS x*2^(aW x+1074).toNat:=by rw [gQ hx fx];split<;>omega
 have ec:(fI c).natAbs=aS c*2^(aW c+1074).toNat:=by rw [gQ hc fc];split<;>omega
 have ecM:(vI M c).natAbs=(fI c).natAbs*2^(M-1074).toNat:=by rw [pY hc fc hM,Int.natAbs_mul,bZ]
 have eV:(sc M (rtZ x) (rtE x)).natAbs=rtZ x*2^(rtE x+M).toNat:=by unfold sc;rw [Int.natAbs_mul,bZ,Int.natAbs_natCast]
 have hpar:(aW x-(oQ x:Int))%2=0:=by unfold oQ;omega
 have hmo:oQ x≤109:=by unfold oQ;omega
 obtain⟨f,hf⟩:∃f:Nat,(f:Int)=(aW x-(oQ x:Int))/2+1074:=⟨((aW x-(oQ x:Int))/2+1074).toNat,by omega⟩
 have hst:=aS5 (k:=aS c) (s:=(aW c+1074).toNat) (u:=f) (by rw [rH];exact Nat.le_of_lt (fP c)) w1 w2 (aDy mx)
 have eN:2*rtW x+(rtW x*rtW x !=rtN x).toNat=rtZ x:=rfl
 rw [eN]at hst
 have eS:aS x*2^(aW x+1074).toNat*2^1074=rtN x*(2^f*2^f):=by
  unfold rtN
  rw [Nat.shiftLeft_eq]
  exact aNf (aS x) (aW x+1074).toNat 1074 (oQ x) f (by omega)
 have ev:(rtE x+M).toNat+1=f+(M-1074).toNat:=by unfold rtE at*;omega
 rw [ecM,eV,ec,ex,eS]
 generalize rtN x=n at*
 generalize rtZ x=N at*
 generalize aS c*2^(aW c+1074).toNat=A at*
 generalize (M-1074).toNat=g at*
 generalize (rtE x+M).toNat=v at*
 obtain⟨g1,g2⟩:=hst
 have p4:N*2^v*2=N*2^f*2^g:=by rw [Nat.mul_assoc,←Nat.pow_succ,show v.succ=f+g from ev,Nat.pow_add,Nat.mul_assoc]
 have p3:A*2^g*2=2*A*2^g:=by rw [Nat.mul_comm _ 2,Nat.mul_assoc]
 have hg:=Nat.two_pow_pos g
 constructor
 ·rw [g1,←Nat.mul_le_mul_right_iff (n:=2*A) hg,←p3,←p4,Nat.mul_le_mul_right_iff (by decide)]
 ·rw [g2,←Nat.mul_le_mul_right_iff (n:=N*2^f) hg,←p3,←p4,Nat.mul_le_mul_right_iff (by decide)]
end
end Go.Proofs.YtfmecpembnmnkaaGreatDoor
