/- Walks: the references' Set and Round. Printed by wip/gen/cv4.py. -/
import Derived.Test.YtfmecpembnmnkaaGreatDoorPKD
import Derived.Test.YtfmecpembnmnkaaGreatDoorPGW
import Derived.Deep.CutRange
namespace Go.Proofs.YtfmecpembnmnkaaGreatDoor
section
set_option maxRecDepth 100000
set_option maxHeartbeats 6400000
open Go.RowKit
theorem aQ0 (b o c p:Nat) (X:Int) (w:World) (hz:fO w b o) (hx:dB .u32 32 w c p X):
  Calls Tryz.prog 194 #[.pointer (some ⟨b,o,none⟩),.pointer (some ⟨c,p,none⟩)] w (Puts .u32 32 b o X w):=by
 obtain⟨hxs,hx0,vx,hx1,hrx⟩:=hx
 have hcx:=hxs.1
 have HRx:=jH hrx
 obtain⟨avx,cvx,rfl,-⟩:=hrx
 have HZ:=jH hz
 have HF:=jH (jQ X)
 generalize decide (X<0)=sx at*
 generalize X.natAbs=ax at*
 clear hxs hz
 go_enter Tryz.func194,Tryz.ntmps194
 go_wp2_with fail
 refine aC (fun w':World=>w'.cell? ⟨c,p,none⟩=some (.bool sx)∧w'.cell? ⟨c,p+1,none⟩=some (.slice avx (ln 32 ax) cvx)) 10 (.take 0 (.take 1 (.take 2 (.take 3 (.take 4 (.take 5 (.take 6 (.take 7 (.take 8 (.run 9 .nil)))))))))) (by kernel_rfl) (by kernel_rfl) ?_
 have hS:(fun w':World=>w'.cell? ⟨c,p,none⟩=some (.bool sx)∧w'.cell? ⟨c,p+1,none⟩=some (.slice avx (ln 32 ax) cvx)) w.drew:=⟨by go_simp,by go_simp⟩
 repeat (refine tkL (v:= ?_) rfl rfl rfl (fun w' hSw=> ?_) hS ?_;rotate_left;(focus (go_simp;with_reducible rfl));simp only [aF])
 refine aI rfl rfl fun K' hK=> ?_
 refine aB6 _ _ rfl rfl rfl rfl (HRx.out.below (aB w)) fun v1 w1 hr1 _ hb1=> ?_
 have HB:=jH ((aB w).trans hb1)
 have HR1:=jH hr1
 have hS:(fun w':World=>w'.cell? ⟨c,p,none⟩=some (.bool sx)∧w'.cell? ⟨c,p+1,none⟩=some (.slice avx (ln 32 ax) cvx)) w1:=⟨(HB.out.cell (p:=⟨c,p,none⟩) hcx).trans hx0,(HB.out.cell (p:=⟨c,p+1,none⟩) hcx).trans hx1⟩
 refine hK _ _ hS ?_
 clear hK K'
 obtain⟨av,cv,rfl,-⟩:=hr1
 clear hb1
 try simp only [Act.put,aF]
 repeat (refine tkL (v:= ?_) rfl rfl rfl (fun w' hSw=> ?_) hS ?_;rotate_left;(focus (go_simp;with_reducible rfl));simp only [aF])
 clear hS
 refine aN ?_
 simp only [drL]
 go_wp2_with fail
 refine(gY b o _ _ _ _ _ (HZ.out.below HB.out) HR1.out).mono ?_
 rintro e w2 ⟨rfl,hi2,hm2⟩
 have HF2:=jH hi2
 have HM:=jH ((Mod.of_below HB.out HZ.out.1).trans HZ.out.1 hm2)
 clear hi2 hm2
 go_wp2
 go_ret
 rw [←HF.out]
 exact⟨rfl,HF2.out,HM.out⟩
def sgI (neg:Bool) (N:Nat):Int:=if neg then-(N:Int)else N
theorem wC (neg:Bool) (N:Nat):(sgI neg N).natAbs=N:=by cases neg<;>simp [sgI]
theorem aHm {neg:Bool}{N:Nat}(h:N≠0):sgI neg N≠0:=by cases neg<;>simp [sgI]<;>omega
theorem aA7 {neg:Bool}{N:Nat}(h:N≠0):decide (sgI neg N<0)=neg:=by cases neg<;>simp [sgI]<;>omega
def pX (neg:Bool) (N:Nat) (e:Int) (more:Bool) (mode:Int):Nat:=if more then aV (sgI neg (2*N+1)) (e-1) mode else aV (sgI neg N) e mode
def dS (N:Nat) (e:Int):Int:=max (e+bl N-53) (-1074)
def wP (N:Nat) (e:Int):Nat:=if dS N e≤e then N*2^(e-dS N e).toNat else N/2^(dS N e-e).toNat
def wR (N:Nat) (e:Int) (more:Bool):Int:=if dS N e≤e then-2 else pR N (dS N e-e).toNat more
def aH2 (neg:Bool) (N:Nat) (e:Int) (more:Bool) (mode:Int):Nat:=wP N e+(if gU neg (wP N e) (wR N e more) mode then 1 else 0)
theorem aU8 (neg:Bool) (Q:Nat) {mode:Int}(hm:mode=0∨mode=3∨mode=4):gU neg Q (-2) mode=false:=by
 rcases hm with rfl|rfl|rfl
 ·rfl
 ·cases neg<;>rfl
 ·cases neg<;>rfl
theorem aW7 (N:Nat):bl (2*N+1)=bl N+1:=by
 have h:=aFh (x:=2*N+1) (by omega)
 rw [show(2*N+1)/2=N by omega]at h
 omega
theorem aKg {neg:Bool}{N:Nat}{e:Int}{more:Bool}{mode:Int}(h0:N≠0) (hmore:more=true→e<dS N e) (hm:mode=0∨mode=3∨mode=4):
  yM neg (aH2 neg N e more mode) (dS N e) mode=pX neg N e more mode:=by
 cases more
 ·show _=aV (sgI neg N) e mode
  have hz:sgI neg N≠0:=aHm h0
  have hp:=aHr (e:=e) (mode:=mode) hz
  rw [aA7 h0]at hp
  unfold aV
  rw [if_neg hz,←hp]
  unfold bW aX
  rw [wC,aA7 h0]
  show yM neg _ (dS N e) mode=yM neg (iQ N (dS N e-e) neg mode) (dS N e) mode
  congr 1
  unfold aH2 wP wR iQ
  by_cases h:dS N e≤e
  ·rw [if_pos h,if_pos h,if_pos (show dS N e-e≤0 by omega),aU8 _ _ hm,show-(dS N e-e)=e-dS N e by omega]
   rfl
  ·rw [if_neg h,if_neg h,if_neg (show¬dS N e-e≤0 by omega),aXn hm]
 ·show _=aV (sgI neg (2*N+1)) (e-1) mode
  have hlt:=hmore rfl
  have h1:2*N+1≠0:=by omega
  have hz:sgI neg (2*N+1)≠0:=aHm h1
  have hp:=aHr (e:=e-1) (mode:=mode) hz
  rw [aA7 h1]at hp
  unfold aV
  rw [if_neg hz,←hp]
  unfold bW aX
  rw [wC,aA7 h1,aW7]
  rw [show e-1+((bl N+1:Nat):Int)-53=e+(bl N:Int)-53 by omega]
  show yM neg _ (dS N e) mode=yM neg (iQ (2*N+1) (dS N e-(e-1)) neg mode) (dS N e) mode
  congr 1
  unfold aH2 wP wR iQ
  obtain⟨s,hs⟩:∃s:Nat,dS N e-e=s:=⟨(dS N e-e).toNat,by omega⟩
  have hs1:1≤s:=by omega
  obtain⟨g1,g2⟩:=aTz (N:=N) hs1 (neg:=neg) hm
  have hn:¬dS N e≤e:=by omega
  rw [if_neg hn,if_neg hn,if_neg (show¬dS N e-(e-1)≤0 by omega),show dS N e-(e-1)=((s+1:Nat):Int) by omega,hs,Int.toNat_natCast,Int.toNat_natCast,g1,g2]
theorem aQi (a b:Int) (ts:Array TypeId) (t:TypeId) (w:World):(Builtin.max_ ts t #[.int .i64 a,.int .i64 b]).run Tryz.prog w= .ok (.int .i64 (max a b)) w:=by
 have e:∀x y:Int,(if x<y then y else x)=max x y:=by intro x y;split<;>omega
 simp [Builtin.max_,Builtin.max2,e]
end
section
set_option maxRecDepth 100000
set_option maxHeartbeats 6400000
open Go.RowKit
theorem rQ.mod {w0 W V:World}{b q:Nat}(h:rQ w0 W b) (hm:Mod q 0 W V) (hne:b≠q) (hq:w0.heap.size≤q):rQ w0 V b:=
 ⟨h.1.of_block (hm.block b h.1.lt hne),Mod.below h.2 hm hq h.2.size⟩
def aH3 (bits:Nat) (w:World) (e:Ending) (w':World):Prop:=∃fl:Int,e= .returned (.tuple #[.int .u64 (bits:Nat),.int .i64 fl])∧Below w.heap.size w w'
theorem aBx (N:Nat) (e:Int) (more:Bool):wR N e more= -2∨wR N e more= -1∨wR N e more=0∨wR N e more=1:=by
 unfold wR
 split
 ·exact .inl rfl
 ·exact aMv _ _ _
theorem aRd {N:Nat}{e:Int}(hl:bl N≤1048576) (he1: -100000≤e) (he2:e≤100000): -1074≤dS N e∧dS N e≤1148576∧dS N e-e≤1148576∧e-dS N e≤101074:=by unfold dS;omega
theorem aLd {N:Nat}{e:Int}:bl (wP N e)≤53:=by
 unfold wP
 split
 ·rename_i h
  refine aY ?_
  have h1:=lC N
  have h2:bl N+(e-dS N e).toNat≤53:=by unfold dS at*;omega
  have h3:=Nat.mul_lt_mul_of_pos_right h1 (Nat.two_pow_pos (e-dS N e).toNat)
  rw [←Nat.pow_add]at h3
  exact Nat.lt_of_lt_of_le h3 (Nat.pow_le_pow_right (by decide) h2)
 ·rename_i h
  refine aY ?_
  rw [Nat.div_lt_iff_lt_mul (Nat.two_pow_pos _),←Nat.pow_add]
  refine Nat.lt_of_lt_of_le (lC N) (Nat.pow_le_pow_right (by decide) ?_)
  unfold dS at*;omega
theorem aT4 {neg:Bool}{N:Nat}{e:Int}{more:Bool}{mode:Int}:bl (aH2 neg N e more mode)≤54:=by
 refine aY ?_
 have h:=dD.1 (aLd (N:=N) (e:=e))
 unfold aH2
 split<;>omega
theorem aB8 (q:Nat) (h:q<18446744073709551616):bits .and .u64 (q:Int) 4503599627370495=((q%aT:Nat):Int):=by
 rw [show(4503599627370495:Int)=((4503599627370495:Nat):Int)from rfl,bits_and_u64_nat _ _ h (by decide),show 4503599627370495=2^52-1 from rfl,Nat.and_two_pow_sub_one_eq_mod]
 rfl
theorem xE (neg:Bool) (p N:Nat) (e:Int) (more:Bool) (mode:Int) (w:World) (hm:fU w p (N:Int)) (h0:N≠0) (hl:bl N≤1048576) (he1: -100000≤e) (he2:e≤100000) (hmore:more=true→e<dS N e) (hmode:mode=0∨mode=3∨mode=4):
  Calls Tryz.prog 167 #[iK,.bool neg,.pointer (some ⟨p,0,none⟩),.int .i64 e,.bool more,.int .i64 mode] w (aH3 (pX neg N e more mode) w):=by
 rw [←aKg h0 hmore hmode]
 have HM:=jH hm
 have HMO:=jH hmore
 have HW:=jH (rQ.new w)
 obtain⟨l1,l2,l3,l4⟩:=aRd hl he1 he2
 have HBL:=jH fun W h=>uT p 0 (N:Int) W h
 rw [Int.natAbs_natCast]at HBL
 have HLE:Hid (dS N e=max (e+bl N-53) (-1074)):=jH rfl
 have hlN:ln 32 N≤1048576:=Nat.le_trans (dV 32 N (by decide)) hl
 have HST:=jH fun b W h1 h2=>aQ0 b 0 p 0 (N:Int) W h1 h2
 have HCQ:Hid (ln 32 (wP N e)≤1048576):=jH (Nat.le_trans (dV 32 _ (by decide)) (Nat.le_trans aLd (by decide)))
 have HQB:=jH (aT4 (neg:=neg) (N:=N) (e:=e) (more:=more) (mode:=mode))
 have HRQ:Hid (aH2 neg N e more mode=wP N e+(if gU neg (wP N e) (wR N e more) mode then 1 else 0)):=jH rfl
 have HGU:=jH fun q W h=>aHo neg q (wP N e) (wR N e more) mode W h HCQ.out (aBx N e more) hmode
 have HCR:Hid ((dS N e≤e→wP N e=N*2^(e-dS N e).toNat∧wR N e more= -2)∧(¬dS N e≤e→wP N e=N/2^(dS N e-e).toNat∧wR N e more=pR N (dS N e-e).toNat more)):=jH ⟨fun h=>by unfold wP wR;rw [if_pos h,if_pos h];exact⟨rfl,rfl⟩,fun h=>by unfold wP wR;rw [if_neg h,if_neg h];exact⟨rfl,rfl⟩⟩
 have HOV:=jH fun W=>aM3 neg mode W hmode
 have HPU:=jH fun e f W h1 h2=>yA neg e f W h1 h2
 obtain⟨PB,hPB⟩:∃b,yM neg (aH2 neg N e more mode) (dS N e) mode=b:=⟨_,rfl⟩
 rw [hPB]
 have HPB:=jH hPB.symm
 clear hPB
 unfold yM at HPB
 generalize aH2 neg N e more mode=RQ at*
 obtain⟨up,hup⟩:∃b,gU neg (wP N e) (wR N e more) mode=b:=⟨_,rfl⟩
 rw [hup]at HRQ HGU
 generalize hcq:wP N e=CQ at*
 generalize hcr:wR N e more=CR at*
 have hcr4:CR= -2∨CR= -1∨CR=0∨CR=1:=by rw [←hcr];exact aBx N e more
 generalize hLL:dS N e=LL at*
 obtain⟨B,hB⟩:∃b,bl N=b:=⟨_,rfl⟩
 rw [hB]at hl HBL HLE
 obtain⟨tp,htp⟩:∃t:Int,e+(B:Int)-1=t:=⟨_,rfl⟩
 have hmax:∀ts t w,(Builtin.max_ ts t #[.int .i64 (tp-53+1),.int .i64 (-1074)]).run Tryz.prog w= .ok (.int .i64 LL) w:=fun ts t w=>by rw [aQi,show max (tp-53+1) (-1074)=LL by have:=HLE.out;omega]
 have htpb: -200000≤tp∧tp≤2000000:=by omega
 obtain⟨tp1,tp2⟩:=htpb
 clear hm h0 hmore hmode hup hcq hcr hLL hB HLE
 obtain⟨f0,hf0⟩:∃f,w.heap.size=f:=⟨_,rfl⟩
 unfold iK at*
 go_enter Tryz.func167,Tryz.ntmps167
 go_wp2_with fail
 refine(HBL.out _ (HM.out.below (Below.aA _ _))).mono ?_
 rintro e1 w1 ⟨rfl,hb1⟩
 replace HW:=jH (HW.out.later hb1)
 clear hb1 HBL
 have HS1:Hid (w.heap.size<w1.heap.size):=jH HW.out.1.lt
 have HJ0:Hid (Its w w1 []):=jH ⟨fun t m=>(by cases m),HW.out.2⟩
 rw [hf0]at HW
 obtain⟨c0,c1,c2,c3⟩:=HW.out.cells
 go_wp2_with fail
 clear c0 c1 c2 c3
 have HJ1:=jH HJ0.out.alloc
 replace HW:=jH (HW.out.later (Below.aA w1 (.cells #[.bool false,.slice none 0 0] 175)))
 refine(HST.out _ _ (HJ1.out.get (.head _)).1 (HM.out.below HJ1.out.2)).mono ?_
 rintro e2 w2 ⟨rfl,hi2,hm2⟩
 have HJ:=jH (HJ1.out.puts (by have:=HS1.out;omega) (fun t m=>by cases m) hm2 hi2)
 replace HW:=jH (HW.out.mod hm2 (by have:=HS1.out;omega) (by have:=HS1.out;omega))
 clear hi2 hm2 HJ0 HJ1 HST
 obtain⟨q0,hq0⟩:∃q,w1.heap.size=q:=⟨_,rfl⟩
 rw [hq0]at HJ HS1
 go_upto_if 42 with fail
 go_cut [16,17]from 42 to 59 (fun qv cv wx=>∃(q:Nat) (c:Int),qv= .pointer (some ⟨q,0,none⟩)∧cv= .int .i64 c∧Hid (c=CR)∧Hid (w.heap.size<q)∧Hid (Its w wx [(q,(CQ:Int))])∧Hid (rQ w wx f0))
 case first=>
  clear hq0
  by_cases hge:LL≤e
  ·obtain⟨k,hk⟩:∃k:Nat,e-LL=k:=⟨(e-LL).toNat,by omega⟩
   obtain⟨r1,r2⟩:=HCR.out.1 hge
   have HR1:=jH r1
   have HR2:=jH r2
   rw [hk,Int.toNat_natCast]at HR1
   clear r1 r2
   have hkl:k≤1048576:=by omega
   have hde:decide (LL≤e)=true:=decide_eq_true hge
   go_wp2_with fail
   refine(vC q0 0 q0 0 k (N:Int) _ (HJ.out.get (.head _)).1 (HJ.out.get (.head _)) (by rw [Int.natAbs_natCast];omega) (by omega)).mono ?_
   rintro e3 w3 ⟨rfl,hi3,hm3⟩
   replace HJ:=jH (HJ.out.puts (by have:=HS1.out;omega) (fun t m=>by cases m) hm3 hi3)
   replace HW:=jH (HW.out.mod hm3 (by have:=HS1.out;omega) (by have:=HS1.out;omega))
   rw [show(N:Int)*2^k=(CQ:Int) by rw [HR1.out];simp]at HJ
   clear hi3 hm3
   cases more
   ·go_wp2
    go_meet
    exact⟨q0,-2,rfl,rfl,jH HR2.out.symm,HS1,HJ,HW⟩
   ·exact absurd (HMO.out rfl) (by omega)
  ·obtain⟨k,hk⟩:∃k:Nat,LL-e=k:=⟨(LL-e).toNat,by omega⟩
   obtain⟨r1,r2⟩:=HCR.out.2 (by omega)
   have HR1:=jH r1
   have HR2:=jH r2
   rw [hk,Int.toNat_natCast]at HR1 HR2
   clear r1 r2
   have hde:decide (LL≤e)=false:=decide_eq_false hge
   go_wp2_with fail
   refine(aRw p N k more _ (HM.out.below HJ.out.2) (by omega) (by omega) hlN).mono ?_
   rintro e3 w3 ⟨q,rfl,hq,hi3,hb3⟩
   have HJ3:Hid (Its w w3 [(q,(CQ:Int))]):=jH ⟨fun t m=>by simp only [List.mem_cons,List.not_mem_nil,or_false]at m;subst m;rw [HR1.out];exact hi3,(HJ.out.later hb3).2⟩
   have HSQ:Hid (w.heap.size<q):=jH (by have:=HJ.out.lt _ (.head _);have:=HS1.out;omega)
   replace HW:=jH (HW.out.later hb3)
   clear hq hi3 hb3 HJ
   go_wp2
   go_meet
   exact⟨q,_,rfl,rfl,jH HR2.out.symm,HSQ,HJ3,HW⟩
 case rest=>
 clear HJ HW HS1
 obtain⟨q,c,rfl,rfl,HCE,HSQ,HJ,HW⟩:=hcut
 obtain rfl:=HCE.out
 clear HCE HCR HM
 go_wp2_with fail
 refine(HGU.out q _ (HJ.out.get (.head _))).mono ?_
 rintro e4 w4 ⟨rfl,hb4⟩
 replace HJ:=jH (HJ.out.later hb4)
 replace HW:=jH (HW.out.later hb4)
 clear hb4 HGU
 go_upto_if 64 with fail
 go_cut []from 64 to 68 (fun wx=>Hid (Its w wx [(q,(RQ:Int))])∧Hid (rQ w wx f0))
 case first=>
  cases up
  ·rw [if_neg (by decide),Nat.add_zero]at HRQ
   go_wp2
   go_meet
   exact⟨jH (by rw [HRQ.out];exact HJ.out),HW⟩
  ·rw [if_pos rfl]at HRQ
   go_wp2_with fail
   refine(qL 1 _ (by decide) (by decide)).mono ?_
   rintro e5 w5 ⟨d,rfl,hd,hi5,hb5⟩
   have HD:=jH hi5
   have HDQ:Hid (q≠d):=jH (by have:=HJ.out.lt _ (.head _);omega)
   replace HJ:=jH (HJ.out.later hb5)
   replace HW:=jH (HW.out.later hb5)
   clear hd hi5 hb5
   go_wp2_with fail
   refine(aGo q 0 q 0 d 0 (CQ:Int) 1 _ (HJ.out.get (.head _)).1 (HJ.out.get (.head _)) HD.out (by rw [Int.natAbs_natCast];have:=HCQ.out;omega) (by decide)).mono ?_
   rintro e6 w6 ⟨rfl,hi6,hm6⟩
   replace HJ:=jH (HJ.out.puts (by have:=HSQ.out;omega) (fun t m=>by cases m) hm6 hi6)
   replace HW:=jH (HW.out.mod hm6 (by have:=HSQ.out;omega) (by have:=HSQ.out;omega))
   rw [show(CQ:Int)+1=(RQ:Int) by rw [HRQ.out];simp]at HJ
   clear hi6 hm6
   go_wp2
   go_meet
   exact⟨HJ,HW⟩
 case rest=>
 clear HJ HW HCQ HRQ
 obtain⟨HJ,HW⟩:=hcut
 obtain⟨c0,c1,c2,c3⟩:=HW.out.cells
 go_upto_if 70 with fail
 go_cut [18]from 70 to 76 (fun fv wx=>∃fl:Int,fv= .int .i64 fl∧Hid (Its w wx [(q,(RQ:Int))])∧Hid (rQ w wx f0))
 case first=>
  by_cases hc2: -2<c
  ·have hd2:decide (-2<c)=true:=decide_eq_true hc2
   by_cases ht:tp< -1022
   ·have hd3:decide (tp< -1022)=true:=decide_eq_true ht
    go_wp2
    go_meet
    exact⟨_,rfl,HJ,HW⟩
   ·have hd3:decide (tp< -1022)=false:=decide_eq_false ht
    go_wp2
    go_meet
    exact⟨_,rfl,HJ,HW⟩
  ·have hd2:decide (-2<c)=false:=decide_eq_false hc2
   go_wp2
   go_meet
   exact⟨_,rfl,HJ,HW⟩
 case rest=>
 clear HJ HW c0 c1 c2 c3
 obtain⟨fl,rfl,HJ,HW⟩:=hcut
 have HBQ:=jH fun W h=>uT q 0 (RQ:Int) W h
 rw [Int.natAbs_natCast]at HBQ
 obtain⟨B2,hB2⟩:∃b,bl RQ=b:=⟨_,rfl⟩
 rw [hB2]at HBQ HQB HPB
 have HB2:=jH hB2
 have hB2l:=HQB.out
 clear hB2
 go_upto_region 16 with fail
 refine aC (fun w':World=>w'.cell? ⟨f0,0,none⟩=some (.int .i64 53)∧w'.cell? ⟨f0,1,none⟩=some (.int .i64 (-1022))∧w'.cell? ⟨f0,2,none⟩=some (.int .i64 1023)∧w'.cell? ⟨f0,3,none⟩=some (.int .i64 11)) 4 (.take 0 (.take 2 (.take 3 (.run 1 (.nil))))) (by kernel_rfl) (by kernel_rfl) ?_
 replace HJ:=jH (HJ.out.later (aB _))
 replace HW:=jH (HW.out.later (aB _))
 generalize World.drew _=WA at HJ HW ⊢
 repeat (first|(refine tkL (v:= ?_) rfl rfl rfl (fun w' hSw=> ?_) HW.out.cells ?_;rotate_left;(focus (go_simp;with_reducible rfl));simp only [aF])|(refine bK rfl rfl (fun _ _ _ h=>h) rfl HW.out.cells ?_;simp only [aF]))
 refine aI rfl rfl fun K' hK=> ?_
 go_simp
 refine(HBQ.out _ (HJ.out.get (.head _))).mono ?_
 rintro e1 WAv1 ⟨rfl,hb1⟩
 replace HJ:=jH (HJ.out.later hb1)
 replace HW:=jH (HW.out.later hb1)
 refine hK _ _ HW.out.cells ?_
 clear hK K' hb1
 try simp only [Act.put,aF]
 repeat (first|(refine tkL (v:= ?_) rfl rfl rfl (fun w' hSw=> ?_) HW.out.cells ?_;rotate_left;(focus (go_simp;with_reducible rfl));simp only [aF])|(refine bK rfl rfl (fun _ _ _ h=>h) rfl HW.out.cells ?_;simp only [aF]))
 refine aN ?_
 simp only [drL]
 clear HBQ
 obtain⟨c0,c1,c2,c3⟩:=HW.out.cells
 go_upto_if 81 with fail
 go_cut [15]from 81 to 86 (fun Lv wx=>∃(Q:Nat) (L2:Int),Lv= .int .i64 L2∧Hid ((53<B2∧Q=RQ/2∧L2=LL+1)∨(¬53<B2∧Q=RQ∧L2=LL))∧Hid (Its w wx [(q,(Q:Int))])∧Hid (rQ w wx f0))
 case first=>
  by_cases h53:53<B2
  ·have hd4:decide (53<B2)=true:=decide_eq_true h53
   go_wp2_with fail
   refine(aHh q 0 q 0 1 (RQ:Int) _ (HJ.out.get (.head _)).1 (HJ.out.get (.head _)) (by rw [Int.natAbs_natCast];exact Nat.le_trans (dV 32 _ (by decide)) (by rw [HB2.out];omega)) (by decide)).mono ?_
   rintro e7 w7 ⟨rfl,hi7,hm7⟩
   replace HJ:=jH (HJ.out.puts (by have:=HSQ.out;omega) (fun t m=>by cases m) hm7 hi7)
   replace HW:=jH (HW.out.mod hm7 (by have:=HSQ.out;omega) (by have:=HSQ.out;omega))
   clear hi7 hm7 c0 c1 c2 c3
   rw [show(RQ:Int)/2^1=((RQ/2:Nat):Int) by simp]at HJ
   go_wp2
   go_meet
   exact⟨RQ/2,LL+1,rfl,jH (.inl ⟨h53,rfl,rfl⟩),HJ,HW⟩
  ·have hd4:decide (53<B2)=false:=decide_eq_false h53
   go_wp2
   go_meet
   exact⟨RQ,LL,rfl,jH (.inr ⟨h53,rfl,rfl⟩),HJ,HW⟩
 case rest=>
 clear HJ HW c0 c1 c2 c3
 obtain⟨Q,L2,rfl,HD,HJ,HW⟩:=hcut
 have HP2:Hid (PB=if 1023<L2+bl Q-1 then ovB neg mode else if bl Q<53 then dA neg 0 Q else dA neg (L2+1075).toNat (Q%aT)):=jH (by rcases HD.out with ⟨d1,e1,e2⟩|⟨d1,e1,e2⟩<;>subst e1<;>subst e2<;>rw [HPB.out]<;>first|rw [if_pos d1]|rw [if_neg d1,HB2.out])
 have hQl:bl Q≤53:=by have h:=HB2.out;rcases HD.out with ⟨d1,e1,e2⟩|⟨d1,e1,e2⟩;(have h3:=aFh (x:=RQ) (by intro e0;rw [e0]at h;simp [bl]at h;omega);rw [e1];omega);(rw [e1];omega)
 have hL2:LL≤L2∧L2≤LL+1:=by rcases HD.out with ⟨d1,-,rfl⟩|⟨d1,-,rfl⟩<;>omega
 obtain⟨hL2a,hL2b⟩:=hL2
 have hQ64:Q<9007199254740992:=dD.1 hQl
 have HBQ:=jH fun W h=>uT q 0 (Q:Int) W h
 have HUQ:=jH fun W h=>aHe q 0 (Q:Int) W h
 rw [Int.natAbs_natCast]at HBQ HUQ
 rw [show dg 64 Q 0=Q by unfold dg;simp;omega]at HUQ
 have HAN:=jH (aB8 Q (by omega))
 have HQK:Hid (Q<9007199254740992):=jH hQ64
 clear hQ64 HD HPB HB2 HQB hB2l
 obtain⟨B3,hB3⟩:∃b,bl Q=b:=⟨_,rfl⟩
 rw [hB3]at HP2 HBQ hQl
 have HB3:=jH hB3
 clear hB3
 obtain⟨t3,ht3⟩:∃t:Int,L2+(B3:Int)-1=t:=⟨_,rfl⟩
 rw [ht3]at HP2
 have hwt1:IntKind.i64.wrap (L2+(B3:Int))=L2+(B3:Int):=IntWalk.i64_in _ (by omega)
 have hwt3:IntKind.i64.wrap t3=t3:=IntWalk.i64_in _ (by omega)
 have hwt2:IntKind.i64.wrap (L2+(B3:Int)-1)=t3:=by rw [ht3];exact IntWalk.i64_in _ (by omega)
 go_upto_region 19 with fail
 refine aC (fun w':World=>w'.cell? ⟨f0,0,none⟩=some (.int .i64 53)∧w'.cell? ⟨f0,1,none⟩=some (.int .i64 (-1022))∧w'.cell? ⟨f0,2,none⟩=some (.int .i64 1023)∧w'.cell? ⟨f0,3,none⟩=some (.int .i64 11)) 7 (.take 0 (.take 1 (.take 5 (.take 6 (.run 2 (.take 3 (.take 4 (.nil)))))))) (by kernel_rfl) (by kernel_rfl) ?_
 replace HJ:=jH (HJ.out.later (aB _))
 replace HW:=jH (HW.out.later (aB _))
 generalize World.drew _=WB at HJ HW ⊢
 repeat (first|(refine tkL (v:= ?_) rfl rfl rfl (fun w' hSw=> ?_) HW.out.cells ?_;rotate_left;(focus (go_simp;with_reducible rfl));simp only [aF])|(refine bK rfl rfl (fun _ _ _ h=>h) rfl HW.out.cells ?_;simp only [aF]))
 refine aI rfl rfl fun K' hK=> ?_
 go_simp
 refine(HBQ.out _ (HJ.out.get (.head _))).mono ?_
 rintro e1 WBv1 ⟨rfl,hb1⟩
 replace HJ:=jH (HJ.out.later hb1)
 replace HW:=jH (HW.out.later hb1)
 refine hK _ _ HW.out.cells ?_
 clear hK K' hb1
 try simp only [Act.put,aF]
 repeat (first|(refine tkL (v:= ?_) rfl rfl rfl (fun w' hSw=> ?_) HW.out.cells ?_;rotate_left;(focus (go_simp;with_reducible rfl));simp only [aF])|(refine bK rfl rfl (fun _ _ _ h=>h) rfl HW.out.cells ?_;simp only [aF]))
 refine aN ?_
 simp only [drL]
 obtain⟨c0,c1,c2,c3⟩:=HW.out.cells
 by_cases hov:1023<t3
 ·rw [if_pos hov]at HP2
  have hd5:decide (1023<t3)=true:=decide_eq_true hov
  rw [←HP2.out]at HOV
  clear ht3 hov
  go_wp2_with fail
  refine(HOV.out _).mono ?_
  rintro e8 w8 ⟨rfl,hb8⟩
  replace HW:=jH (HW.out.later hb8)
  clear hb8
  go_wp2
  exact bodyPost_ret (v:= .tuple #[.int .u64 (PB:Nat),.int .i64 5]) (by simp [results,Tryz.results167,go_sem]) rfl ⟨_,rfl,HW.out.2⟩
 ·rw [if_neg hov]at HP2
  have hd5:decide (1023<t3)=false:=decide_eq_false hov
  have HT3:=jH (And.intro ht3 hov)
  clear ht3 hov
  go_upto_region 21 with fail
  clear c0 c1 c2 c3
  refine aC (fun w':World=>w'.cell? ⟨f0,0,none⟩=some (.int .i64 53)∧w'.cell? ⟨f0,1,none⟩=some (.int .i64 (-1022))∧w'.cell? ⟨f0,2,none⟩=some (.int .i64 1023)∧w'.cell? ⟨f0,3,none⟩=some (.int .i64 11)) 4 (.take 0 (.take 2 (.take 3 (.run 1 (.nil))))) (by kernel_rfl) (by kernel_rfl) ?_
  replace HJ:=jH (HJ.out.later (aB _))
  replace HW:=jH (HW.out.later (aB _))
  generalize World.drew _=WC at HJ HW ⊢
  repeat (first|(refine tkL (v:= ?_) rfl rfl rfl (fun w' hSw=> ?_) HW.out.cells ?_;rotate_left;(focus (go_simp;with_reducible rfl));simp only [aF])|(refine bK rfl rfl (fun _ _ _ h=>h) rfl HW.out.cells ?_;simp only [aF]))
  refine aI rfl rfl fun K' hK=> ?_
  go_simp
  refine(HBQ.out _ (HJ.out.get (.head _))).mono ?_
  rintro e1 WCv1 ⟨rfl,hb1⟩
  replace HJ:=jH (HJ.out.later hb1)
  replace HW:=jH (HW.out.later hb1)
  refine hK _ _ HW.out.cells ?_
  clear hK K' hb1
  try simp only [Act.put,aF]
  repeat (first|(refine tkL (v:= ?_) rfl rfl rfl (fun w' hSw=> ?_) HW.out.cells ?_;rotate_left;(focus (go_simp;with_reducible rfl));simp only [aF])|(refine bK rfl rfl (fun _ _ _ h=>h) rfl HW.out.cells ?_;simp only [aF]))
  refine aN ?_
  simp only [drL]
  by_cases h53:B3<53
  ·rw [if_pos h53]at HP2
   have hd6:decide (B3<53)=true:=decide_eq_true h53
   have HPQ:=jH fun W=>HPU.out 0 Q W (by decide) (show Q<aT by have:=HB3.out;exact(dD (N:=Q) (k:=52)).1 (by omega))
   rw [←HP2.out]at HPQ
   go_upto_region 22 with fail
   refine aC (fun w':World=>w'.cell? ⟨f0,0,none⟩=some (.int .i64 53)∧w'.cell? ⟨f0,1,none⟩=some (.int .i64 (-1022))∧w'.cell? ⟨f0,2,none⟩=some (.int .i64 1023)∧w'.cell? ⟨f0,3,none⟩=some (.int .i64 11)) 7 (.take 0 (.take 1 (.take 2 (.take 5 (.run 3 (.run 4 (.take 6 (.nil)))))))) (by kernel_rfl) (by kernel_rfl) ?_
   replace HJ:=jH (HJ.out.later (aB _))
   replace HW:=jH (HW.out.later (aB _))
   generalize World.drew _=WD at HJ HW ⊢
   repeat (first|(refine tkL (v:= ?_) rfl rfl rfl (fun w' hSw=> ?_) HW.out.cells ?_;rotate_left;(focus (go_simp;with_reducible rfl));simp only [aF])|(refine bK rfl rfl (fun _ _ _ h=>h) rfl HW.out.cells ?_;simp only [aF]))
   refine aI rfl rfl fun K' hK=> ?_
   go_simp
   refine(HUQ.out _ (HJ.out.get (.head _))).mono ?_
   rintro e1 WDv1 ⟨rfl,hb1⟩
   replace HJ:=jH (HJ.out.later hb1)
   replace HW:=jH (HW.out.later hb1)
   refine hK _ _ HW.out.cells ?_
   clear hK K' hb1
   try simp only [Act.put,aF]
   repeat (first|(refine tkL (v:= ?_) rfl rfl rfl (fun w' hSw=> ?_) HW.out.cells ?_;rotate_left;(focus (go_simp;with_reducible rfl));simp only [aF])|(refine bK rfl rfl (fun _ _ _ h=>h) rfl HW.out.cells ?_;simp only [aF]))
   refine aI rfl rfl fun K' hK=> ?_
   go_simp
   refine(HPQ.out _).mono ?_
   rintro e1 WDv2 ⟨rfl,hb1⟩
   replace HJ:=jH (HJ.out.later hb1)
   replace HW:=jH (HW.out.later hb1)
   refine hK _ _ HW.out.cells ?_
   clear hK K' hb1
   try simp only [Act.put,aF]
   repeat (first|(refine tkL (v:= ?_) rfl rfl rfl (fun w' hSw=> ?_) HW.out.cells ?_;rotate_left;(focus (go_simp;with_reducible rfl));simp only [aF])|(refine bK rfl rfl (fun _ _ _ h=>h) rfl HW.out.cells ?_;simp only [aF]))
   refine aN ?_
   simp only [drL]
   go_wp2
   exact bodyPost_ret (v:= .tuple #[.int .u64 (PB:Nat),.int .i64 fl]) (by simp [results,Tryz.results167,go_sem]) rfl ⟨_,rfl,HW.out.2⟩
  ·rw [if_neg h53]at HP2
   have hd6:decide (B3<53)=false:=decide_eq_false h53
   obtain⟨fN,hfN⟩:∃k,(L2+1075).toNat=k:=⟨_,rfl⟩
   rw [hfN]at HP2
   have hfi:L2-(-1074)+1=(fN:Int):=by omega
   have hfi2:L2+1074+1=(fN:Int):=by omega
   have HPQ:=jH fun W=>HPU.out fN (Q%aT) W (by have:=HT3.out;omega) (Nat.mod_lt _ (by decide))
   rw [←HP2.out]at HPQ
   have HMK:Hid (bits .and .u64 (Q:Int) (IntKind.u64.wrap (IntKind.u64.wrap (2^min (IntKind.u64.wrap (IntKind.i64.wrap 52)).toNat 64)-1))=((Q%aT:Nat):Int)):=jH (by rw [show IntKind.u64.wrap (IntKind.u64.wrap (2^min (IntKind.u64.wrap (IntKind.i64.wrap 52)).toNat 64)-1)=4503599627370495 by decide+kernel];exact HAN.out)
   generalize Q%aT=QM at*
   have HFN:=jH hfN
   clear hfN
   obtain⟨c0,c1,c2,c3⟩:=HW.out.cells
   go_upto_region 24 with fail
   clear c0 c1 c2 c3
   refine aC (fun w':World=>w'.cell? ⟨f0,0,none⟩=some (.int .i64 53)∧w'.cell? ⟨f0,1,none⟩=some (.int .i64 (-1022))∧w'.cell? ⟨f0,2,none⟩=some (.int .i64 1023)∧w'.cell? ⟨f0,3,none⟩=some (.int .i64 11)) 15 (.take 0 (.take 1 (.take 2 (.take 3 (.take 5 (.take 6 (.take 7 (.take 8 (.take 9 (.take 10 (.take 13 (.run 4 (.take 11 (.run 12 (.take 14 (.nil)))))))))))))))) (by kernel_rfl) (by kernel_rfl) ?_
   replace HJ:=jH (HJ.out.later (aB _))
   replace HW:=jH (HW.out.later (aB _))
   generalize World.drew _=WE at HJ HW ⊢
   repeat (first|(refine tkL (v:= ?_) rfl rfl rfl (fun w' hSw=> ?_) HW.out.cells ?_;rotate_left;(focus (go_simp;with_reducible rfl));simp only [aF])|(refine bK rfl rfl (fun _ _ _ h=>h) rfl HW.out.cells ?_;simp only [aF]))
   refine aI rfl rfl fun K' hK=> ?_
   go_simp
   refine(HUQ.out _ (HJ.out.get (.head _))).mono ?_
   rintro e1 WEv1 ⟨rfl,hb1⟩
   replace HJ:=jH (HJ.out.later hb1)
   replace HW:=jH (HW.out.later hb1)
   refine hK _ _ HW.out.cells ?_
   clear hK K' hb1
   try simp only [Act.put,aF]
   repeat (first|(refine tkL (v:= ?_) rfl rfl rfl (fun w' hSw=> ?_) HW.out.cells ?_;rotate_left;(focus (go_simp;with_reducible rfl));simp only [aF])|(refine bK rfl rfl (fun _ _ _ h=>h) rfl HW.out.cells ?_;simp only [aF]))
   refine aI rfl rfl fun K' hK=> ?_
   go_simp
   rw [HMK.out]
   refine(HPQ.out _).mono ?_
   rintro e1 WEv2 ⟨rfl,hb1⟩
   replace HJ:=jH (HJ.out.later hb1)
   replace HW:=jH (HW.out.later hb1)
   refine hK _ _ HW.out.cells ?_
   clear hK K' hb1
   try simp only [Act.put,aF]
   repeat (first|(refine tkL (v:= ?_) rfl rfl rfl (fun w' hSw=> ?_) HW.out.cells ?_;rotate_left;(focus (go_simp;with_reducible rfl));simp only [aF])|(refine bK rfl rfl (fun _ _ _ h=>h) rfl HW.out.cells ?_;simp only [aF]))
   refine aN ?_
   simp only [drL]
   go_wp2
   exact bodyPost_ret (v:= .tuple #[.int .u64 (PB:Nat),.int .i64 fl]) (by simp [results,Tryz.results167,go_sem]) rfl ⟨_,rfl,HW.out.2⟩
end
end Go.Proofs.YtfmecpembnmnkaaGreatDoor
