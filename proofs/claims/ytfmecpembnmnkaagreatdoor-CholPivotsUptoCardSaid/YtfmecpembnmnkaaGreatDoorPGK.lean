/- Walks: what is cut off a whole number, by a mode. Printed by wip/gen/dyb.py. -/
import Derived.Test.YtfmecpembnmnkaaGreatDoorPGJ
namespace Go.Proofs.YtfmecpembnmnkaaGreatDoor
section
set_option maxRecDepth 100000
set_option maxHeartbeats 6400000
open Go.RowKit
def upB (N d:Nat) (neg:Bool) (mode:Int):Bool:=
 if N%2^d=0 then false
 else if mode=3 then !neg
 else if mode=4 then neg
 else if mode=1 then decide (2^(d-1)≤N%2^d)
 else if mode=0 then decide (2^(d-1)<N%2^d)||(decide (N%2^d=2^(d-1))&&decide (N/2^d%2=1))
 else false
def iQ (N:Nat) (down:Int) (neg:Bool) (mode:Int):Nat:=
 if down≤0 then N*2^(-down).toNat else N/2^down.toNat+(if upB N down.toNat neg mode then 1 else 0)
theorem aPt {N d:Nat}{neg:Bool}{mode:Int}(h:N%2^d=0):upB N d neg mode=false:=by unfold upB;rw [if_pos h]
theorem aH1 {N d:Nat}{neg:Bool}(h:¬N%2^d=0):upB N d neg 0=(decide (2^(d-1)<N%2^d)||(decide (N%2^d=2^(d-1))&&decide (N/2^d%2=1))):=by unfold upB;rw [if_neg h];rfl
theorem aWp {N d:Nat}{neg:Bool}(h:¬N%2^d=0):upB N d neg 1=decide (2^(d-1)≤N%2^d):=by unfold upB;rw [if_neg h];rfl
theorem aYc {N d:Nat}{neg:Bool}(h:¬N%2^d=0):upB N d neg 2=false:=by unfold upB;rw [if_neg h];rfl
theorem aTk {N d:Nat}{neg:Bool}(h:¬N%2^d=0):upB N d neg 3= !neg:=by unfold upB;rw [if_neg h];rfl
theorem aT1 {N d:Nat}{neg:Bool}(h:¬N%2^d=0):upB N d neg 4=neg:=by unfold upB;rw [if_neg h];rfl
theorem aT5 {N d:Nat}{neg:Bool}{mode cz:Int}{q:Nat}(h:((N/2^d+(if upB N d neg mode then 1 else 0):Nat):Int)=cz) (hq:N/2^d=q):(upB N d neg mode=false→cz=q)∧(upB N d neg mode=true→cz=(q:Int)+1):=by
 subst h;subst hq
 exact⟨fun h=>by rw [h];simp,fun h=>by rw [h];simp⟩
theorem aT0 (N d:Nat):(N:Int)-(N:Int)/2^d*2^d=((N%2^d:Nat):Int):=by
 have h:=Nat.div_add_mod N (2^d)
 have e:(N:Int)/2^d*2^d=((2^d*(N/2^d):Nat):Int):=by simp [Int.mul_comm]
 rw [e];omega
theorem aRm (d:Nat):(1:Int)*2^d=((2^d:Nat):Int):=by simp
theorem aI8 (a b:Nat):(dQ (a:Int) b=1∧b<a)∨(dQ (a:Int) b=0∧a=b)∨(dQ (a:Int) b= -1∧a<b):=by
 unfold dQ
 by_cases h1:(a:Int)<b
 ·rw [if_pos h1];omega
 ·rw [if_neg h1]
  by_cases h2:(b:Int)<a
  ·rw [if_pos h2];omega
  ·rw [if_neg h2];omega
theorem aMs (N k:Nat):bl (N/2^k)≤bl N:=lG (Nat.div_le_self _ _)
theorem aWy (d:Nat):bl (2^d)≤d+1:=aY (by rw [Nat.pow_succ];have:=Nat.two_pow_pos d;omega)
def aIl (w0 W:World) (b:Nat) (z:Int):Prop:=bM W b 0 z∧w0.heap.size≤b
theorem aIl.later {w0 W V:World}{b:Nat}{z:Int}(h:aIl w0 W b z) (hb:Below W.heap.size W V):aIl w0 V b z:=⟨h.1.below hb,h.2⟩
theorem aIl.mod {w0 W V:World}{b c:Nat}{z y:Int}(h:aIl w0 W b z) (hm:Mod c 0 W V) (hne:b≠c) (hc:bM W c 0 y):aIl w0 V b z:=⟨h.1.mod hm (.inl hne) hc.1.2.1,h.2⟩
theorem qM (w:World) (n:Nat):Below w.heap.size w (w.drewN n):=⟨rfl,rfl,rfl,Nat.le_refl _,fun _ _=>rfl⟩
theorem aUp (b N:Nat) (down:Int) (neg:Bool) (mode:Int) (w:World) (hx:bM w b 0 (N:Int)) (hl:bl N≤34359738368) (h1:down≤0) (h2: -1099511627776≤down):
  Calls Tryz.prog 258 #[.pointer (some ⟨b,0,none⟩),.int .i64 down,.bool neg,.int .i64 mode] w (aJn .u64 64 (iQ N down neg mode:Nat) w):=by
 have HX:=jH hx
 have HL:=jH hl
 have HN:Hid (-down=((-down).toNat:Int)):=jH (by omega)
 have HN2:Hid ((-down).toNat≤1099511627776):=jH (by omega)
 unfold iQ
 rw [if_pos h1]
 generalize (-down).toNat=n at*
 have HE:Hid ((N:Int)*2^n=((N*2^n:Nat):Int)):=jH (by simp)
 clear hx hl
 have HZ:=jH (dB.zero (k:= .u64) (s:=64) w _ dO)
 go_enter Tryz.func258,Tryz.ntmps258
 go_wp2_with fail
 refine(aEy _ 0 _ 0 n _ N _ HZ.out.1 (HX.out.below (gJ _ _)) (by rw [Int.natAbs_natCast];exact bV (Nat.le_trans HL.out (by decide))) HN2.out HN.out).mono ?_
 rintro e2 w2 ⟨rfl,hi2,hm2⟩
 rw [HE.out]at hi2
 have HI:=jH hi2
 have HB:=jH (hm2.below (gJ _ _) (Nat.le_refl _) (gJ _ _).size)
 clear hi2 hm2
 go_wp2
 go_ret
 exact⟨_,rfl,Nat.le_refl _,HI.out,HB.out⟩
theorem aU5 (b N d:Nat) (neg:Bool) (mode:Int) (w:World) (hx:bM w b 0 (N:Int)) (hl:bl N≤34359738368) (h1:0<d) (h2:d≤17179869184) (hmode:mode=0∨mode=1∨mode=2∨mode=3∨mode=4):
  Calls Tryz.prog 258 #[.pointer (some ⟨b,0,none⟩),.int .i64 d,.bool neg,.int .i64 mode] w (aJn .u64 64 ((N/2^d+(if upB N d neg mode then 1 else 0):Nat):Int) w):=by
 have HX:=jH hx
 have HL:=jH hl
 have HCC:=jH (aI8 (N%2^d) (2^(d-1)))
 obtain⟨cz,hcz⟩:∃cz:Int,((N/2^d+(if upB N d neg mode then 1 else 0):Nat):Int)=cz:=⟨_,rfl⟩
 rw [hcz]
 obtain⟨q,hq⟩:∃q,N/2^d=q:=⟨_,rfl⟩
 obtain⟨r,hr⟩:∃r,N%2^d=r:=⟨_,rfl⟩
 obtain⟨P,hP⟩:∃P,2^(d-1)=P:=⟨_,rfl⟩
 have HCZ:=jH (aT5 hcz hq)
 have HRQ:=jH (And.intro hr (And.intro hq hP))
 have HPB:Hid (bl P≤34359738368):=jH (by rw [←hP];exact Nat.le_trans (aWy _) (by omega))
 have HRB:Hid (bl r≤34359738368):=jH (by rw [←hr];exact Nat.le_trans (lG (Nat.mod_le _ _)) hl)
 have HRE:=jH (aT0 N d)
 have HPH:=jH (aRm (d-1))
 have HDQ:Hid ((N:Int)/2^d=((N/2^d:Nat):Int)):=jH (by simp)
 have HLQ:Hid (bl (N/2^d)≤34359738368):=jH (Nat.le_trans (aMs _ _) hl)
 have HDM:Hid ((d:Int)-1=((d-1:Nat):Int)):=jH (by omega)
 rw [hr,hP]at HCC
 rw [hr]at HRE
 rw [hP]at HPH
 rw [hq]at HDQ HLQ
 rw [HDQ.out]at HRE
 clear hx hl hcz hq hr hP
 have HZ:=jH (dB.zero (k:= .u64) (s:=64) w _ dO)
 go_enter Tryz.func258,Tryz.ntmps258
 go_wp2_with fail
 refine(aW9 _ 0 _ 0 d _ N _ HZ.out.1 (HX.out.below (gJ _ _)) (by rw [Int.natAbs_natCast];exact bV (Nat.le_trans HL.out (by decide))) (by omega) rfl).mono ?_
 rintro e1 w1 ⟨rfl,hi1,hm1⟩
 have HB1:=jH (hm1.below (gJ _ _) (Nat.le_refl _) (gJ _ _).size)
 rw [HDQ.out]at hi1
 have HQ1:Hid (aIl w w1 w.heap.size (q:Int)):=jH ⟨hi1,Nat.le_refl _⟩
 clear hi1 hm1 HZ
 obtain⟨qb,hqb⟩:∃qb,w.heap.size=qb:=⟨_,rfl⟩
 rw [hqb]at HQ1 ⊢
 have HQB:=jH hqb
 clear hqb
 go_wp2_with fail
 have HZ1:=jH (dB.aIr (k:= .u64) (s:=64) w1 (.cells #[.bool false,.slice none 0 0] 220) _ dO)
 have HQ2:=jH (HQ1.out.later (below2 w1 (.cells #[.bool false,.slice none 0 0] 220) (.cells #[.bool false,.slice none 0 0] 220)))
 refine(aEy _ 0 qb 0 d _ q _ HZ1.out.1 HQ2.out.1 (by rw [Int.natAbs_natCast];exact bV (Nat.le_trans HLQ.out (by decide))) (by omega) rfl).mono ?_
 rintro e2 w2 ⟨rfl,hi2,hm2⟩
 have HB2:Hid (Below w1.heap.size w1 w2):=jH (hm2.below (below2 _ _ _) (by omega) (below2 _ _ _).size)
 have HZ2:=jH (((dB.zero (k:= .u64) (s:=64) w1 _ dO).below (Below.aA _ (.cells #[.bool false,.slice none 0 0] 220))).mod hm2 (.inl (by omega)) (dB.aIr (k:= .u64) (s:=64) w1 (.cells #[.bool false,.slice none 0 0] 220) _ dO).1.2.1)
 have HQ3:=jH (HQ1.out.later HB2.out)
 have HL2:=jH hi2
 have HQR:Hid (qb≠w1.heap.size):=jH (by have:=HQ1.out.1.1.1;omega)
 clear hi2 hm2 HZ1 HQ2 HQ1
 have HBA:=jH (HB1.out.trans (HB2.out.mono HB1.out.size))
 have HR0:Hid (w.heap.size≤w1.heap.size):=jH HB1.out.size
 generalize w1.heap.size+1=tb at*
 generalize w1.heap.size=rb at*
 go_wp2_with fail
 refine(aSz rb 0 _ 0 tb 0 _ _ _ HZ2.out.1 (HX.out.below HBA.out) HL2.out (by rw [Int.natAbs_natCast];exact bV (Nat.le_trans HL.out (by decide))) ?_).mono ?_
 ·exact bV (Nat.le_trans (xO _ _) (by rw [Int.natAbs_natCast];have:=HLQ.out;omega))
 rintro e3 w3 ⟨rfl,hi3,hm3⟩
 rw [HRE.out]at hi3
 have HQ4:=jH (HQ3.out.mod hm3 HQR.out HZ2.out)
 have HR4:Hid (aIl w w3 rb (r:Nat)):=jH ⟨hi3,HR0.out⟩
 have HB3:=jH (hm3.below HBA.out HR0.out HBA.out.size)
 clear hi3 hm3 HZ2 HL2 HQ3 HBA HB1 HB2 HR0 HQR
 go_wp2_with fail
 refine(iE 1 _ (by omega) (by omega)).mono ?_
 rintro e4 w4 ⟨ob,rfl,hob,hi4,hb4⟩
 have HZ4:=jH ((dB.zero (k:= .u64) (s:=64) w3 _ dO).below hb4)
 have HO4:=jH hi4
 have HB34:Hid (Below w3.heap.size w3 w4):=jH ((gJ w3 _).trans (hb4.mono (gJ w3 _).size))
 clear hob hi4 hb4
 go_wp2_with fail
 refine(aEy _ 0 ob 0 (d-1) _ 1 _ HZ4.out.1 HO4.out (by decide) (by omega) HDM.out).mono ?_
 rintro e5 w5 ⟨rfl,hi5,hm5⟩
 rw [HPH.out]at hi5
 have HB35:Hid (Below w3.heap.size w3 w5):=jH (hm5.below HB34.out (Nat.le_refl _) HB34.out.size)
 have HH5:=jH hi5
 have HQ5:=jH (HQ4.out.later HB35.out)
 have HR5:=jH (HR4.out.later HB35.out)
 have HB5:=jH (HB3.out.trans (HB35.out.mono HB3.out.size))
 clear hi5 hm5 HZ4 HO4 HB34 HB35 HQ4 HR4 HB3
 generalize w3.heap.size=hb at*
 go_wp2_with fail
 refine(aTy rb 0 hb 0 r P _ HR5.out.1 HH5.out).mono ?_
 rintro e6 wd ⟨rfl,nd,rfl⟩
 have HQ:=jH (HQ5.out.later (qM w5 nd))
 have HR:=jH (HR5.out.later (qM w5 nd))
 have HB:=jH (HB5.out.trans ((qM w5 nd).mono HB5.out.size))
 generalize w5.drewN nd=w6 at HQ HR HB ⊢
 clear HQ5 HR5 HB5 HH5
 generalize dQ (r:Int) (P:Int)=h0 at HCC ⊢
 by_cases hrest:r=0
 ·have HS:Hid (((r:Nat):Int).sign=0):=jH (by rw [hrest];rfl)
  have H0:Hid (N%2^d=0):=jH (by rw [HRQ.out.1];exact hrest)
  clear hrest
  have HU:Hid (cz=q):=jH (HCZ.out.1 (aPt H0.out))
  go_wp2_with fail
  refine(cO rb 0 _ _ HR.out.1).mono ?_
  rintro e6 w6 ⟨rfl,rfl⟩
  rw [HS.out]
  go_wp2
  go_ret
  exact⟨qb,rfl,HQ.out.2,by rw [HU.out];exact HQ.out.1,HB.out⟩
 ·obtain⟨sg,HS,hsg⟩:∃sg,Hid (((r:Nat):Int).sign=sg)∧(sg==0)=false:=⟨_,jH rfl,aVg (by omega)⟩
  have H0:Hid (¬N%2^d=0):=jH (by rw [HRQ.out.1];exact hrest)
  clear hrest
  rcases hmode with rfl|rfl|rfl|rfl|rfl
  ·rcases HCC.out with ⟨rfl,h'⟩|⟨rfl,h'⟩|⟨rfl,h'⟩
   ·skip
    have HW:=jH h'
    clear h'
    have HU:Hid (cz=(q:Int)+1):=jH (HCZ.out.2 (by rw [aH1 H0.out,HRQ.out.1,HRQ.out.2.1,HRQ.out.2.2];simp;have:=HW.out;omega))
    go_wp2_with fail
    refine(cO rb 0 _ _ HR.out.1).mono ?_
    rintro e6 w6 ⟨rfl,rfl⟩
    rw [HS.out]
    go_wp2_with fail
    refine(iE 1 _ (by omega) (by omega)).mono ?_
    rintro e9 w9 ⟨ob,rfl,hob,hi9,hb9⟩
    have HQ9:=jH (HQ.out.later hb9)
    have HB9:=jH (HB.out.trans (hb9.mono HB.out.size))
    have HO9:=jH hi9
    clear hob hi9 hb9
    go_wp2_with fail
    refine(nZ qb 0 qb 0 ob 0 _ _ _ HQ9.out.1.1 HQ9.out.1 HO9.out ?_ (by decide)).mono ?_
    ·rw [Int.natAbs_natCast];exact bV (Nat.le_trans HLQ.out (by decide))
    rintro e9 w10 ⟨rfl,hi10,hm10⟩
    have HF:=jH hi10
    have HB10:=jH (hm10.below HB9.out HQ9.out.2 HB9.out.size)
    clear hi10 hm10
    go_wp2
    go_ret
    exact⟨qb,rfl,HQ.out.2,by rw [HU.out];exact HF.out,HB10.out⟩
   ·by_cases hq:q%2=1
    ·have HBT:Hid ((((q:Nat):Int).natAbs/2^0%2:Nat)=1):=jH (by rw [Int.natAbs_natCast];simpa using hq)
     have HW:=jH (And.intro h' hq)
     clear h' hq
     have HU:Hid (cz=(q:Int)+1):=jH (HCZ.out.2 (by rw [aH1 H0.out,HRQ.out.1,HRQ.out.2.1,HRQ.out.2.2];simp;have:=HW.out;omega))
     go_wp2_with fail
     refine(cO rb 0 _ _ HR.out.1).mono ?_
     rintro e6 w6 ⟨rfl,rfl⟩
     rw [HS.out]
     go_wp2_with fail
     refine(aBq qb 0 0 _ _ HQ.out.1 (by omega)).mono ?_
     rintro e7 w7 ⟨rfl,rfl⟩
     rw [HBT.out]
     go_wp2_with fail
     refine(iE 1 _ (by omega) (by omega)).mono ?_
     rintro e9 w9 ⟨ob,rfl,hob,hi9,hb9⟩
     have HQ9:=jH (HQ.out.later hb9)
     have HB9:=jH (HB.out.trans (hb9.mono HB.out.size))
     have HO9:=jH hi9
     clear hob hi9 hb9
     go_wp2_with fail
     refine(nZ qb 0 qb 0 ob 0 _ _ _ HQ9.out.1.1 HQ9.out.1 HO9.out ?_ (by decide)).mono ?_
     ·rw [Int.natAbs_natCast];exact bV (Nat.le_trans HLQ.out (by decide))
     rintro e9 w10 ⟨rfl,hi10,hm10⟩
     have HF:=jH hi10
     have HB10:=jH (hm10.below HB9.out HQ9.out.2 HB9.out.size)
     clear hi10 hm10
     go_wp2
     go_ret
     exact⟨qb,rfl,HQ.out.2,by rw [HU.out];exact HF.out,HB10.out⟩
    ·have HBT:Hid ((((q:Nat):Int).natAbs/2^0%2:Nat)=0):=jH (by rw [Int.natAbs_natCast];simpa using (by omega:q%2=0))
     have HW:=jH (And.intro h' hq)
     clear h' hq
     have HU:Hid (cz=q):=jH (HCZ.out.1 (by rw [aH1 H0.out,HRQ.out.1,HRQ.out.2.1,HRQ.out.2.2];simp;have:=HW.out;omega))
     go_wp2_with fail
     refine(cO rb 0 _ _ HR.out.1).mono ?_
     rintro e6 w6 ⟨rfl,rfl⟩
     rw [HS.out]
     go_wp2_with fail
     refine(aBq qb 0 0 _ _ HQ.out.1 (by omega)).mono ?_
     rintro e7 w7 ⟨rfl,rfl⟩
     rw [HBT.out]
     go_wp2
     go_ret
     exact⟨qb,rfl,HQ.out.2,by rw [HU.out];exact HQ.out.1,HB.out⟩
   ·skip
    have HW:=jH h'
    clear h'
    have HU:Hid (cz=q):=jH (HCZ.out.1 (by rw [aH1 H0.out,HRQ.out.1,HRQ.out.2.1,HRQ.out.2.2];simp;have:=HW.out;omega))
    go_wp2_with fail
    refine(cO rb 0 _ _ HR.out.1).mono ?_
    rintro e6 w6 ⟨rfl,rfl⟩
    rw [HS.out]
    go_wp2
    go_ret
    exact⟨qb,rfl,HQ.out.2,by rw [HU.out];exact HQ.out.1,HB.out⟩
  ·rcases HCC.out with ⟨rfl,h'⟩|⟨rfl,h'⟩|⟨rfl,h'⟩
   ·skip
    have HW:=jH h'
    clear h'
    have HU:Hid (cz=(q:Int)+1):=jH (HCZ.out.2 (by rw [aWp H0.out,HRQ.out.1,HRQ.out.2.2];simp;have:=HW.out;omega))
    go_wp2_with fail
    refine(cO rb 0 _ _ HR.out.1).mono ?_
    rintro e6 w6 ⟨rfl,rfl⟩
    rw [HS.out]
    go_wp2_with fail
    refine(iE 1 _ (by omega) (by omega)).mono ?_
    rintro e9 w9 ⟨ob,rfl,hob,hi9,hb9⟩
    have HQ9:=jH (HQ.out.later hb9)
    have HB9:=jH (HB.out.trans (hb9.mono HB.out.size))
    have HO9:=jH hi9
    clear hob hi9 hb9
    go_wp2_with fail
    refine(nZ qb 0 qb 0 ob 0 _ _ _ HQ9.out.1.1 HQ9.out.1 HO9.out ?_ (by decide)).mono ?_
    ·rw [Int.natAbs_natCast];exact bV (Nat.le_trans HLQ.out (by decide))
    rintro e9 w10 ⟨rfl,hi10,hm10⟩
    have HF:=jH hi10
    have HB10:=jH (hm10.below HB9.out HQ9.out.2 HB9.out.size)
    clear hi10 hm10
    go_wp2
    go_ret
    exact⟨qb,rfl,HQ.out.2,by rw [HU.out];exact HF.out,HB10.out⟩
   ·skip
    have HW:=jH h'
    clear h'
    have HU:Hid (cz=(q:Int)+1):=jH (HCZ.out.2 (by rw [aWp H0.out,HRQ.out.1,HRQ.out.2.2];simp;have:=HW.out;omega))
    go_wp2_with fail
    refine(cO rb 0 _ _ HR.out.1).mono ?_
    rintro e6 w6 ⟨rfl,rfl⟩
    rw [HS.out]
    go_wp2_with fail
    refine(iE 1 _ (by omega) (by omega)).mono ?_
    rintro e9 w9 ⟨ob,rfl,hob,hi9,hb9⟩
    have HQ9:=jH (HQ.out.later hb9)
    have HB9:=jH (HB.out.trans (hb9.mono HB.out.size))
    have HO9:=jH hi9
    clear hob hi9 hb9
    go_wp2_with fail
    refine(nZ qb 0 qb 0 ob 0 _ _ _ HQ9.out.1.1 HQ9.out.1 HO9.out ?_ (by decide)).mono ?_
    ·rw [Int.natAbs_natCast];exact bV (Nat.le_trans HLQ.out (by decide))
    rintro e9 w10 ⟨rfl,hi10,hm10⟩
    have HF:=jH hi10
    have HB10:=jH (hm10.below HB9.out HQ9.out.2 HB9.out.size)
    clear hi10 hm10
    go_wp2
    go_ret
    exact⟨qb,rfl,HQ.out.2,by rw [HU.out];exact HF.out,HB10.out⟩
   ·skip
    have HW:=jH h'
    clear h'
    have HU:Hid (cz=q):=jH (HCZ.out.1 (by rw [aWp H0.out,HRQ.out.1,HRQ.out.2.2];simp;have:=HW.out;omega))
    go_wp2_with fail
    refine(cO rb 0 _ _ HR.out.1).mono ?_
    rintro e6 w6 ⟨rfl,rfl⟩
    rw [HS.out]
    go_wp2
    go_ret
    exact⟨qb,rfl,HQ.out.2,by rw [HU.out];exact HQ.out.1,HB.out⟩
  ·have HU:Hid (cz=q):=jH (HCZ.out.1 (aYc H0.out))
   go_wp2_with fail
   refine(cO rb 0 _ _ HR.out.1).mono ?_
   rintro e6 w6 ⟨rfl,rfl⟩
   rw [HS.out]
   go_wp2
   go_ret
   exact⟨qb,rfl,HQ.out.2,by rw [HU.out];exact HQ.out.1,HB.out⟩
  ·cases neg
   ·have HU:Hid (cz=(q:Int)+1):=jH (HCZ.out.2 (by rw [aTk H0.out];rfl))
    go_wp2_with fail
    refine(cO rb 0 _ _ HR.out.1).mono ?_
    rintro e6 w6 ⟨rfl,rfl⟩
    rw [HS.out]
    go_wp2_with fail
    refine(iE 1 _ (by omega) (by omega)).mono ?_
    rintro e9 w9 ⟨ob,rfl,hob,hi9,hb9⟩
    have HQ9:=jH (HQ.out.later hb9)
    have HB9:=jH (HB.out.trans (hb9.mono HB.out.size))
    have HO9:=jH hi9
    clear hob hi9 hb9
    go_wp2_with fail
    refine(nZ qb 0 qb 0 ob 0 _ _ _ HQ9.out.1.1 HQ9.out.1 HO9.out ?_ (by decide)).mono ?_
    ·rw [Int.natAbs_natCast];exact bV (Nat.le_trans HLQ.out (by decide))
    rintro e9 w10 ⟨rfl,hi10,hm10⟩
    have HF:=jH hi10
    have HB10:=jH (hm10.below HB9.out HQ9.out.2 HB9.out.size)
    clear hi10 hm10
    go_wp2
    go_ret
    exact⟨qb,rfl,HQ.out.2,by rw [HU.out];exact HF.out,HB10.out⟩
   ·have HU:Hid (cz=q):=jH (HCZ.out.1 (by rw [aTk H0.out];rfl))
    go_wp2_with fail
    refine(cO rb 0 _ _ HR.out.1).mono ?_
    rintro e6 w6 ⟨rfl,rfl⟩
    rw [HS.out]
    go_wp2
    go_ret
    exact⟨qb,rfl,HQ.out.2,by rw [HU.out];exact HQ.out.1,HB.out⟩
  ·cases neg
   ·have HU:Hid (cz=q):=jH (HCZ.out.1 (aT1 H0.out))
    go_wp2_with fail
    refine(cO rb 0 _ _ HR.out.1).mono ?_
    rintro e6 w6 ⟨rfl,rfl⟩
    rw [HS.out]
    go_wp2
    go_ret
    exact⟨qb,rfl,HQ.out.2,by rw [HU.out];exact HQ.out.1,HB.out⟩
   ·have HU:Hid (cz=(q:Int)+1):=jH (HCZ.out.2 (aT1 H0.out))
    go_wp2_with fail
    refine(cO rb 0 _ _ HR.out.1).mono ?_
    rintro e6 w6 ⟨rfl,rfl⟩
    rw [HS.out]
    go_wp2_with fail
    refine(iE 1 _ (by omega) (by omega)).mono ?_
    rintro e9 w9 ⟨ob,rfl,hob,hi9,hb9⟩
    have HQ9:=jH (HQ.out.later hb9)
    have HB9:=jH (HB.out.trans (hb9.mono HB.out.size))
    have HO9:=jH hi9
    clear hob hi9 hb9
    go_wp2_with fail
    refine(nZ qb 0 qb 0 ob 0 _ _ _ HQ9.out.1.1 HQ9.out.1 HO9.out ?_ (by decide)).mono ?_
    ·rw [Int.natAbs_natCast];exact bV (Nat.le_trans HLQ.out (by decide))
    rintro e9 w10 ⟨rfl,hi10,hm10⟩
    have HF:=jH hi10
    have HB10:=jH (hm10.below HB9.out HQ9.out.2 HB9.out.size)
    clear hi10 hm10
    go_wp2
    go_ret
    exact⟨qb,rfl,HQ.out.2,by rw [HU.out];exact HF.out,HB10.out⟩
end
section
set_option maxRecDepth 100000
set_option maxHeartbeats 6400000
open Go.RowKit
theorem aUf (b N:Nat) (down:Int) (neg:Bool) (mode:Int) (w:World) (hx:bM w b 0 (N:Int)) (hl:bl N≤34359738368) (h1: -1099511627776≤down) (h2:down≤17179869184) (hmode:mode=0∨mode=1∨mode=2∨mode=3∨mode=4):
  Calls Tryz.prog 258 #[.pointer (some ⟨b,0,none⟩),.int .i64 down,.bool neg,.int .i64 mode] w (aJn .u64 64 (iQ N down neg mode:Nat) w):=by
 by_cases h:down≤0
 ·exact aUp b N down neg mode w hx hl h h1
 ·obtain⟨d,rfl⟩:∃d:Nat,down=d:=⟨down.toNat,by omega⟩
  have:=aU5 b N d neg mode w hx hl (by omega) (by omega) hmode
  unfold iQ
  rw [if_neg h,Int.toNat_natCast]
  exact this
def aX (z e digits least:Int):Int:=max (e+bl z.natAbs-digits) least
def bW (z e digits least mode:Int):Nat:=iQ z.natAbs (aX z e digits least-e) (decide (z<0)) mode
def Rounds (z e digits least mode:Int) (w:World) (en:Ending) (w':World):Prop:=
 ∃p,en= .returned (.tuple #[.pointer (some ⟨p,0,none⟩),.int .i64 (aX z e digits least)])∧bM w' p 0 (bW z e digits least mode:Nat)∧Below w.heap.size w w'
theorem aAx (b:Nat) (z e digits least mode:Int) (w:World) (hx:bM w b 0 z) (hl:bl z.natAbs≤1000000) (he1: -1000000≤e) (he2:e≤1000000) (hd1:0≤digits) (hd2:digits≤100) (hs1: -2000≤least) (hs2:least≤0)
  (hmode:mode=0∨mode=1∨mode=2∨mode=3∨mode=4):
  Calls Tryz.prog 219 #[ExV b e,.int .i64 digits,.int .i64 least,.int .i64 mode] w (Rounds z e digits least mode w):=by
 have HX:=jH hx
 have HC:Hid (∀(p:Nat) (W:World),bM W p 0 (z.natAbs:Int)→Calls Tryz.prog 258 #[.pointer (some ⟨p,0,none⟩),.int .i64 (aX z e digits least-e),.bool (decide (z<0)),.int .i64 mode] W (aJn .u64 64 (bW z e digits least mode:Nat) W)):=by
  refine jH fun p W h=>aUf p _ _ _ _ W h (Nat.le_trans hl (by decide)) ?_ ?_ hmode
  ·unfold aX;omega
  ·unfold aX;omega
 obtain⟨last,hlast⟩:∃last,aX z e digits least=last:=⟨_,rfl⟩
 have hmax:max (e+(bl z.natAbs:Int)-digits) least=last:=hlast
 have HLE:=jH hlast
 obtain⟨sg,HS,hneg⟩:∃sg,Hid (z.sign=sg)∧decide (sg<0)=decide (z<0):=⟨_,jH rfl,aPk z⟩
 obtain⟨neg,hneg2⟩:∃neg,decide (z<0)=neg:=⟨_,rfl⟩
 rw [hneg2]at hneg
 obtain⟨q,hq⟩:∃q,bl z.natAbs=q:=⟨_,rfl⟩
 rw [hq]at hmax
 have HBL:Hid (bl ((z.natAbs:Nat):Int).natAbs=q):=jH (by rw [Int.natAbs_natCast];exact hq)
 have HLZ:Hid (ln 64 z.natAbs≤68719476736):=jH (bV (Nat.le_trans hl (by decide)))
 have hb1: -3000000≤last:=by omega
 have hb2:last≤3000000:=by omega
 have hq2:q≤1000000:=by omega
 rw [hlast,hneg2]at HC
 have hw1:IntKind.i64.wrap (e+(q:Int))=e+q:=IntWalk.i64_in _ (by omega)
 have hw2:IntKind.i64.wrap (e+(q:Int)-digits)=e+q-digits:=IntWalk.i64_in _ (by omega)
 have hw3:IntKind.i64.wrap (last-e)=last-e:=IntWalk.i64_in _ (by omega)
 have HM:=jH hmax
 have HW:=jH (And.intro hw1 (And.intro hw2 hw3))
 have HNG:=jH hneg
 have HBX:Hid (aJ ((w.alloc (.cells #[.pointer (some ⟨b,0,none⟩),.int .i64 e] 199)).alloc (.cells #[.bool false,.slice none 0 0] 220)) w.heap.size 199 #[.pointer (some ⟨b,0,none⟩),.int .i64 e]):=jH ((aJ.new w _ _).alloc _)
 have HZ:=jH (dB.aIr (k:= .u64) (s:=64) w (.cells #[.pointer (some ⟨b,0,none⟩),.int .i64 e] 199) _ dO)
 clear hx hl hmax hq hlast hneg hneg2 hw1 hw2 hw3 hmode
 unfold ExV
 go_enter Tryz.func219,Tryz.ntmps219
 go_wp2_with fail
 refine(aFy _ 0 _ 0 z _ HZ.out.1 (HX.out.below (below2 _ _ _)) HLZ.out).mono ?_
 rintro e1 w1 ⟨rfl,hi1,hm1⟩
 have HB1:=jH (hm1.below (below2 w (.cells #[.pointer (some ⟨b,0,none⟩),.int .i64 e] 199) _) (by omega) (below2 _ _ _).size)
 have HP1:=jH (HBX.out.mod hm1 (by omega))
 have HA1:=jH hi1
 clear hi1 hm1 HBX HZ
 generalize w.heap.size+1=ab at*
 go_wp2
 refine aC (fun w':World=>w'.cell? ⟨w.heap.size,0,none⟩=some (.pointer (some ⟨b,0,none⟩))∧w'.cell? ⟨w.heap.size,1,none⟩=some (.int .i64 e)) 9 (.take 0 (.take 1 (.take 2 (.take 5 (.take 7 (.run 3 (.take 4 (.take 6 (.take 8 .nil))))))))) (by kernel_rfl) (by kernel_rfl) ?_
 have HB2:=jH (HB1.out.drew)
 have HP2:=jH (HP1.out.below (aB w1))
 have HA2:=jH (HA1.out.below (aB w1))
 clear HB1 HP1 HA1
 generalize w1.drew=W at HB2 HP2 HA2 ⊢
 have hS:(fun w':World=>w'.cell? ⟨w.heap.size,0,none⟩=some (.pointer (some ⟨b,0,none⟩))∧w'.cell? ⟨w.heap.size,1,none⟩=some (.int .i64 e)) W:=⟨HP2.out.cell 0,HP2.out.cell 1⟩
 repeat (refine bD (v:= ?_) rfl (fun _ _ _ h=>h) rfl (fun w' hSw=> ?_) hS ?_;rotate_left;focus (go_simp;with_reducible rfl);try simp only [Act.put,aF])
 refine aZ rfl fun K' hK=> ?_
 go_simp
 refine(sJ ab 0 _ _ HA2.out).mono ?_
 rintro e2 w2 ⟨rfl,rfl⟩
 rw [HBL.out]
 refine hK _ _ hS ?_
 clear hK K'
 have hw1:=HW.out.1
 have hw2:=HW.out.2.1
 have hmax:=HM.out
 repeat (refine bD (v:= ?_) rfl (fun _ _ _ h=>h) rfl (fun w' hSw=> ?_) hS ?_;rotate_left;focus (go_simp;with_reducible rfl);try simp only [Act.put,aF])
 clear hS
 refine aN ?_
 simp only [drL]
 clear hw1 hw2 hmax
 go_wp2
 refine aC (fun w':World=>w'.cell? ⟨w.heap.size,0,none⟩=some (.pointer (some ⟨b,0,none⟩))∧w'.cell? ⟨w.heap.size,1,none⟩=some (.int .i64 e)) 13 (.take 0 (.take 1 (.take 2 (.take 3 (.take 4 (.take 5 (.take 6 (.take 9 (.take 11 (.run 7 (.take 8 (.run 10 (.take 12 .nil))))))))))))) (by kernel_rfl) (by kernel_rfl) ?_
 have HB3:=jH (HB2.out.drew)
 have HP3:=jH (HP2.out.below (aB W))
 have HA3:=jH (HA2.out.below (aB W))
 clear HB2 HP2 HA2
 generalize W.drew=V at HB3 HP3 HA3 ⊢
 have hS:(fun w':World=>w'.cell? ⟨w.heap.size,0,none⟩=some (.pointer (some ⟨b,0,none⟩))∧w'.cell? ⟨w.heap.size,1,none⟩=some (.int .i64 e)) V:=⟨HP3.out.cell 0,HP3.out.cell 1⟩
 have hw3:=HW.out.2.2
 repeat (refine bD (v:= ?_) rfl (fun _ _ _ h=>h) rfl (fun w' hSw=> ?_) hS ?_;rotate_left;focus (go_simp;with_reducible rfl);try simp only [Act.put,aF])
 clear hw3
 refine aZ rfl fun K' hK=> ?_
 go_simp
 refine(cO b 0 _ _ (HX.out.below HB3.out)).mono ?_
 rintro e2 w2 ⟨rfl,rfl⟩
 rw [HS.out]
 refine hK _ _ hS ?_
 clear hK K'
 have hneg:=HNG.out
 repeat (refine bD (v:= ?_) rfl (fun _ _ _ h=>h) rfl (fun w' hSw=> ?_) hS ?_;rotate_left;focus (go_simp;with_reducible rfl);try simp only [Act.put,aF])
 clear hS hneg
 refine aZ rfl fun K' hK=> ?_
 go_simp
 refine(HC.out ab _ HA3.out).mono ?_
 rintro e3 w3 ⟨p,rfl,hp,hi3,hb3⟩
 have HB4:=jH (HB3.out.trans (hb3.mono HB3.out.size))
 have HP4:=jH (HP3.out.below hb3)
 have HI4:=jH hi3
 have hS:(fun w':World=>w'.cell? ⟨w.heap.size,0,none⟩=some (.pointer (some ⟨b,0,none⟩))∧w'.cell? ⟨w.heap.size,1,none⟩=some (.int .i64 e)) w3:=⟨HP4.out.cell 0,HP4.out.cell 1⟩
 refine hK _ _ hS ?_
 clear hK K' hp hi3 hb3
 repeat (refine bD (v:= ?_) rfl (fun _ _ _ h=>h) rfl (fun w' hSw=> ?_) hS ?_;rotate_left;focus (go_simp;with_reducible rfl);try simp only [Act.put,aF])
 clear hS
 refine aN ?_
 simp only [drL]
 go_wp2
 go_ret2
 exact⟨p,by rw [HLE.out];rfl,HI4.out,HB4.out⟩
end
section
set_option maxRecDepth 100000
set_option maxHeartbeats 6400000
open Go.RowKit
def dA (neg:Bool) (e f:Nat):Nat:=(if neg then aH else 0)+e*aT+f
theorem aKw {e f:Nat}(he:e<2048) (hf:f<aT):bits .or .u64 ((e*aT:Nat):Int) (f:Int)=((e*aT+f:Nat):Int):=by
 unfold aT at*
 have h0:=bits_or_u64_nat (e*4503599627370496) f (by omega) (by omega)
 rw [h0]
 congr 1
 have:=Nat.two_pow_add_eq_or_of_lt (i:=52) (b:=f) hf e
 rw [Nat.mul_comm]at this
 exact this.symm
theorem zW {x:Nat}(hx:x<aH):bits .or .u64 (x:Int) (aH:Int)=((aH+x:Nat):Int):=by
 unfold aH at*
 have h0:=bits_or_u64_nat x 9223372036854775808 (by omega) (by omega)
 rw [h0]
 congr 1
 have:=Nat.two_pow_add_eq_or_of_lt (i:=63) (b:=x) hx 1
 rw [Nat.or_comm];exact this.symm
theorem aFi {neg:Bool}{e f:Nat}(he:e<2048) (hf:f<aT):eF (dA neg e f)=e∧fF (dA neg e f)=f∧aQ (dA neg e f)=neg∧dA neg e f<18446744073709551616:=by
 unfold dA eF fF aQ aH aT at*
 cases neg
 ·simp only [Bool.false_eq_true,if_false,decide_eq_false_iff_not];omega
 ·simp only [if_true,decide_eq_true_eq];omega
theorem aCv (neg:Bool) (e f:Nat) (w:World) (he:e<2047) (hf:f<aT):
  Calls Tryz.prog 282 #[.bool neg,.int .i64 e,.int .u64 f,F64] w (Gives (.tuple #[.int .u64 (dA neg e f:Nat),.int .i64 0]) w):=by
 obtain⟨f1,f2,f3,f4⟩:=aFi (neg:=neg) (show e<2048 by omega) hf
 have HCN:Hid (bF (dA neg e f)=dA neg e f):=jH (xG (by omega))
 have H4:=jH f4
 have HO:Hid (bits .or .u64 ((e:Int)*4503599627370496) (f:Int)=((e*aT+f:Nat):Int)):=jH (by have:=aKw (show e<2048 by omega) hf;rw [Int.natCast_mul]at this;exact this)
 have HCA:=jH fun b h w=>rE b w h
 have HJ:Hid ((neg=false→dA neg e f=e*aT+f)∧(neg=true→dA neg e f=aH+(e*aT+f))):=jH ⟨fun h=>by unfold dA;rw [h];simp,fun h=>by unfold dA;rw [h];simp;omega⟩
 have HJS:=jH (zW (show e*aT+f<aH by unfold aT aH at*;omega))
 have HH:=jH fun w=>oO w
 have HSg:=jH fun w=>uS w
 have H0:=jH (rZ.new w 162)
 unfold F64 at*
 obtain⟨c0,c1,c2⟩:=H0.out.2
 have hge:decide ((aT:Int)≤(f:Int))=false:=by simp;omega
 clear f1 f2 f3 f4
 generalize e*aT+f=x at HO HJ HJS
 generalize aT=kh at hge HH hf
 generalize aH=ks at HSg HJS HJ
 generalize dA neg e f=R at*
 cases neg
 ·obtain rfl:R=x:=HJ.out.1 rfl
  go_enter Tryz.func282,Tryz.ntmps282
  go_wp2_with fail
  refine(HH.out _).mono ?_
  rintro e1 w1 ⟨rfl,hb1⟩
  have HB1:=jH ((gJ w _).trans (hb1.mono (by simp)))
  have HF1:=jH (H0.out.below hb1)
  obtain⟨-,d0,d1,d2⟩:=HF1.out
  clear c0 c1 c2 hb1
  go_wp2_with fail
  rw [HO.out]
  refine(HCA.out R H4.out _).mono ?_
  rintro e2 w2 ⟨rfl,hb2⟩
  rw [HCN.out]
  have HB2:=jH (HB1.out.trans (hb2.mono HB1.out.size))
  clear hb2
  go_wp2
  go_ret2
  exact⟨rfl,HB2.out⟩
 ·obtain rfl:R=ks+x:=HJ.out.2 rfl
  go_enter Tryz.func282,Tryz.ntmps282
  go_wp2_with fail
  refine(HH.out _).mono ?_
  rintro e1 w1 ⟨rfl,hb1⟩
  have HB1:=jH ((gJ w _).trans (hb1.mono (by simp)))
  have HF1:=jH (H0.out.below hb1)
  obtain⟨-,d0,d1,d2⟩:=HF1.out
  clear c0 c1 c2 hb1
  go_wp2_with fail
  rw [HO.out]
  refine(HSg.out _).mono ?_
  rintro e2 w2 ⟨rfl,hb2⟩
  have HB2:=jH (HB1.out.trans (hb2.mono HB1.out.size))
  have HF2:=jH (HF1.out.below hb2)
  clear d0 d1 d2 hb2
  obtain⟨-,d0,d1,d2⟩:=HF2.out
  go_wp2_with fail
  rw [HJS.out]
  refine(HCA.out _ H4.out _).mono ?_
  rintro e2 w3 ⟨rfl,hb3⟩
  rw [HCN.out]
  have HB3:=jH (HB2.out.trans (hb3.mono HB2.out.size))
  clear hb3
  go_wp2
  go_ret2
  exact⟨rfl,HB3.out⟩
def mkB (neg:Bool) (m:Nat) (e:Int):Nat:=
 if m=0 then dA neg 0 0
 else
  let t:=Lib.ctz 64 m
  let down:=min (53-(bl (m/2^t):Int)) (e+t+1074)
  let M:=m/2^t*2^down.toNat
  if M<aT then dA neg 0 M else dA neg (e+t-down+1075).toNat (M-aT)
theorem aNg (neg:Bool) (e:Int) (w:World):
  Calls Tryz.prog 261 #[.agg #[.bool neg,.int .u64 0,.int .i64 e],F64] w (Gives (.tuple #[.int .u64 (dA neg 0 0:Nat),.int .i64 0]) w):=by
 have HJ:=jH fun W=>aCv neg 0 0 W (by decide) (by decide)
 unfold F64 at*
 go_enter Tryz.func261,Tryz.ntmps261
 go_wp2_with fail
 refine(HJ.out _).mono ?_
 rintro e1 w1 ⟨rfl,hb1⟩
 have HB1:=jH ((below2 w _ _).trans (hb1.mono (below2 w _ _).size))
 clear hb1
 go_wp2
 go_ret2
 exact⟨rfl,HB1.out⟩
end
section
set_option maxRecDepth 100000
set_option maxHeartbeats 6400000
open Go.RowKit
theorem aKr {a D:Nat}(h:a*2^D<18446744073709551616):IntKind.u64.wrap ((a:Int)*2^D)=((a*2^D:Nat):Int):=by
 have e:((a:Int)*2^D)=((a*2^D:Nat):Int):=by simp
 rw [e];exact dU _ h
theorem aNt (neg:Bool) (m t a L D M:Nat) (e e':Int) (w:World) (hm0:m≠0) (hm:m<18446744073709551616) (ht:Lib.ctz 64 m=t) (ha:m/2^t=a) (he:e+t=e') (hL:bl a=L) (hD:min (53-(L:Int)) (e'+1074)=D) (hM:a*2^D=M)
  (hL53:L≤53) (he': -1074≤e') (hb1: -2150≤e) (hb2:e≤2150) (hM53:M<9007199254740992) (hE:¬M<aT→e'-D+1075<2047) (hE1:¬M<aT→1≤e'-D+1075)
  (hT:eY w) (hTs:1<w.heap.size):
  Calls Tryz.prog 261 #[.agg #[.bool neg,.int .u64 m,.int .i64 e],F64] w (Gives (.tuple #[.int .u64 ((if M<aT then dA neg 0 M else dA neg (e'-D+1075).toNat (M-aT):Nat):Int),.int .i64 0]) w):=by
 obtain⟨R,hR⟩:∃R,(if M<aT then dA neg 0 M else dA neg (e'-D+1075).toNat (M-aT))=R:=⟨_,rfl⟩
 rw [hR]
 have HR:Hid ((M<aT→R=dA neg 0 M)∧(¬M<aT→R=dA neg (e'-D+1075).toNat (M-aT))):=jH ⟨fun h=>by rw [←hR,if_pos h],fun h=>by rw [←hR,if_neg h]⟩
 clear hR
 have HTZ:Hid (∀W:World,eY W→Calls Tryz.prog 283 #[.int .u64 m] W fun e W'=>e= .returned (.int .i64 t)∧W=W'):=
  jH fun W hW=>by rw [←ht];exact zF m hm hm0 W hW
 have ha64:a<18446744073709551616:=by rw [←ha];exact Nat.lt_of_le_of_lt (Nat.div_le_self _ _) hm
 have HLN:Hid (∀W:World,Calls Tryz.prog 281 #[.int .u64 a] W fun e W'=>e= .returned (.int .i64 L)∧W=W'):=
  jH fun W=>by rw [←hL];exact aEd a ha64 W
 have HSH:Hid (IntKind.u64.wrap ((a:Int)*2^D)=(M:Int)):=jH (by rw [aKr (by omega),hM])
 have HSR:Hid ((m:Int)/2^t=(a:Int)):=jH (by rw [←ha];simp)
 have ht64:t<64:=by rw [←ht];exact(Lib.lowest_bit 64 m hm0 hm).2
 have HH:=jH fun w=>oO w
 have HJ0:Hid (M<aT→∀W,Calls Tryz.prog 282 #[.bool neg,.int .i64 0,.int .u64 M,F64] W (Gives (.tuple #[.int .u64 (dA neg 0 M:Nat),.int .i64 0]) W)):=
  jH fun h W=>aCv neg 0 M W (by decide) h
 have HJ1:Hid (¬M<aT→∀W,Calls Tryz.prog 282 #[.bool neg,.int .i64 (e'-D+1075),.int .u64 ((M:Int)-aT),F64] W (Gives (.tuple #[.int .u64 (dA neg (e'-D+1075).toNat (M-aT):Nat),.int .i64 0]) W)):=by
  refine jH fun h W=> ?_
  have h1:=hE h
  have h2:=hE1 h
  have:=aCv neg (e'-D+1075).toNat (M-aT) W (by omega) (by unfold aT at*;omega)
  rw [show(((e'-D+1075).toNat:Nat):Int)=e'-D+1075 by omega,show((M-aT:Nat):Int)=(M:Int)-aT by omega]at this
  exact this
 have HWR:Hid (¬M<aT→IntKind.u64.wrap ((M:Int)-aT)=(M:Int)-aT):=by
  refine jH fun h=> ?_
  rw [IntKind.wrap_u64];unfold aT at*;omega
 have hD0:D≤53:=by omega
 have hmz:((m:Int)==0)=false:=by simp;omega
 have hw1:IntKind.i64.wrap (e+(t:Int))=e':=by rw [IntWalk.i64_in _ (by omega)];exact he
 have HW1:=jH hw1
 have HHD:=jH hD
 have HEE:=jH (And.intro hE hE1)
 have HTT:=jH (And.intro hT hTs)
 have he2:e'≤2214:=by omega
 have hq1:decide ((2150:Int)<e)=false:=by simp;omega
 have hq2:decide (e<(-2150:Int))=false:=by simp;omega
 have hq3:decide ((53:Int)<(L:Int))=false:=by simp;omega
 have hq4:decide (e'<(-1074:Int))=false:=by simp;omega
 unfold F64 at*
 have HF0:Hid (aJ ((w.alloc (.cells #[.bool neg,.int .u64 m,.int .i64 e] 229)).alloc (.cells #[.int .u64 52,.int .i64 2047,.int .i64 1075] 162)) w.heap.size 229 #[.bool neg,.int .u64 m,.int .i64 e]∧
    aJ ((w.alloc (.cells #[.bool neg,.int .u64 m,.int .i64 e] 229)).alloc (.cells #[.int .u64 52,.int .i64 2047,.int .i64 1075] 162)) (w.heap.size+1) 162 #[.int .u64 52,.int .i64 2047,.int .i64 1075]∧
    Below w.heap.size w ((w.alloc (.cells #[.bool neg,.int .u64 m,.int .i64 e] 229)).alloc (.cells #[.int .u64 52,.int .i64 2047,.int .i64 1075] 162))):=jH ⟨(aJ.new w _ _).alloc _,aJ.new1 w _ _ _,below2 _ _ _⟩
 clear hm0 hm ht ha he hL hD hM hM53 hE hE1 hT hTs ha64 hw1
 go_enter Tryz.func261,Tryz.ntmps261
 go_wp2_with fail
 refine(HTZ.out _ (HTT.out.1.below HTT.out.2 HF0.out.2.2)).mono ?_
 rintro e1 w1 ⟨rfl,rfl⟩
 go_wp2
 generalize hW:((w.alloc (.cells #[.bool neg,.int .u64 m,.int .i64 e] 229)).alloc (.cells #[.int .u64 52,.int .i64 2047,.int .i64 1075] 162))=W at HF0 ⊢
 clear hW
 refine aC (fun w':World=>w'.cell? ⟨w.heap.size,1,none⟩=some (.int .u64 m)∧w'.cell? ⟨w.heap.size,2,none⟩=some (.int .i64 e)) 9 (.take 0 (.take 1 (.take 2 (.take 3 (.take 4 (.take 5 (.take 6 (.take 7 (.take 8 .nil))))))))) (by kernel_rfl) (by kernel_rfl) ?_
 have HF1:Hid (aJ W.drew w.heap.size 229 #[.bool neg,.int .u64 m,.int .i64 e]∧aJ W.drew (w.heap.size+1) 162 #[.int .u64 52,.int .i64 2047,.int .i64 1075]∧Below w.heap.size w W.drew):=
  jH ⟨HF0.out.1.below (aB _),HF0.out.2.1.below (aB _),HF0.out.2.2.drew⟩
 clear HF0
 generalize W.drew=V at HF1 ⊢
 have hS:(fun w':World=>w'.cell? ⟨w.heap.size,1,none⟩=some (.int .u64 m)∧w'.cell? ⟨w.heap.size,2,none⟩=some (.int .i64 e)) V:=⟨HF1.out.1.cell 1,HF1.out.1.cell 2⟩
 have hw1:=HW1.out
 have hsr:=HSR.out
 repeat (refine bD (v:= ?_) rfl (fun _ _ _ h=>h) rfl (fun w' hSw=> ?_) hS ?_;rotate_left;focus (go_simp;with_reducible rfl);try simp only [Act.put,aF])
 clear hS hw1 hsr
 refine aN ?_
 simp only [drL]
 have hw4:IntKind.i64.wrap (e'-(D:Int))=e'-D:=IntWalk.i64_in _ (by omega)
 have hmin:=HHD.out
 go_wp2_with fail
 refine(HLN.out _).mono ?_
 rintro e2 w2 ⟨rfl,rfl⟩
 obtain⟨x0,x1,x2,x3,x4,x5⟩:=HF1.out.1.cells3
 obtain⟨y0,y1,y2,y3,y4,y5⟩:=HF1.out.2.1.cells3
 go_wp2_with fail
 rw [HSH.out]
 refine(HH.out _).mono ?_
 rintro e3 w3 ⟨rfl,hb3⟩
 have HF3:Hid (aJ w3 w.heap.size 229 #[.bool neg,.int .u64 m,.int .i64 e]∧aJ w3 (w.heap.size+1) 162 #[.int .u64 52,.int .i64 2047,.int .i64 1075]∧Below w.heap.size w w3):=
  jH ⟨HF1.out.1.below hb3,HF1.out.2.1.below hb3,HF1.out.2.2.trans (hb3.mono HF1.out.2.2.size)⟩
 clear hb3 x0 x1 x2 x3 x4 x5 y0 y1 y2 y3 y4 y5 hq1 hq2 hq3 hq4 hmin hmz HF1
 generalize aT=kh at*
 obtain⟨x0,x1,x2,x3,x4,x5⟩:=HF3.out.1.cells3
 obtain⟨y0,y1,y2,y3,y4,y5⟩:=HF3.out.2.1.cells3
 by_cases hlt:M<kh
 ·have hlt2:decide (M<kh)=true:=decide_eq_true hlt
  have HJ:=jH (HJ0.out hlt)
  have HRR:=jH (HR.out.1 hlt)
  clear hlt
  go_wp2_with fail
  refine(HJ.out _).mono ?_
  rintro e4 w4 ⟨rfl,hb4⟩
  have HB4:=jH (HF3.out.2.2.trans (hb4.mono HF3.out.2.2.size))
  clear hb4
  go_wp2
  go_ret2
  exact⟨by rw [HRR.out];rfl,HB4.out⟩
 ·have hlt2:decide (M<kh)=false:=decide_eq_false hlt
  have HJ:=jH (HJ1.out hlt)
  have HRR:=jH (HR.out.2 hlt)
  have hE1:=HEE.out.1 hlt
  have HWW:=jH (HWR.out hlt)
  clear hlt
  go_wp2
  refine aC (fun w':World=>w'.cell? ⟨w.heap.size,0,none⟩=some (.bool neg)∧(w'.cell? ⟨w.heap.size+1,0,none⟩=some (.int .u64 52)∧w'.cell? ⟨w.heap.size+1,1,none⟩=some (.int .i64 2047))∧w'.cell? ⟨w.heap.size+1,2,none⟩=some (.int .i64 1075)) 11 (.take 0 (.take 1 (.take 2 (.take 3 (.take 4 (.take 7 (.run 5 (.take 6 (.run 8 (.take 9 (.take 10 .nil))))))))))) (by kernel_rfl) (by kernel_rfl) ?_
  have HF4:Hid (aJ w3.drew w.heap.size 229 #[.bool neg,.int .u64 m,.int .i64 e]∧aJ w3.drew (w.heap.size+1) 162 #[.int .u64 52,.int .i64 2047,.int .i64 1075]∧Below w.heap.size w w3.drew):=
   jH ⟨HF3.out.1.below (aB _),HF3.out.2.1.below (aB _),HF3.out.2.2.drew⟩
  clear x0 x1 x2 x3 x4 x5 y0 y1 y2 y3 y4 y5 HF3 hlt2
  generalize w3.drew=V4 at HF4 ⊢
  have hS:(fun w':World=>w'.cell? ⟨w.heap.size,0,none⟩=some (.bool neg)∧(w'.cell? ⟨w.heap.size+1,0,none⟩=some (.int .u64 52)∧w'.cell? ⟨w.heap.size+1,1,none⟩=some (.int .i64 2047))∧w'.cell? ⟨w.heap.size+1,2,none⟩=some (.int .i64 1075)) V4:=⟨HF4.out.1.cell 0,⟨HF4.out.2.1.cell 0,HF4.out.2.1.cell 1⟩,HF4.out.2.1.cell 2⟩
  repeat (refine bD (v:= ?_) rfl (fun _ _ _ h=>h) rfl (fun w' hSw=> ?_) hS ?_;rotate_left;focus (go_simp;with_reducible rfl);try simp only [Act.put,aF])
  clear hS
  refine aZ rfl fun K' hK=> ?_
  go_simp
  refine(HH.out _).mono ?_
  rintro e5 w5 ⟨rfl,hb5⟩
  have HF5:Hid (aJ w5 w.heap.size 229 #[.bool neg,.int .u64 m,.int .i64 e]∧aJ w5 (w.heap.size+1) 162 #[.int .u64 52,.int .i64 2047,.int .i64 1075]∧Below w.heap.size w w5):=
   jH ⟨HF4.out.1.below hb5,HF4.out.2.1.below hb5,HF4.out.2.2.trans (hb5.mono HF4.out.2.2.size)⟩
  have hS:(fun w':World=>w'.cell? ⟨w.heap.size,0,none⟩=some (.bool neg)∧(w'.cell? ⟨w.heap.size+1,0,none⟩=some (.int .u64 52)∧w'.cell? ⟨w.heap.size+1,1,none⟩=some (.int .i64 2047))∧w'.cell? ⟨w.heap.size+1,2,none⟩=some (.int .i64 1075)) w5:=⟨HF5.out.1.cell 0,⟨HF5.out.2.1.cell 0,HF5.out.2.1.cell 1⟩,HF5.out.2.1.cell 2⟩
  refine hK _ _ hS ?_
  clear hK K' hb5 HF4
  have hww:=HWW.out
  repeat (refine bD (v:= ?_) rfl (fun _ _ _ h=>h) rfl (fun w' hSw=> ?_) hS ?_;rotate_left;focus (go_simp;with_reducible rfl);try simp only [Act.put,aF])
  clear hS hww
  refine aZ rfl fun K' hK=> ?_
  go_simp
  refine(HJ.out _).mono ?_
  rintro e6 w6 ⟨rfl,hb6⟩
  have HF6:Hid (aJ w6 w.heap.size 229 #[.bool neg,.int .u64 m,.int .i64 e]∧aJ w6 (w.heap.size+1) 162 #[.int .u64 52,.int .i64 2047,.int .i64 1075]∧Below w.heap.size w w6):=
   jH ⟨HF5.out.1.below hb6,HF5.out.2.1.below hb6,HF5.out.2.2.trans (hb6.mono HF5.out.2.2.size)⟩
  have hS:(fun w':World=>w'.cell? ⟨w.heap.size,0,none⟩=some (.bool neg)∧(w'.cell? ⟨w.heap.size+1,0,none⟩=some (.int .u64 52)∧w'.cell? ⟨w.heap.size+1,1,none⟩=some (.int .i64 2047))∧w'.cell? ⟨w.heap.size+1,2,none⟩=some (.int .i64 1075)) w6:=⟨HF6.out.1.cell 0,⟨HF6.out.2.1.cell 0,HF6.out.2.1.cell 1⟩,HF6.out.2.1.cell 2⟩
  refine hK _ _ hS ?_
  clear hK K' hb6 HF5
  repeat (refine bD (v:= ?_) rfl (fun _ _ _ h=>h) rfl (fun w' hSw=> ?_) hS ?_;rotate_left;focus (go_simp;with_reducible rfl);try simp only [Act.put,aF])
  clear hS
  refine aN ?_
  simp only [drL]
  go_wp2
  go_ret2
  exact⟨by rw [HRR.out];rfl,HF6.out.2.2⟩
end
end Go.Proofs.YtfmecpembnmnkaaGreatDoor
