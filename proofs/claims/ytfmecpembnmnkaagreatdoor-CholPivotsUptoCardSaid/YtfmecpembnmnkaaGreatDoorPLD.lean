/- Walks: Lower, Upper (program, references). Printed by wip/gen/ch11.py. -/
import Derived.Test.YtfmecpembnmnkaaGreatDoorPLC
import Derived.Test.YtfmecpembnmnkaaGreatDoorPLA
namespace Go.Proofs.YtfmecpembnmnkaaGreatDoor
section
open Go.RowKit
attribute [local go_sem] bG
def bO (b:List Nat) (i:Nat):Fo:=some (b.getD i 0)
theorem aWj {w:World}{bv:Value}{b:List Nat}(h:FSl w bv b):∀i (hi:i<b.length),Rep (bO b i) b[i]:=fun i hi=>by
 unfold bO
 rw [List.getD_eq_getElem?_getD,List.getElem?_eq_getElem hi]
 exact⟨h.aKv _ (List.getElem_mem hi),rfl⟩
def aOk (n:Nat) (x:Nat→Fo):List Nat:=(List.range n).map fun i=>aS3 (x i)
theorem aTc {n:Nat}{x:Nat→Fo}{l:List Nat}(hl:l.length=n) (hr:∀i (h:i<l.length),Rep (x i) l[i]) (hf:∀j,j<n→iP (x j)=true):l=aOk n x:=by
 refine List.ext_getElem (by unfold aOk;simp [hl]) fun i h1 h2=> ?_
 have e:(aOk n x)[i]=aS3 (x i):=by simp [aOk]
 rw [e]
 exact(hr i h1).bits (hf i (by omega))
theorem aPe {n:Nat}{b:List Nat}(h:xU n b=0):b.length=n∧b.all aK=true:=by
 rw [aVl]at h
 cases h1:(b.length:Int)==(n:Int)
 ·rw [h1]at h;cases h
 ·rw [h1]at h
  have:=eq_of_beq h1
  cases h2:b.all aK
  ·rw [h2]at h;cases h
  ·exact⟨by omega,rfl⟩
end
section
set_option maxRecDepth 100000
set_option maxHeartbeats 6400000
open Go.RowKit
attribute [local go_sem] bG
def aI6 (n:Nat) (R b:List Nat):(Nat→Fo)×Bool:=up (atO n R) (dn (atO n R) (bO b) false n).1 (dn (atO n R) (bO b) false n).2 n n
def wJ (r c:Int) (l b:List Nat):Int:=if kN r c l≠0 then kN r c l else if xU r b≠0 then xU r b else if jR r c l≠0 then jR r c l else if(aI6 r.toNat (nD r c l) b).2 then 5 else 0
def aDr (r c:Int) (l b:List Nat):Nat:=if kN r c l≠0 then 0 else if xU r b≠0 then 0 else uM r c l
def aAa (r c:Int) (l b:List Nat):List Nat:=if wJ r c l b=0 then aOk r.toNat (aI6 r.toNat (nD r c l) b).1 else []
def aI0 (E:Int) (P:Nat) (l:List Nat) (w:World) (e:Ending) (w':World):Prop:=
 ∃u,e= .returned (.tuple #[u,.int .i64 P,.int .i64 E])∧FSl w' u l∧(∀a c d,u= .slice (some a) c d→w.heap.size≤a.block)∧Below w.heap.size w w'
theorem aI0.err {E:Int}{P:Nat}{w w':World}(hb:Below w.heap.size w w'):aI0 E P [] w (.returned (.tuple #[.slice none 0 0,.int .i64 P,.int .i64 E])) w':=⟨_,rfl,FSl.none _,(by intro a c d e;cases e),hb⟩
theorem aXa {r c:Int}{l b:List Nat}(h:kN r c l≠0):wJ r c l b=kN r c l∧aDr r c l b=0∧aAa r c l b=[]:=by
 have e:wJ r c l b=kN r c l:=if_pos h
 exact⟨e,if_pos h,by unfold aAa;rw [e,if_neg h]⟩
theorem aVy {r c:Int}{l b:List Nat}(h:kN r c l=0) (h2:xU r b≠0):wJ r c l b=xU r b∧aDr r c l b=0∧aAa r c l b=[]:=by
 have e:wJ r c l b=xU r b:=by unfold wJ;rw [if_neg (fun t=>t h),if_pos h2]
 exact⟨e,by unfold aDr;rw [if_neg (fun t=>t h),if_pos h2],by unfold aAa;rw [e,if_neg h2]⟩
theorem aWt {r c:Int}{l b:List Nat}(h:kN r c l=0) (h2:xU r b=0) (h3:jR r c l≠0):wJ r c l b=jR r c l∧aDr r c l b=uM r c l∧aAa r c l b=[]:=by
 have e:wJ r c l b=jR r c l:=by unfold wJ;rw [if_neg (fun t=>t h),if_neg (fun t=>t h2),if_pos h3]
 exact⟨e,by unfold aDr;rw [if_neg (fun t=>t h),if_neg (fun t=>t h2)],by unfold aAa;rw [e,if_neg h3]⟩
theorem aCz {r c:Int}{l:List Nat}(h3:jR r c l=0):uM r c l=0:=by
 unfold jR at h3
 unfold uM
 by_cases h:iC r c l=0
 ·rw [if_neg (fun t=>t h)]at h3 ⊢
  unfold WSt.res at h3 ⊢
  by_cases h1:(aA1 r l).e=0
  ·rw [if_pos h1]at h3 ⊢
   cases hf:(aA1 r l).f
   ·rfl
   ·rfl
  ·rw [if_neg h1]at h3;exact absurd h3 h1
 ·rw [if_pos h]
theorem aWu {n:Nat}{l b:List Nat}(h:kN n n l=0) (h2:xU n b=0) (h3:jR n n l=0) (f:Bool) (hf:(aI6 n (nD n n l) b).2=f):
  aDr n n l b=0∧(f=true→wJ n n l b=5∧aAa n n l b=[])∧(f=false→wJ n n l b=0∧aAa n n l b=aOk n (aI6 n (nD n n l) b).1):=by
 have e:wJ n n l b=if f then 5 else 0:=by subst hf;unfold wJ;rw [if_neg (fun t=>t h),if_neg (fun t=>t h2),if_neg (fun t=>t h3)];simp only [Int.toNat_natCast]
 refine⟨?_,fun e1=> ?_,fun e1=> ?_⟩
 ·unfold aDr;rw [if_neg (fun t=>t h),if_neg (fun t=>t h2)];exact aCz h3
 ·rw [e1]at e;exact⟨e,by unfold aAa;rw [e];rfl⟩
 ·rw [e1]at e;exact⟨e,by unfold aAa;rw [e];rfl⟩
theorem aT9 (n:Nat) (R b:List Nat) (h:(aI6 n R b).2=false):∀j,j<n→iP ((aI6 n R b).1 j)=true:=fun j hj=>aRv n (Nat.le_refl n) h j (by omega) hj
theorem aPo {n:Nat}{l:List Nat}(h:jR n n l=0):wY n n l=n:=if_pos h
theorem aOl {n:Nat}{l:List Nat}(h:jR n n l=0):(nD n n l).length=n*n:=by unfold nD;rw [if_pos h];simp [aOn]
theorem aNi (r c:Int) (sl:Value) (l:List Nat) (bv:Value) (b:List Nat) (w:World) (hl:FSl w sl l) (hb:FSl w bv b):
  Calls Tryz.prog 30 #[kG r c sl,bv] w (aI0 (wJ r c l b) (aDr r c l b) (aAa r c l b) w):=by
 have HM:=jH (MBx.new w r c sl)
 have HLW:=jH fun W (hw:Below w.heap.size w W)=>And.intro (hl.below hw) (hb.below hw)
 have HTR:=jH (aGy r c sl l _ (hl.below (Below.aA w (.cells #[.int .i64 r,.int .i64 c,sl] 25))))
 by_cases h0:kN r c l=0
 ·have HFT:=jH fun W (hw:Below w.heap.size w W)=>fits_any r bv b W (hb.below hw)
  have HCH:=jH fun W (hw:Below w.heap.size w W)=>aGe r c sl l W (hl.below hw)
  rw [h0]at HTR
  by_cases h2:xU r b=0
  ·rw [h2]at HFT
   by_cases h3:jR r c l=0
   ·obtain⟨n,hn,-⟩:∃n:Nat,r=n∧c=n:=⟨r.toNat,(rM h0).hr,(rM h0).hc⟩
    obtain rfl:r=n:=hn
    obtain rfl:c=n:=by have:=(rM h0).hc;simpa using this
    have hn:n≤12:=by have:=(rM h0).hn;simpa using this
    obtain⟨hbl,-⟩:=aPe h2
    have HCS:=jH fun f hf=>aWu h0 h2 h3 f hf
    have hRl:=aOl h3
    rw [h3,aPo h3,aCz h3]at HCH
    have HFN:=jH (aT9 n (nD n n l) b)
    unfold aI6 at HFN HCS
    generalize wJ n n l b=E at*
    generalize aDr n n l b=P at*
    generalize aAa n n l b=Q at*
    generalize nD n n l=R at*
    have HBL:=jH hbl
    have HRL:=jH hRl
    have HBR:=jH fun i hi=>aWj hb i hi
    clear h0 h2 h3 hbl hl hb hRl
    obtain⟨q0,q1,q2⟩:=HM.out.m3
    go_enter Tryz.func30,Tryz.ntmps30
    go_wp2_with fail
    refine HTR.out.mono ?_
    rintro e1 w1 ⟨rfl,hb1⟩
    replace HM:=jH (HM.out.later hb1)
    clear hb1 q0 q1 q2 HTR
    obtain⟨q0,q1,q2⟩:=HM.out.m3
    go_wp2_with fail
    refine(HFT.out _ HM.out.b).mono ?_
    rintro e2 w2 ⟨rfl,hb1⟩
    replace HM:=jH (HM.out.later hb1)
    clear hb1 q0 q1 q2 HFT
    obtain⟨q0,q1,q2⟩:=HM.out.m3
    go_wp2_with fail
    refine(HCH.out _ HM.out.b).mono ?_
    rintro e3 w3 ⟨u,rfl,hu,hun,hb1⟩
    obtain⟨ul,hul⟩:∃ul,ul=u:=⟨_,rfl⟩
    obtain⟨uo,uc,hue,-⟩:=id hu
    generalize List.length _=un at hue
    subst hul
    subst hue
    have HU:=jH hu
    replace HM:=jH (HM.out.later hb1)
    clear hb1 q0 q1 q2 HCH hu hun
    obtain⟨q0,q1,q2⟩:=HM.out.m3
    go_upto_region 11 with fail
    clear q0 q1 q2
    have hsz:=HM.out.m.lt
    have HLB:Hid (aJ ((w3.alloc (.cells #[.int .i64 n,.int .i64 n,.slice uo un uc] 25)).alloc (.cells #[.bool false] 94)) w3.heap.size 25 #[.int .i64 n,.int .i64 n,.slice uo un uc]):=jH ((aJ.new w3 _ _).alloc _)
    have HSB:Hid (aJ ((w3.alloc (.cells #[.int .i64 n,.int .i64 n,.slice uo un uc] 25)).alloc (.cells #[.bool false] 94)) (w3.heap.size+1) 94 #[.bool false]):=jH (aJ.new1 w3 _ _ _)
    have HB2:Hid (Below w3.heap.size w3 ((w3.alloc (.cells #[.int .i64 n,.int .i64 n,.slice uo un uc] 25)).alloc (.cells #[.bool false] 94))):=jH (below2 w3 _ _)
    have HLN:Hid (FSn ((w3.alloc (.cells #[.int .i64 n,.int .i64 n,.slice uo un uc] 25)).alloc (.cells #[.bool false] 94)) (.slice uo un uc) R (w3.heap.size+1)):=jH ((FSn.of HU.out (Nat.le_succ _)).below HB2.out)
    have HBN:Hid (FSn ((w3.alloc (.cells #[.int .i64 n,.int .i64 n,.slice uo un uc] 25)).alloc (.cells #[.bool false] 94)) bv b (w3.heap.size+1)):=jH ((FSn.of (HLW.out _ HM.out.b).2 (Nat.le_succ _)).below HB2.out)
    replace HM:=jH (HM.out.later HB2.out)
    have HSS:Hid (w.heap.size<w3.heap.size):=jH hsz
    clear hsz HB2 HU HLW
    obtain⟨lb,hlb⟩:∃b,w3.heap.size=b:=⟨_,rfl⟩
    rw [hlb]at HLB HSB HLN HBN HSS
    obtain⟨sb,hsb⟩:∃b,lb+1=b:=⟨_,rfl⟩
    rw [hsb]at HSB HLN HBN
    simp only [hlb,hsb]
    generalize World.alloc (World.alloc w3 _) _=W1 at*
    refine aC (fun w':World=>w'.cell? ⟨lb,0,none⟩=some (.int .i64 n)∧w'.cell? ⟨lb,1,none⟩=some (.int .i64 n)∧w'.cell? ⟨lb,2,none⟩=some (.slice uo un uc)) 6 (.take 0 (.take 1 (.take 2 (.take 3 (.take 4 (.run 5 .nil)))))) (by kernel_rfl) (by kernel_rfl) ?_
    replace HLB:=jH (HLB.out.below (aB _))
    replace HSB:=jH (HSB.out.below (aB _))
    replace HLN:=jH (HLN.out.below (aB _))
    replace HBN:=jH (HBN.out.below (aB _))
    replace HM:=jH (HM.out.later (aB _))
    generalize World.drew _=W5 at HLB HSB HLN HBN HM ⊢
    repeat (refine tkL (v:= ?_) rfl rfl rfl (fun w' hSw=> ?_) (And.intro (HLB.out.cell 0) (And.intro (HLB.out.cell 1) (HLB.out.cell 2))) ?_;rotate_left;(focus (go_simp;with_reducible rfl));simp only [aF])
    refine aI rfl rfl fun K' hK=> ?_
    go_simp
    refine(aQ6 sb false n (.slice uo un uc) R bv b (bO b) _ hn HLN.out HRL.out HBN.out HBL.out HBR.out HSB.out).mono ?_
    rintro e1 W5v1 ⟨v,x,rfl,hv,hxl,hr,hnw,hs,hu⟩
    replace HLB:=jH (HLB.out.upd hu (by omega))
    have HSB2:=jH hs
    replace HLN:=jH (HLN.out.upd hu)
    have HBW:Hid (Below w.heap.size w W5v1):=jH (hu.below HM.out.b (by have:=HSS.out;omega) HM.out.b.size)
    have HXN:Hid (FSn W5v1 v x sb):=jH ⟨hv,fun _ a c d e=>by have:=hnw a c d e;have:=HSB.out.lt;omega⟩
    have HXL:=jH hxl
    have HXR:=jH hr
    clear hv hxl hr hnw hs hu HSB HBN HM
    refine hK _ _ (And.intro (HLB.out.cell 0) (And.intro (HLB.out.cell 1) (HLB.out.cell 2))) ?_
    clear hK K'
    try simp only [Act.put,aF]
    repeat (refine tkL (v:= ?_) rfl rfl rfl (fun w' hSw=> ?_) (And.intro (HLB.out.cell 0) (And.intro (HLB.out.cell 1) (HLB.out.cell 2))) ?_;rotate_left;(focus (go_simp;with_reducible rfl));simp only [aF])
    refine aN ?_
    simp only [drL]
    go_wp2_with fail
    have hsz5:=HSB2.out.lt
    refine(aV6 sb _ n (.slice uo un uc) R v x _ _ hn HLN.out HRL.out HXN.out HXL.out HXR.out HSB2.out).mono ?_
    rintro e5 w5 ⟨v2,x2,rfl,hv,hxl,hr,hnw,hs,hu⟩
    generalize up (atO n R) (dn (atO n R) (bO b) false n).1 (dn (atO n R) (bO b) false n).2 n n=m at*
    obtain⟨x0,f⟩:=m
    dsimp only at hr hs HFN HCS
    have HV:=jH hv
    have HXR2:=jH (And.intro hxl hr)
    have HNW:Hid (∀a c d,v2= .slice (some a) c d→w.heap.size≤a.block):=jH fun a c d e=>by have:=hnw a c d e;have:=HSS.out;omega
    have HBW2:Hid (Below w.heap.size w w5):=jH (hu.below HBW.out (by have:=HSS.out;omega) HBW.out.size)
    have s0:=hs.cell 0
    clear hv hxl hr hnw hu HLN HXN HSB2 HBW HLB hsz5
    cases f
    ·obtain⟨rfl,-,hE⟩:=HCS.out false rfl
     obtain⟨rfl,rfl⟩:=hE rfl
     have HEQ:=jH (aTc HXR2.out.1 HXR2.out.2 (HFN.out rfl))
     clear HCS HFN hs
     go_wp2
     refine bodyPost_ret (v:= .tuple #[v2,.int .i64 0,.int .i64 0]) (by simp [results,Tryz.results30,go_sem]) rfl ⟨v2,rfl,by rw [←HEQ.out];exact HV.out,HNW.out,HBW2.out⟩
    ·obtain⟨rfl,hE,-⟩:=HCS.out true rfl
     obtain⟨rfl,rfl⟩:=hE rfl
     clear HCS HFN hs
     go_wp2
     refine bodyPost_ret (v:= .tuple #[.slice none 0 0,.int .i64 0,.int .i64 5]) (by simp [results,Tryz.results30,go_sem]) rfl (aI0.err (P:=0) HBW2.out)
   ·obtain⟨hE1,hE2,hE3⟩:=aWt (b:=b) h0 h2 h3
    rw [hE1,hE2,hE3]
    have hp:=beq_eq_false_iff_ne.2 h3
    generalize jR r c l=k at*
    generalize uM r c l=pl at*
    clear hE1 hE2 hE3 h0 h2 h3 hl hb HLW
    obtain⟨q0,q1,q2⟩:=HM.out.m3
    go_enter Tryz.func30,Tryz.ntmps30
    go_wp2_with fail
    refine HTR.out.mono ?_
    rintro e1 w1 ⟨rfl,hb1⟩
    replace HM:=jH (HM.out.later hb1)
    clear hb1 q0 q1 q2 HTR
    obtain⟨q0,q1,q2⟩:=HM.out.m3
    go_wp2_with fail
    refine(HFT.out _ HM.out.b).mono ?_
    rintro e2 w2 ⟨rfl,hb1⟩
    replace HM:=jH (HM.out.later hb1)
    clear hb1 q0 q1 q2 HFT
    obtain⟨q0,q1,q2⟩:=HM.out.m3
    go_wp2_with fail
    refine(HCH.out _ HM.out.b).mono ?_
    rintro e3 w3 ⟨u,rfl,hu,hun,hb1⟩
    obtain⟨ul,hul⟩:∃ul,ul=u:=⟨_,rfl⟩
    obtain⟨uo,uc,hue,-⟩:=id hu
    generalize List.length _=un at hue
    subst hul
    subst hue
    have HU:=jH hu
    replace HM:=jH (HM.out.later hb1)
    clear hb1 q0 q1 q2 HCH hu hun
    obtain⟨q0,q1,q2⟩:=HM.out.m3
    go_wp2
    refine bodyPost_ret (v:= .tuple #[.slice none 0 0,.int .i64 pl,.int .i64 k]) (by simp [results,Tryz.results30,go_sem]) rfl (aI0.err (HM.out.later (Below.aA w3 _)).b)
  ·obtain⟨hE1,hE2,hE3⟩:=aVy (b:=b) h0 h2
   rw [hE1,hE2,hE3]
   have hp:=beq_eq_false_iff_ne.2 h2
   generalize xU r b=k at*
   clear hE1 hE2 hE3 h0 h2 hl hb HLW HCH
   obtain⟨q0,q1,q2⟩:=HM.out.m3
   go_enter Tryz.func30,Tryz.ntmps30
   go_wp2_with fail
   refine HTR.out.mono ?_
   rintro e1 w1 ⟨rfl,hb1⟩
   replace HM:=jH (HM.out.later hb1)
   clear hb1 q0 q1 q2 HTR
   obtain⟨q0,q1,q2⟩:=HM.out.m3
   go_wp2_with fail
   refine(HFT.out _ HM.out.b).mono ?_
   rintro e2 w2 ⟨rfl,hb1⟩
   replace HM:=jH (HM.out.later hb1)
   clear hb1 q0 q1 q2 HFT
   obtain⟨q0,q1,q2⟩:=HM.out.m3
   go_wp2
   refine bodyPost_ret (v:= .tuple #[.slice none 0 0,.int .i64 0,.int .i64 k]) (by simp [results,Tryz.results30,go_sem]) rfl (aI0.err (P:=0) HM.out.b)
 ·obtain⟨hE1,hE2,hE3⟩:=aXa (b:=b) h0
  rw [hE1,hE2,hE3]
  have hp:=beq_eq_false_iff_ne.2 h0
  generalize kN r c l=k at*
  clear hE1 hE2 hE3 h0 hl hb HLW
  obtain⟨q0,q1,q2⟩:=HM.out.m3
  go_enter Tryz.func30,Tryz.ntmps30
  go_wp2_with fail
  refine HTR.out.mono ?_
  rintro e1 w1 ⟨rfl,hb1⟩
  replace HM:=jH (HM.out.later hb1)
  clear hb1 q0 q1 q2 HTR
  obtain⟨q0,q1,q2⟩:=HM.out.m3
  go_wp2
  refine bodyPost_ret (v:= .tuple #[.slice none 0 0,.int .i64 0,.int .i64 k]) (by simp [results,Tryz.results30,go_sem]) rfl (aI0.err (P:=0) HM.out.b)
end
end Go.Proofs.YtfmecpembnmnkaaGreatDoor
