/- Walks: numbers as dyads and back; sums and products rounded outward. Printed by wip/gen/iv3.py. -/
import Derived.Test.YtfmecpembnmnkaaGreatDoorPIC
import Derived.Test.YtfmecpembnmnkaaGreatDoorPGM
import Derived.Test.YtfmecpembnmnkaaGreatDoorPZBd4
import Derived.Test.YtfmecpembnmnkaaGreatDoorPIB
import Derived.Test.YtfmecpembnmnkaaGreatDoorPHB
namespace Go.Proofs.YtfmecpembnmnkaaGreatDoor
section
set_option maxRecDepth 100000
set_option maxHeartbeats 6400000
open Go.RowKit
theorem aXg (a b c r:Nat) (h:F6.fma a b c=some r) (w:World):(callFunc 154 #[.float .f64 a,.float .f64 b,.float .f64 c]).run Tryz.prog w= .ok (.value (.float .f64 r)) w:=by
 rw [run_callFunc_extern Tryz.func154 (by kernel_rfl) (by kernel_rfl) (by kernel_rfl) (e:=Extern.MathFMA.fma) (by kernel_rfl)]
 have h2:FloatKind.f64.format.fma a b c=some r:=h
 have h3:Extern.MathFMA.fma #[.float .f64 a,.float .f64 b,.float .f64 c]=pure (.float .f64 r):=by
  show(match FloatKind.f64.format.fma a b c with|some r=>(pure (Value.float .f64 r):Sem Value)|none=>_)=_
  rw [h2]
 rw [h3];rfl
def aEe (w0 W:World) (b:Nat):Prop:=aJ W b 167 #[.bool false,.slice none 0 0,.int .i64 0]∧Below w0.heap.size w0 W
theorem aEe.later {w0 W V:World}{b:Nat}(h:aEe w0 W b) (hb:Below W.heap.size W V):aEe w0 V b:=⟨h.1.below hb,h.2.trans (hb.mono h.2.size)⟩
theorem aEe.new (w:World):aEe w (w.alloc (.cells #[.bool false,.slice none 0 0,.int .i64 0] 167)) w.heap.size:=⟨aJ.new w _ _,Below.aA w _⟩
def aGv (z e:Int) (w:World) (en:Ending) (w':World):Prop:=∃sl,en= .returned (DyV (decide (z<0)) sl e)∧Raw .u32 32 w' sl (ln 32 z.natAbs) z.natAbs∧Below w.heap.size w w'
def dR (w:World):Prop:=eY w∧1<w.heap.size
theorem dR.below {w w':World}(h:dR w) (hb:Below w.heap.size w w'):dR w':=⟨h.1.below h.2 hb,Nat.lt_of_lt_of_le h.2 hb.size⟩
theorem sW (b:Nat) (w:World) (h:W64 b) (hf:aK b=true) (hT:dR w):
  Calls Tryz.prog 156 #[.float .f64 b] w (aGv (aO b) (pE b) w):=by
 have HD:=jH fun w ht hs=>aTl b w h hf ht hs
 have HW:=jH (aEe.new w)
 have HT:=jH hT
 clear h hf hT
 generalize aO b=z at*
 generalize pE b=e at*
 go_enter Tryz.func156,Tryz.ntmps156
 go_wp2_with fail
 refine(HD.out _ (HT.out.below (Below.aA _ _)).1 (HT.out.below (Below.aA _ _)).2).mono ?_
 rintro e1 w1 ⟨sl,rfl,hr,ho,hb1⟩
 replace HW:=jH (HW.out.later hb1)
 have HR:=jH hr
 obtain⟨ao,cs,hsl,-⟩:=hr
 subst hsl
 have hlt:=HW.out.1.lt
 have HF:Hid (∀x0 x1 x2,Raw .u32 32 ((((w1.setCell ⟨w.heap.size,0,none⟩ x0).setCell ⟨w.heap.size,1,none⟩ x1).setCell ⟨w.heap.size,2,none⟩ x2).alloc (.cells #[.bool (decide (z<0)),.slice ao (ln 32 z.natAbs) cs,.int .i64 e] 167)) (.slice ao (ln 32 z.natAbs) cs) (ln 32 z.natAbs) z.natAbs∧
   Below w.heap.size w ((((w1.setCell ⟨w.heap.size,0,none⟩ x0).setCell ⟨w.heap.size,1,none⟩ x1).setCell ⟨w.heap.size,2,none⟩ x2).alloc (.cells #[.bool (decide (z<0)),.slice ao (ln 32 z.natAbs) cs,.int .i64 e] 167))):=jH fun x0 x1 x2=>by
  have hA2:jS w1 (DyV (decide (z<0)) (.slice ao (ln 32 z.natAbs) cs) e) z e:=⟨_,rfl,HR.out⟩
  have h3:=hA2.aYa HW.out.1 x0 x1 x2
  obtain⟨sl2,e2,h4⟩:=h3
  unfold DyV at e2
  simp only [Value.agg.injEq,Array.mk.injEq,List.cons.injEq,true_and,and_true]at e2
  subst e2
  have hB:=((HW.out.2.setCell (p:=⟨w.heap.size,0,none⟩) (Nat.le_refl _) x0).setCell (p:=⟨w.heap.size,1,none⟩) (Nat.le_refl _) x1).setCell (p:=⟨w.heap.size,2,none⟩) (Nat.le_refl _) x2
  exact⟨h4.below (Below.aA _ _),hB.trans ((Below.aA _ _).mono hB.size)⟩
 have HN:=HW
 have HG:Hid (aGv z e w (.returned (DyV (decide (z<0)) (.slice ao (ln 32 z.natAbs) cs) e)) ((((w1.setCell ⟨w.heap.size,0,none⟩ (.bool (decide (z<0)))).setCell ⟨w.heap.size,1,none⟩ (.slice ao (ln 32 z.natAbs) cs)).setCell ⟨w.heap.size,2,none⟩ (.int .i64 e)).alloc (.cells #[.bool (decide (z<0)),.slice ao (ln 32 z.natAbs) cs,.int .i64 e] 167))):=jH ⟨_,rfl,HF.out _ _ _⟩
 clear ho hb1 HD HW HT HR
 obtain⟨q0,q1,q2,q3,q4,q5⟩:=HN.out.1.cells3
 clear HF
 generalize hP:aGv z e w=P at*
 clear hP
 unfold DyV at*
 generalize ln 32 z.natAbs=l at*
 generalize decide (z<0)=ng at*
 go_wp2
 refine bodyPost_ret (v:= .agg #[.bool ng,.slice ao l cs,.int .i64 e]) (by simp [results,Tryz.results156,go_sem,q0,q1,q2,hlt]) rfl HG.out
theorem aEz (sl:Value) (z e mode:Int) (w:World) (hr:Raw .u32 32 w sl (ln 32 z.natAbs) z.natAbs) (hg:gK z e) (h1:0≤mode) (h2:mode≤4) (hT:dR w):
  Calls Tryz.prog 157 #[.agg #[.bool (decide (z<0)),sl,.int .i64 e],.int .i64 0,.int .i64 mode] w (Gives (.float .f64 (eU z e mode)) w):=by
 have HD:=jH fun w (ha:jS w (DyV (decide (z<0)) sl e) z e) ht hs=>aJr _ z e mode w ha hg h1 h2 ht hs
 have HA:Hid (jS w (DyV (decide (z<0)) sl e) z e):=jH ⟨_,rfl,hr⟩
 have HT:=jH hT
 obtain⟨ao,cs,rfl,-⟩:=hr
 clear hg h1 h2 hT
 generalize eU z e mode=R at*
 unfold DyV at*
 generalize ln 32 z.natAbs=l at*
 generalize decide (z<0)=ng at*
 go_enter Tryz.func157,Tryz.ntmps157
 go_wp2_with fail
 refine(HD.out _ (HA.out.below (Below.aA _ _)) (HT.out.below (Below.aA _ _)).1 (HT.out.below (Below.aA _ _)).2).mono ?_
 rintro e1 w1 ⟨rfl,hb1⟩
 have HB:=jH ((Below.aA w _).trans (hb1.mono (Below.aA w _).size))
 clear hb1
 go_wp2
 go_ret
 exact⟨rfl,HB.out⟩
end
section
set_option maxRecDepth 100000
set_option maxHeartbeats 6400000
open Go.RowKit
attribute [local go_sem] bG
theorem aAt {x:Nat}(_hx:W64 x) (nx:aU x=false):(FloatKind.f64.format.order (x%aH) 9110782046170513408==some Ordering.lt)=decide (x%aH<9110782046170513408):=by
 have hk:W64 (x%aH):=Nat.lt_trans (Nat.mod_lt _ (by decide:0<aH)) (by decide)
 have hn:aU (x%aH)=false:=by rw [aL2];exact nx
 have hy:ky (x%aH)=(x%aH:Nat):=by unfold ky;rw [if_pos (Nat.mod_lt _ (by decide:0<aH))]
 rw [zG hk (by decide) hn (by decide),hy,show ky 9110782046170513408=9110782046170513408 by decide,decide_eq_decide]
 omega
theorem num_mul {x y:Nat}(hx:aK x=true) (hy:aK y=true):aO x*aO y=0∨yO (aO x*aO y) (pE x+pE y)=false:=by
 have h1:=gV hx
 have h2:=gV hy
 have h3:=aKm (aO x).natAbs (aO y).natAbs
 rw [←Int.natAbs_mul]at h3
 have h4:=aFd (b:=x)
 have h5:=aFd (b:=y)
 exact .inr (aRs (by omega) (by omega) (by omega))
theorem aSl {x y:Nat}(hx:aK x=true) (hy:aK y=true):gK (hvZ (plZ (aO x) (pE x) (aO y) (pE y))) (nrE (plZ (aO x) (pE x) (aO y) (pE y)) (plE (aO x) (pE x) (aO y) (pE y))):=aAv (num_add hx hy)
theorem aH8 {x y:Nat}(hx:aK x=true) (hy:aK y=true):gK (hvZ (aO x*aO y)) (nrE (aO x*aO y) (pE x+pE y)):=aAv (num_mul hx hy)
theorem aHu (z e mode:Int):∃R,eU (hvZ z) (nrE z e) mode=R∧W64 R∧aU R=false∧ky R=ky (aV z e mode):=by
 refine⟨_,rfl,?_⟩
 rw [lK]
 exact⟨(bU _ _ _).1,dF.2 (bU _ _ _).2,rfl⟩
theorem aGv.at {z e:Int}{w:World}{en:Ending}{w':World}(h:aGv z e w en w'):
  ∃(ao:Option Addr) (l cs:Nat) (ng:Bool),en= .returned (.agg #[.bool ng,.slice ao l cs,.int .i64 e])∧jS w' (.agg #[.bool ng,.slice ao l cs,.int .i64 e]) z e∧Below w.heap.size w w':=by
 obtain⟨sl,rfl,hr,hb⟩:=h
 have ha:jS w' (DyV (decide (z<0)) sl e) z e:=⟨_,rfl,hr⟩
 obtain⟨ao,cs,rfl,-⟩:=hr
 exact⟨ao,_,cs,_,rfl,ha,hb⟩
theorem kE.got {z e:Int}{w:World}{en:Ending}{w':World}(h:kE z e w en w'):
  ∃(ao:Option Addr) (l cs:Nat) (ng:Bool),en= .returned (.tuple #[.agg #[.bool ng,.slice ao l cs,.int .i64 e],.int .i64 0])∧jS w' (.agg #[.bool ng,.slice ao l cs,.int .i64 e]) z e∧Below w.heap.size w w':=by
 obtain⟨sl,rfl,hr,-,hb⟩:=h
 have ha:jS w' (DyV (decide (z<0)) sl e) z e:=⟨_,rfl,hr⟩
 obtain⟨ao,cs,rfl,-⟩:=hr
 exact⟨ao,_,cs,_,rfl,ha,hb⟩
theorem aAw (v:Value) (z e mode:Int) (w:World) (hr:jS w v z e) (hg:gK z e) (h1:0≤mode) (h2:mode≤4) (hT:dR w):
  Calls Tryz.prog 157 #[v,.int .i64 0,.int .i64 mode] w (Gives (.float .f64 (eU z e mode)) w):=by
 obtain⟨sl,rfl,hr⟩:=hr
 exact aEz sl z e mode w hr hg h1 h2 hT
theorem aR3 (a b:Nat) (mode:Int) (w:World) (ha:W64 a) (hb:W64 b) (fa:aK a=true) (fb:aK b=true) (hm:mode=3∨mode=4) (hT:dR w):
  Calls Tryz.prog 151 #[.float .f64 a,.float .f64 b,.int .i64 mode] w (eX (adK a b mode) w):=by
 have HO1:=jH fun W ht=>sW a W ha fa ht
 have HO2:=jH fun W ht=>sW b W hb fb ht
 have HAD:=jH fun va vb W h1 h2 (ht:dR W)=>aPb va vb (aO a) (pE a) (aO b) (pE b) W h1 h2 (qK fa) (qK fb) ht.1 ht.2 (num_add fa fb)
 have HRO:=jH fun v W h1 ht=>aAw v _ _ mode W h1 (aSl fa fb) (by omega) (by omega) ht
 obtain⟨R,hR,hR2⟩:=aHu (plZ (aO a) (pE a) (aO b) (pE b)) (plE (aO a) (pE a) (aO b) (pE b)) mode
 have HR:Hid (W64 R∧aU R=false∧ky R=adK a b mode):=jH hR2
 rw [hR]at HRO
 have HT:=jH hT
 have HB:=jH (Below.refl w.heap.size w)
 obtain⟨s,hs,sl,sn,-⟩:=aLo ha hb fa fb
 have hadd:∀t w,(binOp .add t (.float .f64 a) (.float .f64 b)).run Tryz.prog w= .ok (.float .f64 s) w:=fun t w=>run_float_arith w .add t .f64 _ _ _ hs
 have HU:=jH fun W=>aDz s W sl (dF.2 sn)
 have HA:=jH fun W=>yF a W ha
 have HA':=jH fun W=>yF b W hb
 have t1:=aAt ha (jC fa)
 have t2:=aAt hb (jC fb)
 cases hu:usB s
 ·rw [hu]at HU
  clear hu hR hR2 ha hb fa fb hm hT hs sl sn t1 t2
  generalize adK a b mode=KK at*
  generalize hvZ (plZ (aO a) (pE a) (aO b) (pE b))=zz at*
  generalize nrE (plZ (aO a) (pE a) (aO b) (pE b)) (plE (aO a) (pE a) (aO b) (pE b))=ee at*
  generalize aO a=za at*
  generalize pE a=ea at*
  generalize aO b=zb at*
  generalize pE b=eb at*
  go_enter Tryz.func151,Tryz.ntmps151
  go_wp2_with fail
  refine(HU.out _).mono ?_
  rintro e1 w1 ⟨rfl,hb1⟩
  replace HB:=jH (HB.out.trans (hb1.mono HB.out.size))
  clear hb1
  go_wp2_with fail
  refine(HO1.out _ (HT.out.below HB.out)).mono ?_
  rintro e5 w5 h5
  obtain⟨a1,l1,c1,n1,rfl,ha1,hb5⟩:=h5.at
  have HA1:=jH ha1
  replace HB:=jH (HB.out.trans (hb5.mono HB.out.size))
  clear hb5 h5 ha1
  go_wp2_with fail
  refine(HO2.out _ (HT.out.below HB.out)).mono ?_
  rintro e6 w6 h6
  obtain⟨a2,l2,c2,n2,rfl,ha2,hb6⟩:=h6.at
  have HA2:=jH ha2
  replace HA1:=jH (HA1.out.below hb6)
  replace HB:=jH (HB.out.trans (hb6.mono HB.out.size))
  clear hb6 h6 ha2
  go_wp2_with fail
  refine(HAD.out _ _ _ HA1.out HA2.out (HT.out.below HB.out)).mono ?_
  rintro e7 w7 h7
  obtain⟨a3,l3,c3,n3,rfl,ha3,hb7⟩:=h7.got
  have HA3:=jH ha3
  replace HB:=jH (HB.out.trans (hb7.mono HB.out.size))
  clear hb7 h7 ha3 HA1 HA2
  go_wp2_with fail
  refine(HRO.out _ _ (HA3.out.below (Below.aA _ _)) (HT.out.below (HB.out.trans ((Below.aA _ _).mono HB.out.size)))).mono ?_
  rintro e8 w8 ⟨rfl,hb8⟩
  replace HB:=jH (HB.out.trans (((Below.aA _ _).trans (hb8.mono (Below.aA _ _).size)).mono HB.out.size))
  clear hb8
  go_wp2
  go_ret
  exact⟨_,rfl,HR.out.1,HR.out.2.1,HR.out.2.2,HB.out⟩
 rw [hu]at HU
 by_cases ca:a%aH<9110782046170513408
 case neg=>
  rw [decide_eq_false ca]at t1
  clear hu hR hR2 ha hb fa fb hm hT hs sl sn t2 ca
  generalize adK a b mode=KK at*
  generalize hvZ (plZ (aO a) (pE a) (aO b) (pE b))=zz at*
  generalize nrE (plZ (aO a) (pE a) (aO b) (pE b)) (plE (aO a) (pE a) (aO b) (pE b))=ee at*
  generalize aO a=za at*
  generalize pE a=ea at*
  generalize aO b=zb at*
  generalize pE b=eb at*
  generalize a%aH=ma at*
  go_enter Tryz.func151,Tryz.ntmps151
  go_wp2_with fail
  refine(HU.out _).mono ?_
  rintro e1 w1 ⟨rfl,hb1⟩
  replace HB:=jH (HB.out.trans (hb1.mono HB.out.size))
  clear hb1
  go_wp2_with fail
  refine(HA.out _).mono ?_
  rintro e2 w2 ⟨rfl,hb2⟩
  replace HB:=jH (HB.out.trans (hb2.mono HB.out.size))
  clear hb2
  go_wp2_with fail
  refine(HO1.out _ (HT.out.below HB.out)).mono ?_
  rintro e5 w5 h5
  obtain⟨a1,l1,c1,n1,rfl,ha1,hb5⟩:=h5.at
  have HA1:=jH ha1
  replace HB:=jH (HB.out.trans (hb5.mono HB.out.size))
  clear hb5 h5 ha1
  go_wp2_with fail
  refine(HO2.out _ (HT.out.below HB.out)).mono ?_
  rintro e6 w6 h6
  obtain⟨a2,l2,c2,n2,rfl,ha2,hb6⟩:=h6.at
  have HA2:=jH ha2
  replace HA1:=jH (HA1.out.below hb6)
  replace HB:=jH (HB.out.trans (hb6.mono HB.out.size))
  clear hb6 h6 ha2
  go_wp2_with fail
  refine(HAD.out _ _ _ HA1.out HA2.out (HT.out.below HB.out)).mono ?_
  rintro e7 w7 h7
  obtain⟨a3,l3,c3,n3,rfl,ha3,hb7⟩:=h7.got
  have HA3:=jH ha3
  replace HB:=jH (HB.out.trans (hb7.mono HB.out.size))
  clear hb7 h7 ha3 HA1 HA2
  go_wp2_with fail
  refine(HRO.out _ _ (HA3.out.below (Below.aA _ _)) (HT.out.below (HB.out.trans ((Below.aA _ _).mono HB.out.size)))).mono ?_
  rintro e8 w8 ⟨rfl,hb8⟩
  replace HB:=jH (HB.out.trans (((Below.aA _ _).trans (hb8.mono (Below.aA _ _).size)).mono HB.out.size))
  clear hb8
  go_wp2
  go_ret
  exact⟨_,rfl,HR.out.1,HR.out.2.1,HR.out.2.2,HB.out⟩
 rw [decide_eq_true ca]at t1
 by_cases cb:b%aH<9110782046170513408
 case neg=>
  rw [decide_eq_false cb]at t2
  clear hu hR hR2 ha hb fa fb hm hT hs sl sn ca cb
  generalize adK a b mode=KK at*
  generalize hvZ (plZ (aO a) (pE a) (aO b) (pE b))=zz at*
  generalize nrE (plZ (aO a) (pE a) (aO b) (pE b)) (plE (aO a) (pE a) (aO b) (pE b))=ee at*
  generalize aO a=za at*
  generalize pE a=ea at*
  generalize aO b=zb at*
  generalize pE b=eb at*
  generalize a%aH=ma at*
  generalize b%aH=mb at*
  go_enter Tryz.func151,Tryz.ntmps151
  go_wp2_with fail
  refine(HU.out _).mono ?_
  rintro e1 w1 ⟨rfl,hb1⟩
  replace HB:=jH (HB.out.trans (hb1.mono HB.out.size))
  clear hb1
  go_wp2_with fail
  refine(HA.out _).mono ?_
  rintro e2 w2 ⟨rfl,hb2⟩
  replace HB:=jH (HB.out.trans (hb2.mono HB.out.size))
  clear hb2
  go_wp2_with fail
  refine(HA'.out _).mono ?_
  rintro e3 w3 ⟨rfl,hb3⟩
  replace HB:=jH (HB.out.trans (hb3.mono HB.out.size))
  clear hb3
  go_wp2_with fail
  refine(HO1.out _ (HT.out.below HB.out)).mono ?_
  rintro e5 w5 h5
  obtain⟨a1,l1,c1,n1,rfl,ha1,hb5⟩:=h5.at
  have HA1:=jH ha1
  replace HB:=jH (HB.out.trans (hb5.mono HB.out.size))
  clear hb5 h5 ha1
  go_wp2_with fail
  refine(HO2.out _ (HT.out.below HB.out)).mono ?_
  rintro e6 w6 h6
  obtain⟨a2,l2,c2,n2,rfl,ha2,hb6⟩:=h6.at
  have HA2:=jH ha2
  replace HA1:=jH (HA1.out.below hb6)
  replace HB:=jH (HB.out.trans (hb6.mono HB.out.size))
  clear hb6 h6 ha2
  go_wp2_with fail
  refine(HAD.out _ _ _ HA1.out HA2.out (HT.out.below HB.out)).mono ?_
  rintro e7 w7 h7
  obtain⟨a3,l3,c3,n3,rfl,ha3,hb7⟩:=h7.got
  have HA3:=jH ha3
  replace HB:=jH (HB.out.trans (hb7.mono HB.out.size))
  clear hb7 h7 ha3 HA1 HA2
  go_wp2_with fail
  refine(HRO.out _ _ (HA3.out.below (Below.aA _ _)) (HT.out.below (HB.out.trans ((Below.aA _ _).mono HB.out.size)))).mono ?_
  rintro e8 w8 ⟨rfl,hb8⟩
  replace HB:=jH (HB.out.trans (((Below.aA _ _).trans (hb8.mono (Below.aA _ _).size)).mono HB.out.size))
  clear hb8
  go_wp2
  go_ret
  exact⟨_,rfl,HR.out.1,HR.out.2.1,HR.out.2.2,HB.out⟩
 rw [decide_eq_true cb]at t2
 obtain⟨t,p,d,q,r,h1,h2,h3,h4,h5,-,fs,rl,rn,hk⟩:=aO2 (mode:=mode) ha hb fa fb ca cb hs hm
 have hsub1:∀t' w,(binOp .sub t' (.float .f64 s) (.float .f64 a)).run Tryz.prog w= .ok (.float .f64 t) w:=fun t' w=>run_float_arith w .sub t' .f64 _ _ _ h1
 have hsub2:∀t' w,(binOp .sub t' (.float .f64 s) (.float .f64 t)).run Tryz.prog w= .ok (.float .f64 p) w:=fun t' w=>run_float_arith w .sub t' .f64 _ _ _ h2
 have hsub3:∀t' w,(binOp .sub t' (.float .f64 a) (.float .f64 p)).run Tryz.prog w= .ok (.float .f64 d) w:=fun t' w=>run_float_arith w .sub t' .f64 _ _ _ h3
 have hsub4:∀t' w,(binOp .sub t' (.float .f64 b) (.float .f64 t)).run Tryz.prog w= .ok (.float .f64 q) w:=fun t' w=>run_float_arith w .sub t' .f64 _ _ _ h4
 have hadd5:∀t' w,(binOp .add t' (.float .f64 d) (.float .f64 q)).run Tryz.prog w= .ok (.float .f64 r) w:=fun t' w=>run_float_arith w .add t' .f64 _ _ _ h5
 have HS:=jH fun W=>aBz s r mode W sl fs rl rn hm
 have HR9:Hid (W64 (stB s (ky r) mode)∧aU (stB s (ky r) mode)=false∧ky (stB s (ky r) mode)=adK a b mode):=jH ⟨(aC2 sl fs).2.1,(aC2 sl fs).2.2,hk⟩
 clear hu hR hR2 ha hb fa fb hm hT hs sl sn ca cb HO1 HO2 HAD HRO HR HT h1 h2 h3 h4 h5 rl rn fs hk
 generalize stB s (ky r) mode=RR at*
 generalize adK a b mode=KK at*
 generalize a%aH=ma at*
 generalize b%aH=mb at*
 go_enter Tryz.func151,Tryz.ntmps151
 go_wp2_with fail
 refine(HU.out _).mono ?_
 rintro e1 w1 ⟨rfl,hb1⟩
 replace HB:=jH (HB.out.trans (hb1.mono HB.out.size))
 clear hb1
 go_wp2_with fail
 refine(HA.out _).mono ?_
 rintro e2 w2 ⟨rfl,hb2⟩
 replace HB:=jH (HB.out.trans (hb2.mono HB.out.size))
 clear hb2
 go_wp2_with fail
 refine(HA'.out _).mono ?_
 rintro e3 w3 ⟨rfl,hb3⟩
 replace HB:=jH (HB.out.trans (hb3.mono HB.out.size))
 clear hb3
 go_wp2_with fail
 refine(HS.out _).mono ?_
 rintro e4 w4 ⟨rfl,hb4⟩
 replace HB:=jH (HB.out.trans (hb4.mono HB.out.size))
 clear hb4
 go_wp2
 go_ret
 exact⟨_,rfl,HR9.out.1,HR9.out.2.1,HR9.out.2.2,HB.out⟩
theorem aPf (a b:Nat) (mode:Int) (w:World) (ha:W64 a) (hb:W64 b) (fa:aK a=true) (fb:aK b=true) (hm:mode=3∨mode=4) (hT:dR w):
  Calls Tryz.prog 134 #[.float .f64 a,.float .f64 b,.int .i64 mode] w (eX (mlK a b mode) w):=by
 have HO1:=jH fun W ht=>sW a W ha fa ht
 have HO2:=jH fun W ht=>sW b W hb fb ht
 have HAD:=jH fun va vb W h1 h2 (ht:dR W)=>aGt va vb (aO a) (pE a) (aO b) (pE b) W h1 h2 (qK fa) (qK fb) ht.1 ht.2 (num_mul fa fb)
 have HRO:=jH fun v W h1 ht=>aAw v _ _ mode W h1 (aH8 fa fb) (by omega) (by omega) ht
 obtain⟨R,hR,hR2⟩:=aHu (aO a*aO b) (pE a+pE b) mode
 have HR:Hid (W64 R∧aU R=false∧ky R=mlK a b mode):=jH hR2
 rw [hR]at HRO
 have HT:=jH hT
 have HB:=jH (Below.refl w.heap.size w)
 obtain⟨p,hp,sl,sn,-⟩:=aLm ha hb fa fb
 have hmul:∀t w,(binOp .mul t (.float .f64 a) (.float .f64 b)).run Tryz.prog w= .ok (.float .f64 p) w:=fun t w=>run_float_arith w .mul t .f64 _ _ _ hp
 have HU:=jH fun W=>aDz p W sl (dF.2 sn)
 cases hu:usB p
 ·rw [hu]at HU
  clear hu hR hR2 ha hb fa fb hm hT hp sl sn
  generalize mlK a b mode=KK at*
  generalize hvZ (aO a*aO b)=zz at*
  generalize nrE (aO a*aO b) (pE a+pE b)=ee at*
  generalize aO a=za at*
  generalize pE a=ea at*
  generalize aO b=zb at*
  generalize pE b=eb at*
  go_enter Tryz.func134,Tryz.ntmps134
  go_wp2_with fail
  refine(HU.out _).mono ?_
  rintro e1 w1 ⟨rfl,hb1⟩
  replace HB:=jH (HB.out.trans (hb1.mono HB.out.size))
  clear hb1
  go_wp2_with fail
  refine(HO1.out _ (HT.out.below HB.out)).mono ?_
  rintro e5 w5 h5
  obtain⟨a1,l1,c1,n1,rfl,ha1,hb5⟩:=h5.at
  have HA1:=jH ha1
  replace HB:=jH (HB.out.trans (hb5.mono HB.out.size))
  clear hb5 h5 ha1
  go_wp2_with fail
  refine(HO2.out _ (HT.out.below HB.out)).mono ?_
  rintro e6 w6 h6
  obtain⟨a2,l2,c2,n2,rfl,ha2,hb6⟩:=h6.at
  have HA2:=jH ha2
  replace HA1:=jH (HA1.out.below hb6)
  replace HB:=jH (HB.out.trans (hb6.mono HB.out.size))
  clear hb6 h6 ha2
  go_wp2_with fail
  refine(HAD.out _ _ _ HA1.out HA2.out (HT.out.below HB.out)).mono ?_
  rintro e7 w7 h7
  obtain⟨a3,l3,c3,n3,rfl,ha3,hb7⟩:=h7.got
  have HA3:=jH ha3
  replace HB:=jH (HB.out.trans (hb7.mono HB.out.size))
  clear hb7 h7 ha3 HA1 HA2
  go_wp2_with fail
  refine(HRO.out _ _ (HA3.out.below (Below.aA _ _)) (HT.out.below (HB.out.trans ((Below.aA _ _).mono HB.out.size)))).mono ?_
  rintro e8 w8 ⟨rfl,hb8⟩
  replace HB:=jH (HB.out.trans (((Below.aA _ _).trans (hb8.mono (Below.aA _ _).size)).mono HB.out.size))
  clear hb8
  go_wp2
  go_ret
  exact⟨_,rfl,HR.out.1,HR.out.2.1,HR.out.2.2,HB.out⟩
 rw [hu]at HU
 obtain⟨r,h1,-,fp,rl,rn,hk⟩:=aNd (mode:=mode) ha hb fa fb hp hu hm
 have hng:∀w,(Op.unary .neg (.float .f64 p)).run Tryz.prog w= .ok (.float .f64 (bQ p)) w:=fun w=>by rw [←lJ sl];rfl
 have hfm:=aXg a b (bQ p) r h1
 have HS:=jH fun W=>aBz p r mode W sl fp rl rn hm
 have HR9:Hid (W64 (stB p (ky r) mode)∧aU (stB p (ky r) mode)=false∧ky (stB p (ky r) mode)=mlK a b mode):=jH ⟨(aC2 sl fp).2.1,(aC2 sl fp).2.2,hk⟩
 clear hu hR hR2 ha hb fa fb hm hT hp sl sn HO1 HO2 HAD HRO HR HT h1 rl rn fp hk
 generalize stB p (ky r) mode=RR at*
 generalize mlK a b mode=KK at*
 generalize bQ p=np at*
 go_enter Tryz.func134,Tryz.ntmps134
 go_wp2_with fail
 refine(HU.out _).mono ?_
 rintro e1 w1 ⟨rfl,hb1⟩
 replace HB:=jH (HB.out.trans (hb1.mono HB.out.size))
 clear hb1
 go_wp2_with fail
 refine(HS.out _).mono ?_
 rintro e4 w4 ⟨rfl,hb4⟩
 replace HB:=jH (HB.out.trans (hb4.mono HB.out.size))
 clear hb4
 go_wp2
 go_ret
 exact⟨_,rfl,HR9.out.1,HR9.out.2.1,HR9.out.2.2,HB.out⟩
end
section
set_option maxRecDepth 100000
set_option maxHeartbeats 6400000
open Go.RowKit
attribute [local go_sem] bG
theorem aTx (a r:Nat) (h:F6.sqrt a=some r) (w:World):(callFunc 119 #[.float .f64 a]).run Tryz.prog w= .ok (.value (.float .f64 r)) w:=by
 rw [run_callFunc_extern Tryz.func119 (by kernel_rfl) (by kernel_rfl) (by kernel_rfl) (e:=Extern.MathSqrt.sqrt) (by kernel_rfl)]
 have h2:FloatKind.f64.format.sqrt a=some r:=h
 have h3:Extern.MathSqrt.sqrt #[.float .f64 a]=pure (.float .f64 r):=by
  show(match FloatKind.f64.format.sqrt a with|some r=>(pure (Value.float .f64 r):Sem Value)|none=>_)=_
  rw [h2]
 rw [h3];rfl
theorem aRo (a r:Nat) (h:F6.sqrt a=some r) (w:World):Calls Tryz.prog 62 #[.float .f64 a] w (Gives (.float .f64 r) w):=by
 have h1:=aTx a r h
 clear h
 go_enter Tryz.func62,Tryz.ntmps62
 go_wp2
 go_ret
 exact⟨rfl,Below.refl _ _⟩
theorem jS.raw {w:World}{v:Value}{z e:Int}(h:jS w v z e) (hg:gK z e):yH w v (decide (z<0)) (ln 32 z.natAbs) z.natAbs e:=by
 obtain⟨sl,rfl,hr⟩:=h
 exact⟨sl,rfl,hr,Nat.le_trans (dV 32 _ (by decide)) (Nat.le_trans hg.2.1 (by decide))⟩
theorem aK1 (z:Int):sgZ (decide (z<0)) z.natAbs=z:=by
 unfold sgZ
 by_cases h:z<0
 ·rw [decide_eq_true h,if_pos rfl];omega
 ·rw [decide_eq_false h,if_neg (by decide)];omega
theorem aU3 (va vb:Value) (z e y f:Int) (w:World) (ha:jS w va z e) (hb:jS w vb y f) (hga:gK z e) (hgb:gK y f):
  Calls Tryz.prog 263 #[va,vb] w (Gives (.tuple #[.int .i64 (plZ z e (-y) f).sign,.int .i64 0]) w):=by
 have:=aW3 va vb _ _ _ _ _ _ e f w (ha.raw hga) (hb.raw hgb) (by rw [aGq hga,aGq hgb];rfl)
 rw [aK1,aK1]at this
 exact this
theorem aIq (s:Int) (h:s= -1∨s=0∨s=1):∃r,(∀w,(convert 3 35 (.int .i64 s)).run Tryz.prog w= .ok (.float .f64 r) w)∧W64 r∧aU r=false∧ky r=s*4607182418800017408:=by
 have k1:floatOfInt .f64 (-1)=13830554455654793216:=by decide
 have k2:floatOfInt .f64 0=0:=by decide
 have k3:floatOfInt .f64 1=4607182418800017408:=by decide
 rcases h with rfl|rfl|rfl
 ·exact⟨13830554455654793216,fun w=>by rw [←k1];simp [go_sem],by decide,by decide,by decide⟩
 ·exact⟨0,fun w=>by rw [←k2];simp [go_sem],by decide,by decide,by decide⟩
 ·exact⟨4607182418800017408,fun w=>by rw [←k3];simp [go_sem],by decide,by decide,by decide⟩
theorem aJx (s:Int):s.sign= -1∨s.sign=0∨s.sign=1:=by
 rcases Int.lt_trichotomy s 0 with h|h|h
 ·exact .inl (Int.sign_eq_neg_one_of_neg h)
 ·exact .inr (.inl (by rw [h];rfl))
 ·exact .inr (.inr (Int.sign_eq_one_of_pos h))
def aC8 (w0 W:World) (b:Nat) (ng:Bool) (ao:Option Addr) (l cs:Nat) (z e:Int):Prop:=
 (aJ W b 167 #[.bool ng,.slice ao l cs,.int .i64 e]∧jS W (.agg #[.bool ng,.slice ao l cs,.int .i64 e]) z e)∧Below w0.heap.size w0 W
theorem aC8.later {w0 W V:World}{b:Nat}{ng:Bool}{ao:Option Addr}{l cs:Nat}{z e:Int}(h:aC8 w0 W b ng ao l cs z e) (hb:Below W.heap.size W V):aC8 w0 V b ng ao l cs z e:=
 ⟨⟨h.1.1.below hb,h.1.2.below hb⟩,h.2.trans (hb.mono h.2.size)⟩
theorem aC8.cells {w0 W:World}{b:Nat}{ng:Bool}{ao:Option Addr}{l cs:Nat}{z e:Int}(h:aC8 w0 W b ng ao l cs z e):
  (W.cell? ⟨b,0,none⟩=some (.bool ng)∧W.cell? ⟨b,1,none⟩=some (.slice ao l cs))∧W.cell? ⟨b,2,none⟩=some (.int .i64 e):=⟨⟨h.1.1.cell 0,h.1.1.cell 1⟩,h.1.1.cell 2⟩
def aLu (w0 W:World) (b:Nat) (ng:Bool) (ao:Option Addr) (l cs:Nat) (z e:Int) (v:Value) (y f:Int):Prop:=aC8 w0 W b ng ao l cs z e∧jS W v y f
theorem aLu.later {w0 W V:World}{b:Nat}{ng:Bool}{ao:Option Addr}{l cs:Nat}{z e:Int}{v:Value}{y f:Int}(h:aLu w0 W b ng ao l cs z e v y f) (hb:Below W.heap.size W V):aLu w0 V b ng ao l cs z e v y f:=
 ⟨h.1.later hb,h.2.below hb⟩
def aJf (a b c:Nat) (w:World) (e:Ending) (w':World):Prop:=∃r,e= .returned (.float .f64 r)∧W64 r∧aU r=false∧((0<ky r↔fI b*fI c<fI a*2^1074)∧(ky r<0↔fI a*2^1074<fI b*fI c))∧Below w.heap.size w w'
theorem aOg {a b c:Nat}(ha:W64 a) (fa:aK a=true) (fb:aK b=true) (fc:aK c=true):
  (0<(plZ (aO a) (pE a) (-hvZ (aO b*aO c)) (nrE (aO b*aO c) (pE b+pE c))).sign↔fI b*fI c<fI a*2^1074)∧
  ((plZ (aO a) (pE a) (-hvZ (aO b*aO c)) (nrE (aO b*aO c) (pE b+pE c))).sign<0↔fI a*2^1074<fI b*fI c):=by
 have h1:=gV fa
 have h2:=gV fb
 have h3:=gV fc
 have hn:0≤nrE (aO b*aO c) (pE b+pE c)+2148:=uZ (by decide) (by omega)
 have hp:=aBw (M:=2148) (z:=aO a) (e:=pE a) (y:= -hvZ (aO b*aO c)) (f:=nrE (aO b*aO c) (pE b+pE c)) (by omega) hn
 rw [aB9,aAz (by omega),show sc 2148 (aO b*aO c) (pE b+pE c)=fI b*fI c from aAd (M:=1074) (by omega) (by omega),show sc 2148 (aO a) (pE a)=fI a*2^1074 from pY (M:=2148) ha fa (by decide)]at hp
 have hs:=aBj (plZ (aO a) (pE a) (-hvZ (aO b*aO c)) (nrE (aO b*aO c) (pE b+pE c))) (plE (aO a) (pE a) (-hvZ (aO b*aO c)) (nrE (aO b*aO c) (pE b+pE c))+2148).toNat
 unfold sc at hp
 rw [hp]at hs
 generalize plZ (aO a) (pE a) (-hvZ (aO b*aO c)) (nrE (aO b*aO c) (pE b+pE c))=P at*
 generalize fI a*2^1074=S at*
 generalize fI b*fI c=T at*
 rcases Int.lt_trichotomy P 0 with h|h|h
 ·rw [Int.sign_eq_neg_one_of_neg h];omega
 ·rw [h,show(0:Int).sign=0 from rfl];omega
 ·rw [Int.sign_eq_one_of_pos h];omega
theorem aOw (a b c:Nat) (w:World) (ha:W64 a) (hb:W64 b) (hc:W64 c) (fa:aK a=true) (fb:aK b=true) (fc:aK c=true) (hT:dR w):
  Calls Tryz.prog 225 #[.float .f64 a,.float .f64 b,.float .f64 c] w (aJf a b c w):=by
 have HO1:=jH fun W ht=>sW a W ha fa ht
 have HO2:=jH fun W ht=>sW b W hb fb ht
 have HO3:=jH fun W ht=>sW c W hc fc ht
 have HMU:=jH fun va vb W h1 h2 (ht:dR W)=>aGt va vb (aO b) (pE b) (aO c) (pE c) W h1 h2 (qK fb) (qK fc) ht.1 ht.2 (num_mul fb fc)
 have HCM:=jH fun va vb W h1 h2=>aU3 va vb (aO a) (pE a) (hvZ (aO b*aO c)) (nrE (aO b*aO c) (pE b+pE c)) W h1 h2 (qK fa) (aH8 fb fc)
 have hsg:=aOg ha fa fb fc
 obtain⟨r,hcv,rl,rn,rk⟩:=aIq _ (aJx (plZ (aO a) (pE a) (-hvZ (aO b*aO c)) (nrE (aO b*aO c) (pE b+pE c))))
 have HR:Hid (W64 r∧aU r=false∧((0<ky r↔fI b*fI c<fI a*2^1074)∧(ky r<0↔fI a*2^1074<fI b*fI c))):=jH ⟨rl,rn,by rw [rk];generalize fI a*2^1074=S at*;omega⟩
 clear hsg rk rl rn ha hb hc fa fb fc
 have HPO:Hid (∀w',Below w.heap.size w w'→aJf a b c w (.returned (.float .f64 r)) w'):=jH fun w' hb=>⟨r,rfl,HR.out.1,HR.out.2.1,HR.out.2.2,hb⟩
 clear HR
 generalize hPP:aJf a b c w=PP at*
 clear hPP
 generalize (plZ (aO a) (pE a) (-hvZ (aO b*aO c)) (nrE (aO b*aO c) (pE b+pE c))).sign=sg at*
 generalize hvZ (aO b*aO c)=pz at*
 generalize nrE (aO b*aO c) (pE b+pE c)=pf at*
 generalize aO a=za at*
 generalize pE a=ea at*
 generalize aO b=zb at*
 generalize pE b=eb at*
 generalize aO c=zc at*
 generalize pE c=ec at*
 go_enter Tryz.func225,Tryz.ntmps225
 go_wp2_with fail
 refine(HO2.out _ hT).mono ?_
 rintro e5 w5 h5
 obtain⟨a1,l1,c1,n1,rfl,ha1,hb5⟩:=h5.at
 have HA1:=jH ha1
 have HB:=jH hb5
 have HT:=jH hT
 clear hb5 h5 ha1 hT
 go_wp2_with fail
 refine(HO3.out _ (HT.out.below HB.out)).mono ?_
 rintro e6 w6 h6
 obtain⟨a2,l2,c2,n2,rfl,ha2,hb6⟩:=h6.at
 have HA2:=jH ha2
 replace HA1:=jH (HA1.out.below hb6)
 replace HB:=jH (HB.out.trans (hb6.mono HB.out.size))
 clear hb6 h6 ha2
 go_wp2_with fail
 refine(HMU.out _ _ _ HA1.out HA2.out (HT.out.below HB.out)).mono ?_
 rintro e7 w7 h7
 obtain⟨a3,l3,c3,n3,rfl,ha3,hb7⟩:=h7.got
 replace HB:=jH (HB.out.trans (hb7.mono HB.out.size))
 have HW:Hid (aC8 w (w7.alloc (.cells #[.bool n3,.slice a3 l3 c3,.int .i64 pf] 167)) w7.heap.size n3 a3 l3 c3 pz pf):=jH ⟨⟨aJ.new w7 _ _,ha3.below (Below.aA _ _)⟩,HB.out.trans ((Below.aA _ _).mono HB.out.size)⟩
 clear hb7 h7 ha3 HA1 HA2 HB
 go_wp2
 generalize w7.heap.size=b0 at HW ⊢
 refine aC (fun w':World=>(w'.cell? ⟨b0,0,none⟩=some (.bool n3)∧w'.cell? ⟨b0,1,none⟩=some (.slice a3 l3 c3))∧w'.cell? ⟨b0,2,none⟩=some (.int .i64 pf)) 8 (.take 0 (.take 2 (.run 1 (.run 3 (.take 4 (.take 5 (.take 6 (.take 7 .nil)))))))) (by kernel_rfl) (by kernel_rfl) ?_
 replace HW:=jH (HW.out.later (aB _))
 generalize World.drew _=W8 at HW ⊢
 have hS:(fun w':World=>(w'.cell? ⟨b0,0,none⟩=some (.bool n3)∧w'.cell? ⟨b0,1,none⟩=some (.slice a3 l3 c3))∧w'.cell? ⟨b0,2,none⟩=some (.int .i64 pf)) W8:=HW.out.cells
 repeat (refine tkL (v:= ?_) rfl rfl rfl (fun w' hSw=> ?_) hS ?_;rotate_left;(focus (go_simp;with_reducible rfl));simp only [aF])
 clear hS
 refine aI rfl rfl fun K' hK=> ?_
 go_simp
 refine(HO1.out _ (HT.out.below HW.out.2)).mono ?_
 rintro e9 W9 h9
 obtain⟨a4,l4,c4,n4,rfl,ha4,hb9⟩:=h9.at
 have HX:Hid (aLu w W9 b0 n3 a3 l3 c3 pz pf (.agg #[.bool n4,.slice a4 l4 c4,.int .i64 ea]) za ea):=jH ⟨HW.out.later hb9,ha4⟩
 clear HW h9 ha4 hb9
 refine hK _ _ HX.out.1.cells ?_
 clear hK K'
 try simp only [Act.put,aF]
 refine aI rfl rfl fun K' hK=> ?_
 go_simp
 refine(HCM.out _ _ _ HX.out.2 HX.out.1.1.2).mono ?_
 rintro e10 W10 ⟨rfl,hb10⟩
 replace HX:=jH (HX.out.later hb10)
 refine hK _ _ HX.out.1.cells ?_
 clear hK K' hb10
 try simp only [Act.put,aF]
 have hS:(fun w':World=>(w'.cell? ⟨b0,0,none⟩=some (.bool n3)∧w'.cell? ⟨b0,1,none⟩=some (.slice a3 l3 c3))∧w'.cell? ⟨b0,2,none⟩=some (.int .i64 pf)) W10:=HX.out.1.cells
 repeat (refine tkL (v:= ?_) rfl rfl rfl (fun w' hSw=> ?_) hS ?_;rotate_left;(focus (go_simp;with_reducible rfl));simp only [aF])
 clear hS
 refine aN ?_
 simp only [drL]
 go_wp2
 exact HPO.out _ HX.out.1.2
theorem fH {b:Nat}(h:W64 b) (hf:aK b=true):(fI b=0↔aO b=0)∧(0<fI b↔0<ky b)∧(fI b<0↔ky b<0):=by
 have a:=pU (M:=1074) (by decide:W64 0) h (by decide) hf (by decide)
 have c:=pU (M:=1074) h (by decide:W64 0) hf (by decide) (by decide)
 rw [dW,mJ,←aHf]at a c
 refine⟨?_,a.symm,c.symm⟩
 unfold fI
 exact jF
theorem aQ7 {a b:Nat}{mode k:Int}(ha:W64 a) (hb:W64 b) (fa:aK a=true) (fb:aK b=true) (a0:aO a≠0) (b0:aO b≠0) (fq:aK (aV (qZ a b) (qE a b) 0)=true) (hm:mode=3∨mode=4)
  (k1:0<k↔(0<fI b∧fI (aV (qZ a b) (qE a b) 0)*fI b<fI a*2^1074)∨(fI b<0∧fI a*2^1074<fI (aV (qZ a b) (qE a b) 0)*fI b))
  (k2:k<0↔(0<fI b∧fI a*2^1074<fI (aV (qZ a b) (qE a b) 0)*fI b)∨(fI b<0∧fI (aV (qZ a b) (qE a b) 0)*fI b<fI a*2^1074)):
  ky (stB (aV (qZ a b) (qE a b) 0) k mode)=dvK a b mode:=by
 obtain⟨lq,nq⟩:=bU (qZ a b) (qE a b) 0
 have ea:=dI fa
 have eb:=dI fb
 obtain⟨M,hM⟩:∃M:Int,M=1074+(qE a b).natAbs:=⟨_,rfl⟩
 obtain⟨s1,s2⟩:=aW4 (M:=M) ha hb lq fa fb fq a0 b0 (by omega) (by omega)
 have hb0:fI b≠0:=fun h=>b0 ((fH hb fb).1.1 h)
 refine yC (M:=M) (by omega) (by omega) lq fq rfl hm ?_ ?_
 ·rw [k1]
  generalize fI a*2^1074=S at*
  rcases Int.lt_or_lt_of_ne hb0 with h|h
  ·have:=s2 h;omega
  ·have:=s1 h;omega
 ·rw [k2]
  generalize fI a*2^1074=S at*
  rcases Int.lt_or_lt_of_ne hb0 with h|h
  ·have:=s2 h;omega
  ·have:=s1 h;omega
theorem aTi {z e mode:Int}(hf:aK (aV z e 0)=false) (hm:mode=3∨mode=4):
  ky (aV z e mode)=if(decide (0<ky (aV z e 0))==decide (mode=3))=true then ky (aV z e 0)else if 0<ky (aV z e 0)then 9218868437227405311 else-9218868437227405311:=by
 obtain⟨l0,n0⟩:=bU z e 0
 obtain⟨l3,n3⟩:=bU z e 3
 obtain⟨l4,n4⟩:=bU z e 4
 have h1:=gW l0 n0
 rw [hf]at h1
 have h2:¬(-(aG:Int)<ky (aV z e 0)∧ky (aV z e 0)<aG):=fun h=>by have:=h1.2 h;cases this
 have b0:=kQ l0 n0
 have b3:=kQ l3 n3
 have b4:=kQ l4 n4
 obtain⟨a1,a2,a3,a4⟩:=kC z e
 have u:=iH z e
 have r1:=aCm (M:=1074+(e.natAbs:Int)) (z:=z) (e:=e) (by omega) (by omega)
 have r2:=aCe (M:=1074+(e.natAbs:Int)) (z:=z) (e:=e) (by omega) (by omega)
 have hk:(aG:Int)=9218868437227405312:=rfl
 rcases hm with rfl|rfl
 ·by_cases h:0<ky (aV z e 0)
  ·rw [decide_eq_true h,if_pos (by decide)];omega
  ·rw [decide_eq_false h,if_neg (by decide),if_neg h];omega
 ·by_cases h:0<ky (aV z e 0)
  ·rw [decide_eq_true h,if_neg (by decide),if_pos h];omega
  ·rw [decide_eq_false h,if_pos (by decide)];omega
theorem aXx (x:Nat):ky (cpB (aQ x) 9218868437227405311)=(if aQ x then-9218868437227405311 else 9218868437227405311)∧W64 (cpB (aQ x) 9218868437227405311)∧aU (cpB (aQ x) 9218868437227405311)=false:=by
 cases aQ x<;>decide
theorem aB2 {x:Nat}(h:W64 x) (h0:ky x≠0):aQ x=decide (ky x<0):=by
 rw [lT h]at*
 cases hs:aQ x
 ·rw [if_neg (by decide)];exact(decide_eq_false (by omega)).symm
 ·rw [hs,if_pos rfl]at h0;rw [if_pos rfl];exact(decide_eq_true (by omega)).symm
theorem aSt (a b:Nat) (mode:Int) (w:World) (ha:W64 a) (hb:W64 b) (fa:aK a=true) (fb:aK b=true) (a0:aO a≠0) (b0:aO b≠0) (hm:mode=3∨mode=4) (hT:dR w):
  Calls Tryz.prog 189 #[.float .f64 a,.float .f64 b,.int .i64 mode] w (eX (dvK a b mode) w):=by
 obtain⟨hq,-⟩:=aDa ha hb fa fb a0 b0
 obtain⟨lq,nq⟩:=bU (qZ a b) (qE a b) 0
 have hquo:∀t w,(binOp .quo t (.float .f64 a) (.float .f64 b)).run Tryz.prog w= .ok (.float .f64 (aV (qZ a b) (qE a b) 0)) w:=fun t w=>run_float_arith w .quo t .f64 _ _ _ hq
 have HF:=jH fun W=>iI (aV (qZ a b) (qE a b) 0) W lq
 have HB:=jH (Below.refl w.heap.size w)
 cases hf:aK (aV (qZ a b) (qE a b) 0)
 ·have hfar:=aTi hf hm
  rw [hf]at HF
  have t1:=zQ lq (by decide:W64 0) (dF.2 nq) (by decide)
  rw [dW]at t1
  have hk:=gW lq nq
  rw [hf]at hk
  have hne:ky (aV (qZ a b) (qE a b) 0)≠0:=fun h=>by
   have h2:(0:Int)<aG:=by decide
   have:=hk.2 (by rw [h];omega);cases this
  have HCP:=jH fun W=>zL 9218868437227405311 (aV (qZ a b) (qE a b) 0) W (by decide) lq
  obtain⟨c1,c2,c3⟩:=aXx (aV (qZ a b) (qE a b) 0)
  rw [aB2 lq hne]at c1 c2 c3 HCP
  have hd:dvK a b mode=ky (aV (qZ a b) (qE a b) mode):=rfl
  rw [hd,hfar]
  by_cases hp:0<ky (aV (qZ a b) (qE a b) 0)
  ·rw [decide_eq_false (show¬ky (aV (qZ a b) (qE a b) 0)<0 by omega)]at c1 c2 c3 HCP
   rw [decide_eq_true hp]at t1 ⊢
   rcases hm with rfl|rfl
   ·rw [if_pos (by decide)]
    obtain⟨KK,hKK⟩:∃KK,KK=ky (aV (qZ a b) (qE a b) 0):=⟨_,rfl⟩
    rw [←hKK]
    have HR9:Hid (W64 (aV (qZ a b) (qE a b) 0)∧aU (aV (qZ a b) (qE a b) 0)=false∧ky (aV (qZ a b) (qE a b) 0)=KK):=jH ⟨lq,dF.2 nq,hKK.symm⟩
    clear hKK
    generalize aV (qZ a b) (qE a b) 0=q at*
    clear ha hb fa fb a0 b0 hT hq lq nq hf hfar hk hne c1 c2 c3 hd hp
    go_enter Tryz.func189,Tryz.ntmps189
    go_wp2_with fail
    refine(HF.out _).mono ?_
    rintro e1 w1 ⟨rfl,hb1⟩
    replace HB:=jH (HB.out.trans (hb1.mono HB.out.size))
    clear hb1
    go_wp2
    go_ret
    exact⟨_,rfl,HR9.out.1,HR9.out.2.1,HR9.out.2.2,HB.out⟩
   ·rw [if_neg (by decide),if_pos hp]
    have HR9:Hid (W64 (cpB false 9218868437227405311)∧aU (cpB false 9218868437227405311)=false∧ky (cpB false 9218868437227405311)=9218868437227405311):=jH ⟨c2,c3,c1⟩
    generalize cpB false 9218868437227405311=R at*
    generalize aV (qZ a b) (qE a b) 0=q at*
    clear ha hb fa fb a0 b0 hT hq lq nq hf hfar hk hne c1 c2 c3 hd hp
    go_enter Tryz.func189,Tryz.ntmps189
    go_wp2_with fail
    refine(HF.out _).mono ?_
    rintro e1 w1 ⟨rfl,hb1⟩
    replace HB:=jH (HB.out.trans (hb1.mono HB.out.size))
    clear hb1
    go_wp2_with fail
    refine(HCP.out _).mono ?_
    rintro e2 w2 ⟨rfl,hb2⟩
    replace HB:=jH (HB.out.trans (hb2.mono HB.out.size))
    clear hb2
    go_wp2
    go_ret
    exact⟨_,rfl,HR9.out.1,HR9.out.2.1,HR9.out.2.2,HB.out⟩
  ·rw [decide_eq_true (show ky (aV (qZ a b) (qE a b) 0)<0 by omega)]at c1 c2 c3 HCP
   rw [decide_eq_false hp]at t1 ⊢
   rcases hm with rfl|rfl
   ·rw [if_neg (by decide),if_neg hp]
    have HR9:Hid (W64 (cpB true 9218868437227405311)∧aU (cpB true 9218868437227405311)=false∧ky (cpB true 9218868437227405311)= -9218868437227405311):=jH ⟨c2,c3,c1⟩
    generalize cpB true 9218868437227405311=R at*
    generalize aV (qZ a b) (qE a b) 0=q at*
    clear ha hb fa fb a0 b0 hT hq lq nq hf hfar hk hne c1 c2 c3 hd hp
    go_enter Tryz.func189,Tryz.ntmps189
    go_wp2_with fail
    refine(HF.out _).mono ?_
    rintro e1 w1 ⟨rfl,hb1⟩
    replace HB:=jH (HB.out.trans (hb1.mono HB.out.size))
    clear hb1
    go_wp2_with fail
    refine(HCP.out _).mono ?_
    rintro e2 w2 ⟨rfl,hb2⟩
    replace HB:=jH (HB.out.trans (hb2.mono HB.out.size))
    clear hb2
    go_wp2
    go_ret
    exact⟨_,rfl,HR9.out.1,HR9.out.2.1,HR9.out.2.2,HB.out⟩
   ·rw [if_pos (by decide)]
    obtain⟨KK,hKK⟩:∃KK,KK=ky (aV (qZ a b) (qE a b) 0):=⟨_,rfl⟩
    rw [←hKK]
    have HR9:Hid (W64 (aV (qZ a b) (qE a b) 0)∧aU (aV (qZ a b) (qE a b) 0)=false∧ky (aV (qZ a b) (qE a b) 0)=KK):=jH ⟨lq,dF.2 nq,hKK.symm⟩
    clear hKK
    generalize aV (qZ a b) (qE a b) 0=q at*
    clear ha hb fa fb a0 b0 hT hq lq nq hf hfar hk hne c1 c2 c3 hd hp
    go_enter Tryz.func189,Tryz.ntmps189
    go_wp2_with fail
    refine(HF.out _).mono ?_
    rintro e1 w1 ⟨rfl,hb1⟩
    replace HB:=jH (HB.out.trans (hb1.mono HB.out.size))
    clear hb1
    go_wp2
    go_ret
    exact⟨_,rfl,HR9.out.1,HR9.out.2.1,HR9.out.2.2,HB.out⟩
 ·rw [hf]at HF
  have HL:=jH fun W (ht:dR W)=>aOw a (aV (qZ a b) (qE a b) 0) b W ha lq hb fa hf fb ht
  have HST:=jH fun r W hr hn=>aBz (aV (qZ a b) (qE a b) 0) r mode W lq hf hr hn hm
  have HK:=jH fun(k:Int) k1 k2=>aQ7 (k:=k) ha hb fa fb a0 b0 hf hm k1 k2
  have HS2:=jH fun(k:Int)=>(aC2 (s:=k) (mode:=mode) lq hf).2
  have t1:=zG hb (by decide:W64 0) (jC fb) (by decide)
  rw [dW]at t1
  have HZ:=jH (fH hb fb).2
  have HT:=jH hT
  have hky:ky b≠0:=fun h=>b0 ((fH hb fb).1.1 (by have:=(fH hb fb).2;omega))
  generalize aV (qZ a b) (qE a b) 0=q at*
  generalize dvK a b mode=KK at*
  by_cases hs:ky b<0
  ·rw [decide_eq_true hs]at t1
   have HNEG:Hid (fI b<0):=jH (HZ.out.2.2 hs)
   clear ha hb fa fb a0 b0 hT hq lq nq hf hky hs HZ
   go_enter Tryz.func189,Tryz.ntmps189
   go_wp2_with fail
   refine(HF.out _).mono ?_
   rintro e1 w1 ⟨rfl,hb1⟩
   replace HB:=jH (HB.out.trans (hb1.mono HB.out.size))
   clear hb1
   go_wp2_with fail
   refine(HL.out _ (HT.out.below HB.out)).mono ?_
   rintro e2 w2 ⟨r,rfl,rl,rn,rk,hb2⟩
   replace HB:=jH (HB.out.trans (hb2.mono HB.out.size))
   clear hb2
   have hng:∀w,(Op.unary .neg (.float .f64 r)).run Tryz.prog w= .ok (.float .f64 (bQ r)) w:=fun w=>by rw [←lJ rl];rfl
   have nf:aU (bQ r)=false:=by rw [dF,uD rl];exact dH rn
   have HR9:Hid (W64 (stB q (ky (bQ r)) mode)∧aU (stB q (ky (bQ r)) mode)=false∧ky (stB q (ky (bQ r)) mode)=KK):=jH ⟨(HS2.out _).1,(HS2.out _).2,HK.out _ (by rw [lS rl];have:=HNEG.out;generalize fI a*2^1074=S at*;omega) (by rw [lS rl];have:=HNEG.out;generalize fI a*2^1074=S at*;omega)⟩
   have HSX:=jH fun W=>HST.out (bQ r) W (iF rl) nf
   clear HST HK HS2 rl rn rk nf HNEG HL HT
   generalize stB q (ky (bQ r)) mode=R at*
   generalize bQ r=nr at*
   go_wp2_with fail
   refine(HSX.out _).mono ?_
   rintro e3 w3 ⟨rfl,hb3⟩
   replace HB:=jH (HB.out.trans (hb3.mono HB.out.size))
   clear hb3
   go_wp2
   go_ret
   exact⟨_,rfl,HR9.out.1,HR9.out.2.1,HR9.out.2.2,HB.out⟩
  ·rw [decide_eq_false hs]at t1
   have HPOS:Hid (0<fI b):=jH (HZ.out.1.2 (by omega))
   clear ha hb fa fb a0 b0 hT hq lq nq hf hky hs HZ
   go_enter Tryz.func189,Tryz.ntmps189
   go_wp2_with fail
   refine(HF.out _).mono ?_
   rintro e1 w1 ⟨rfl,hb1⟩
   replace HB:=jH (HB.out.trans (hb1.mono HB.out.size))
   clear hb1
   go_wp2_with fail
   refine(HL.out _ (HT.out.below HB.out)).mono ?_
   rintro e2 w2 ⟨r,rfl,rl,rn,rk,hb2⟩
   replace HB:=jH (HB.out.trans (hb2.mono HB.out.size))
   clear hb2
   have HR9:Hid (W64 (stB q (ky r) mode)∧aU (stB q (ky r) mode)=false∧ky (stB q (ky r) mode)=KK):=jH ⟨(HS2.out _).1,(HS2.out _).2,HK.out _ (by have:=HPOS.out;generalize fI a*2^1074=S at*;omega) (by have:=HPOS.out;generalize fI a*2^1074=S at*;omega)⟩
   have HSX:=jH fun W=>HST.out r W rl rn
   clear HST HK HS2 rl rn rk HPOS HL HT
   generalize stB q (ky r) mode=R at*
   go_wp2_with fail
   refine(HSX.out _).mono ?_
   rintro e3 w3 ⟨rfl,hb3⟩
   replace HB:=jH (HB.out.trans (hb3.mono HB.out.size))
   clear hb3
   go_wp2
   go_ret
   exact⟨_,rfl,HR9.out.1,HR9.out.2.1,HR9.out.2.2,HB.out⟩
end
section
set_option maxRecDepth 100000
set_option maxHeartbeats 6400000
open Go.RowKit
attribute [local go_sem] bG
theorem aA2 {A B C D:Nat}(h1:A≤C) (h2:B≤D):A*B≤C*D:=Nat.mul_le_mul h1 h2
theorem aHb {a k:Nat}(h:a≤k+1):(2:Nat)^a≤2^k*2:=by
 rw [←Nat.pow_succ];exact Nat.pow_le_pow_right (by decide) h
theorem aSh {a:Nat}(h:a≤unE+1):(2:Nat)^a≤unU*2:=by
 unfold unU
 generalize unE=u at*
 exact aHb h
theorem aRu {x:Nat}(hx:W64 x) (fx:aK x=true):(fI x).natAbs≤18014398509481984*unU:=by
 have ha:=dI fx
 have e:(fI x).natAbs=aS x*2^(aW x+1074).toNat:=by rw [gQ hx fx];split<;>omega
 rw [e]
 have h1:(2:Nat)^(aW x+1074).toNat≤unU*2:=aSh (by unfold unE;omega)
 have h2:=fP x
 have h3:=aA2 (Nat.le_of_lt h2) h1
 generalize aS x*2^(aW x+1074).toNat=A at*
 generalize unU=U at*
 omega
theorem aQ8 {x:Nat}(hx:W64 x) (fx:aK x=true) (x0:aO x≠0):aK (aV (rtZ x) (rtE x) 0)=true∧0≤ky (aV (rtZ x) (rtE x) 0):=by
 obtain⟨l0,n0⟩:=bU (rtZ x) (rtE x) 0
 obtain⟨M,hM⟩:∃M:Int,M=1074+(rtE x).natAbs:=⟨_,rfl⟩
 have hc:W64 9110782046170513408:=by decide
 have hcf:aK 9110782046170513408=true:=by decide
 have hcn:(fI 9110782046170513408).natAbs=1073741824*unU:=by rw [aPv hc hcf,←aPw];rfl
 have h1:=(aDv (M:=M) hx hc fx hcf x0 (by omega) (by omega)).2
 rw [hcn]at h1
 have h2:=aRu hx fx
 have h3:(2:Nat)^1074≤unU:=vK 1074 unE (by decide)
 have hs:0≤sc M (rtZ x) (rtE x):=Int.mul_nonneg (by omega) (Int.le_of_lt (Int.pow_pos (by decide)))
 have hv:0≤vI M 9110782046170513408:=by
  have:=(iG (M:=M) (by decide:W64 0) hc (by decide) hcf (by omega)).1 (by decide)
  rwa [mJ]at this
 have h4:(fI x).natAbs*2^1074≤1073741824*unU*(1073741824*unU):=by
  refine Nat.le_trans (aA2 h2 h3) ?_
  have e:1073741824*unU*(1073741824*unU)=1152921504606846976*(unU*unU):=by
   generalize unU=U
   rw [Nat.mul_assoc,Nat.mul_left_comm U,←Nat.mul_assoc]
  rw [e,Nat.mul_assoc]
  exact Nat.mul_le_mul_right _ (by decide)
 have h5:=h1.1 h4
 have h6:=vO (c:=9110782046170513408) (M:=M) (z:=rtZ x) (e:=rtE x) 0 (by omega) (by omega) hc hcf (by omega)
 have h7:=vN (c:=0) (M:=M) (z:=rtZ x) (e:=rtE x) 0 (by omega) (by omega) (by decide) (by decide) (by rw [mJ];exact hs)
 rw [dW]at h7
 rw [show ky 9110782046170513408=9110782046170513408 by decide]at h6
 have hk:(aG:Int)=9218868437227405312:=rfl
 exact⟨(gW l0 n0).2 (by omega),h7⟩
theorem aNz {x:Nat}{mode k:Int}(hx:W64 x) (fx:aK x=true) (x0:aO x≠0) (hm:mode=3∨mode=4) (px:0≤fI x)
  (k1:0<k↔fI (aV (rtZ x) (rtE x) 0)*fI (aV (rtZ x) (rtE x) 0)<fI x*2^1074) (k2:k<0↔fI x*2^1074<fI (aV (rtZ x) (rtE x) 0)*fI (aV (rtZ x) (rtE x) 0)):
  ky (stB (aV (rtZ x) (rtE x) 0) k mode)=rtK x mode:=by
 obtain⟨l0,n0⟩:=bU (rtZ x) (rtE x) 0
 obtain⟨fq,pq⟩:=aQ8 hx fx x0
 obtain⟨M,hM⟩:∃M:Int,M=1074+(rtE x).natAbs:=⟨_,rfl⟩
 obtain⟨h1,h2⟩:=aDv (M:=M) hx l0 fx fq x0 (by omega) (by omega)
 have hs:0≤sc M (rtZ x) (rtE x):=Int.mul_nonneg (by omega) (Int.le_of_lt (Int.pow_pos (by decide)))
 have hq:0≤vI M (aV (rtZ x) (rtE x) 0):=by
  have:=(iG (M:=M) (by decide:W64 0) l0 (by decide) fq (by omega)).1 (by rw [dW];exact pq)
  rwa [mJ]at this
 have e1:(fI x).natAbs*2^1074=(fI x*2^1074).natAbs:=by rw [Int.natAbs_mul,bZ]
 rw [←Int.natAbs_mul,e1]at h1 h2
 have p1:=(aBj (fI x) 1074)
 have p2:0≤fI (aV (rtZ x) (rtE x) 0)*fI (aV (rtZ x) (rtE x) 0):=by have:=aFf (fI (aV (rtZ x) (rtE x) 0)) (fI (aV (rtZ x) (rtE x) 0));omega
 refine yC (M:=M) (by omega) (by omega) l0 fq rfl hm ?_ ?_
 ·rw [k1]
  generalize fI x*2^1074=S at*
  generalize fI (aV (rtZ x) (rtE x) 0)*fI (aV (rtZ x) (rtE x) 0)=T at*
  omega
 ·rw [k2]
  generalize fI x*2^1074=S at*
  generalize fI (aV (rtZ x) (rtE x) 0)*fI (aV (rtZ x) (rtE x) 0)=T at*
  omega
def roK (x:Nat) (mode:Int):Int:=if ky x=0 then 0 else rtK x mode
theorem aR5 {x:Nat}(hx:W64 x) (fx:aK x=true) (px:0≤ky x):
  ∃q,F6.sqrt x=some q∧W64 q∧aK q=true∧∀(k mode:Int),(mode=3∨mode=4)→(0<k↔fI q*fI q<fI x*2^1074)→(k<0↔fI x*2^1074<fI q*fI q)→ky (stB q k mode)=roK x mode:=by
 obtain⟨z1,z2,z3⟩:=fH hx fx
 unfold roK
 by_cases h0:ky x=0
 ·have hb:x=0∨x=aH:=by
   have hs:aH=9223372036854775808:=rfl
   unfold ky at h0;split at h0<;>omega
  have hz:∀q:Nat,q=0∨q=aH→F6.sqrt q=some q∧W64 q∧aK q=true∧fI q=0∧ky q=0:=by
   rintro q (rfl|rfl)
   ·exact⟨by decide,by decide,by decide,aFu (.inl rfl),by decide⟩
   ·exact⟨by decide,by decide,by decide,aFu (.inr rfl),by decide⟩
  obtain⟨a1,a2,a3,a4,a5⟩:=hz x hb
  refine⟨x,a1,a2,a3,fun k mode hm k1 k2=> ?_⟩
  rw [if_pos h0,(aC2 a2 a3).1,a5]
  rw [a4]at k1 k2
  simp only [Int.zero_mul,Int.mul_zero,Int.lt_irrefl,iff_false]at k1 k2
  rw [if_neg (fun h=>k1 h.1),if_neg (fun h=>k2 h.1)];rfl
 ·have x0:aO x≠0:=fun h=>h0 (by have:=z1.2 h;omega)
  have hs:aQ x=false:=by rw [aB2 hx h0];exact decide_eq_false (by omega)
  obtain⟨l0,n0⟩:=bU (rtZ x) (rtE x) 0
  obtain⟨fq,-⟩:=aQ8 hx fx x0
  simp only [if_neg h0]
  exact⟨_,(aNp hx fx x0 hs).1,l0,fq,fun k mode hm k1 k2=>aNz hx fx x0 hm (by omega) k1 k2⟩
def suK (x y:Nat) (mode:Int):Int:=if aK x=false then ky x else if aK y=false then ky y else adK x y mode
def sgK (x y:Nat):Int:=if(decide (0<ky x)==decide (0<ky y))=true then aG else-(aG:Int)
def prK (x y:Nat) (mode:Int):Int:=if ky x=0∨ky y=0 then 0 else if aK x=false∨aK y=false then sgK x y else mlK x y mode
def quK (x y:Nat) (mode:Int):Int:=if ky x=0∨aK y=false then 0 else if aK x=false then sgK x y else dvK x y mode
def byK (x y:Nat) (mode:Int):Int:=if ky y=0∧ky x≠0 then(if 0<ky x then aG else-(aG:Int))else quK x y mode
theorem aEn (s:Bool):W64 (F6.write (.infinity s))∧aU (F6.write (.infinity s))=false∧ky (F6.write (.infinity s))=if s then-(aG:Int)else aG:=by
 cases s<;>decide
theorem yK {x:Nat}(h:W64 x) (n:aU x=false) (f:aK x=false):F6.read x= .infinity (aQ x):=by
 rcases jI (dH n)with h1|h1
 ·rw [f]at h1;cases h1.1
 ·exact rP h h1.2
theorem rW {x:Nat}(h:W64 x) (f:aK x=true) (h0:ky x≠0):aO x≠0∧aS x≠0:=by
 have hz:=fH h f
 have:aO x≠0:=fun e=>h0 (by have:=hz.1.2 e;have:=hz.2;omega)
 exact⟨this,fun e=>this (dZ.2 e)⟩
theorem yE {x y:Nat}(hx:W64 x) (hy:W64 y) (x0:ky x≠0) (y0:ky y≠0):(if(aQ x^^aQ y)then-(aG:Int)else aG)=sgK x y:=by
 rw [aB2 hx x0,aB2 hy y0]
 unfold sgK
 by_cases h1:0<ky x<;>by_cases h2:0<ky y
 ·rw [decide_eq_true h1,decide_eq_true h2,decide_eq_false (by omega:¬ky x<0),decide_eq_false (by omega:¬ky y<0)];rfl
 ·rw [decide_eq_true h1,decide_eq_false h2,decide_eq_false (by omega:¬ky x<0),decide_eq_true (by omega:ky y<0)];rfl
 ·rw [decide_eq_false h1,decide_eq_true h2,decide_eq_true (by omega:ky x<0),decide_eq_false (by omega:¬ky y<0)];rfl
 ·rw [decide_eq_false h1,decide_eq_false h2,decide_eq_true (by omega:ky x<0),decide_eq_true (by omega:ky y<0)];rfl
theorem aLs {x y:Nat}(hx:W64 x) (hy:W64 y) (nx:aU x=false) (ny:aU y=false) (x0:ky x≠0) (y0:ky y≠0) (h:aK x=false∨aK y=false):
  ∃r,F6.mul x y=some r∧W64 r∧aU r=false∧ky r=sgK x y:=by
 obtain⟨w1,w2,w3⟩:=aEn (aQ x^^aQ y)
 refine⟨F6.write (.infinity (aQ x^^aQ y)),?_,w1,w2,by rw [w3];exact yE hx hy x0 y0⟩
 unfold Ieee.Format.mul
 cases fx:aK x
 ·rw [yK hx nx fx]
  cases fy:aK y
  ·rw [yK hy ny fy];rfl
  ·rw [dK hy fy]
   unfold Ieee.Datum.product
   simp only [if_neg (rW hy fy y0).2];rfl
 ·have fy:aK y=false:=by rcases h with h|h;rw [fx]at h;cases h;exact h
  rw [dK hx fx,yK hy ny fy]
  unfold Ieee.Datum.product
  simp only [if_neg (rW hx fx x0).2,Option.map_some]
  rw [Bool.xor_comm]
theorem aSy {x y:Nat}(hx:W64 x) (hy:W64 y) (nx:aU x=false) (fx:aK x=false) (fy:aK y=true) (x0:ky x≠0) (y0:ky y≠0):
  ∃r,F6.div x y=some r∧W64 r∧aU r=false∧ky r=sgK x y:=by
 obtain⟨w1,w2,w3⟩:=aEn (aQ x^^aQ y)
 refine⟨F6.write (.infinity (aQ x^^aQ y)),?_,w1,w2,by rw [w3];exact yE hx hy x0 y0⟩
 unfold Ieee.Format.div
 rw [yK hx nx fx,dK hy fy];rfl
theorem aId (x y:Nat) (mode:Int) (w:World) (hx:W64 x) (hy:W64 y) (nx:aU x=false) (ny:aU y=false) (hm:mode=3∨mode=4) (hT:dR w):
  Calls Tryz.prog 133 #[.float .f64 x,.float .f64 y,.int .i64 mode] w (eX (suK x y mode) w):=by
 have HFX:=jH fun W=>iI x W hx
 have HFY:=jH fun W=>iI y W hy
 have HB:=jH (Below.refl w.heap.size w)
 have HT:=jH hT
 unfold suK
 cases fx:aK x
 ·rw [fx]at HFX
  rw [if_pos rfl]
  obtain⟨KK,hKK⟩:∃KK,KK=ky x:=⟨_,rfl⟩
  rw [←hKK]
  have HR9:Hid (W64 x∧aU x=false∧ky x=KK):=jH ⟨hx,nx,hKK.symm⟩
  clear hx hy nx ny hm hT hKK fx
  go_enter Tryz.func133,Tryz.ntmps133
  go_wp2_with fail
  refine(HFX.out _).mono ?_
  rintro e1 w1 ⟨rfl,hb1⟩
  replace HB:=jH (HB.out.trans (hb1.mono HB.out.size))
  clear hb1
  go_wp2
  go_ret
  exact⟨_,rfl,HR9.out.1,HR9.out.2.1,HR9.out.2.2,HB.out⟩
 ·rw [fx]at HFX
  rw [if_neg (by decide)]
  cases fy:aK y
  ·rw [fy]at HFY
   rw [if_pos rfl]
   obtain⟨KK,hKK⟩:∃KK,KK=ky y:=⟨_,rfl⟩
   rw [←hKK]
   have HR9:Hid (W64 y∧aU y=false∧ky y=KK):=jH ⟨hy,ny,hKK.symm⟩
   clear hx hy nx ny hm hT hKK fx fy
   go_enter Tryz.func133,Tryz.ntmps133
   go_wp2_with fail
   refine(HFX.out _).mono ?_
   rintro e1 w1 ⟨rfl,hb1⟩
   replace HB:=jH (HB.out.trans (hb1.mono HB.out.size))
   clear hb1
   go_wp2_with fail
   refine(HFY.out _).mono ?_
   rintro e2 w2 ⟨rfl,hb2⟩
   replace HB:=jH (HB.out.trans (hb2.mono HB.out.size))
   clear hb2
   go_wp2
   go_ret
   exact⟨_,rfl,HR9.out.1,HR9.out.2.1,HR9.out.2.2,HB.out⟩
  ·rw [fy]at HFY
   rw [if_neg (by decide)]
   have HA:=jH fun W (ht:dR W)=>aR3 x y mode W hx hy fx fy hm ht
   generalize adK x y mode=KK at*
   clear hx hy nx ny hm hT fx fy
   go_enter Tryz.func133,Tryz.ntmps133
   go_wp2_with fail
   refine(HFX.out _).mono ?_
   rintro e1 w1 ⟨rfl,hb1⟩
   replace HB:=jH (HB.out.trans (hb1.mono HB.out.size))
   clear hb1
   go_wp2_with fail
   refine(HFY.out _).mono ?_
   rintro e2 w2 ⟨rfl,hb2⟩
   replace HB:=jH (HB.out.trans (hb2.mono HB.out.size))
   clear hb2
   go_wp2_with fail
   refine(HA.out _ (HT.out.below HB.out)).mono ?_
   rintro e3 w3 ⟨r,rfl,rl,rn,rk,hb3⟩
   replace HB:=jH (HB.out.trans (hb3.mono HB.out.size))
   have HR9:=jH (And.intro rl (And.intro rn rk))
   clear hb3 rl rn rk
   go_wp2
   go_ret
   exact⟨_,rfl,HR9.out.1,HR9.out.2.1,HR9.out.2.2,HB.out⟩
theorem gX (x y:Nat) (mode:Int) (w:World) (hx:W64 x) (hy:W64 y) (nx:aU x=false) (ny:aU y=false) (hm:mode=3∨mode=4) (hT:dR w):
  Calls Tryz.prog 101 #[.float .f64 x,.float .f64 y,.int .i64 mode] w (eX (prK x y mode) w):=by
 have HFX:=jH fun W=>iI x W hx
 have HFY:=jH fun W=>iI y W hy
 have HB:=jH (Below.refl w.heap.size w)
 have HT:=jH hT
 have z1:=eq_test hx (by decide:W64 0) nx (by decide)
 rw [dW]at z1
 have z2:=eq_test hy (by decide:W64 0) ny (by decide)
 rw [dW]at z2
 unfold prK
 by_cases x0:ky x=0
 ·rw [if_pos (.inl x0)]
  rw [decide_eq_true x0]at z1
  have HR9:Hid (W64 0∧aU 0=false∧ky 0=0):=jH ⟨by decide,by decide,by decide⟩
  clear hx hy nx ny hm hT x0
  go_enter Tryz.func101,Tryz.ntmps101
  go_wp2
  go_ret
  exact⟨_,rfl,HR9.out.1,HR9.out.2.1,HR9.out.2.2,HB.out⟩
 rw [decide_eq_false x0]at z1
 by_cases y0:ky y=0
 ·rw [if_pos (.inr y0)]
  rw [decide_eq_true y0]at z2
  have HR9:Hid (W64 0∧aU 0=false∧ky 0=0):=jH ⟨by decide,by decide,by decide⟩
  clear hx hy nx ny hm hT x0 y0
  go_enter Tryz.func101,Tryz.ntmps101
  go_wp2
  go_ret
  exact⟨_,rfl,HR9.out.1,HR9.out.2.1,HR9.out.2.2,HB.out⟩
 rw [decide_eq_false y0]at z2
 rw [if_neg (by omega)]
 cases fx:aK x
 ·rw [fx]at HFX
  rw [if_pos (.inl rfl)]
  obtain⟨r,hr,rl,rn,rk⟩:=aLs hx hy nx ny x0 y0 (.inl fx)
  have hmul:∀t w,(binOp .mul t (.float .f64 x) (.float .f64 y)).run Tryz.prog w= .ok (.float .f64 r) w:=fun t w=>run_float_arith w .mul t .f64 _ _ _ hr
  have HR9:=jH (And.intro rl (And.intro rn rk))
  generalize sgK x y=KK at*
  clear hx hy nx ny hm hT x0 y0 fx hr rl rn rk
  go_enter Tryz.func101,Tryz.ntmps101
  go_wp2_with fail
  refine(HFX.out _).mono ?_
  rintro e1 w1 ⟨rfl,hb1⟩
  replace HB:=jH (HB.out.trans (hb1.mono HB.out.size))
  clear hb1
  go_wp2
  go_ret
  exact⟨_,rfl,HR9.out.1,HR9.out.2.1,HR9.out.2.2,HB.out⟩
 cases fy:aK y
 ·rw [fx]at HFX
  rw [fy]at HFY
  rw [if_pos (.inr rfl)]
  obtain⟨r,hr,rl,rn,rk⟩:=aLs hx hy nx ny x0 y0 (.inr fy)
  have hmul:∀t w,(binOp .mul t (.float .f64 x) (.float .f64 y)).run Tryz.prog w= .ok (.float .f64 r) w:=fun t w=>run_float_arith w .mul t .f64 _ _ _ hr
  have HR9:=jH (And.intro rl (And.intro rn rk))
  generalize sgK x y=KK at*
  clear hx hy nx ny hm hT x0 y0 fx fy hr rl rn rk
  go_enter Tryz.func101,Tryz.ntmps101
  go_wp2_with fail
  refine(HFX.out _).mono ?_
  rintro e1 w1 ⟨rfl,hb1⟩
  replace HB:=jH (HB.out.trans (hb1.mono HB.out.size))
  clear hb1
  go_wp2_with fail
  refine(HFY.out _).mono ?_
  rintro e2 w2 ⟨rfl,hb2⟩
  replace HB:=jH (HB.out.trans (hb2.mono HB.out.size))
  clear hb2
  go_wp2
  go_ret
  exact⟨_,rfl,HR9.out.1,HR9.out.2.1,HR9.out.2.2,HB.out⟩
 rw [fx]at HFX
 rw [fy]at HFY
 rw [if_neg (by decide)]
 have HA:=jH fun W (ht:dR W)=>aPf x y mode W hx hy fx fy hm ht
 generalize mlK x y mode=KK at*
 clear hx hy nx ny hm hT x0 y0 fx fy
 go_enter Tryz.func101,Tryz.ntmps101
 go_wp2_with fail
 refine(HFX.out _).mono ?_
 rintro e1 w1 ⟨rfl,hb1⟩
 replace HB:=jH (HB.out.trans (hb1.mono HB.out.size))
 clear hb1
 go_wp2_with fail
 refine(HFY.out _).mono ?_
 rintro e2 w2 ⟨rfl,hb2⟩
 replace HB:=jH (HB.out.trans (hb2.mono HB.out.size))
 clear hb2
 go_wp2_with fail
 refine(HA.out _ (HT.out.below HB.out)).mono ?_
 rintro e3 w3 ⟨r,rfl,rl,rn,rk,hb3⟩
 replace HB:=jH (HB.out.trans (hb3.mono HB.out.size))
 have HR9:=jH (And.intro rl (And.intro rn rk))
 clear hb3 rl rn rk
 go_wp2
 go_ret
 exact⟨_,rfl,HR9.out.1,HR9.out.2.1,HR9.out.2.2,HB.out⟩
theorem aGa {y:Nat}(ny:aU y=false):decide (y%aH=aG)= !aK y:=by
 rcases jI (dH ny)with h|h
 ·rw [h.1,decide_eq_false (by omega)];rfl
 ·rw [h.1,decide_eq_true h.2];rfl
theorem aDh (x y:Nat) (mode:Int) (w:World) (hx:W64 x) (hy:W64 y) (nx:aU x=false) (ny:aU y=false) (hm:mode=3∨mode=4) (hT:dR w) (h0:ky x=0∨ky y≠0):
  Calls Tryz.prog 159 #[.float .f64 x,.float .f64 y,.int .i64 mode] w (eX (quK x y mode) w):=by
 have HFX:=jH fun W=>iI x W hx
 have HFY:=jH fun W=>iI y W hy
 have HB:=jH (Below.refl w.heap.size w)
 have HT:=jH hT
 have z1:=eq_test hx (by decide:W64 0) nx (by decide)
 rw [dW]at z1
 have HI:=jH fun W=>aNu y W hy
 rw [aGa ny]at HI
 unfold quK
 by_cases x0:ky x=0
 ·rw [if_pos (.inl x0)]
  rw [decide_eq_true x0]at z1
  have HR9:Hid (W64 0∧aU 0=false∧ky 0=0):=jH ⟨by decide,by decide,by decide⟩
  clear hx hy nx ny hm hT x0 h0
  go_enter Tryz.func159,Tryz.ntmps159
  go_wp2
  go_ret
  exact⟨_,rfl,HR9.out.1,HR9.out.2.1,HR9.out.2.2,HB.out⟩
 rw [decide_eq_false x0]at z1
 have y0:ky y≠0:=by omega
 cases fy:aK y
 ·rw [if_pos (.inr rfl)]
  rw [fy,Bool.not_false]at HI
  have HR9:Hid (W64 0∧aU 0=false∧ky 0=0):=jH ⟨by decide,by decide,by decide⟩
  clear hx hy nx ny hm hT x0 y0 h0 fy
  go_enter Tryz.func159,Tryz.ntmps159
  go_wp2_with fail
  refine(HI.out _).mono ?_
  rintro e1 w1 ⟨rfl,hb1⟩
  replace HB:=jH (HB.out.trans (hb1.mono HB.out.size))
  clear hb1
  go_wp2
  go_ret
  exact⟨_,rfl,HR9.out.1,HR9.out.2.1,HR9.out.2.2,HB.out⟩
 rw [fy,Bool.not_true]at HI
 rw [if_neg (by simp [x0])]
 cases fx:aK x
 ·rw [fx]at HFX
  rw [if_pos rfl]
  obtain⟨r,hr,rl,rn,rk⟩:=aSy hx hy nx fx fy x0 y0
  have hquo:∀t w,(binOp .quo t (.float .f64 x) (.float .f64 y)).run Tryz.prog w= .ok (.float .f64 r) w:=fun t w=>run_float_arith w .quo t .f64 _ _ _ hr
  have HR9:=jH (And.intro rl (And.intro rn rk))
  generalize sgK x y=KK at*
  clear hx hy nx ny hm hT x0 y0 fx fy h0 hr rl rn rk
  go_enter Tryz.func159,Tryz.ntmps159
  go_wp2_with fail
  refine(HI.out _).mono ?_
  rintro e1 w1 ⟨rfl,hb1⟩
  replace HB:=jH (HB.out.trans (hb1.mono HB.out.size))
  clear hb1
  go_wp2_with fail
  refine(HFX.out _).mono ?_
  rintro e2 w2 ⟨rfl,hb2⟩
  replace HB:=jH (HB.out.trans (hb2.mono HB.out.size))
  clear hb2
  go_wp2
  go_ret
  exact⟨_,rfl,HR9.out.1,HR9.out.2.1,HR9.out.2.2,HB.out⟩
 rw [fx]at HFX
 rw [if_neg (by decide)]
 have HA:=jH fun W (ht:dR W)=>aSt x y mode W hx hy fx fy (rW hx fx x0).1 (rW hy fy y0).1 hm ht
 generalize dvK x y mode=KK at*
 clear hx hy nx ny hm hT x0 y0 h0 fx fy
 go_enter Tryz.func159,Tryz.ntmps159
 go_wp2_with fail
 refine(HI.out _).mono ?_
 rintro e1 w1 ⟨rfl,hb1⟩
 replace HB:=jH (HB.out.trans (hb1.mono HB.out.size))
 clear hb1
 go_wp2_with fail
 refine(HFX.out _).mono ?_
 rintro e2 w2 ⟨rfl,hb2⟩
 replace HB:=jH (HB.out.trans (hb2.mono HB.out.size))
 clear hb2
 go_wp2_with fail
 refine(HA.out _ (HT.out.below HB.out)).mono ?_
 rintro e3 w3 ⟨r,rfl,rl,rn,rk,hb3⟩
 replace HB:=jH (HB.out.trans (hb3.mono HB.out.size))
 have HR9:=jH (And.intro rl (And.intro rn rk))
 clear hb3 rl rn rk
 go_wp2
 go_ret
 exact⟨_,rfl,HR9.out.1,HR9.out.2.1,HR9.out.2.2,HB.out⟩
theorem aWh (s:Bool):W64 (cpB s 9218868437227405312)∧aU (cpB s 9218868437227405312)=false∧ky (cpB s 9218868437227405312)=if s then-(aG:Int)else aG:=by
 cases s<;>decide
theorem qI (x y:Nat) (mode:Int) (w:World) (hx:W64 x) (hy:W64 y) (nx:aU x=false) (ny:aU y=false) (hm:mode=3∨mode=4) (hT:dR w):
  Calls Tryz.prog 135 #[.float .f64 x,.float .f64 y,.int .i64 mode] w (eX (byK x y mode) w):=by
 have HB:=jH (Below.refl w.heap.size w)
 have HT:=jH hT
 have HQ:=jH fun W (ht:dR W) h0=>aDh x y mode W hx hy nx ny hm ht h0
 have HI:=jH fun W=>oD W
 have HC:=jH fun W=>zL 9218868437227405312 x W (by decide) hx
 have z1:=eq_test hx (by decide:W64 0) nx (by decide)
 rw [dW]at z1
 have z2:=eq_test hy (by decide:W64 0) ny (by decide)
 rw [dW]at z2
 unfold byK
 by_cases y0:ky y=0
 ·rw [decide_eq_true y0]at z2
  by_cases x0:ky x=0
  ·rw [if_neg (by omega)]
   rw [decide_eq_true x0]at z1
   have z3:(FloatKind.f64.format.order x 0 !=some Ordering.eq)=false:=by rw [bne,z1];rfl
   have H0:Hid (ky x=0∨ky y≠0):=jH (.inl x0)
   generalize quK x y mode=KK at*
   clear hx hy nx ny hm hT x0 y0 HI HC
   go_enter Tryz.func135,Tryz.ntmps135
   go_wp2_with fail
   refine(HQ.out _ (HT.out.below HB.out) H0.out).mono ?_
   rintro e3 w3 ⟨r,rfl,rl,rn,rk,hb3⟩
   replace HB:=jH (HB.out.trans (hb3.mono HB.out.size))
   have HR9:=jH (And.intro rl (And.intro rn rk))
   clear hb3 rl rn rk
   go_wp2
   go_ret
   exact⟨_,rfl,HR9.out.1,HR9.out.2.1,HR9.out.2.2,HB.out⟩
  ·rw [if_pos ⟨y0,x0⟩]
   rw [decide_eq_false x0]at z1
   have z3:(FloatKind.f64.format.order x 0 !=some Ordering.eq)=true:=by rw [bne,z1];rfl
   have hcp:=aWh (aQ x)
   rw [aB2 hx x0]at hcp HC
   have HR9:Hid (W64 (cpB (decide (ky x<0)) 9218868437227405312)∧aU (cpB (decide (ky x<0)) 9218868437227405312)=false∧ky (cpB (decide (ky x<0)) 9218868437227405312)=if 0<ky x then(aG:Int)else-(aG:Int)):=jH ⟨hcp.1,hcp.2.1,by
    rw [hcp.2.2]
    by_cases hp:0<ky x
    ·rw [decide_eq_false (by omega),if_neg (by decide),if_pos hp]
    ·rw [decide_eq_true (by omega),if_pos rfl,if_neg hp]⟩
   generalize cpB (decide (ky x<0)) 9218868437227405312=R at*
   generalize (if 0<ky x then(aG:Int)else-(aG:Int))=KK at*
   clear hx hy nx ny hm hT x0 y0 hcp HQ
   go_enter Tryz.func135,Tryz.ntmps135
   go_wp2_with fail
   refine(HI.out _).mono ?_
   rintro e1 w1 ⟨rfl,hb1⟩
   replace HB:=jH (HB.out.trans (hb1.mono HB.out.size))
   clear hb1
   go_wp2_with fail
   refine(HC.out _).mono ?_
   rintro e2 w2 ⟨rfl,hb2⟩
   replace HB:=jH (HB.out.trans (hb2.mono HB.out.size))
   clear hb2
   go_wp2
   go_ret
   exact⟨_,rfl,HR9.out.1,HR9.out.2.1,HR9.out.2.2,HB.out⟩
 ·rw [decide_eq_false y0]at z2
  rw [if_neg (by omega)]
  have H0:Hid (ky x=0∨ky y≠0):=jH (.inr y0)
  generalize quK x y mode=KK at*
  clear hx hy nx ny hm hT y0 HI HC z1
  go_enter Tryz.func135,Tryz.ntmps135
  go_wp2_with fail
  refine(HQ.out _ (HT.out.below HB.out) H0.out).mono ?_
  rintro e3 w3 ⟨r,rfl,rl,rn,rk,hb3⟩
  replace HB:=jH (HB.out.trans (hb3.mono HB.out.size))
  have HR9:=jH (And.intro rl (And.intro rn rk))
  clear hb3 rl rn rk
  go_wp2
  go_ret
  exact⟨_,rfl,HR9.out.1,HR9.out.2.1,HR9.out.2.2,HB.out⟩
end
end Go.Proofs.YtfmecpembnmnkaaGreatDoor
