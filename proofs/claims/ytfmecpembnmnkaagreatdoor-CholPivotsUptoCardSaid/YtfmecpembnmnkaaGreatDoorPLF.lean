/- Walks: Pivots, Verified. Printed by wip/gen/ch15.py. -/
import Derived.Test.YtfmecpembnmnkaaGreatDoorPLE
import Derived.Test.YtfmecpembnmnkaaGreatDoorPLC
import Derived.Test.YtfmecpembnmnkaaGreatDoorPII
namespace Go.Proofs.YtfmecpembnmnkaaGreatDoor
section
set_option maxRecDepth 100000
set_option maxHeartbeats 6400000
open Go.RowKit
attribute [local go_sem] bG tJ
def aDi (x y:Iv):Iv:=(ivL (aGf (ivK x.1 x.2) (ivK y.1 y.2)),ivH (aGf (ivK x.1 x.2) (ivK y.1 y.2)))
def lU (x y:Iv):Iv:=(ivL (tH (ivK x.1 x.2) (ivK y.1 y.2)),ivH (tH (ivK x.1 x.2) (ivK y.1 y.2)))
def aP7 (x y:Iv):Iv:=(ivL (mP (ivK x.1 x.2) (ivK y.1 y.2)),ivH (mP (ivK x.1 x.2) (ivK y.1 y.2)))
def ptI (x:Nat):Iv:=(kb (ky x),kb (ky x))
def zA (x:Iv):Bool:=hasK (ivK x.1 x.2) 0
theorem IW.ok {x:Iv}(h:IW x):Iok (ivK x.1 x.2):=pK h.1 h.2
theorem IW.sub {x y:Iv}(hx:IW x) (hy:IW y):IW (aDi x y):=⟨qU (aF8 hx.ok (yN hy.ok)),qV (aF8 hx.ok (yN hy.ok))⟩
theorem IW.mul {x y:Iv}(hx:IW x) (hy:IW y):IW (lU x y):=⟨qU (aLc hx.ok hy.ok),qV (aLc hx.ok hy.ok)⟩
theorem IW.div {x y:Iv}(hx:IW x) (hy:IW y):IW (aP7 x y):=⟨qU (aMa hx.ok hy.ok),qV (aMa hx.ok hy.ok)⟩
theorem IW.pt {x:Nat}(hx:W64 x):IW (ptI x):=by
 have h:W64 (kb (ky x)):=by
  rcases aC9 x with h|⟨-,h⟩
  ·rw [h];exact hx
  ·rw [h];decide
 exact⟨h,h⟩
def pvW :Way Iv where
 zero:=(0,0)
 less:=fun H s a b k=>(aDi s.1 (lU (lU a b) (H k)),s.2)
 head:=fun s=>if zA s.1 then(s.1,92)else(s.1,0)
 over:=fun s h=>(aP7 s.1 h,s.2)
theorem aIx (n i k mb:Nat) (lv:Value) (l:List Nat) (w:World) (hm:aJ w mb 25 #[.int .i64 n,.int .i64 n,lv]) (hl:FSl w lv l) (hq:Sq n n n l) (hi:i<n) (hk:k<n):
  Calls Tryz.prog 40 #[.int .i64 i,.int .i64 k,.pointer (some ⟨mb,0,none⟩)] w (Gives (IvV (ptI (atN n l i k))) w):=by
 have hx:=hl.jZ hq hi hk
 have fx:=hq.fin_at hi hk
 have HA:=jH (aCt hl hq.len aA8 i k (w.alloc (.cells #[.float .f64 0,.float .f64 0] 37)) hi hk (Below.aA w _))
 have HPT:=jH fun W=>aRh (atN n l i k) W hx
 rw [fx]at HPT
 have HM:=jH (hm.alloc (w:=w) (.cells #[.float .f64 0,.float .f64 0] 37))
 have HR:Hid (IB (w.alloc (.cells #[.float .f64 0,.float .f64 0] 37)) w.heap.size (0,0)):=jH (aJ.new w _ _)
 have HB:=jH (Below.aA w (.cells #[.float .f64 0,.float .f64 0] 37))
 obtain⟨y,hy⟩:∃y,ptI (atN n l i k)=y:=⟨_,rfl⟩
 rw [hy]
 have HY:Hid (aQw true (kb (ky (atN n l i k)))=y.1∧kb (ky (atN n l i k))=y.2∧newE true=0):=jH (by subst hy;exact⟨rfl,rfl,rfl⟩)
 have HPY:Hid (∀W,Calls Tryz.prog 41 #[.float .f64 (atN n l i k)] W (Gives (.tuple #[IvV y,.int .i64 0]) W)):=jH fun W=>by have h:=HPT.out W;subst hy;exact h
 clear HPT HY hx fx hm hl hq hi hk hy
 generalize atN n l i k=x at*
 obtain⟨q0,q1,q2,-⟩:=HM.out.cells3
 go_enter Tryz.func40,Tryz.ntmps40
 go_wp2_with fail
 generalize World.alloc w _=W0 at*
 refine HA.out.mono ?_
 rintro e1 w1 ⟨rfl,hb1⟩
 replace HR:Hid (IB w1 w.heap.size (0,0)):=jH (aJ.below HR.out hb1)
 replace HB:=jH (HB.out.trans (hb1.mono HB.out.size))
 clear hb1 q0 q1 q2 HM HA
 go_wp2_with fail
 refine(HPY.out _).mono ?_
 rintro e2 w2 ⟨rfl,hb2⟩
 replace HR:Hid (IB w2 w.heap.size (0,0)):=jH (aJ.below HR.out hb2)
 replace HB:=jH (HB.out.trans (hb2.mono HB.out.size))
 clear hb2 HPY
 go_upto_region 2 with fail
 have HT:Hid (IB (w2.alloc (.cells #[.float .f64 y.1,.float .f64 y.2] 37)) w2.heap.size y):=jH (aJ.new w2 _ _)
 replace HR:Hid (IB (w2.alloc (.cells #[.float .f64 y.1,.float .f64 y.2] 37)) w.heap.size (0,0)):=jH (aJ.alloc HR.out _)
 replace HB:=jH (HB.out.alloc HB.out.size (.cells #[.float .f64 y.1,.float .f64 y.2] 37))
 obtain⟨tb,htb⟩:∃b,w2.heap.size=b:=⟨_,rfl⟩
 rw [htb]at HT
 simp only [htb]
 generalize World.alloc w2 _=W3 at*
 clear htb
 obtain⟨t0,t1⟩:=IB.two HT.out
 obtain⟨r0,r1⟩:=IB.two HR.out
 obtain⟨r2,r3⟩:=IB.thaw HR.out
 clear HT HR
 go_wp2
 refine bodyPost_ret (v:=IvV y) (by simp [results,Tryz.results40,go_sem,r0,r1]) rfl ⟨rfl,(HB.out.setCell (p:=⟨_,0,none⟩) (Nat.le_refl _) _).setCell (p:=⟨_,1,none⟩) (Nat.le_refl _) _⟩
theorem aIw (H:Nat→Iv) (k:Nat):prH H (k+1)=prH H k++[.float .f64 (H k).1,.float .f64 (H k).2]:=by
 have:=aG0 H k (H k)
 rwa [show dJ H k (H k)=H by funext j;unfold dJ;split<;>simp_all]at this
theorem aL3 (H:Nat→Iv):∀k,(prH H k).length=k*2
 |0=>rfl
 |k+1=>by rw [aIw,List.length_append,aL3 H k];simp;omega
theorem aLi (H:Nat→Iv):∀(k i:Nat),i<k→(prH H k)[i*2]? =some (.float .f64 (H i).1)∧(prH H k)[i*2+1]? =some (.float .f64 (H i).2)
 |0,_,h=>absurd h (Nat.not_lt_zero _)
 | k+1,i,h=>by
  have hl:=aL3 H k
  rw [aIw]
  rcases Nat.lt_or_eq_of_le (Nat.le_of_lt_succ h)with h1|rfl
  ·rw [List.getElem?_append_left (by omega),List.getElem?_append_left (by omega)]
   exact aLi H k i h1
  ·rw [List.getElem?_append_right (by omega),List.getElem?_append_right (by omega),hl]
   simp
theorem OwI.cell {W:World}{B k i cap:Nat}{ao:Option Addr}{H:Nat→Iv}(h:OwI W B (.slice ao k cap) k H) (hi:i<k):∃g,ao=some ⟨g,0,none⟩∧W.cell? ⟨g,i*2,none⟩=some (.float .f64 (H i).1)∧W.cell? ⟨g,i*2+1,none⟩=some (.float .f64 (H i).2):=by
 obtain⟨h1,⟨h2,h3⟩|⟨g,cap2,cur,h2,h3,h4⟩⟩:=id h
 ·omega
 ·injection h2 with e
  subst e
  obtain⟨c1,c2⟩:=aLi H k i hi
  refine⟨g,rfl,?_,?_⟩
  ·have:=World.ownsRow.cells h (g:=g) rfl (i*2) _ c1
   rwa [Addr.add_lit,Nat.zero_add]at this
  ·have:=World.ownsRow.cells h (g:=g) rfl (i*2+1) _ c2
   rwa [Addr.add_lit,Nat.zero_add]at this
structure PvR (W:World) (pb:Nat) (v:Value) (j:Nat) (H:Nat→Iv):Prop where
 p:aJ W pb 27 #[v]
 o:OwI W (pb+1) v j H
theorem PvR.below {W V:World}{pb j:Nat}{v:Value}{H:Nat→Iv}(h:PvR W pb v j H) (hb:Below W.heap.size W V):PvR V pb v j H:=⟨h.p.below hb,h.o.later hb⟩
structure L2I (w0 W:World) (t x y:Iv) (pb:Nat) (v:Value) (j:Nat) (H:Nat→Iv):Prop where
 tt:IB W w0.heap.size t
 xx:IB W (w0.heap.size+1) x
 yy:IB W (w0.heap.size+1+1) y
 r:IB W (w0.heap.size+1+1+1) (0,0)
 p:PvR W pb v j H
 T:dR W
 b:Below w0.heap.size w0 W
theorem L2I.below {w0 W V:World}{t x y:Iv}{pb j:Nat}{v:Value}{H:Nat→Iv}(h:L2I w0 W t x y pb v j H) (hb:Below W.heap.size W V):L2I w0 V t x y pb v j H:=
 ⟨aJ.below h.tt hb,aJ.below h.xx hb,aJ.below h.yy hb,aJ.below h.r hb,h.p.below hb,h.T.below hb,h.b.trans (hb.mono h.b.size)⟩
theorem L2I.rd {w0 W:World}{t x y:Iv}{pb j k g cap:Nat}{H:Nat→Iv}(h:L2I w0 W t x y pb (.slice (some ⟨g,0,none⟩) j cap) j H) (hk:k<j):((((W.cell? ⟨w0.heap.size,0,none⟩=some (.float .f64 t.1)∧W.cell? ⟨w0.heap.size,1,none⟩=some (.float .f64 t.2))∧W.cell? ⟨w0.heap.size+1,0,none⟩=some (.float .f64 x.1)∧W.cell? ⟨w0.heap.size+1,1,none⟩=some (.float .f64 x.2))∧W.cell? ⟨w0.heap.size+1+1,0,none⟩=some (.float .f64 y.1)∧W.cell? ⟨w0.heap.size+1+1,1,none⟩=some (.float .f64 y.2))∧W.cell? ⟨g,k*2,none⟩=some (.float .f64 (H k).1)∧W.cell? ⟨g,k*2+1,none⟩=some (.float .f64 (H k).2))∧W.cell? ⟨pb,0,none⟩=some (.slice (some ⟨g,0,none⟩) j cap):=by
 obtain⟨g2,e,h1,h2⟩:=h.p.o.cell hk
 cases e
 exact⟨⟨⟨⟨IB.two h.tt,IB.two h.xx⟩,IB.two h.yy⟩,h1,h2⟩,h.p.p.cell 0⟩
theorem aM1 (k j pb:Nat) (v:Value) (H:Nat→Iv) (t x y:Iv) (w:World) (hp:PvR w pb v j H) (hk:k<j) (ht:IW t) (hx:IW x) (hy:IW y) (hH:IW (H k)) (hT:dR w):
  Calls Tryz.prog 44 #[IvV t,IvV x,IvV y,.int .i64 k,.pointer (some ⟨pb,0,none⟩)] w (Gives (IvV (aDi t (lU (lU x y) (H k)))) w):=by
 obtain⟨vo,vc,rfl⟩:=hp.o.shape
 obtain⟨g,rfl,-⟩:=hp.o.cell hk
 have hb4:=(below3 w (.cells #[.float .f64 t.1,.float .f64 t.2] 37) (.cells #[.float .f64 x.1,.float .f64 x.2] 37) (.cells #[.float .f64 y.1,.float .f64 y.2] 37)).alloc (below3 w _ _ _).size (.cells #[.float .f64 0,.float .f64 0] 37)
 have HL:Hid (L2I w ((((w.alloc (.cells #[.float .f64 t.1,.float .f64 t.2] 37)).alloc (.cells #[.float .f64 x.1,.float .f64 x.2] 37)).alloc (.cells #[.float .f64 y.1,.float .f64 y.2] 37)).alloc (.cells #[.float .f64 0,.float .f64 0] 37)) t x y pb (.slice (some ⟨g,0,none⟩) j vc) j H):=jH ⟨(((aJ.new w _ _).alloc _).alloc _).alloc _,((aJ.new1 w _ _ _).alloc _).alloc _,(aJ.new2 w _ _ _ _).alloc _,aJ.aH6 w _ _ _ _ _,hp.below hb4,hT.below hb4,hb4⟩
 have HM1:=jH fun W (h:dR W)=>aPn x.1 x.2 y.1 y.2 W hx.1 hx.2 hy.1 hy.2 h
 have HMI:=jH (hx.mul hy)
 have HM2:=jH fun W (h:dR W)=>aPn (lU x y).1 (lU x y).2 (H k).1 (H k).2 W HMI.out.1 HMI.out.2 hH.1 hH.2 h
 have HMJ:=jH (HMI.out.mul hH)
 have HSU:=jH fun W (h:dR W)=>aVw t.1 t.2 (lU (lU x y) (H k)).1 (lU (lU x y) (H k)).2 W ht.1 ht.2 HMJ.out.1 HMJ.out.2 h
 change Hid (∀W,dR W→Calls _ _ _ _ (Gives (IvV (lU x y)) W))at HM1
 change Hid (∀W,dR W→Calls _ _ _ _ (Gives (IvV (lU (lU x y) (H k))) W))at HM2
 change Hid (∀W,dR W→Calls _ _ _ _ (Gives (IvV (aDi t (lU (lU x y) (H k)))) W))at HSU
 generalize aDi t (lU (lU x y) (H k))=r at*
 generalize lU (lU x y) (H k)=m2 at*
 generalize lU x y=m1 at*
 have HK:=jH hk
 clear hp hk ht hx hy hH hT hb4 HMI HMJ
 go_enter Tryz.func44,Tryz.ntmps44
 go_upto_region 1 with fail
 generalize World.alloc (World.alloc (World.alloc (World.alloc w _) _) _) _=W0 at*
 have hkj:=HK.out
 refine aC (fun W:World=>((((W.cell? ⟨w.heap.size,0,none⟩=some (.float .f64 t.1)∧W.cell? ⟨w.heap.size,1,none⟩=some (.float .f64 t.2))∧W.cell? ⟨w.heap.size+1,0,none⟩=some (.float .f64 x.1)∧W.cell? ⟨w.heap.size+1,1,none⟩=some (.float .f64 x.2))∧W.cell? ⟨w.heap.size+1+1,0,none⟩=some (.float .f64 y.1)∧W.cell? ⟨w.heap.size+1+1,1,none⟩=some (.float .f64 y.2))∧W.cell? ⟨g,k*2,none⟩=some (.float .f64 (H k).1)∧W.cell? ⟨g,k*2+1,none⟩=some (.float .f64 (H k).2))∧W.cell? ⟨pb,0,none⟩=some (.slice (some ⟨g,0,none⟩) j vc)) 9 (.take 0 (.take 1 (.take 2 (.take 4 (.take 5 (.take 6 (.take 7 (.run 3 (.run 8 .nil))))))))) (by kernel_rfl) (by kernel_rfl) ?_
 replace HL:=jH (HL.out.below (aB _))
 generalize World.drew _=W1 at HL ⊢
 repeat (refine tkL (v:= ?_) rfl rfl rfl (fun w' hSw=> ?_) (HL.out.rd HK.out) ?_;rotate_left;(focus (go_simp;with_reducible rfl));simp only [aF])
 refine aI rfl rfl fun K' hK=> ?_
 go_simp
 refine(HM1.out _ HL.out.T).mono ?_
 rintro e1 W1v1 ⟨rfl,hb1⟩
 replace HL:=jH (HL.out.below hb1)
 refine hK _ _ (HL.out.rd HK.out) ?_
 clear hK K' hb1
 try simp only [Act.put,aF]
 repeat (refine tkL (v:= ?_) rfl rfl rfl (fun w' hSw=> ?_) (HL.out.rd HK.out) ?_;rotate_left;(focus (go_simp;with_reducible rfl));simp only [aF])
 refine aI rfl rfl fun K' hK=> ?_
 go_simp
 refine(HM2.out _ HL.out.T).mono ?_
 rintro e1 W1v2 ⟨rfl,hb1⟩
 replace HL:=jH (HL.out.below hb1)
 refine hK _ _ (HL.out.rd HK.out) ?_
 clear hK K' hb1
 try simp only [Act.put,aF]
 repeat (refine tkL (v:= ?_) rfl rfl rfl (fun w' hSw=> ?_) (HL.out.rd HK.out) ?_;rotate_left;(focus (go_simp;with_reducible rfl));simp only [aF])
 refine aN ?_
 simp only [drL]
 go_wp2_with fail
 refine(HSU.out _ HL.out.T).mono ?_
 rintro e5 w5 ⟨rfl,hb1⟩
 replace HL:=jH (HL.out.below hb1)
 clear hb1 HSU HM1 HM2
 obtain⟨r0,r1⟩:=IB.two HL.out.r
 obtain⟨r2,r3⟩:=IB.thaw HL.out.r
 go_wp2
 refine bodyPost_ret (v:=IvV r) (by simp [results,Tryz.results44,go_sem,r0,r1]) rfl ⟨rfl,(HL.out.b.setCell (p:=⟨_,0,none⟩) (show w.heap.size≤w.heap.size+1+1+1 by omega) _).setCell (p:=⟨_,1,none⟩) (show w.heap.size≤w.heap.size+1+1+1 by omega) _⟩
def HdP (w:World) (pb:Nat) (v:Value) (j:Nat) (H:Nat→Iv) (d:Iv) (e:Ending) (w':World):Prop:=
 e= .returned (.tuple #[IvV (pvW.head (d,false)).1,.int .i64 (pvW.head (d,false)).2])∧ChX (pb::v.ownBlock.toList) w w'∧
  (((pvW.head (d,false)).2≠0∧PvR w' pb v j H)∨((pvW.head (d,false)).2=0∧(pvW.head (d,false)).1=d∧∃v',PvR w' pb v' (j+1) (dJ H j d)∧(v'.ownBlock=v.ownBlock∨∃g,v'.ownBlock=some g∧w.heap.size≤g)))
theorem aJm {d:Iv}(h:zA d=true):pvW.head (d,false)=(d,92):=by show(if zA d then(d,(92:Int))else(d,0))=_;rw [h];rfl
theorem aK3 {d:Iv}(h:zA d=false):pvW.head (d,false)=(d,0):=by show(if zA d then(d,(92:Int))else(d,0))=_;rw [h];rfl
theorem aMd (d:Iv) (f:Bool):pvW.head (d,f)=pvW.head (d,false):=rfl
theorem aMj (j pb:Nat) (v:Value) (H:Nat→Iv) (d:Iv) (w:World) (hp:PvR w pb v j H) (hj:j<12) (hd:IW d):
  Calls Tryz.prog 47 #[IvV d,.pointer (some ⟨pb,0,none⟩)] w (HdP w pb v j H d):=by
 obtain⟨i0,hi,hz0,hz1,hz2⟩:=info_parts Tryz.info37
 obtain⟨vo,vc,rfl⟩:=hp.o.shape
 have HHA:=jH fun W=>aS2 d.1 d.2 0 W hd.1 hd.2 (by decide)
 change Hid (∀W,Calls _ _ _ _ (Gives (.bool (zA d)) W))at HHA
 have HD:Hid (IB ((w.alloc (.cells #[.float .f64 d.1,.float .f64 d.2] 37)).alloc (.cells #[.float .f64 0,.float .f64 0] 37)) w.heap.size d):=jH ((aJ.new w _ _).alloc _)
 have HR:Hid (IB ((w.alloc (.cells #[.float .f64 d.1,.float .f64 d.2] 37)).alloc (.cells #[.float .f64 0,.float .f64 0] 37)) (w.heap.size+1) (0,0)):=jH (aJ.new1 w _ _ _)
 have HP:=jH (hp.below (below2 w (.cells #[.float .f64 d.1,.float .f64 d.2] 37) (.cells #[.float .f64 0,.float .f64 0] 37)))
 have HB:=jH (below2 w (.cells #[.float .f64 d.1,.float .f64 d.2] 37) (.cells #[.float .f64 0,.float .f64 0] 37))
 have HPL:=jH hp.p.lt
 have HOL:=jH hp.o.lt
 clear hp hd
 obtain⟨b,hb⟩:∃b,zA d=b:=⟨_,rfl⟩
 rw [hb]at HHA
 go_enter Tryz.func47,Tryz.ntmps47
 go_upto_region 1 with fail
 generalize World.alloc (World.alloc w _) _=W0 at*
 obtain⟨d0,d1⟩:=IB.two HD.out
 go_wp2_with fail
 refine(HHA.out _).mono ?_
 rintro e1 w1 ⟨rfl,hb1⟩
 replace HD:Hid (IB w1 _ d):=jH (aJ.below HD.out hb1)
 replace HR:Hid (IB w1 _ (0,0)):=jH (aJ.below HR.out hb1)
 replace HP:=jH (HP.out.below hb1)
 replace HB:=jH (HB.out.trans (hb1.mono HB.out.size))
 clear hb1 d0 d1 HHA
 obtain⟨d0,d1⟩:=IB.two HD.out
 obtain⟨r0,r1⟩:=IB.two HR.out
 obtain⟨r2,r3⟩:=IB.thaw HR.out
 cases b
 ·have HNO:=jH (aK3 hb)
  have p0:=HP.out.p.cell 0
  have pz:=HP.out.p.frozen 0
  have HOW:=jH fun o=>HP.out.o.later (Below.aA w1 o)
  have HNW:=jH fun W=>cell_two_new W (.float .f64 d.1) (.float .f64 d.2) 37
  have HSZ:Hid (pb+1≤w1.heap.size):=jH HP.out.p.lt
  clear r0 r1 r2 r3
  go_wp2_with (at_builtin;refine wpList_append_own_at _ rfl _ _ 27 rfl (pb+1) 37 i0 (.agg #[.float .f64 0,.float .f64 0]) 2 16 Tryz.underlying27 hi hz0 hz1 hz2 rfl (by decide) _ _ _ rfl (HOW.out _) ⟨_,0,none⟩ 1 1 [.float .f64 d.1,.float .f64 d.2] rfl rfl (HNW.out _) ?c2 ?c3 ?c4 ?c5 ?_)
  case c2=>first|rfl|(intro u hu;simp only [List.mem_cons,List.not_mem_nil,or_false]at hu;rcases hu with rfl|rfl<;>rfl)|(refine⟨rfl,rfl⟩)
  case c3=>unfold maxLen;omega
  case c4=>omega
  case c5=>have:=HSZ.out;simp;omega
  intro v' U4 hown hgrow _ hat
  have HO4:=jH (OwI.push hown)
  have hne:∀x,x<w1.heap.size→x≤pb∨(vo=none∨True)→(Value.slice vo j vc).ownBlock≠some x→U4.heap[x]? =w1.heap[x]? :=fun x hx _ hxo=>(hgrow.block x (by rw [size_alloc];omega) (fun e=>hxo e.symm)).trans ((Below.aA w1 _).block x hx)
  have hol:∀x,(Value.slice vo j vc).ownBlock=some x→pb+1≤x∧x<w.heap.size:=HOL.out
  have HP4:Hid (aJ U4 pb 27 #[.slice vo j vc]):=jH ((hne pb HP.out.p.lt (.inl (Nat.le_refl _)) (fun e=>by have:=(hol pb e).1;omega)).trans HP.out.p)
  have HD4:Hid (IB U4 w.heap.size d):=jH ((hne _ (aJ.lt HD.out) (.inr (.inr trivial)) (fun e=>by have:=(hol _ e).2;omega)).trans HD.out)
  have HR4:Hid (IB U4 (w.heap.size+1) (0,0)):=jH ((hne _ (aJ.lt HR.out) (.inr (.inr trivial)) (fun e=>by have:=(hol _ e).2;omega)).trans HR.out)
  have HC4:Hid (ChX (pb::(Value.slice vo j vc).ownBlock.toList) w U4):=jH ⟨hgrow.os.trans HB.out.os,hgrow.tape.trans HB.out.tape,hgrow.output.trans HB.out.output,Nat.le_trans HB.out.size (Nat.le_trans (Below.aA w1 _).size hgrow.size),fun x hx hm=>(hne x (Nat.lt_of_lt_of_le hx HB.out.size) (.inr (.inr trivial)) (fun e=>hm (List.mem_cons_of_mem _ (by rw [e];simp)))).trans (HB.out.block x hx)⟩
  have HAT:Hid (v'.ownBlock=(Value.slice vo j vc).ownBlock∨∃g,v'.ownBlock=some g∧w.heap.size≤g):=jH (hat.imp id fun e=>⟨_,e,Nat.le_trans HB.out.size (Nat.le_succ _)⟩)
  have HVL:=jH hown.lt
  have HGN:Hid (∀g,v'.ownBlock=some g→g≠w.heap.size+1):=jH fun g hg e=>by
   have hr:=aJ.lt HR.out
   rcases hat with h3|h3
   ·rw [h3]at hg;have:=(HOL.out g hg).2;omega
   ·rw [h3]at hg;have:=Option.some.inj hg;omega
  obtain⟨ao',cap',hv'⟩:=qC hown
  rw [hv']at HO4 HAT HVL HGN ⊢
  clear hown hgrow hat hv' HNW HOW HSZ HP hne hol d0 d1 p0 pz HD HR HB
  obtain⟨H1,hH1⟩:∃x,dJ H j d=x:=⟨_,rfl⟩
  rw [hH1]at HO4
  have HH1:=jH hH1
  clear hH1
  have p0:=HP4.out.cell 0
  have pz:=HP4.out.frozen 0
  go_upto_region 4 with fail
  clear p0 pz
  have hup:Upd pb U4 (U4.setCell ⟨pb,0,none⟩ (.slice ao' (j+1) cap')):=Upd.set _
  have HP5:Hid (PvR (U4.setCell ⟨pb,0,none⟩ (.slice ao' (j+1) cap')) pb (.slice ao' (j+1) cap') (j+1) H1):=jH ⟨HP4.out.set (i:=0) _,HO4.out.dY fun g hg=>hup.block g (HVL.out g hg).2 (by have:=(HVL.out g hg).1;omega)⟩
  have HD5:Hid (IB (U4.setCell ⟨pb,0,none⟩ (.slice ao' (j+1) cap')) w.heap.size d):=jH (aJ.upd HD4.out hup (by have:=HPL.out;omega))
  have HR5:Hid (IB (U4.setCell ⟨pb,0,none⟩ (.slice ao' (j+1) cap')) (w.heap.size+1) (0,0)):=jH (aJ.upd HR4.out hup (by have:=HPL.out;omega))
  have HC5:Hid (ChX (pb::(Value.slice vo j vc).ownBlock.toList) w (U4.setCell ⟨pb,0,none⟩ (.slice ao' (j+1) cap'))):=jH ⟨hup.os.trans HC4.out.os,hup.tape.trans HC4.out.tape,hup.output.trans HC4.out.output,Nat.le_trans HC4.out.size hup.size,fun x hx hm=>(hup.block x (Nat.lt_of_lt_of_le hx HC4.out.size) (fun e=>hm (e▸ .head _))).trans (HC4.out.block x hx hm)⟩
  clear HD4 HR4 HC4 HP4 HO4 hup
  generalize World.setCell U4 _ _=U5 at*
  obtain⟨d0,d1⟩:=IB.two HD5.out
  obtain⟨r0,r1⟩:=IB.two HR5.out
  obtain⟨r2,r3⟩:=IB.thaw HR5.out
  have hup:=jL U5 (w.heap.size+1) d
  have hbl:Below w.heap.size U5 (jD U5 (w.heap.size+1) d):=((Below.refl _ _).setCell (p:=⟨w.heap.size+1,0,none⟩) (Nat.le_succ _) _).setCell (p:=⟨w.heap.size+1,1,none⟩) (Nat.le_succ _) _
  have HC6:Hid (ChX (pb::(Value.slice vo j vc).ownBlock.toList) w (jD U5 (w.heap.size+1) d)):=jH ⟨hup.os.trans HC5.out.os,hup.tape.trans HC5.out.tape,hup.output.trans HC5.out.output,Nat.le_trans HC5.out.size hup.size,fun x hx hm=>(hbl.block x hx).trans (HC5.out.block x hx hm)⟩
  have HP6:Hid (PvR (jD U5 (w.heap.size+1) d) pb (.slice ao' (j+1) cap') (j+1) H1):=jH ⟨HP5.out.p.upd hup (by have:=HPL.out;omega),HP5.out.o.dY fun g hg=>hup.block g (HP5.out.o.lt g hg).2 (HGN.out g hg)⟩
  clear hup hbl HP5 HC5 HD5 HR5
  go_wp2
  refine bodyPost_ret (v:= .tuple #[IvV d,.int .i64 0]) (by simp [results,Tryz.results47,go_sem,r0,r1]) rfl ⟨by rw [HNO.out],HC6.out,.inr ⟨by rw [HNO.out],by rw [HNO.out],_,by rw [HH1.out];exact HP6.out,HAT.out⟩⟩
 ·have HYE:=jH (aJm hb)
  have hup:=jL w1 (w.heap.size+1) d
  have HP6:Hid (PvR (jD w1 (w.heap.size+1) d) pb (.slice vo j vc) j H):=jH ⟨HP.out.p.upd hup (by have:=HPL.out;omega),HP.out.o.dY fun g hg=>hup.block g (HP.out.o.lt g hg).2 (by have:=(HOL.out g hg).2;omega)⟩
  have HC6:Hid (ChX (pb::(Value.slice vo j vc).ownBlock.toList) w (jD w1 (w.heap.size+1) d)):=jH (.of_below ((HB.out.setCell (p:=⟨w.heap.size+1,0,none⟩) (Nat.le_succ _) _).setCell (p:=⟨w.heap.size+1,1,none⟩) (Nat.le_succ _) _))
  clear hup HP HB HD HR
  go_wp2
  refine bodyPost_ret (v:= .tuple #[IvV d,.int .i64 92]) (by simp [results,Tryz.results47,go_sem,r0,r1]) rfl ⟨by rw [HYE.out],HC6.out,.inl ⟨by rw [HYE.out];exact(show(92:Int)≠0 by decide),HP6.out⟩⟩
end
section
set_option maxRecDepth 100000
set_option maxHeartbeats 6400000
open Go.RowKit
attribute [local go_sem] bG tJ
structure PvI (w0:World) (pb mb n:Nat) (lv:Value) (X:List Nat) (j:Nat) (H:Nat→Iv) (W:World):Prop where
 v:∃v,PvR W pb v j H∧∀x∈X,v.ownBlock≠some x
 m:aJ W mb 25 #[.int .i64 n,.int .i64 n,lv]
 b:Below w0.heap.size w0 W
 x:∀x∈X,w0.heap.size≤x∧x≠pb
 iw:∀i,i<j→IW (H i)
 ne:w0.heap.size≤pb∧mb<w0.heap.size
section
variable {w0 : World} {pb mb n : Nat} {lv : Value} {X X' : List Nat} {j : Nat} {H : Nat → Iv} {W V : World} {y : Nat}
theorem PvI.chg (h:PvI w0 pb mb n lv X j H W) (hc:ChX X W V):PvI w0 pb mb n lv X j H V:=by
 obtain⟨v,hp,hv⟩:=h.v
 have hne:=h.ne
 refine⟨⟨v,⟨(hc.block pb hp.p.lt fun m=>(h.x pb m).2 rfl).trans hp.p,hp.o.dY fun g hg=>hc.block g (hp.o.lt g hg).2 fun m=>hv g m hg⟩,hv⟩,(hc.block mb h.m.lt fun m=>by have:=(h.x mb m).1;omega).trans h.m,hc.below h.b h.b.size fun x m=>(h.x x m).1,h.x,h.iw,hne⟩
theorem PvI.new (h:PvI w0 pb mb n lv X j H W) (hy:W.heap.size≤y):PvI w0 pb mb n lv (y::X) j H W:=by
 obtain⟨v,hp,hv⟩:=h.v
 have hpl:=hp.p.lt
 have hb:=h.b.size
 refine⟨⟨v,hp,fun x m=> ?_⟩,h.m,h.b,fun x m=> ?_,h.iw,h.ne⟩
 ·rcases List.mem_cons.1 m with rfl|m
  ·intro e;have:=(hp.o.lt _ e).2;omega
  ·exact hv x m
 ·rcases List.mem_cons.1 m with rfl|m
  ·omega
  ·exact h.x x m
theorem PvI.sub (h:PvI w0 pb mb n lv X j H W) (hs:∀x∈X',x∈X):PvI w0 pb mb n lv X' j H W:=by
 obtain⟨v,hp,hv⟩:=h.v
 exact⟨⟨v,hp,fun x m=>hv x (hs x m)⟩,h.m,h.b,fun x m=>h.x x (hs x m),h.iw,h.ne⟩
theorem PvI.later (h:PvI w0 pb mb n lv X j H W) (hX:∀x∈X,x<W.heap.size) (hb:Below W.heap.size W V):PvI w0 pb mb n lv X j H V∧Kps X W V:=⟨h.chg (.of_below hb),.of_below hb hX⟩
end
theorem aV3 {x y:Iv}(hx:IW x) (hy:IW y) (W:World) (h:dR W):Calls Tryz.prog 49 #[IvV x,IvV y] W (Gives (IvV (aP7 x y)) W):=aWw x.1 x.2 y.1 y.2 W hx.1 hx.2 hy.1 hy.2 h
theorem aWn {w0:World}{pb mb n:Nat}{lv:Value}{l:List Nat}(hl:FSl w0 lv l) (hq:Sq n n n l) (hT:dR w0):
  aWq pvW (fun i j=>ptI (atN n l i j)) n 40 44 47 49 #[.pointer (some ⟨mb,0,none⟩)] #[.pointer (some ⟨pb,0,none⟩)] #[.pointer (some ⟨pb,0,none⟩)] #[] (fun X j H _ W=>PvI w0 pb mb n lv X j H W) where
 ef:=enters_of Tryz.func40 (by kernel_rfl) rfl
 el:=enters_of Tryz.func44 (by kernel_rfl) rfl
 eh:=enters_of Tryz.func47 (by kernel_rfl) rfl
 eo:=enters_of Tryz.func49 (by kernel_rfl) rfl
 chg:=fun h hc=>h.chg hc
 new:=fun h hy=>h.new hy
 sub:=fun h hs=>h.sub hs
 first:=fun {X j H f w} i k h hX hi hk=>(aIx n i k mb lv l w h.m (hl.below h.b) hq hi hk).mono fun e w' ⟨h1,h2⟩=>by
  obtain⟨a,b⟩:=h.later hX h2
  exact⟨h1,IW.pt (hl.jZ hq hi hk),a,b⟩
 less:=fun {X j H f w t x y} k h hX hk ht hx hy=>by
  obtain⟨v,hp,hv⟩:=h.v
  refine(aM1 k j pb v H t x y w hp hk ht hx hy (h.iw k hk) (hT.below h.b)).mono fun e w' ⟨h1,h2⟩=> ?_
  obtain⟨a,b⟩:=h.later hX h2
  exact⟨h1,ht.sub ((hx.mul hy).mul (h.iw k hk)),a,b⟩
 head:=fun {X j H f w d} h hX hj hd=>by
  obtain⟨v,hp,hv⟩:=h.v
  have hne:=h.ne
  refine(aMj j pb v H d w hp (by have:=hq.hn;omega) hd).mono fun e w' ⟨h1,h2,h3⟩=> ?_
  rw [aMd d f]
  have hk:Kps X w w':=⟨h2.size,fun x m=>h2.block x (hX x m) fun m2=>by
   rcases List.mem_cons.1 m2 with e|m2
   ·exact(h.x x m).2 e
   ·exact hv x m (Option.mem_toList.1 m2)⟩
  have hb:Below w0.heap.size w0 w':=h2.below h.b h.b.size fun x m=>by
   rcases List.mem_cons.1 m with rfl|m
   ·exact hne.1
   ·have:=(hp.o.lt x (Option.mem_toList.1 m)).1;omega
  have hm:aJ w' mb 25 #[.int .i64 n,.int .i64 n,lv]:=(h2.block mb h.m.lt fun m=>by
   rcases List.mem_cons.1 m with e|m
   ·omega
   ·have:=(hp.o.lt mb (Option.mem_toList.1 m)).1;omega).trans h.m
  have hiw:IW (pvW.head (d,false)).1:=by
   cases hh:zA d
   ·rw [aK3 hh];exact hd
   ·rw [aJm hh];exact hd
  refine⟨h1,hiw,hk,fun e0=> ?_,fun e0=> ?_⟩
  ·rcases h3 with ⟨h4,-⟩|⟨-,h5,v',h6,h7⟩
   ·exact absurd e0 h4
   ·rw [h5]
    refine⟨⟨v',h6,fun x m e=> ?_⟩,hm,hb,h.x,fun i hi=> ?_,hne⟩
    ·rcases h7 with h7|⟨g,h7,h8⟩
     ·rw [h7]at e;exact hv x m e
     ·rw [h7]at e;have:=Option.some.inj e;have:=hX x m;omega
    ·by_cases ei:i=j
     ·subst ei;rw [eP];exact hd
     ·rw [iO ei];exact h.iw i (by omega)
  ·rcases h3 with ⟨-,h4⟩|⟨h4,-⟩
   ·exact⟨⟨v,h4,hv⟩,hm,hb,h.x,h.iw,hne⟩
   ·exact absurd h4 e0
 over:=fun {X j H f w t x} h hX ht hx=>(aV3 ht hx w (hT.below h.b)).mono fun e w' ⟨h1,h2⟩=>by
  obtain⟨a,b⟩:=h.later hX h2
  exact⟨h1,ht.div hx,a,b⟩
def aRe (r:Int) (l:List Nat):WSt Iv:=pvW.all (fun i j=>ptI (atN r.toNat l i j)) r.toNat r.toNat
def sO (r c:Int) (l:List Nat):Int:=if iC r c l≠0 then iC r c l else(aRe r l).e
def aDj (r c:Int) (l:List Nat):Nat:=if iC r c l≠0 then 0 else(aRe r l).p
def wO (r c:Int) (l:List Nat):List Iv:=if sO r c l=0 then(List.range r.toNat).map (aRe r l).H else []
def aX5 (E:Int) (P:Nat) (l:List Iv) (w:World) (e:Ending) (w':World):Prop:=∃u,e= .returned (.tuple #[u,.int .i64 P,.int .i64 E])∧VSl w' u l∧Below w.heap.size w w'
theorem VSl.none (w:World):VSl w (.slice none 0 0) []:=⟨_,0,rfl,Nat.le_refl _,Nat.zero_le _,fun _ h=>(by cases h),fun h=>absurd h (Nat.lt_irrefl _)⟩
theorem OwI.vsl {W:World}{B k:Nat}{v:Value}{H:Nat→Iv}(h:OwI W B v k H) (hk:k≤12) (hw:∀i,i<k→IW (H i)):VSl W v ((List.range k).map H):=by
 have hl:((List.range k).map H).length=k:=by simp
 refine PSl.mM (base:=B) (t:=37) ?_ (by rw [hl];omega) fun x hx=> ?_
 ·rw [hl]
  have e:prV wdF ((List.range k).map H)=prH H k:=by unfold prV prH wdF;rw [List.flatMap_map]
  rw [e];exact h
 ·simp only [List.mem_map,List.mem_range]at hx
  obtain⟨i,hi,rfl⟩:=hx
  exact hw i hi
theorem aBb {r c:Int}{l:List Nat}(h:iC r c l≠0):sO r c l=iC r c l∧aDj r c l=0∧wO r c l=[]:=by
 have e:sO r c l=iC r c l:=if_pos h
 exact⟨e,if_pos h,by unfold wO;rw [e,if_neg h]⟩
theorem aR2 {n:Nat}{l:List Nat}(h:iC n n l=0) (st:WSt Iv) (hs:pvW.all (fun i j=>ptI (atN n l i j)) n n=st):sO n n l=st.e∧aDj n n l=st.p∧(st.e≠0→wO n n l=[])∧(st.e=0→wO n n l=(List.range n).map st.H):=by
 subst hs
 have e:sO n n l=(pvW.all (fun i j=>ptI (atN n l i j)) n n).e:=by unfold sO aRe;rw [if_neg (fun t=>t h)];rfl
 refine⟨e,by unfold aDj aRe;rw [if_neg (fun t=>t h)];rfl,fun h1=> ?_,fun h1=> ?_⟩
 ·unfold wO;rw [e,if_neg h1]
 ·unfold wO;rw [e,if_pos h1];rfl
theorem aCk (r c:Int) (sl:Value) (l:List Nat) (w:World) (hl:FSl w sl l) (hT:dR w):
  Calls Tryz.prog 9 #[kG r c sl] w (aX5 (sO r c l) (aDj r c l) (wO r c l) w):=by
 have HM:=jH (MBx.new w r c sl)
 have HLW:=jH fun W (hb:Below w.heap.size w W)=>And.intro (hl.below hb) (hT.below hb)
 have HSQ:=jH (tY r c sl l _ (hl.below (Below.aA w (.cells #[.int .i64 r,.int .i64 c,sl] 25))))
 by_cases h0:iC r c l=0
 ·obtain⟨n,rfl,rfl,hq,-⟩:=aCw h0
  have HPS:=jH fun st hs=>aR2 h0 st hs
  rw [h0]at HSQ
  have HFA:=jH fun W (pb:Nat) (hb:Below w.heap.size w W)=>aWn (w0:=W) (pb:=pb) (mb:=w.heap.size) (HLW.out W hb).1 hq (HLW.out W hb).2
  have hn:=hq.hn
  clear h0 hq hl hT HLW
  generalize sO n n l=E at*
  generalize aDj n n l=P at*
  generalize wO n n l=R at*
  generalize (fun i j=>ptI (atN n l i j))=a at*
  obtain⟨q0,q1,q2⟩:=HM.out.m3
  go_enter Tryz.func9,Tryz.ntmps9
  go_wp2_with fail
  refine HSQ.out.mono ?_
  rintro e1 w1 ⟨rfl,hb1⟩
  replace HM:=jH (HM.out.later hb1)
  clear hb1 q0 q1 q2 HSQ
  obtain⟨q0,q1,q2⟩:=HM.out.m3
  go_upto_region 5 with fail
  clear q0 q1 q2
  have HI:Hid (PvI w1 w1.heap.size w.heap.size n sl [] 0 (fun _=>(0,0)) (w1.alloc (.cells #[.slice none 0 0] 27))):=jH ⟨⟨_,⟨aJ.new w1 _ _,OwI.nil _ _ _⟩,fun x h=>(by cases h)⟩,HM.out.m.alloc _,Below.aA w1 _,fun x h=>(by cases h),fun i h=>absurd h (Nat.not_lt_zero _),Nat.le_refl _,HM.out.m.lt⟩
  have hw2:=HFA.out w1 w1.heap.size HM.out.b
  have HB1:=jH HM.out.b
  clear HM
  obtain⟨pb,hpb⟩:∃b,w1.heap.size=b:=⟨_,rfl⟩
  rw [hpb]at HI hw2 ⊢
  generalize World.alloc w1 _=W1 at*
  clear hpb HFA
  obtain⟨q0,q1,q2,-⟩:=HI.out.m.cells3
  go_wp2_with fail
  refine(aOx hw2 _ rfl hn HI.out).mono ?_
  rintro e2 w2 ⟨lo,ll,lc,ho,hl,hc,rfl,⟨j0,H0,f0,hi0⟩,hi1⟩
  have hpz:=pvW.aVa a n n
  generalize hst:pvW.all a n n=st at*
  obtain⟨hE,hP,hL1,hL2⟩:=HPS.out _ rfl
  subst hE hP
  have HI0:=jH hi0
  have HI1:=jH hi1
  clear hi0 hi1 hst hw2 HI q0 q1 q2 HPS
  obtain⟨Ls,Hs,fs,es,ps⟩:=st
  dsimp only at HI1 hL1 hL2 hpz ⊢
  by_cases he:es=0
  ·subst he
   obtain rfl:=hL2 rfl
   have HI:=jH (HI1.out rfl)
   obtain⟨v,hpv,-⟩:=HI.out.v
   obtain⟨vo,vc,rfl⟩:=hpv.o.shape
   have p0:=hpv.p.cell 0
   have HV:=jH (hpv.o.vsl hn HI.out.iw)
   have HBE:=jH (HB1.out.trans (HI.out.b.mono HB1.out.size))
   have HPZ:Hid (ps=0):=jH (hpz rfl)
   clear hpv HI HI0 HI1 hL1 hL2
   go_wp2
   refine bodyPost_ret (v:= .tuple #[.slice vo n vc,.int .i64 0,.int .i64 0]) (by simp [results,Tryz.results9,go_sem]) rfl ⟨_,(by first|rfl|(rw [HPZ.out];rfl)),HV.out,HBE.out⟩
  ·obtain rfl:=hL1 he
   have hp:(es==0)=false:=beq_eq_false_iff_ne.2 he
   have HBE:=jH (HB1.out.trans (HI0.out.b.mono HB1.out.size))
   clear HI0 HI1 hL1 hL2 he
   go_wp2
   refine bodyPost_ret (v:= .tuple #[.slice none 0 0,.int .i64 ps,.int .i64 es]) (by simp [results,Tryz.results9,go_sem]) rfl ⟨_,rfl,VSl.none _,HBE.out⟩
 ·obtain⟨e1,e2,e3⟩:=aBb h0
  rw [e1,e2,e3]
  have hp:=beq_eq_false_iff_ne.2 h0
  generalize iC r c l=k at*
  clear hl h0 e1 e2 e3 HLW hT
  obtain⟨q0,q1,q2⟩:=HM.out.m3
  go_enter Tryz.func9,Tryz.ntmps9
  go_wp2_with fail
  refine HSQ.out.mono ?_
  rintro e1 w1 ⟨rfl,hb1⟩
  replace HM:=jH (HM.out.later hb1)
  clear hb1 q0 q1 q2 HSQ
  obtain⟨q0,q1,q2⟩:=HM.out.m3
  go_wp2
  refine bodyPost_ret (v:= .tuple #[.slice none 0 0,.int .i64 0,.int .i64 k]) (by simp [results,Tryz.results9,go_sem]) rfl ⟨_,rfl,VSl.none _,HM.out.b⟩
def wK (x:Iv):Bool:=posB x.1
def aHl (r c:Int) (l:List Nat):Bool:=(iC r c l==0)&&(sO r c l==0)&&(wO r c l).all wK
theorem aCy {l:List Iv}{k:Nat}(h:k<l.length) (ha:(l.take k).all wK=true) (hx:wK l[k]=true):(l.take (k+1)).all wK=true:=by
 rw [List.take_succ_eq_append_getElem h,List.all_append,ha];simp [hx]
theorem aGw {l:List Iv}{k:Nat}(h:k<l.length) (hx:wK l[k]=false):l.all wK=false:=List.all_eq_false.2 ⟨l[k],List.getElem_mem _,by rw [hx];simp⟩
theorem zB (r c:Int) (sl:Value) (l:List Nat) (w:World) (hl:FSl w sl l) (hT:dR w):
  Calls Tryz.prog 12 #[kG r c sl] w (Gives (.tuple #[.bool (aHl r c l),.int .i64 (iC r c l)]) w):=by
 have HM:=jH (MBx.new w r c sl)
 have HPV:=jH fun W (hb:Below w.heap.size w W)=>aCk r c sl l W (hl.below hb) (hT.below hb)
 have HSQ:=jH (tY r c sl l _ (hl.below (Below.aA w (.cells #[.int .i64 r,.int .i64 c,sl] 25))))
 have HVB:Hid (aHl r c l=((iC r c l==0)&&(sO r c l==0)&&(wO r c l).all wK)):=jH rfl
 have HPE:=jH (fun h=>aBb (r:=r) (c:=c) (l:=l) h)
 generalize aHl r c l=B at*
 generalize sO r c l=E at*
 generalize aDj r c l=P at*
 generalize wO r c l=L at*
 generalize iC r c l=k at*
 clear hl hT
 by_cases h0:k=0
 ·subst h0
  clear HPE
  obtain⟨q0,q1,q2⟩:=HM.out.m3
  go_enter Tryz.func12,Tryz.ntmps12
  go_wp2_with fail
  refine HSQ.out.mono ?_
  rintro e1 w1 ⟨rfl,hb1⟩
  replace HM:=jH (HM.out.later hb1)
  clear hb1 q0 q1 q2 HSQ
  obtain⟨q0,q1,q2⟩:=HM.out.m3
  go_wp2_with fail
  refine(HPV.out _ HM.out.b).mono ?_
  rintro e2 w2 ⟨u,rfl,hu,hb2⟩
  replace HM:=jH (HM.out.later hb2)
  have HU:=jH hu
  clear hb2 hu q0 q1 q2 HPV
  by_cases he:E=0
  ·subst he
   obtain⟨ao,cap,rfl,-,hll,-,hcc⟩:=id HU.out
   have HLL:=jH hll
   have HC:=jH hcc
   clear hcc hll
   have HB0:Hid (B=L.all wK):=jH (by rw [HVB.out];rfl)
   have HBE:=jH HM.out.b
   have HB2:=jH (Below.refl w2.heap.size w2)
   clear HVB HM
   go_wp2
   go_loopw [25] (fun i wr=>∃k:Nat,k≤L.length∧i= .int .i64 k∧Hid ((L.take k).all wK=true)∧Hid (Below w2.heap.size w2 wr)) (fun i _=>L.length-(intOf i).toNat)
   case atStart=>exact⟨0,Nat.zero_le _,rfl,jH (by simp),HB2⟩
   case round=>
    clear HB2
    obtain⟨k,hk,rfl,HA,HB2⟩:=hrel
    have hll:=HLL.out
    by_cases hlt:k<L.length
    ·obtain⟨b,off,rfl,hb,hcc⟩:=HC.out (by omega)
     have c0:=(HB2.out.cell (p:=⟨b,off+k*2,none⟩) hb).trans (hcc k hlt).1
     have c1:=(HB2.out.cell (p:=⟨b,off+k*2+1,none⟩) hb).trans (hcc k hlt).2
     unfold wdF at c0 c1
     have HY:=jH fun e=>aCy hlt HA.out e
     have HN:=jH fun e=>aGw hlt e
     clear hcc hb
     generalize L[k]=x at*
     obtain⟨p,hp⟩:∃p,wK x=p:=⟨_,rfl⟩
     rw [hp]at HY HN
     have hp2:(FloatKind.f64.format.order x.1 0==some Ordering.gt)=p:=hp
     go_upto_region 10 with fail
     have HX:Hid (IB (wr.alloc (.cells #[.float .f64 x.1,.float .f64 x.2] 37)) wr.heap.size x):=jH (aJ.new wr _ _)
     have HB3:=jH (HB2.out.alloc HB2.out.size (.cells #[.float .f64 x.1,.float .f64 x.2] 37))
     clear c0 c1 HB2
     obtain⟨tb,htb⟩:∃b,wr.heap.size=b:=⟨_,rfl⟩
     rw [htb]at HX ⊢
     generalize World.alloc wr _=W3 at*
     clear htb
     obtain⟨c0,c1⟩:=IB.two HX.out
     clear HX hp
     cases p
     ·have HR:=jH (HN.out rfl)
      go_wp2
      refine bodyPost_ret (v:= .tuple #[.bool false,.int .i64 0]) (by simp [results,Tryz.results12,go_sem]) rfl ⟨by rw [HB0.out,HR.out],HBE.out.trans (HB3.out.mono HBE.out.size)⟩
     ·have HR:=jH (HY.out rfl)
      go_wp2
      go_roundw
      case rel=>exact⟨k+1,by omega,by go_num,HR,HB3⟩
      case measure=>simp [intOf]<;>omega
    ·obtain rfl:k=L.length:=by omega
     have HR:Hid (L.all wK=true):=jH (by have:=HA.out;rwa [List.take_length]at this)
     go_wp2
     refine bodyPost_ret (v:= .tuple #[.bool true,.int .i64 0]) (by simp [results,Tryz.results12,go_sem]) rfl ⟨by rw [HB0.out,HR.out],HBE.out.trans (HB2.out.mono HBE.out.size)⟩
  ·have hp:(E==0)=false:=beq_eq_false_iff_ne.2 he
   have HB0:Hid (B=false):=jH (by rw [HVB.out,hp];rfl)
   clear HVB he
   obtain⟨ao,cap,rfl,-⟩:=id HU.out
   go_wp2
   refine bodyPost_ret (v:= .tuple #[.bool false,.int .i64 0]) (by simp [results,Tryz.results12,go_sem]) rfl ⟨by rw [HB0.out],HM.out.b⟩
 ·have hp:(k==0)=false:=beq_eq_false_iff_ne.2 h0
  have HB0:Hid (B=false):=jH (by rw [HVB.out,hp];rfl)
  clear HVB HPE h0 HPV
  obtain⟨q0,q1,q2⟩:=HM.out.m3
  go_enter Tryz.func12,Tryz.ntmps12
  go_wp2_with fail
  refine HSQ.out.mono ?_
  rintro e1 w1 ⟨rfl,hb1⟩
  replace HM:=jH (HM.out.later hb1)
  clear hb1 q0 q1 q2 HSQ
  obtain⟨q0,q1,q2⟩:=HM.out.m3
  go_wp2
  refine bodyPost_ret (v:= .tuple #[.bool false,.int .i64 k]) (by simp [results,Tryz.results12,go_sem]) rfl ⟨by rw [HB0.out],HM.out.b⟩
end
end Go.Proofs.YtfmecpembnmnkaaGreatDoor
