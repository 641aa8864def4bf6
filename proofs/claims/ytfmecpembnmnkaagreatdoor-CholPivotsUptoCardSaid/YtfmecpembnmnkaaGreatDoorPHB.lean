/- Walks: dyad.Neg, dyad.Compare of any dyads. Printed by wip/gen/rk3.py. -/
import Derived.Test.YtfmecpembnmnkaaGreatDoorPGY
import Derived.Test.YtfmecpembnmnkaaGreatDoorPGC
import Derived.Test.YtfmecpembnmnkaaGreatDoorPZRi1
import Derived.Test.YtfmecpembnmnkaaGreatDoorPGM
namespace Go.Proofs.YtfmecpembnmnkaaGreatDoor
section
set_option maxRecDepth 100000
set_option maxHeartbeats 6400000
open Go.RowKit
def wS (w0 W:World) (na nb:Bool) (sa sb:Value) (e f:Int):Prop:=
 aJ W w0.heap.size 167 #[.bool na,sa,.int .i64 e]∧aJ W (w0.heap.size+1) 167 #[.bool nb,sb,.int .i64 f]∧Below w0.heap.size w0 W
theorem wS.later {w0 W V:World}{na nb:Bool}{sa sb:Value}{e f:Int}(h:wS w0 W na nb sa sb e f) (hb:Below W.heap.size W V):wS w0 V na nb sa sb e f:=
 ⟨h.1.below hb,h.2.1.below hb,h.2.2.trans (hb.mono h.2.2.size)⟩
theorem wS.size {w0 W:World}{na nb:Bool}{sa sb:Value}{e f:Int}(h:wS w0 W na nb sa sb e f):w0.heap.size≤W.heap.size:=h.2.2.size
theorem wS.start (w:World) (na nb:Bool) (sa sb:Value) (e f:Int):
  wS w ((w.alloc (.cells #[.bool na,sa,.int .i64 e] 167)).alloc (.cells #[.bool nb,sb,.int .i64 f] 167)) na nb sa sb e f:=
 ⟨(aJ.new w _ _).alloc _,aJ.new1 w _ _ _,below2 _ _ _⟩
theorem wS.cells {w0 W:World}{na nb:Bool}{sa sb:Value}{e f:Int}(h:wS w0 W na nb sa sb e f):
  ((((W.cell? ⟨w0.heap.size,0,none⟩=some (.bool na)∧W.cell? ⟨w0.heap.size,1,none⟩=some sa)∧W.cell? ⟨w0.heap.size,2,none⟩=some (.int .i64 e))∧W.cell? ⟨w0.heap.size+1,0,none⟩=some (.bool nb))∧W.cell? ⟨w0.heap.size+1,1,none⟩=some sb)∧W.cell? ⟨w0.heap.size+1,2,none⟩=some (.int .i64 f):=
 ⟨⟨⟨⟨⟨h.1.cell 0,h.1.cell 1⟩,h.1.cell 2⟩,h.2.1.cell 0⟩,h.2.1.cell 1⟩,h.2.1.cell 2⟩
def aB4 (w0 W:World) (r s p q:Nat) (e f:Int):Prop:=
 aJ W r 199 #[.pointer (some ⟨p,0,none⟩),.int .i64 e]∧aJ W s 199 #[.pointer (some ⟨q,0,none⟩),.int .i64 f]∧Below w0.heap.size w0 W
theorem aB4.later {w0 W V:World}{r s p q:Nat}{e f:Int}(h:aB4 w0 W r s p q e f) (hb:Below W.heap.size W V):aB4 w0 V r s p q e f:=
 ⟨h.1.below hb,h.2.1.below hb,h.2.2.trans (hb.mono h.2.2.size)⟩
theorem aB4.mod {ib:Nat}{w0 W V:World}{r s p q:Nat}{e f:Int}(h:aB4 w0 W r s p q e f) (hm:Mod ib 0 W V) (h1:r<ib) (h2:s<ib) (h3:w0.heap.size≤ib):aB4 w0 V r s p q e f:=
 ⟨h.1.mod hm (by omega),h.2.1.mod hm (by omega),hm.below h.2.2 (by omega) h.2.2.size⟩
theorem aB4.cells {w0 W:World}{r s p q:Nat}{e f:Int}(h:aB4 w0 W r s p q e f):
  ((W.cell? ⟨r,0,none⟩=some (.pointer (some ⟨p,0,none⟩))∧W.cell? ⟨r,1,none⟩=some (.int .i64 e))∧W.cell? ⟨s,0,none⟩=some (.pointer (some ⟨q,0,none⟩)))∧W.cell? ⟨s,1,none⟩=some (.int .i64 f):=
 ⟨⟨⟨h.1.cell 0,h.1.cell 1⟩,h.2.1.cell 0⟩,h.2.1.cell 1⟩
theorem aB4.lt {w0 W:World}{r s p q:Nat}{e f:Int}(h:aB4 w0 W r s p q e f):(r<W.heap.size∧s<W.heap.size)∧w0.heap.size≤W.heap.size:=⟨⟨h.1.lt,h.2.1.lt⟩,h.2.2.size⟩
theorem bM.qG {w:World}{p b t:Nat}{z:Int}{x y:Value}{a:Option Addr}(h:bM w p 0 z) (hb:aJ w b t #[x,y]) (hx:x= .pointer a):p≠b:=by
 intro e;subst e
 have h1:=h.2.1
 rw [hb.cell 0,hx]at h1
 simp at h1
theorem aNv {w0 B:World}{r s p q:Nat}{z y e f:Int}(hw:Below w0.heap.size w0 B) (h4:aJ B r 199 #[.pointer none,.int .i64 0]) (h5:aJ B s 199 #[.pointer none,.int .i64 0]) (l4:w0.heap.size≤r) (l5:w0.heap.size≤s) (hne:r≠s) (hp:bM B p 0 z) (hq:bM B q 0 y):
  ∃Wb,Hid (aB4 Wb ((((B.setCell ⟨r,0,none⟩ (.pointer (some ⟨p,0,none⟩))).setCell ⟨r,1,none⟩ (.int .i64 e)).setCell ⟨s,0,none⟩ (.pointer (some ⟨q,0,none⟩))).setCell ⟨s,1,none⟩ (.int .i64 f)).drew r s p q e f)∧Hid (bM Wb p 0 z)∧Hid (bM Wb q 0 y)∧Hid (Below w0.heap.size w0 Wb):=by
 refine⟨_,jH ⟨?_,?_,Below.refl _ _⟩,jH ?_,jH ?_,jH ?_⟩
 ·exact(((((h4.set (i:=0) (.pointer (some ⟨p,0,none⟩))).set (i:=1) (.int .i64 e)).setOther hne _).setOther hne _)).below (aB _)
 ·exact(((((h5.setOther hne.symm _).setOther hne.symm _).set (i:=0) (.pointer (some ⟨q,0,none⟩))).set (i:=1) (.int .i64 f))).below (aB _)
 ·exact((((hp.setOther (i:=0) h4 cZ (hp.qG h4 rfl) _).setOther (i:=1) (h4.set (i:=0) _) cZ (hp.qG h4 rfl) _).setOther (i:=0) ((h5.setOther hne.symm _).setOther hne.symm _) cZ (hp.qG h5 rfl) _).setOther (i:=1) (((h5.setOther hne.symm _).setOther hne.symm _).set (i:=0) _) cZ (hp.qG h5 rfl) _).below (aB _)
 ·exact((((hq.setOther (i:=0) h4 cZ (hq.qG h4 rfl) _).setOther (i:=1) (h4.set (i:=0) _) cZ (hq.qG h4 rfl) _).setOther (i:=0) ((h5.setOther hne.symm _).setOther hne.symm _) cZ (hq.qG h5 rfl) _).setOther (i:=1) (((h5.setOther hne.symm _).setOther hne.symm _).set (i:=0) _) cZ (hq.qG h5 rfl) _).below (aB _)
 ·exact((((hw.setCell l4 _).setCell l4 _).setCell l5 _).setCell l5 _).drew
theorem aL0 (p:Nat) (E:Int) (W:World):(Instr.field 199 (.agg #[.pointer (some ⟨p,0,none⟩),.int .i64 E]) 0).run Tryz.prog W= .ok (.pointer (some ⟨p,0,none⟩)) W:=by
 kernel_rfl
theorem aW3 (va vb:Value) (na nb:Bool) (n m Na Nb:Nat) (e f:Int) (w:World) (ha:yH w va na n Na e) (hb:yH w vb nb m Nb f) (hm:(aFg na n Na e&&aFg nb m Nb f)=true):
  Calls Tryz.prog 263 #[va,vb] w (Gives (.tuple #[.int .i64 (plZ (sgZ na Na) e (-sgZ nb Nb) f).sign,.int .i64 0]) w):=by
 simp only [Bool.and_eq_true]at hm
 have H1:=jH hm.1
 have H2:=jH hm.2
 have HG:=jH (And.intro (ha.good hm.1).2 (hb.good hm.2).2)
 have HA0:=jH ha
 have HB0:=jH hb
 clear hm
 obtain⟨sa,rfl,hra,hna⟩:=ha
 obtain⟨sb,rfl,hrb,hnb⟩:=hb
 have HA:=jH (And.intro hra hna)
 have HB:=jH (And.intro hrb hnb)
 obtain⟨aa,ca,rfl,-⟩:=hra
 obtain⟨ab,cb,rfl,-⟩:=hrb
 clear hna hnb
 unfold DyV at*
 have HW0:=jH (wS.start w na nb (.slice aa n ca) (.slice ab m cb) e f)
 go_enter Tryz.func263,Tryz.ntmps263
 go_wp2_with fail
 refine(aIh _ na n Na e _ (HA0.out.below (below2 _ _ _))).mono ?_
 rintro e1 w1 ⟨rfl,hb1⟩
 rw [H1.out]
 have HW1:=jH (HW0.out.later hb1)
 obtain⟨⟨⟨⟨⟨x0,x1⟩,x2⟩,x3⟩,x4⟩,x5⟩:=HW1.out.cells
 clear HW0 hb1
 go_wp2_with fail
 refine(aIh _ nb m Nb f _ (HB0.out.below HW1.out.2.2)).mono ?_
 rintro e1 w2 ⟨rfl,hb2⟩
 rw [H2.out]
 have HW2:=jH (HW1.out.later hb2)
 clear HW1 hb2 x0 x1 x2 x3 x4 x5 HA0 HB0 H1 H2
 go_wp2
 refine aA0 (fun w':World=>((((w'.cell? ⟨w.heap.size,0,none⟩=some (.bool na)∧w'.cell? ⟨w.heap.size,1,none⟩=some (.slice aa n ca))∧w'.cell? ⟨w.heap.size,2,none⟩=some (.int .i64 e))∧w'.cell? ⟨w.heap.size+1,0,none⟩=some (.bool nb))∧w'.cell? ⟨w.heap.size+1,1,none⟩=some (.slice ab m cb))∧w'.cell? ⟨w.heap.size+1,2,none⟩=some (.int .i64 f)) 6 (.take 0 (.take 2 (.bag [(1,17,[]),(3,19,[]),(4,6,[]),(5,7,[])] .nil))) (by kernel_rfl) (by kernel_rfl) ?_
 have HW:=jH (HW2.out.later (aB w2))
 generalize w2.drew=W3 at HW ⊢
 clear HW2
 have hS:(fun w':World=>((((w'.cell? ⟨w.heap.size,0,none⟩=some (.bool na)∧w'.cell? ⟨w.heap.size,1,none⟩=some (.slice aa n ca))∧w'.cell? ⟨w.heap.size,2,none⟩=some (.int .i64 e))∧w'.cell? ⟨w.heap.size+1,0,none⟩=some (.bool nb))∧w'.cell? ⟨w.heap.size+1,1,none⟩=some (.slice ab m cb))∧w'.cell? ⟨w.heap.size+1,2,none⟩=some (.int .i64 f)) W3:=HW.out.cells
 repeat (refine aC4 (v:= ?_) rfl rfl (fun _ _ _ h=>h) rfl (fun w' hSw=> ?_) hS ?_;rotate_left;(focus (go_simp;with_reducible rfl));simp only [aF])
 clear hS
 have hAp:∀j∈([4,5]:List Nat),∀s w',(pick [(1,fun v w'=>∃p,v=ExV p e∧bM w' p 0 (sgZ na Na)),(3,fun v w'=>∃p,v=ExV p f∧bM w' p 0 (sgZ nb Nb)),(4,fun v w'=>∃r,v= .pointer (some ⟨r,0,none⟩)∧w.heap.size≤r∧aJ w' r 199 #[.pointer none,.int .i64 0]),(5,fun v w'=>∃r,v= .pointer (some ⟨r,0,none⟩)∧w.heap.size≤r∧aJ w' r 199 #[.pointer none,.int .i64 0])]) j (.pointer (some ⟨s,0,none⟩)) w'→s<w'.heap.size:=(gB (fun s w' h=>by obtain⟨r,hr,-,hB⟩:=(h:(fun(v:Value) (w':World)=>∃r,v= .pointer (some ⟨r,0,none⟩)∧w.heap.size≤r∧aJ w' r 199 #[.pointer none,.int .i64 0]) (.pointer (some ⟨s,0,none⟩)) w');simp only [Value.pointer.injEq,Option.some.injEq,Addr.mk.injEq,and_true]at hr;subst hr;exact hB.lt) (gB (fun s w' h=>by obtain⟨r,hr,-,hB⟩:=(h:(fun(v:Value) (w':World)=>∃r,v= .pointer (some ⟨r,0,none⟩)∧w.heap.size≤r∧aJ w' r 199 #[.pointer none,.int .i64 0]) (.pointer (some ⟨s,0,none⟩)) w');simp only [Value.pointer.injEq,Option.some.injEq,Addr.mk.injEq,and_true]at hr;subst hr;exact hB.lt) rV))
 refine aM7 [4,5] (pick [(1,fun v w'=>∃p,v=ExV p e∧bM w' p 0 (sgZ na Na)),(3,fun v w'=>∃p,v=ExV p f∧bM w' p 0 (sgZ nb Nb)),(4,fun v w'=>∃r,v= .pointer (some ⟨r,0,none⟩)∧w.heap.size≤r∧aJ w' r 199 #[.pointer none,.int .i64 0]),(5,fun v w'=>∃r,v= .pointer (some ⟨r,0,none⟩)∧w.heap.size≤r∧aJ w' r 199 #[.pointer none,.int .i64 0])]) (aAm (gB (fun v w1 w2 ⟨p1,hv1,hp1⟩ hb=>⟨p1,hv1,hp1.below hb⟩) (gB (fun v w1 w2 ⟨p3,hv3,hp3⟩ hb=>⟨p3,hv3,hp3.below hb⟩) (gB (fun v w1 w2 ⟨r4,hv4,hl4,hB4⟩ hb=>⟨r4,hv4,hl4,hB4.below hb⟩) (gB (fun v w1 w2 ⟨r5,hv5,hl5,hB5⟩ hb=>⟨r5,hv5,hl5,hB5.below hb⟩) rV))))) (fun w' hb=>(HW.out.later hb).cells) (by simp [prE]) (fun _ _ _ _ _ h=>h) (by decide) (gB (yL rfl (kH.other (by decide) ?_)) (gB (yL rfl (kH.other (by decide) ?_)) (gB (yL rfl (kH.fresh hAp ?_)) (gB (yL rfl (kH.fresh hAp ?_)) rV)))) rV ?_
 ·intro a' V hdf hin hdep hb1 K hK
  have i16:a'.tmps[16]?.getD undef= .agg #[.bool na,.slice aa n ca,.int .i64 e]:=evT (hin 16 (by decide))
  clear hin hdep hdf
  have HW:=jH (HW.out.later hb1)
  go_simp
  refine(take_any na e _ n Na _ (HA.out.1.below HW.out.2.2) HA.out.2).mono ?_
  rintro e1 V2 ⟨p,rfl,-,hi1,hb2⟩
  exact hK _ _ ⟨p,rfl,hi1⟩ hb2
 ·intro a' V hdf hin hdep hb1 K hK
  have i18:a'.tmps[18]?.getD undef= .agg #[.bool nb,.slice ab m cb,.int .i64 f]:=evT (hin 18 (by decide))
  clear hin hdep hdf
  have HW:=jH (HW.out.later hb1)
  go_simp
  refine(take_any nb f _ m Nb _ (HB.out.1.below HW.out.2.2) HB.out.2).mono ?_
  rintro e1 V2 ⟨p,rfl,-,hi1,hb2⟩
  exact hK _ _ ⟨p,rfl,hi1⟩ hb2
 ·intro a' V hdf hin hdep hb1 K hK
  clear hin hdep hdf
  have HW:=jH (HW.out.later hb1)
  go_simp
  exact hK _ ⟨_,rfl,HW.out.size,aJ.new V _ _⟩ (Below.aA _ _)
 ·intro a' V hdf hin hdep hb1 K hK
  clear hin hdep hdf
  have HW:=jH (HW.out.later hb1)
  go_simp
  exact hK _ ⟨_,rfl,HW.out.size,aJ.new V _ _⟩ (Below.aA _ _)
 intro vals B1 hb1 hR hNE
 replace HW:=jH (HW.out.later hb1)
 obtain⟨p1,hv1,hp1⟩:(fun(v:Value) (w':World)=>∃p,v=ExV p e∧bM w' p 0 (sgZ na Na)) (vals 1) B1:=hR (1,17) (by decide)
 obtain⟨p3,hv3,hp3⟩:(fun(v:Value) (w':World)=>∃p,v=ExV p f∧bM w' p 0 (sgZ nb Nb)) (vals 3) B1:=hR (3,19) (by decide)
 obtain⟨r4,hv4,hl4,hB4⟩:(fun(v:Value) (w':World)=>∃r,v= .pointer (some ⟨r,0,none⟩)∧w.heap.size≤r∧aJ w' r 199 #[.pointer none,.int .i64 0]) (vals 4) B1:=hR (4,6) (by decide)
 obtain⟨r5,hv5,hl5,hB5⟩:(fun(v:Value) (w':World)=>∃r,v= .pointer (some ⟨r,0,none⟩)∧w.heap.size≤r∧aJ w' r 199 #[.pointer none,.int .i64 0]) (vals 5) B1:=hR (5,7) (by decide)
 have hne4_5:=hNE (4,6) (by decide) (5,7) (by decide) (by decide) (by decide) (by decide) r4 r5 hv4 hv5
 clear hNE hAp
 clear hb1 hR
 simp only [prE,List.flatMap_cons,List.flatMap_nil,List.cons_append,List.nil_append,List.append_nil,mY,List.setIfInBounds_toArray,List.set_cons_zero,List.set_cons_succ,hv1,hv3,hv4,hv5]
 clear vals hv1 hv3 hv4 hv5
 refine aGk ?_
 simp only [drL]
 obtain⟨Wb,HW4,HX,HY,HBw⟩:=aNv (e:=e) (f:=f) HW.out.2.2 hB4 hB5 hl4 hl5 hne4_5 hp1 hp3
 obtain⟨q40,q41,q42,q43⟩:=hB4.cells2
 obtain⟨q50,q51,q52,q53⟩:=hB5.cells2
 have hne54:r5≠r4:=hne4_5.symm
 clear HW HA HB hB4 hB5 hp1 hp3 hl4 hl5
 unfold ExV
 go_wp2
 refine aC (fun w':World=>((w'.cell? ⟨r4,0,none⟩=some (.pointer (some ⟨p1,0,none⟩))∧w'.cell? ⟨r4,1,none⟩=some (.int .i64 e))∧w'.cell? ⟨r5,0,none⟩=some (.pointer (some ⟨p3,0,none⟩)))∧w'.cell? ⟨r5,1,none⟩=some (.int .i64 f)) 8 (.take 0 (.take 2 (.take 3 (.take 5 (.take 6 (.run 1 (.run 4 (.take 7 .nil)))))))) (by kernel_rfl) (by kernel_rfl) ?_
 generalize hWx:((((B1.setCell ⟨r4,0,none⟩ (.pointer (some ⟨p1,0,none⟩))).setCell ⟨r4,1,none⟩ (.int .i64 e)).setCell ⟨r5,0,none⟩ (.pointer (some ⟨p3,0,none⟩))).setCell ⟨r5,1,none⟩ (.int .i64 f)).drew=W4 at HW4 ⊢
 have HW:=HW4
 clear HW4 hWx q40 q41 q42 q43 q50 q51 q52 q53 hne4_5 hne54
 have hS:(fun w':World=>((w'.cell? ⟨r4,0,none⟩=some (.pointer (some ⟨p1,0,none⟩))∧w'.cell? ⟨r4,1,none⟩=some (.int .i64 e))∧w'.cell? ⟨r5,0,none⟩=some (.pointer (some ⟨p3,0,none⟩)))∧w'.cell? ⟨r5,1,none⟩=some (.int .i64 f)) W4:=HW.out.cells
 repeat (refine tkL (v:= ?_) rfl rfl rfl (fun w' hSw=> ?_) hS ?_;rotate_left;(focus (go_simp;with_reducible rfl));simp only [aF])
 clear hS
 refine aI rfl rfl fun K' hK=> ?_
 go_simp
 have hb1:=Below.aA W4 (.cells #[.bool false,.slice none 0 0] 220)
 have HZ:=jH (dB.zero (k:= .u64) (s:=64) W4 _ dO)
 have iblt:=HW.out.lt
 obtain⟨ib,hib⟩:∃i,W4.heap.size=i:=⟨_,rfl⟩
 obtain⟨V1,hV1⟩:∃v,W4.alloc (.cells #[.bool false,.slice none 0 0] 220)=v:=⟨_,rfl⟩
 rw [hV1]at hb1 HZ
 rw [hib]at HZ iblt
 rw [hV1]
 try rw [hib]
 clear hV1 hib
 replace HW:=jH (HW.out.later hb1)
 refine hK _ _ HW.out.cells ?_
 clear hK K' hb1
 refine aI rfl rfl fun K' hK=> ?_
 go_simp
 refine(aEu ib 0 _ 0 (sgZ nb Nb) _ HZ.out.1 (HY.out.below HW.out.2.2) (bV (Nat.le_trans HG.out.2.2.1 (by decide)))).mono ?_
 rintro e1 V2 ⟨rfl,hi1,hm1⟩
 have HI:=jH hi1
 clear hi1
 replace HW:=jH (HW.out.mod hm1 iblt.1.1 iblt.1.2 iblt.2)
 refine hK _ _ HW.out.cells ?_
 clear hK K' hm1
 have hS:(fun w':World=>((w'.cell? ⟨r4,0,none⟩=some (.pointer (some ⟨p1,0,none⟩))∧w'.cell? ⟨r4,1,none⟩=some (.int .i64 e))∧w'.cell? ⟨r5,0,none⟩=some (.pointer (some ⟨p3,0,none⟩)))∧w'.cell? ⟨r5,1,none⟩=some (.int .i64 f)) V2:=HW.out.cells
 repeat (refine tkL (v:= ?_) rfl rfl rfl (fun w' hSw=> ?_) hS ?_;rotate_left;(focus (go_simp;with_reducible rfl));simp only [aF])
 clear hS
 refine aN ?_
 simp only [drL]
 have HFD:=jH (fun W=>aL0 p1 e W)
 have hB:bl (sgZ na Na).natAbs≤34359738368:=Nat.le_trans HG.out.1.2.1 (by decide)
 have hC:bl (-sgZ nb Nb).natAbs≤34359738368:=by rw [Int.natAbs_neg];exact Nat.le_trans HG.out.2.2.1 (by decide)
 have he:=HG.out.1.2.2
 have hf:=HG.out.2.2.2
 have HP:=jH (aCr p1 ib (sgZ na Na) e (-sgZ nb Nb) f _ (HX.out.below HW.out.2.2) HI.out hB hC (by omega) (by omega) (by omega) (by omega))
 have HB:=jH (fun(V:World) (h:Below V2.heap.size V2 V)=>(HBw.out.trans (HW.out.2.2.mono HBw.out.size)).trans (h.mono (Nat.le_trans HBw.out.size HW.out.2.2.size)))
 clear HX HY HI HG hB hC he hf HW HFD
 generalize plZ (sgZ na Na) e (-sgZ nb Nb) f=R at*
 generalize plE (sgZ na Na) e (-sgZ nb Nb) f=RE at*
 unfold ExV at HP
 go_wp2_with fail
 refine HP.out.mono ?_
 rintro e1 V3 ⟨d,rfl,hi4,hb4⟩
 have HD:=jH hi4
 replace HB:=jH (HB.out _ hb4)
 clear hi4 hb4 HP
 have hfd:=fun W=>aL0 d RE W
 unfold ExV
 go_wp2_with fail
 refine(cO d 0 R _ HD.out).mono ?_
 rintro e2 w3 ⟨rfl,rfl⟩
 go_wp2
 refine bodyPost_ret (v:= .tuple #[.int .i64 R.sign,.int .i64 0]) (by simp [results,Tryz.results263,go_sem]) rfl ⟨rfl,HB.out⟩
end
section
open Go.RowKit
def aUr (W:World) (B:Nat):Prop:=B≤W.heap.size
theorem aUr.below {W V:World}{B:Nat}(h:aUr W B) (hb:Below W.heap.size W V):aUr V B:=Nat.le_trans h hb.size
end
section
open Go.RowKit
section
variable {P : Program} {L : List Oper} {Q : Exit → Act → World → Prop} {S : World → Prop} {md : Region.Mode}
theorem aKe {i k:Nat}{o:Oper}{K:Act→World→Prop}{pl:Pl}{a:Act}{w:World}(ho:L[i]? =some o) (hd:o.dst=some k)
  (hQ:∀c a' w',Q (.panic c) (a'.put o.dst undef) w'→Q (.panic c) a' w')
  (hw:Region.wanted o (yielded L.toArray a.tmps)=false) (hS:S w)
  (h:kJ P L.toArray Q S K pl {tmps:=a.tmps.setIfInBounds k undef,defers:=a.defers} w):kJ P L.toArray Q S K (.take i pl) a w:=by
 refine⟨o,undef,aE3 ho,hQ,.inr ⟨hw,rfl⟩,hS,?_⟩
 rw [hd];exact h
theorem sS {i k:Nat}{o:Oper}{K:Act→World→Prop}{pl:Pl}{a:Act}{w:World}(ho:L[i]? =some o) (hd:o.dst=some k)
  (hw:Region.wanted o (yielded L.toArray a.tmps)=false) (hS:S w)
  (h:kJ P L.toArray Q S K pl {tmps:=a.tmps.setIfInBounds k undef,defers:=a.defers} w):kJ P L.toArray Q S K (.run i pl) a w:=
 aZ (aE3 ho) fun K' hK=>by
  rw [hw]
  refine hK _ _ hS ?_
  rw [hd];exact h
end
theorem skL {P:Program}{Q:Exit→Act→World→Prop}{S:World→Prop}{L:List Oper}{i k:Nat}{o:Oper}{K:Act→World→Prop}{pl:Pl}{a:Act}{w:World}(ho:L[i]? =some o) (hd:o.dst=some k) (hw:Region.wanted o (yielded L.toArray a.tmps)=false) (hS:S w)
 (h:kJ P L.toArray Q S K pl {tmps:=a.tmps.setIfInBounds k undef,defers:=a.defers} w) (hQ:∀c a' w',Q (.panic c) (a'.put o.dst undef) w'→Q (.panic c) a' w':=by exact fun _ _ _ h=>h):kJ P L.toArray Q S K (.take i pl) a w:=aKe ho hd hQ hw hS h
end
end Go.Proofs.YtfmecpembnmnkaaGreatDoor
