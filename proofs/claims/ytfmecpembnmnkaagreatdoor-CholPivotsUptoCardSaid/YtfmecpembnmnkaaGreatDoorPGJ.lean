/- Walks: dyads that may be; what is done with two of them. -/
import Derived.Test.YtfmecpembnmnkaaGreatDoorPGI
import Derived.Test.YtfmecpembnmnkaaGreatDoorPGG
namespace Go.Proofs.YtfmecpembnmnkaaGreatDoor
section
set_option maxRecDepth 100000
set_option maxHeartbeats 6400000
open Go.RowKit
theorem put_any (b:Nat) (z e:Int) (w:World) (hx:bM w b 0 z) (hl:bl z.natAbs≤68719476736) (h1: -4611686018427387904≤e) (h2:e≤1099511627776) (hT:eY w) (hTs:1<w.heap.size) (hg:z=0∨yO z e=false):
  Calls Tryz.prog 215 #[ExV b e] w (kE (hvZ z) (nrE z e) w):=by
 by_cases h0:z=0
 ·have:=aRp b z e w hx hl h1 h2 hT hTs h0
  subst h0
  rw [mQ,show nrE 0 e=0 from rfl];exact this
 ·have hn:nrE z e=hvE z e:=by unfold nrE;rw [if_neg h0]
  rw [hn]
  refine aWr b z e w hx hl h1 h2 hT hTs (jH (aJg h0)) (jH ?_)
  have:=hg.resolve_left h0
  unfold yO at this
  simp only [Bool.or_eq_false_iff,decide_eq_false_iff_not]at this
  omega
def gK (z e:Int):Prop:=Nrm z e∧bl z.natAbs≤65536∧-100000≤e∧e≤100000
def jS (w:World) (v:Value) (z e:Int):Prop:=∃sl,v=DyV (decide (z<0)) sl e∧Raw .u32 32 w sl (ln 32 z.natAbs) z.natAbs
theorem jS.below {w w':World}{v:Value}{z e:Int}(h:jS w v z e) (hb:Below w.heap.size w w'):jS w' v z e:=by
 obtain⟨sl,h1,h2⟩:=h;exact⟨sl,h1,h2.below hb⟩
theorem tX (N:Nat):dg 32 N 0%2=N%2:=by unfold dg;simp
theorem rJ (v:Value) (z e:Int) (w:World) (hv:jS w v z e) (hg:gK z e):
  Calls Tryz.prog 213 #[v] w (Gives (.bool true) w):=by
 obtain⟨sl,rfl,hr⟩:=hv
 obtain⟨hn,hbl,he1,he2⟩:=hg
 obtain⟨ao,cap,rfl,hcap,hN,-,hc⟩:=hr
 unfold DyV
 rcases hn with ⟨rfl,rfl⟩|hodd
 ·have e0:ln 32 (0:Int).natAbs=0:=eG 32
  have e1:decide ((0:Int)<0)=false:=rfl
  rw [e0,e1]
  clear hcap hN hc hbl e0 e1
  go_enter Tryz.func213,Tryz.ntmps213
  go_wp2
  go_ret
  exact⟨rfl,Below.aA _ _⟩
 ·have hl0:0<ln 32 z.natAbs:=(kL (by decide)).2 (by omega)
  have hl1:ln 32 z.natAbs≤2048:=by
   unfold ln;omega
  obtain⟨b,off,rfl,hb,-,hcc⟩:=hc hl0
  have c1:=hcc (ln 32 z.natAbs-1) (by omega)
  have c0:=hcc 0 hl0
  rw [Nat.add_zero]at c0
  clear hcc
  have ht:=aCh (s:=32) (N:=z.natAbs) (by decide) (by omega)
  have hz:=tX z.natAbs
  generalize dg 32 z.natAbs (ln 32 z.natAbs-1)=dt at*
  generalize dg 32 z.natAbs 0=d0 at*
  generalize ln 32 z.natAbs=n at*
  have hdt:((dt:Int) !=0)=true:=by simp;omega
  have hd0:((d0:Int)%2==1)=true:=by simp;omega
  have hn0:((n:Int)==0)=false:=by simp;omega
  generalize decide (z<0)=neg at*
  clear hc hN hodd hbl ht hz
  go_enter Tryz.func213,Tryz.ntmps213
  go_wp2
  go_ret
  exact⟨rfl,Below.aA _ _⟩
def aEx (f:Nat) (z e y g R RE:Int):Prop:=
 ∀(b c:Nat) (W:World),bM W b 0 z→bM W c 0 y→Calls Tryz.prog f #[ExV b e,ExV c g] W (aG8 R RE W)
theorem vH.setOther {w:World}{B t r i:Nat}{v:Value}(h:vH w B t v) (hr:r<B) (x:Value):vH (w.setCell ⟨r,i,none⟩ x) B t v:=by
 obtain⟨ao,n,cap,h1,h2⟩:=h
 refine⟨ao,n,cap,h1,fun a ha=> ?_⟩
 obtain⟨b,cs,h3,h4,h5⟩:=h2 a ha
 exact⟨b,cs,h3,h4,(Below.heap_setCell _ _ _ _ (show b≠r by omega)).trans h5⟩
theorem vH.mono {w:World}{B C t:Nat}{v:Value}(h:vH w B t v) (hc:C≤B):vH w C t v:=by
 obtain⟨ao,n,cap,h1,h2⟩:=h
 refine⟨ao,n,cap,h1,fun a ha=> ?_⟩
 obtain⟨b,cs,h3,h4,h5⟩:=h2 a ha
 exact⟨b,cs,h3,by omega,h5⟩
theorem uY {w W w':World}{r n N t:Nat}{cs:Array Value}{sl:Value}(hw:Below w.heap.size w W) (hr:Raw .u32 32 w' sl n N) (ho:vH w' W.heap.size 233 sl) (hb:Below W.heap.size W w')
  (hres:aJ w' r t cs) (hT:wL t) (hlt:r<W.heap.size) (hge:w.heap.size≤r) (x0 x1 x2:Value):
  Raw .u32 32 (((w'.setCell ⟨r,0,none⟩ x0).setCell ⟨r,1,none⟩ x1).setCell ⟨r,2,none⟩ x2) sl n N∧
   vH (((w'.setCell ⟨r,0,none⟩ x0).setCell ⟨r,1,none⟩ x1).setCell ⟨r,2,none⟩ x2) w.heap.size 233 sl∧
   Below w.heap.size w (((w'.setCell ⟨r,0,none⟩ x0).setCell ⟨r,1,none⟩ x1).setCell ⟨r,2,none⟩ x2):=
 ⟨((hr.setOther hres hT _).setOther (hres.set _) hT _).setOther ((hres.set _).set _) hT _,
  (((ho.setOther hlt _).setOther hlt _).setOther hlt _).mono hw.size,
  (((hw.trans (hb.mono hw.size)).setCell hge _).setCell hge _).setCell hge _⟩
def aDe (w0 W:World) (na nb:Bool) (sa sb:Value) (e f:Int):Prop:=
 aJ W w0.heap.size 167 #[.bool na,sa,.int .i64 e]∧aJ W (w0.heap.size+1) 167 #[.bool nb,sb,.int .i64 f]∧aJ W (w0.heap.size+1+1) 167 #[.bool false,.slice none 0 0,.int .i64 0]∧Below w0.heap.size w0 W
theorem aDe.later {w0 W V:World}{na nb:Bool}{sa sb:Value}{e f:Int}(h:aDe w0 W na nb sa sb e f) (hb:Below W.heap.size W V):aDe w0 V na nb sa sb e f:=
 ⟨h.1.below hb,h.2.1.below hb,h.2.2.1.below hb,h.2.2.2.trans (hb.mono h.2.2.2.size)⟩
theorem aDe.start (w:World) (na nb:Bool) (sa sb:Value) (e f:Int):
  aDe w (((w.alloc (.cells #[.bool na,sa,.int .i64 e] 167)).alloc (.cells #[.bool nb,sb,.int .i64 f] 167)).alloc (.cells #[.bool false,.slice none 0 0,.int .i64 0] 167)) na nb sa sb e f:=
 ⟨((aJ.new w _ _).alloc _).alloc _,(aJ.new1 w _ _ _).alloc _,aJ.new2 w _ _ _ _,below3 _ _ _ _⟩
theorem aDe.cells {w0 W:World}{na nb:Bool}{sa sb:Value}{e f:Int}(h:aDe w0 W na nb sa sb e f):
  ((W.cell? ⟨w0.heap.size,0,none⟩=some (.bool na)∧W.cell? ⟨w0.heap.size,1,none⟩=some sa)∧W.cell? ⟨w0.heap.size,2,none⟩=some (.int .i64 e))∧(W.cell? ⟨w0.heap.size+1,0,none⟩=some (.bool nb)∧W.cell? ⟨w0.heap.size+1,1,none⟩=some sb)∧W.cell? ⟨w0.heap.size+1,2,none⟩=some (.int .i64 f):=
 ⟨⟨⟨h.1.cell 0,h.1.cell 1⟩,h.1.cell 2⟩,⟨h.2.1.cell 0,h.2.1.cell 1⟩,h.2.1.cell 2⟩
theorem aN7 (va vb:Value) (z e y f R RE:Int) (w:World) (ha:jS w va z e) (hb:jS w vb y f) (hga:gK z e) (hgb:gK y f) (hdo:aEx 210 z e y f R RE)
  (hl:bl R.natAbs≤68719476736) (h1: -1099511627776≤RE) (h2:RE≤1099511627776) (hT:eY w) (hTs:1<w.heap.size) (hg:R=0∨yO R RE=false):
  Calls Tryz.prog 184 #[va,vb,.func (.func 210) #[] #[]] w (kE (hvZ R) (nrE R RE) w):=by
 have HA:=jH ha
 have HB:=jH hb
 obtain⟨sa,rfl,hra⟩:=ha
 obtain⟨sb,rfl,hrb⟩:=hb
 have HRa:=jH hra
 have HRb:=jH hrb
 have HGa:=jH hga
 have HGb:=jH hgb
 have HFa:=jH (jQ z)
 have HFb:=jH (jQ y)
 have HLa:Hid (ln 32 z.natAbs≤1073741824):=jH (Nat.le_trans (dV 32 _ (by decide)) (Nat.le_trans hga.2.1 (by decide)))
 have HLb:Hid (ln 32 y.natAbs≤1073741824):=jH (Nat.le_trans (dV 32 _ (by decide)) (Nat.le_trans hgb.2.1 (by decide)))
 have HDO:=jH hdo
 have HP:=jH (And.intro hl (And.intro hT (And.intro hTs hg)))
 obtain⟨aa,ca,rfl,-⟩:=hra
 obtain⟨ab,cb,rfl,-⟩:=hrb
 clear hga hgb hdo hl hT hTs hg
 unfold DyV at*
 generalize decide (z<0)=na at*
 generalize decide (y<0)=nb at*
 generalize z.natAbs=Na at*
 generalize y.natAbs=Nb at*
 generalize ln 32 Na=la at*
 generalize ln 32 Nb=lb at*
 have HW0:=jH (aDe.start w na nb (.slice aa la ca) (.slice ab lb cb) e f)
 go_enter Tryz.func184,Tryz.ntmps184
 go_wp2_with fail
 refine(rJ _ z e _ (HA.out.below (below3 _ _ _ _)) HGa.out).mono ?_
 rintro e1 w1 ⟨rfl,hb1⟩
 have HW1:=jH (HW0.out.later hb1)
 obtain⟨⟨⟨x0,x1⟩,x2⟩,⟨x3,x4⟩,x5⟩:=HW1.out.cells
 clear HW0 hb1
 go_wp2_with fail
 refine(rJ _ y f _ (HB.out.below HW1.out.2.2.2) HGb.out).mono ?_
 rintro e1 w2 ⟨rfl,hb2⟩
 have HW2:=jH (HW1.out.later hb2)
 clear HW1 hb2 x0 x1 x2 x3 x4 x5
 go_wp2
 refine aC (fun w':World=>((w'.cell? ⟨w.heap.size,0,none⟩=some (.bool na)∧w'.cell? ⟨w.heap.size,1,none⟩=some (.slice aa la ca))∧w'.cell? ⟨w.heap.size,2,none⟩=some (.int .i64 e))∧(w'.cell? ⟨w.heap.size+1,0,none⟩=some (.bool nb)∧w'.cell? ⟨w.heap.size+1,1,none⟩=some (.slice ab lb cb))∧w'.cell? ⟨w.heap.size+1,2,none⟩=some (.int .i64 f)) 9 (.take 0 (.take 1 (.take 3 (.run 2 (.run 4 (.run 5 (.run 6 (.take 7 (.take 8 .nil))))))))) (by kernel_rfl) (by kernel_rfl) ?_
 have HW3:=jH (HW2.out.later (aB w2))
 generalize w2.drew=W3 at HW3 ⊢
 clear HW2
 have hS:(fun w':World=>((w'.cell? ⟨w.heap.size,0,none⟩=some (.bool na)∧w'.cell? ⟨w.heap.size,1,none⟩=some (.slice aa la ca))∧w'.cell? ⟨w.heap.size,2,none⟩=some (.int .i64 e))∧(w'.cell? ⟨w.heap.size+1,0,none⟩=some (.bool nb)∧w'.cell? ⟨w.heap.size+1,1,none⟩=some (.slice ab lb cb))∧w'.cell? ⟨w.heap.size+1,2,none⟩=some (.int .i64 f)) W3:=HW3.out.cells
 repeat (refine bD (v:= ?_) rfl (fun _ _ _ h=>h) rfl (fun w' hSw=> ?_) hS ?_;rotate_left;focus (go_simp;with_reducible rfl);try simp only [Act.put,aF])
 clear hS
 refine aZ rfl fun K' hK=> ?_
 go_simp
 refine(take_any na e _ la Na _ (HRa.out.below HW3.out.2.2.2) HLa.out).mono ?_
 rintro e1 W4 ⟨p1,rfl,hp1,hi1,hb1⟩
 rw [HFa.out]at hi1
 have HW4:=jH (HW3.out.later hb1)
 have HI1:=jH hi1
 refine hK _ _ HW4.out.cells ?_
 clear hK K' hp1 hi1 hb1 HW3
 refine aZ rfl fun K' hK=> ?_
 go_simp
 refine(take_any nb f _ lb Nb _ (HRb.out.below HW4.out.2.2.2) HLb.out).mono ?_
 rintro e1 W5 ⟨p2,rfl,hp2,hi2,hb2⟩
 rw [HFb.out]at hi2
 have HW5:=jH (HW4.out.later hb2)
 have HI2:=jH hi2
 have HI3:=jH (HI1.out.below hb2)
 refine hK _ _ HW5.out.cells ?_
 clear hK K' hp2 hi2 hb2 HW4 HI1
 refine aZ rfl fun K' hK=> ?_
 go_simp
 refine(HDO.out p1 p2 _ HI3.out HI2.out).mono ?_
 rintro e1 W6 ⟨d,rfl,hi4,hb4⟩
 have HW6:=jH (HW5.out.later hb4)
 have HI4:=jH hi4
 refine hK _ _ HW6.out.cells ?_
 clear hK K' hi4 hb4 HW5 HI2 HI3
 refine aZ rfl fun K' hK=> ?_
 go_simp
 refine(put_any d R RE _ HI4.out HP.out.1 (by omega) h2 (HP.out.2.1.below HP.out.2.2.1 HW6.out.2.2.2) (Nat.lt_of_lt_of_le HP.out.2.2.1 HW6.out.2.2.2.size) HP.out.2.2.2).mono ?_
 rintro e1 W7 ⟨sl,rfl,hr7,ho7,hb7⟩
 have HW7:=jH (HW6.out.later hb7)
 have HF7:=jH (fun x0 x1 x2=>uY HW6.out.2.2.2 hr7 ho7 hb7 HW7.out.2.2.1 iY HW6.out.2.2.1.lt (by omega) x0 x1 x2)
 obtain⟨ao7,cs7,hsl,-⟩:=hr7
 have hS:(fun w':World=>((w'.cell? ⟨w.heap.size,0,none⟩=some (.bool na)∧w'.cell? ⟨w.heap.size,1,none⟩=some (.slice aa la ca))∧w'.cell? ⟨w.heap.size,2,none⟩=some (.int .i64 e))∧(w'.cell? ⟨w.heap.size+1,0,none⟩=some (.bool nb)∧w'.cell? ⟨w.heap.size+1,1,none⟩=some (.slice ab lb cb))∧w'.cell? ⟨w.heap.size+1,2,none⟩=some (.int .i64 f)) W7:=HW7.out.cells
 refine hK _ _ hS ?_
 unfold DyV at*
 rw [hsl]at HF7 ⊢
 clear hK K' ho7 hb7 hsl
 repeat (refine bD (v:= ?_) rfl (fun _ _ _ h=>h) rfl (fun w' hSw=> ?_) hS ?_;rotate_left;focus (go_simp;with_reducible rfl);try simp only [Act.put,aF])
 clear hS
 refine aN ?_
 simp only [drL]
 obtain⟨q0,q1,q2,q3,q4,q5⟩:=HW7.out.2.2.1.cells3
 have HN:Hid (kE (hvZ R) (nrE R RE) w (.returned (.tuple #[DyV (decide (hvZ R<0)) (.slice ao7 (ln 32 (hvZ R).natAbs) cs7) (nrE R RE),.int .i64 0])) (((W7.setCell ⟨w.heap.size+1+1,0,none⟩ (.bool (decide (hvZ R<0)))).setCell ⟨w.heap.size+1+1,1,none⟩ (.slice ao7 (ln 32 (hvZ R).natAbs) cs7)).setCell ⟨w.heap.size+1+1,2,none⟩ (.int .i64 (nrE R RE)))):=
  jH ⟨_,rfl,HF7.out _ _ _⟩
 clear HF7 HW7 HW6
 generalize hP:kE (hvZ R) (nrE R RE) w=P at*
 clear hP
 unfold DyV at*
 generalize decide (hvZ R<0)=nr at*
 generalize nrE R RE=er at*
 generalize ln 32 (hvZ R).natAbs=lr at*
 go_wp2
 refine bodyPost_ret (v:= .tuple #[.agg #[.bool nr,.slice ao7 lr cs7,.int .i64 er],.int .i64 0]) (by simp [results,Tryz.results184,go_sem,q0,q1,q2]) rfl HN.out
theorem aI9 (va vb:Value) (z e y f R RE:Int) (w:World) (ha:jS w va z e) (hb:jS w vb y f) (hga:gK z e) (hgb:gK y f) (hdo:aEx 185 z e y f R RE)
  (hl:bl R.natAbs≤68719476736) (h1: -1099511627776≤RE) (h2:RE≤1099511627776) (hT:eY w) (hTs:1<w.heap.size) (hg:R=0∨yO R RE=false):
  Calls Tryz.prog 184 #[va,vb,.func (.func 185) #[] #[]] w (kE (hvZ R) (nrE R RE) w):=by
 have HA:=jH ha
 have HB:=jH hb
 obtain⟨sa,rfl,hra⟩:=ha
 obtain⟨sb,rfl,hrb⟩:=hb
 have HRa:=jH hra
 have HRb:=jH hrb
 have HGa:=jH hga
 have HGb:=jH hgb
 have HFa:=jH (jQ z)
 have HFb:=jH (jQ y)
 have HLa:Hid (ln 32 z.natAbs≤1073741824):=jH (Nat.le_trans (dV 32 _ (by decide)) (Nat.le_trans hga.2.1 (by decide)))
 have HLb:Hid (ln 32 y.natAbs≤1073741824):=jH (Nat.le_trans (dV 32 _ (by decide)) (Nat.le_trans hgb.2.1 (by decide)))
 have HDO:=jH hdo
 have HP:=jH (And.intro hl (And.intro hT (And.intro hTs hg)))
 obtain⟨aa,ca,rfl,-⟩:=hra
 obtain⟨ab,cb,rfl,-⟩:=hrb
 clear hga hgb hdo hl hT hTs hg
 unfold DyV at*
 generalize decide (z<0)=na at*
 generalize decide (y<0)=nb at*
 generalize z.natAbs=Na at*
 generalize y.natAbs=Nb at*
 generalize ln 32 Na=la at*
 generalize ln 32 Nb=lb at*
 have HW0:=jH (aDe.start w na nb (.slice aa la ca) (.slice ab lb cb) e f)
 go_enter Tryz.func184,Tryz.ntmps184
 go_wp2_with fail
 refine(rJ _ z e _ (HA.out.below (below3 _ _ _ _)) HGa.out).mono ?_
 rintro e1 w1 ⟨rfl,hb1⟩
 have HW1:=jH (HW0.out.later hb1)
 obtain⟨⟨⟨x0,x1⟩,x2⟩,⟨x3,x4⟩,x5⟩:=HW1.out.cells
 clear HW0 hb1
 go_wp2_with fail
 refine(rJ _ y f _ (HB.out.below HW1.out.2.2.2) HGb.out).mono ?_
 rintro e1 w2 ⟨rfl,hb2⟩
 have HW2:=jH (HW1.out.later hb2)
 clear HW1 hb2 x0 x1 x2 x3 x4 x5
 go_wp2
 refine aC (fun w':World=>((w'.cell? ⟨w.heap.size,0,none⟩=some (.bool na)∧w'.cell? ⟨w.heap.size,1,none⟩=some (.slice aa la ca))∧w'.cell? ⟨w.heap.size,2,none⟩=some (.int .i64 e))∧(w'.cell? ⟨w.heap.size+1,0,none⟩=some (.bool nb)∧w'.cell? ⟨w.heap.size+1,1,none⟩=some (.slice ab lb cb))∧w'.cell? ⟨w.heap.size+1,2,none⟩=some (.int .i64 f)) 9 (.take 0 (.take 1 (.take 3 (.run 2 (.run 4 (.run 5 (.run 6 (.take 7 (.take 8 .nil))))))))) (by kernel_rfl) (by kernel_rfl) ?_
 have HW3:=jH (HW2.out.later (aB w2))
 generalize w2.drew=W3 at HW3 ⊢
 clear HW2
 have hS:(fun w':World=>((w'.cell? ⟨w.heap.size,0,none⟩=some (.bool na)∧w'.cell? ⟨w.heap.size,1,none⟩=some (.slice aa la ca))∧w'.cell? ⟨w.heap.size,2,none⟩=some (.int .i64 e))∧(w'.cell? ⟨w.heap.size+1,0,none⟩=some (.bool nb)∧w'.cell? ⟨w.heap.size+1,1,none⟩=some (.slice ab lb cb))∧w'.cell? ⟨w.heap.size+1,2,none⟩=some (.int .i64 f)) W3:=HW3.out.cells
 repeat (refine bD (v:= ?_) rfl (fun _ _ _ h=>h) rfl (fun w' hSw=> ?_) hS ?_;rotate_left;focus (go_simp;with_reducible rfl);try simp only [Act.put,aF])
 clear hS
 refine aZ rfl fun K' hK=> ?_
 go_simp
 refine(take_any na e _ la Na _ (HRa.out.below HW3.out.2.2.2) HLa.out).mono ?_
 rintro e1 W4 ⟨p1,rfl,hp1,hi1,hb1⟩
 rw [HFa.out]at hi1
 have HW4:=jH (HW3.out.later hb1)
 have HI1:=jH hi1
 refine hK _ _ HW4.out.cells ?_
 clear hK K' hp1 hi1 hb1 HW3
 refine aZ rfl fun K' hK=> ?_
 go_simp
 refine(take_any nb f _ lb Nb _ (HRb.out.below HW4.out.2.2.2) HLb.out).mono ?_
 rintro e1 W5 ⟨p2,rfl,hp2,hi2,hb2⟩
 rw [HFb.out]at hi2
 have HW5:=jH (HW4.out.later hb2)
 have HI2:=jH hi2
 have HI3:=jH (HI1.out.below hb2)
 refine hK _ _ HW5.out.cells ?_
 clear hK K' hp2 hi2 hb2 HW4 HI1
 refine aZ rfl fun K' hK=> ?_
 go_simp
 refine(HDO.out p1 p2 _ HI3.out HI2.out).mono ?_
 rintro e1 W6 ⟨d,rfl,hi4,hb4⟩
 have HW6:=jH (HW5.out.later hb4)
 have HI4:=jH hi4
 refine hK _ _ HW6.out.cells ?_
 clear hK K' hi4 hb4 HW5 HI2 HI3
 refine aZ rfl fun K' hK=> ?_
 go_simp
 refine(put_any d R RE _ HI4.out HP.out.1 (by omega) h2 (HP.out.2.1.below HP.out.2.2.1 HW6.out.2.2.2) (Nat.lt_of_lt_of_le HP.out.2.2.1 HW6.out.2.2.2.size) HP.out.2.2.2).mono ?_
 rintro e1 W7 ⟨sl,rfl,hr7,ho7,hb7⟩
 have HW7:=jH (HW6.out.later hb7)
 have HF7:=jH (fun x0 x1 x2=>uY HW6.out.2.2.2 hr7 ho7 hb7 HW7.out.2.2.1 iY HW6.out.2.2.1.lt (by omega) x0 x1 x2)
 obtain⟨ao7,cs7,hsl,-⟩:=hr7
 have hS:(fun w':World=>((w'.cell? ⟨w.heap.size,0,none⟩=some (.bool na)∧w'.cell? ⟨w.heap.size,1,none⟩=some (.slice aa la ca))∧w'.cell? ⟨w.heap.size,2,none⟩=some (.int .i64 e))∧(w'.cell? ⟨w.heap.size+1,0,none⟩=some (.bool nb)∧w'.cell? ⟨w.heap.size+1,1,none⟩=some (.slice ab lb cb))∧w'.cell? ⟨w.heap.size+1,2,none⟩=some (.int .i64 f)) W7:=HW7.out.cells
 refine hK _ _ hS ?_
 unfold DyV at*
 rw [hsl]at HF7 ⊢
 clear hK K' ho7 hb7 hsl
 repeat (refine bD (v:= ?_) rfl (fun _ _ _ h=>h) rfl (fun w' hSw=> ?_) hS ?_;rotate_left;focus (go_simp;with_reducible rfl);try simp only [Act.put,aF])
 clear hS
 refine aN ?_
 simp only [drL]
 obtain⟨q0,q1,q2,q3,q4,q5⟩:=HW7.out.2.2.1.cells3
 have HN:Hid (kE (hvZ R) (nrE R RE) w (.returned (.tuple #[DyV (decide (hvZ R<0)) (.slice ao7 (ln 32 (hvZ R).natAbs) cs7) (nrE R RE),.int .i64 0])) (((W7.setCell ⟨w.heap.size+1+1,0,none⟩ (.bool (decide (hvZ R<0)))).setCell ⟨w.heap.size+1+1,1,none⟩ (.slice ao7 (ln 32 (hvZ R).natAbs) cs7)).setCell ⟨w.heap.size+1+1,2,none⟩ (.int .i64 (nrE R RE)))):=
  jH ⟨_,rfl,HF7.out _ _ _⟩
 clear HF7 HW7 HW6
 generalize hP:kE (hvZ R) (nrE R RE) w=P at*
 clear hP
 unfold DyV at*
 generalize decide (hvZ R<0)=nr at*
 generalize nrE R RE=er at*
 generalize ln 32 (hvZ R).natAbs=lr at*
 go_wp2
 refine bodyPost_ret (v:= .tuple #[.agg #[.bool nr,.slice ao7 lr cs7,.int .i64 er],.int .i64 0]) (by simp [results,Tryz.results184,go_sem,q0,q1,q2]) rfl HN.out
end
section
set_option maxRecDepth 100000
set_option maxHeartbeats 6400000
open Go.RowKit
theorem aWi {z e y f:Int}(h1: -100000≤e) (h2:e≤100000) (h3: -100000≤f) (h4:f≤100000): -100000≤plE z e y f∧plE z e y f≤100000:=by
 unfold plE;split
 ·exact⟨h3,h4⟩
 ·split
  ·exact⟨h1,h2⟩
  ·omega
theorem aPb (va vb:Value) (z e y f:Int) (w:World) (ha:jS w va z e) (hb:jS w vb y f) (hga:gK z e) (hgb:gK y f) (hT:eY w) (hTs:1<w.heap.size)
  (hg:plZ z e y f=0∨yO (plZ z e y f) (plE z e y f)=false):Calls Tryz.prog 181 #[va,vb] w (kE (hvZ (plZ z e y f)) (nrE (plZ z e y f) (plE z e y f)) w):=by
 have HA:=jH ha
 have HB:=jH hb
 obtain⟨sa,rfl,hra⟩:=ha
 obtain⟨sb,rfl,hrb⟩:=hb
 obtain⟨aa,ca,rfl,-⟩:=hra
 obtain⟨ab,cb,rfl,-⟩:=hrb
 obtain⟨hnz,hbz,he1,he2⟩:=hga
 obtain⟨hny,hby,hf1,hf2⟩:=hgb
 have HGa:Hid (gK z e):=jH ⟨hnz,hbz,he1,he2⟩
 have HGb:Hid (gK y f):=jH ⟨hny,hby,hf1,hf2⟩
 have HD:Hid (aEx 210 z e y f (plZ z e y f) (plE z e y f)):=by
  refine jH fun b c W h1 h2=> ?_
  exact aCr b c z e y f W h1 h2 (Nat.le_trans hbz (by decide)) (Nat.le_trans hby (by decide)) (by omega) (by omega) (by omega) (by omega)
 have HL:Hid (bl (plZ z e y f).natAbs≤68719476736∧-1099511627776≤plE z e y f∧plE z e y f≤1099511627776):=by
  have h1:=aSn (z:=z) (e:=e) (y:=y) (f:=f)
  have h2:=aWi (z:=z) (e:=e) (y:=y) (f:=f) he1 he2 hf1 hf2
  refine jH ⟨?_,by omega,by omega⟩
  omega
 have HP:=jH (And.intro hT (And.intro hTs hg))
 clear hnz hbz he1 he2 hny hby hf1 hf2 hT hTs hg
 generalize plZ z e y f=R at*
 generalize plE z e y f=RE at*
 unfold DyV at*
 generalize decide (z<0)=na at*
 generalize decide (y<0)=nb at*
 generalize ln 32 z.natAbs=la at*
 generalize ln 32 y.natAbs=lb at*
 have HW0:=jH (aDe.start w na nb (.slice aa la ca) (.slice ab lb cb) e f)
 go_enter Tryz.func181,Tryz.ntmps181
 go_wp2_with fail
 refine(aN7 _ _ z e y f R RE _ (HA.out.below (below3 _ _ _ _)) (HB.out.below (below3 _ _ _ _)) HGa.out HGb.out HD.out HL.out.1 HL.out.2.1 HL.out.2.2 (HP.out.1.below HP.out.2.1 (below3 _ _ _ _)) (Nat.lt_of_lt_of_le HP.out.2.1 (below3 _ _ _ _).size) HP.out.2.2).mono ?_
 rintro e1 W7 ⟨sl,rfl,hr7,ho7,hb7⟩
 have HW7:=jH (HW0.out.later hb7)
 have HF7:=jH (fun x0 x1 x2=>uY HW0.out.2.2.2 hr7 ho7 hb7 HW7.out.2.2.1 iY HW0.out.2.2.1.lt (by omega) x0 x1 x2)
 obtain⟨ao7,cs7,hsl,-⟩:=hr7
 unfold DyV at*
 rw [hsl]at HF7 ⊢
 clear ho7 hb7 hsl
 obtain⟨q0,q1,q2,q3,q4,q5⟩:=HW7.out.2.2.1.cells3
 have HN:Hid (kE (hvZ R) (nrE R RE) w (.returned (.tuple #[DyV (decide (hvZ R<0)) (.slice ao7 (ln 32 (hvZ R).natAbs) cs7) (nrE R RE),.int .i64 0])) (((W7.setCell ⟨w.heap.size+1+1,0,none⟩ (.bool (decide (hvZ R<0)))).setCell ⟨w.heap.size+1+1,1,none⟩ (.slice ao7 (ln 32 (hvZ R).natAbs) cs7)).setCell ⟨w.heap.size+1+1,2,none⟩ (.int .i64 (nrE R RE)))):=
  jH ⟨_,rfl,HF7.out _ _ _⟩
 clear HF7 HW7 HW0
 generalize hP:kE (hvZ R) (nrE R RE) w=P at*
 clear hP
 unfold DyV at*
 generalize decide (hvZ R<0)=nr at*
 generalize nrE R RE=er at*
 generalize ln 32 (hvZ R).natAbs=lr at*
 go_wp2
 refine bodyPost_ret (v:= .tuple #[.agg #[.bool nr,.slice ao7 lr cs7,.int .i64 er],.int .i64 0]) (by simp [results,Tryz.results181,go_sem,q0,q1,q2]) rfl HN.out
theorem aGt (va vb:Value) (z e y f:Int) (w:World) (ha:jS w va z e) (hb:jS w vb y f) (hga:gK z e) (hgb:gK y f) (hT:eY w) (hTs:1<w.heap.size)
  (hg:z*y=0∨yO (z*y) (e+f)=false):Calls Tryz.prog 155 #[va,vb] w (kE (hvZ (z*y)) (nrE (z*y) (e+f)) w):=by
 have HA:=jH ha
 have HB:=jH hb
 obtain⟨sa,rfl,hra⟩:=ha
 obtain⟨sb,rfl,hrb⟩:=hb
 obtain⟨aa,ca,rfl,-⟩:=hra
 obtain⟨ab,cb,rfl,-⟩:=hrb
 obtain⟨hnz,hbz,he1,he2⟩:=hga
 obtain⟨hny,hby,hf1,hf2⟩:=hgb
 have HGa:Hid (gK z e):=jH ⟨hnz,hbz,he1,he2⟩
 have HGb:Hid (gK y f):=jH ⟨hny,hby,hf1,hf2⟩
 have HD:Hid (aEx 185 z e y f (z*y) (e+f)):=by
  refine jH fun b c W h1 h2=> ?_
  refine(aG2 b c z e y f W h1 h2 (Nat.le_trans hbz (by decide)) (Nat.le_trans hby (by decide)) (by omega) (by omega) (by omega) (by omega)).mono ?_
  rintro e1 w1 ⟨d,h3,-,h4,h5⟩
  exact⟨d,h3,h4,h5⟩
 have HL:Hid (bl (z*y).natAbs≤68719476736∧-1099511627776≤e+f∧e+f≤1099511627776):=by
  have h1:=aKm z.natAbs y.natAbs
  rw [←Int.natAbs_mul]at h1
  exact jH ⟨by omega,by omega,by omega⟩
 have HP:=jH (And.intro hT (And.intro hTs hg))
 clear hnz hbz he1 he2 hny hby hf1 hf2 hT hTs hg
 generalize z*y=R at*
 generalize e+f=RE at*
 unfold DyV at*
 generalize decide (z<0)=na at*
 generalize decide (y<0)=nb at*
 generalize ln 32 z.natAbs=la at*
 generalize ln 32 y.natAbs=lb at*
 have HW0:=jH (aDe.start w na nb (.slice aa la ca) (.slice ab lb cb) e f)
 go_enter Tryz.func155,Tryz.ntmps155
 go_wp2_with fail
 refine(aI9 _ _ z e y f R RE _ (HA.out.below (below3 _ _ _ _)) (HB.out.below (below3 _ _ _ _)) HGa.out HGb.out HD.out HL.out.1 HL.out.2.1 HL.out.2.2 (HP.out.1.below HP.out.2.1 (below3 _ _ _ _)) (Nat.lt_of_lt_of_le HP.out.2.1 (below3 _ _ _ _).size) HP.out.2.2).mono ?_
 rintro e1 W7 ⟨sl,rfl,hr7,ho7,hb7⟩
 have HW7:=jH (HW0.out.later hb7)
 have HF7:=jH (fun x0 x1 x2=>uY HW0.out.2.2.2 hr7 ho7 hb7 HW7.out.2.2.1 iY HW0.out.2.2.1.lt (by omega) x0 x1 x2)
 obtain⟨ao7,cs7,hsl,-⟩:=hr7
 unfold DyV at*
 rw [hsl]at HF7 ⊢
 clear ho7 hb7 hsl
 obtain⟨q0,q1,q2,q3,q4,q5⟩:=HW7.out.2.2.1.cells3
 have HN:Hid (kE (hvZ R) (nrE R RE) w (.returned (.tuple #[DyV (decide (hvZ R<0)) (.slice ao7 (ln 32 (hvZ R).natAbs) cs7) (nrE R RE),.int .i64 0])) (((W7.setCell ⟨w.heap.size+1+1,0,none⟩ (.bool (decide (hvZ R<0)))).setCell ⟨w.heap.size+1+1,1,none⟩ (.slice ao7 (ln 32 (hvZ R).natAbs) cs7)).setCell ⟨w.heap.size+1+1,2,none⟩ (.int .i64 (nrE R RE)))):=
  jH ⟨_,rfl,HF7.out _ _ _⟩
 clear HF7 HW7 HW0
 generalize hP:kE (hvZ R) (nrE R RE) w=P at*
 clear hP
 unfold DyV at*
 generalize decide (hvZ R<0)=nr at*
 generalize nrE R RE=er at*
 generalize ln 32 (hvZ R).natAbs=lr at*
 go_wp2
 refine bodyPost_ret (v:= .tuple #[.agg #[.bool nr,.slice ao7 lr cs7,.int .i64 er],.int .i64 0]) (by simp [results,Tryz.results155,go_sem,q0,q1,q2]) rfl HN.out
theorem aN0 :gK 0 0:=⟨.inl ⟨rfl,rfl⟩,by decide,by decide,by decide⟩
theorem aCd {y f:Int}(h:Nrm y f):hvZ y=y∧nrE y f=f∧hvZ (-y)= -y∧nrE (-y) f=f:=by
 rcases h with ⟨rfl,rfl⟩|h
 ·decide
 ·have h2:(-y)%2=1:=by omega
  have h3:y≠0:=by omega
  have h4: -y≠0:=by omega
  exact⟨pJ h,by unfold nrE;rw [if_neg h3];exact oN h,pJ h2,by unfold nrE;rw [if_neg h4];exact oN h2⟩
theorem aGp {y f:Int}(h:gK y f):y=0∨yO y f=false:=by
 obtain⟨h1,h2,h3,h4⟩:=h
 rcases h1 with ⟨rfl,rfl⟩|h1
 ·exact .inl rfl
 ·refine .inr ?_
  unfold yO
  rw [pJ h1,oN h1]
  simp only [Bool.or_eq_false_iff,decide_eq_false_iff_not]
  omega
end
section
set_option maxRecDepth 100000
set_option maxHeartbeats 6400000
open Go.RowKit
theorem gZ (n:Nat) (w:World):(callFunc 11 #[.float .f64 n]).run Tryz.prog w= .ok (.value (.int .u64 n)) w:=by
 rw [run_callFunc_extern Tryz.func11 (by kernel_rfl) (by kernel_rfl) (by kernel_rfl) (e:=Extern.MathFloatBits.float64bits) (by kernel_rfl)]
 rfl
theorem lM (n:Nat) (w:World):(callFunc 68 #[.int .u64 n]).run Tryz.prog w= .ok (.value (.float .f64 n)) w:=by
 rw [run_callFunc_extern Tryz.func68 (by kernel_rfl) (by kernel_rfl) (by kernel_rfl) (e:=Extern.MathFloatBits.float64frombits) (by kernel_rfl)]
 rfl
theorem aAp (b:Nat) (w:World) (h:b<18446744073709551616):
  Calls Tryz.prog 145 #[.float .f64 b] w (Gives (.int .i64 (nX b)) w):=by
 have hf:=gZ b
 have HC:=jH fun w=>wG b w h
 have HO:=jH fun w=>zU w
 unfold F64 at HC HO
 clear h
 go_enter Tryz.func145,Tryz.ntmps145
 go_wp2_with fail
 refine(HO.out _).mono ?_
 rintro e1 w1 ⟨rfl,hb1⟩
 have HB1:=jH hb1
 clear hb1
 go_wp2_with fail
 refine(HC.out _).mono ?_
 rintro e2 w2 ⟨rfl,hb2⟩
 have HB2:=jH (HB1.out.trans (hb2.mono HB1.out.size))
 clear hb2
 go_wp2
 go_ret
 exact⟨rfl,HB2.out⟩
def aK (b:Nat):Bool:=decide (eF b≠2047)
theorem aL8 (b:Nat):(aK b=true→(nX b==1)=false∧(nX b==2)=false)∧(aK b=false→(nX b==1)=true∨((nX b==1)=false∧(nX b==2)=true)):=by
 have key:eF (bF b)=2047↔eF b=2047:=by
  constructor
  ·intro h;apply Classical.byContradiction;intro h2
   rw [xG h2]at h;exact h2 h
  ·intro h;apply Classical.byContradiction;intro h2
   exact aDl h2 h
 unfold aK
 simp only [decide_eq_true_eq,decide_eq_false_iff_not,Decidable.not_not,beq_eq_false_iff_ne,beq_iff_eq]
 have hh:=(uO (eF (bF b)) (fF (bF b))).2.2.2.2
 unfold nX
 rw [key]at hh
 constructor
 ·intro h
  exact⟨fun e=>h (hh.2 (.inl e)),fun e=>h (hh.2 (.inr e))⟩
 ·intro h
  rcases hh.1 h with e|e
  ·exact .inl e
  ·exact .inr ⟨by rw [e];decide,e⟩
def FSl (w:World) (v:Value) (l:List Nat):Prop:=
 ∃ao cap,v= .slice ao l.length cap∧l.length≤cap∧l.length≤1099511627776∧(∀x∈l,x<18446744073709551616)∧
  (0<l.length→∃b off,ao=some ⟨b,off,none⟩∧b<w.heap.size∧∀i (h:i<l.length),w.cell? ⟨b,off+i,none⟩=some (.float .f64 l[i]))
theorem FSl.below {w w':World}{v:Value}{l:List Nat}(h:FSl w v l) (hb:Below w.heap.size w w'):FSl w' v l:=by
 obtain⟨ao,cap,h1,h2,h3,h4,h5⟩:=h
 refine⟨ao,cap,h1,h2,h3,h4,fun h0=> ?_⟩
 obtain⟨b,off,e,hlt,hc⟩:=h5 h0
 exact⟨b,off,e,Nat.lt_of_lt_of_le hlt hb.size,fun i hi=>(hb.cell (p:=⟨b,off+i,none⟩) hlt).trans (hc i hi)⟩
theorem wU {l:List Nat}{k:Nat}(h:k<l.length) (h1:(l.take k).all aK=true) (h2:aK l[k]=true):(l.take (k+1)).all aK=true:=by
 rw [List.take_succ_eq_append_getElem h,List.all_append,h1];simp [h2]
theorem sD (v:Value) (l:List Nat) (w:World) (hl:FSl w v l):
  Calls Tryz.prog 121 #[v] w (Gives (.bool (l.all aK)) w):=by
 obtain⟨ao,cap,rfl,hcap,hn,hx,hc⟩:=hl
 have HC:=jH hc
 have HX:=jH hx
 generalize hv:l.all aK=r
 have HV:=jH hv
 clear hc hx hv
 go_enter Tryz.func121,Tryz.ntmps121
 go_wp2
 go_loopw [8] (fun i wr=>∃k:Nat,k≤l.length∧i= .int .i64 k∧Hid ((l.take k).all aK=true)∧Hid (Below w.heap.size w wr)) (fun i _=>l.length-(intOf i).toNat)
 case atStart=>exact⟨0,Nat.zero_le _,rfl,jH (by simp),jH (Below.refl _ _)⟩
 case round=>
  obtain⟨k,hk,rfl,HA,HB⟩:=hrel
  by_cases hlt:k<l.length
  ·obtain⟨b,off,rfl,hb,hcc⟩:=HC.out (by omega)
   have hck:=(HB.out.cell (p:=⟨b,off+k,none⟩) hb).trans (hcc k hlt)
   have HXk:Hid (l[k]<18446744073709551616):=jH (HX.out _ (List.getElem_mem _))
   have HN:Hid (aK l[k]=true→(l.take (k+1)).all aK=true):=jH (wU hlt HA.out)
   have HM:Hid (aK l[k]=false→r=false):=by
    refine jH fun h=> ?_
    rw [←HV.out,List.all_eq_false]
    exact⟨l[k],List.getElem_mem _,by rw [h];simp⟩
   clear hcc
   generalize l[k]=x at*
   obtain⟨f1,f2⟩:=aL8 x
   generalize hcx:nX x=cx at*
   have HCX:=jH hcx
   clear hcx
   by_cases hf:aK x=true
   ·obtain⟨g1,g2⟩:=f1 hf
    have HF:=jH hf
    clear f1 f2 hf
    go_wp2_with fail
    refine(aAp x _ HXk.out).mono ?_
    rintro e1 w1 ⟨rfl,hb1⟩
    rw [HCX.out]
    have HB1:=jH (HB.out.trans (hb1.mono HB.out.size))
    clear hb1
    go_wp2
    go_roundw
    case rel=>exact⟨k+1,by omega,by go_num,jH (HN.out HF.out),HB1⟩
    case measure=>simp [intOf];omega
   ·have hf2:aK x=false:=by simpa using hf
    have HR:=jH (HM.out hf2)
    have ff:=f2 hf2
    clear f1 f2 hf hf2
    rcases ff with g1|⟨g1,g2⟩
    ·go_wp2_with fail
     refine(aAp x _ HXk.out).mono ?_
     rintro e1 w1 ⟨rfl,hb1⟩
     rw [HCX.out]
     have HB1:=jH (HB.out.trans (hb1.mono HB.out.size))
     clear hb1
     go_wp2
     go_ret
     exact⟨by rw [HR.out];rfl,HB1.out⟩
    ·go_wp2_with fail
     refine(aAp x _ HXk.out).mono ?_
     rintro e1 w1 ⟨rfl,hb1⟩
     rw [HCX.out]
     have HB1:=jH (HB.out.trans (hb1.mono HB.out.size))
     clear hb1
     go_wp2
     go_ret
     exact⟨by rw [HR.out];rfl,HB1.out⟩
  ·obtain rfl:k=l.length:=by omega
   have HR:Hid (r=true):=by
    refine jH ?_
    have:=HA.out
    rw [List.take_length]at this
    rw [←HV.out];exact this
   go_wp2
   go_ret
   exact⟨by rw [HR.out];rfl,HB.out⟩
theorem fP (b:Nat):aS b<9007199254740992:=by
 have:fF b<aT:=Nat.mod_lt _ (by decide)
 unfold aS aT at*;split<;>omega
theorem aBk (b:Nat):(aS b=0∧pM b=0∧pE b=0)∨(aS b≠0∧pM b%2=1∧aS b=pM b*2^Lib.ctz 64 (aS b)∧pE b=aW b+Lib.ctz 64 (aS b)):=by
 unfold pM pE
 by_cases h:aS b=0
 ·refine .inl ⟨h,?_,?_⟩
  ·rw [h];simp
  ·rw [if_pos h]
 ·refine .inr ⟨h,?_,?_,by rw [if_neg h]⟩
  all_goals
   have hlt:=fP b
   generalize aS b=m at*
   obtain⟨k,h1,h2⟩:=Lib.ctzFrom_spec 64 m (by omega) (by omega)
   have h3:Lib.ctz 64 m=Lib.ctzFrom 64 m:=by unfold Lib.ctz;rw [if_neg h]
   rw [h3]
   generalize Lib.ctzFrom 64 m=t at*
   rw [h1,Nat.mul_div_cancel_left _ (Nat.two_pow_pos t)]
  ·omega
  ·exact Nat.mul_comm _ _
def aO (b:Nat):Int:=if aQ b then-(pM b:Int)else pM b
theorem aQj (b:Nat):pM b≤aS b:=Nat.div_le_self _ _
theorem dI {b:Nat}(h:aK b=true): -1074≤aW b∧aW b≤971:=by
 unfold aK at h
 have h1:eF b<2048:=Nat.mod_lt _ (by decide)
 have h2:eF b≠2047:=of_decide_eq_true h
 unfold aW;split<;>omega
theorem aVz {m:Nat}(h0:m≠0) (h:m<9007199254740992):Lib.ctz 64 m<53:=by
 obtain⟨k,h1,h2⟩:=Lib.ctzFrom_spec 64 m (by omega) (by omega)
 have h3:Lib.ctz 64 m=Lib.ctzFrom 64 m:=by unfold Lib.ctz;rw [if_neg h0]
 rw [h3]
 generalize Lib.ctzFrom 64 m=t at*
 have h4:2^t≤m:=by rw [h1];exact Nat.le_mul_of_pos_right _ (by omega)
 have h5:2^t<2^53:=Nat.lt_of_le_of_lt h4 h
 exact(Nat.pow_lt_pow_iff_right (by decide)).1 h5
theorem gV {b:Nat}(h:aK b=true): -1074≤pE b∧pE b≤1023:=by
 have h1:=dI h
 rcases aBk b with ⟨-,-,h2⟩|⟨h0,-,-,h2⟩
 ·rw [h2];decide
 ·have:=aVz h0 (fP b)
  omega
theorem uV (b:Nat):(aO b).natAbs=pM b:=by unfold aO;split<;>omega
theorem qK {b:Nat}(h:aK b=true):gK (aO b) (pE b):=by
 have h1:=gV h
 refine⟨?_,?_,by omega,by omega⟩
 ·rcases aBk b with ⟨-,h2,h3⟩|⟨-,h2,-,-⟩
  ·exact .inl ⟨by unfold aO;rw [h2];simp,h3⟩
  ·refine .inr ?_
   unfold aO;split<;>omega
 ·rw [uV]
  refine Nat.le_trans (aY (k:=53) ?_) (by decide)
  exact Nat.lt_of_le_of_lt (aQj b) (fP b)
theorem oH {b:Nat}(h:aK b=true):bF b=b:=xG (of_decide_eq_true h)
theorem aOt (b:Nat) (w:World) (h:b<18446744073709551616) (hf:aK b=true) (hT:eY w) (hTs:1<w.heap.size):
  Calls Tryz.prog 277 #[.int .u64 b,F64] w (Gives (aB3 b) w):=by
 have hc:=oH hf
 have h2:eF b≠2047:=of_decide_eq_true hf
 unfold aB3 pM pE aS aW
 by_cases he:eF b=0
 ·by_cases h0:fF b=0
  ·have hcl:nX b=3:=by unfold nX iR;rw [hc,if_neg (by omega),if_pos he,if_pos h0]
   have:=aJy b w h hcl
   rw [hc]at this
   rw [if_pos he,if_pos h0,h0]
   simpa using this
  ·have hcl:nX b=4:=by unfold nX iR;rw [hc,if_neg (by omega),if_pos he,if_neg h0]
   have:=aMk b w h hcl hT hTs
   rw [hc]at this
   rw [if_pos he,if_neg h0,if_pos he]
   exact this
 ·have hcl:nX b=5:=by unfold nX iR;rw [hc,if_neg h2,if_neg he]
  have:=aJ8 b w h hcl hT hTs
  rw [hc]at this
  rw [if_neg he,if_neg (by unfold aT;omega),if_neg he]
  exact this
theorem aMr (b:Nat) (w:World) (h:b<18446744073709551616) (hf:aK b=true) (hT:eY w) (hTs:1<w.heap.size):
  Calls Tryz.prog 256 #[.float .f64 b] w (Gives (aB3 b) w):=by
 have hfb:=gZ b
 have HC:=jH fun W hW=>aOt b W h hf hW
 have HO:=jH fun w=>zU w
 unfold F64 aB3 at*
 have HT:=jH (And.intro hT hTs)
 clear h hf hT hTs
 generalize aQ b=s at*
 generalize pM b=m at*
 generalize pE b=pe at*
 have HW0:=jH (aJ.new w #[.bool false,.int .u64 0,.int .i64 0] 229)
 go_enter Tryz.func256,Tryz.ntmps256
 go_wp2_with fail
 refine(HO.out _).mono ?_
 rintro e1 w1 ⟨rfl,hb1⟩
 have HB1:=jH ((gJ w _).trans (hb1.mono (by simp)))
 have HW1:=jH (HW0.out.below hb1)
 clear hb1
 go_wp2_with fail
 refine(HC.out _ (HT.out.1.below HT.out.2 HB1.out) (Nat.lt_of_lt_of_le HT.out.2 HB1.out.size)).mono ?_
 rintro e2 w2 ⟨rfl,hb2⟩
 have HB2:=jH (HB1.out.trans (hb2.mono HB1.out.size))
 have HW2:=jH (HW1.out.below hb2)
 obtain⟨q0,q1,q2,q3,q4,q5⟩:=HW2.out.cells3
 clear hb2
 go_wp2
 refine bodyPost_ret (v:= .tuple #[.agg #[.bool s,.int .u64 m,.int .i64 pe],.int .i64 0]) (by simp [results,Tryz.results256,go_sem,q0,q1,q2]) rfl ⟨rfl,?_⟩
 exact((HB2.out.setCell (Nat.le_refl _) _).setCell (Nat.le_refl _) _).setCell (Nat.le_refl _) _
end
section
set_option maxRecDepth 100000
set_option maxHeartbeats 6400000
open Go.RowKit
theorem aTq (b:Nat) (w:World) (h:b<18446744073709551616) (hf:aK b=true) (hT:eY w) (hTs:1<w.heap.size):
  Calls Tryz.prog 217 #[.float .f64 b] w (aLe (aO b) (pE b) w):=by
 have HC:=jH fun W hW=>aMr b W h hf hW
 have HT:=jH (And.intro hT hTs)
 have HM:Hid (pM b<18446744073709551616∧pM b<2^53):=jH (by have:=aQj b;have:=fP b;omega)
 unfold aB3 at HC
 unfold aO
 clear h hf hT hTs
 generalize aQ b=s at*
 generalize pM b=m at*
 generalize pE b=pe at*
 have HV:Hid ((if s then-(m:Int)else m)=if s then-(m:Int)else m):=jH rfl
 have HW0:=jH (aJ.new w #[.pointer none,.int .i64 0] 199)
 have HL:Hid (ln 64 ((m:Int)).natAbs≤68719476736):=jH (by rw [Int.natAbs_natCast];exact bV (Nat.le_trans (aY HM.out.2) (by decide)))
 obtain⟨z,hz⟩:∃z,(if s then-(m:Int)else m)=z:=⟨_,rfl⟩
 rw [hz]
 have HZ:=jH hz
 clear hz HV
 go_enter Tryz.func217,Tryz.ntmps217
 go_wp2_with fail
 refine(HC.out _ (HT.out.1.below HT.out.2 (gJ _ _)) (Nat.lt_of_lt_of_le HT.out.2 (gJ _ _).size)).mono ?_
 rintro e1 w1 ⟨rfl,hb1⟩
 have HB1:=jH ((gJ w _).trans (hb1.mono (by simp)))
 have HW1:=jH (HW0.out.below hb1)
 have hlt1:=HW1.out.lt
 clear hb1
 go_wp2_with fail
 have HZ0:=jH (dB.aIr (k:= .u64) (s:=64) w1 (.cells #[.bool s,.int .u64 m,.int .i64 pe] 229) _ dO)
 refine(aDq _ 0 m _ HZ0.out.1 HM.out.1).mono ?_
 rintro e2 w2 ⟨rfl,hi2,hm2⟩
 have HB2:Hid (Below w1.heap.size w1 w2):=jH (hm2.below (below2 _ _ _) (by omega) (below2 _ _ _).size)
 have HO2:Hid (Own2 w w2 w.heap.size 199 #[.pointer none,.int .i64 0] (w1.heap.size+1) (m:Nat)):=
  jH ⟨hi2,HW1.out.below HB2.out,cZ,HB1.out.trans (HB2.out.mono HB1.out.size),by omega,Nat.le_refl _,by omega⟩
 have HP2:Hid (aJ w2 w1.heap.size 229 #[.bool s,.int .u64 m,.int .i64 pe]):=jH (((aJ.new w1 _ _).alloc _).mod hm2 (by omega))
 obtain⟨p0,p1,p2,p3,p4,p5⟩:=HP2.out.cells3
 clear hi2 hm2
 generalize w1.heap.size+1=ib at*
 cases s
 ·obtain⟨r0,r1,r2,r3⟩:=HO2.out.res.cells2
  go_wp2
  refine bodyPost_ret (v:=ExV ib pe) (by simp [results,Tryz.results217,go_sem,r0,r1,ExV]) rfl ⟨ib,rfl,HO2.out.ige,?_,(HO2.out.store2 _ _).2⟩
  have e:=HZ.out
  subst e
  exact(HO2.out.store2 _ _).1
 ·have HNe:Hid (ib≠w1.heap.size):=jH (by have h1:=HP2.out.elem;have h2:=HO2.out.int.2.1;intro e;subst e;rw [p0]at h2;simp at h2;omega)
  go_wp2_with fail
  refine(aEu ib 0 ib 0 _ _ HO2.out.int.1 HO2.out.int HL.out).mono ?_
  rintro e2 w3 ⟨rfl,hi3,hm3⟩
  have HO3:=jH (HO2.out.puts hi3 hm3)
  have HP3:=jH (HP2.out.mod hm3 HNe.out.symm)
  clear p0 p1 p2 p3 p4 p5 hi3 hm3
  obtain⟨p0,p1,p2,p3,p4,p5⟩:=HP3.out.cells3
  obtain⟨r0,r1,r2,r3⟩:=HO3.out.res.cells2
  go_wp2
  refine bodyPost_ret (v:=ExV ib pe) (by simp [results,Tryz.results217,go_sem,r0,r1,ExV]) rfl ⟨ib,rfl,HO3.out.ige,?_,(HO3.out.store2 _ _).2⟩
  have e:=HZ.out
  subst e
  exact(HO3.out.store2 _ _).1
theorem FSl.one (w:World) (b t:Nat) (h:b<18446744073709551616):FSl (w.alloc (.cells #[.float .f64 b] t)) (.slice (some ⟨w.heap.size,0,none⟩) 1 1) [b]:=by
 refine⟨_,1,rfl,Nat.le_refl _,by simp,fun x hx=> ?_,fun _=>⟨w.heap.size,0,rfl,by simp,fun i hi=> ?_⟩⟩
 ·simp only [List.mem_singleton]at hx;subst hx;exact h
 ·have:i=0:=by simp at hi;omega
  subst this
  rw [show(⟨w.heap.size,0+0,none⟩:Addr)=⟨w.heap.size,0,none⟩from rfl,World.cell?_alloc_new];rfl
theorem FSl.one1 (w:World) (o:_root_.Go.Obj) (b t:Nat) (h:b<18446744073709551616):FSl ((w.alloc o).alloc (.cells #[.float .f64 b] t)) (.slice (some ⟨w.heap.size+1,0,none⟩) 1 1) [b]:=by
 have:=FSl.one (w.alloc o) b t h
 simpa using this
theorem aTl (b:Nat) (w:World) (h:b<18446744073709551616) (hf:aK b=true) (hT:eY w) (hTs:1<w.heap.size):
  Calls Tryz.prog 186 #[.float .f64 b] w (kE (aO b) (pE b) w):=by
 have HS:=jH (FSl.one1 w (.cells #[.bool false,.slice none 0 0,.int .i64 0] 167) b 35 h)
 have HW0:=jH ((aJ.new w #[.bool false,.slice none 0 0,.int .i64 0] 167).alloc (.cells #[.float .f64 b] 35))
 have HF:Hid ([b].all aK=true):=jH (by simp [hf])
 have HC:=jH fun W hW=>aTq b W h hf hW
 have HG:=jH (qK hf)
 have HT:=jH (And.intro hT hTs)
 have hE:=gV hf
 clear h hf hT hTs
 generalize aO b=z at*
 generalize pE b=pe at*
 go_enter Tryz.func186,Tryz.ntmps186
 go_wp2_with fail
 refine(sD _ [b] _ HS.out).mono ?_
 rintro e1 w1 ⟨rfl,hb1⟩
 rw [HF.out]
 have HB1:=jH ((below2 w _ _).trans (hb1.mono (below2 w _ _).size))
 have HW1:=jH (HW0.out.below hb1)
 clear hb1
 go_wp2_with fail
 refine(HC.out _ (HT.out.1.below HT.out.2 HB1.out) (Nat.lt_of_lt_of_le HT.out.2 HB1.out.size)).mono ?_
 rintro e2 w2 ⟨p,rfl,hp,hi,hb2⟩
 have HB2:=jH (HB1.out.trans (hb2.mono HB1.out.size))
 have HW2:=jH (HW1.out.below hb2)
 have HI:=jH hi
 clear hp hi hb2
 go_wp2_with fail
 refine(put_any p z pe _ HI.out (Nat.le_trans HG.out.2.1 (by decide)) (by omega) (by omega) (HT.out.1.below HT.out.2 HB2.out) (Nat.lt_of_lt_of_le HT.out.2 HB2.out.size) (aGp HG.out)).mono ?_
 rw [(aCd HG.out.1).1,(aCd HG.out.1).2.1]
 rintro e1 W7 ⟨sl,rfl,hr7,ho7,hb7⟩
 have HW7:=jH (HW2.out.below hb7)
 have HF7:=jH (fun x0 x1 x2=>uY HB2.out hr7 ho7 hb7 HW7.out iY HW2.out.lt (Nat.le_refl _) x0 x1 x2)
 obtain⟨ao7,cs7,hsl,-⟩:=hr7
 unfold DyV at*
 rw [hsl]at HF7 ⊢
 clear ho7 hb7 hsl
 obtain⟨q0,q1,q2,q3,q4,q5⟩:=HW7.out.cells3
 have HN:Hid (kE z pe w (.returned (.tuple #[DyV (decide (z<0)) (.slice ao7 (ln 32 z.natAbs) cs7) pe,.int .i64 0])) (((W7.setCell ⟨w.heap.size,0,none⟩ (.bool (decide (z<0)))).setCell ⟨w.heap.size,1,none⟩ (.slice ao7 (ln 32 z.natAbs) cs7)).setCell ⟨w.heap.size,2,none⟩ (.int .i64 pe))):=
  jH ⟨_,rfl,HF7.out _ _ _⟩
 clear HF7 HW7 HW0
 generalize hP:kE z pe w=P at*
 clear hP
 unfold DyV at*
 generalize decide (z<0)=nr at*
 generalize ln 32 z.natAbs=lr at*
 go_wp2
 refine bodyPost_ret (v:= .tuple #[.agg #[.bool nr,.slice ao7 lr cs7,.int .i64 pe],.int .i64 0]) (by simp [results,Tryz.results186,go_sem,q0,q1,q2]) rfl HN.out
end
section
open Go.RowKit
theorem wp_append_run {P:Program}{w:World}{o:Oper}{a:Act}{K:Act→World→Prop}{Q:Exit→Act→World→Prop}(s x:Operand) (t:TypeId)
  (ho:o.op= .call {callee:= .builtin .append,args:= #[s,x],argTypes:= #[t,t]}) (v y v':Value) (w':World) (hs:a.eval s=v) (hx:a.eval x=y)
  (hrun:(Builtin.append_ #[t,t] o.type #[v,y]).run P w= .ok v' w') (h:K (a.put o.dst v') w'):o.wp P a w K Q:=by
 unfold Oper.wp
 simp [execOp,ho,resolve,invoke,builtin,hs,hx,hrun,Result.andThen]
 exact h
end
end Go.Proofs.YtfmecpembnmnkaaGreatDoor
