/- Walks: an exact number written as a dyad. Printed by wip/gen/dy5.py. -/
import Derived.Test.YtfmecpembnmnkaaGreatDoorPGH
namespace Go.Proofs.YtfmecpembnmnkaaGreatDoor
set_option maxRecDepth 100000
set_option maxHeartbeats 6400000
open Go.RowKit
def DyV (neg:Bool) (sl:Value) (e:Int):Value:= .agg #[.bool neg,sl,.int .i64 e]
def vH (w:World) (B:Nat) (t:Nat) (v:Value):Prop:=
 ∃ao n cap,v= .slice ao n cap∧∀a,ao=some a→∃b cs,a=⟨b,0,none⟩∧B≤b∧w.heap[b]? =some (.cells cs t (0,0))
def nK (N k:Nat):List Value:=(List.range k).map fun i=>Value.int .u32 (dg 32 N i:Nat)
theorem aAy (N k:Nat):(nK N k).length=k:=by unfold nK;simp
theorem aAl (N k:Nat):nK N (k+1)=nK N k++[Value.int .u32 (dg 32 N k:Nat)]:=by unfold nK;simp [List.range_succ]
theorem aCi {N k i:Nat}(h:i<k):(nK N k)[i]? =some (Value.int .u32 (dg 32 N i:Nat)):=by
 unfold nK;rw [List.getElem?_map,List.getElem?_range h];rfl
theorem vH.mM {w:World}{base n t:Nat}{v:Value}{xs:List Value}(h:w.ownsRow base t 1 v n xs):vH w base t v:=by
 obtain⟨-,⟨rfl,h0⟩|⟨g,cap,cur,rfl,hg,hh,-⟩⟩:=h
 ·exact⟨none,0,0,rfl,fun a ha=>by cases ha⟩
 ·exact⟨_,n,cap,rfl,fun a ha=>⟨g,cur,by simpa using ha.symm,hg,hh⟩⟩
theorem aF2 {b o:Nat}{w w':World}(h:Mod b o w w'):w.grownBy w' (some b):=
 ⟨h.os,h.tape,h.output,h.size,fun k hk hn=>h.block k hk (fun e=>hn (by rw [e]))⟩
theorem oP {w w':World}(h:Below w.heap.size w w'):w.grownBy w' none:=
 ⟨h.os,h.tape,h.output,h.size,fun k hk _=>h.block k hk⟩
theorem nR (w:World) (b i:Nat) (v:Value):w.grownBy (w.setCell ⟨b,i,none⟩ v) (some b):=
 ⟨rfl,rfl,rfl,by simp,fun k hk hn=>Below.heap_setCell _ _ _ _ (fun e=>hn (by rw [e]))⟩
theorem zH {w:World}{base e size n:Nat}{v:Value}{xs:List Value}(h:w.ownsRow base e size v n xs) {b:Nat}(hb:b<base):v.ownBlock=none∨v.ownBlock≠some b:=by
 refine .inr fun e=> ?_
 have:=(h.lt b e).1
 omega
theorem Raw.grown {k:IntKind}{s:Nat}{w w':World}{v:Value}{n N t:Nat}{row:Option Nat}(h:Raw k s w v n N) (hg:w.grownBy w' row) (ht:∀g,row=some g→Elem w g t) (hne:t≠ety k):Raw k s w' v n N:=by
 obtain⟨ao,cap,hv,hcap,hN,hn,hc⟩:=h
 refine⟨ao,cap,hv,hcap,hN,hn,fun h0=> ?_⟩
 obtain⟨c,off,e,hlt,he,hc⟩:=hc h0
 have hb:=hg.block c hlt (fun e=>hne ((ht c e.symm).unique he))
 exact⟨c,off,e,Nat.lt_of_lt_of_le hlt hg.size,he.of_block hb,fun i hi=>(World.cell?_of_block (w:=w) (a:=⟨c,off+i,none⟩) hb).trans (hc i hi)⟩
theorem dB.grown {k:IntKind}{s:Nat}{w w':World}{c p t:Nat}{z:Int}{row:Option Nat}(h:dB k s w c p z) (hg:w.grownBy w' row) (ht:∀g,row=some g→Elem w g t) (hne:t≠ety k) (hc:some c≠row):dB k s w' c p z:=by
 obtain⟨⟨h1,⟨u,h2,h2'⟩,h3,h4,⟨s0,h5⟩,a,n,m,h6⟩,h7,v,h8,h9⟩:=h
 have hb:=hg.block c h1 hc
 refine⟨⟨Nat.lt_of_lt_of_le h1 hg.size,⟨u,h2.of_block hb,h2'⟩,(World.frozen?_of_block (a:=⟨c,p,none⟩) hb).trans h3,(World.frozen?_of_block (a:=⟨c,p+1,none⟩) hb).trans h4,⟨s0,(World.cell?_of_block (a:=⟨c,p,none⟩) hb).trans h5⟩,a,n,m,(World.cell?_of_block (a:=⟨c,p+1,none⟩) hb).trans h6⟩,
  (World.cell?_of_block (a:=⟨c,p,none⟩) hb).trans h7,v,(World.cell?_of_block (a:=⟨c,p+1,none⟩) hb).trans h8,h9.grown hg ht hne⟩
theorem aD7 {w:World}{base e size n:Nat}{v:Value}{xs:List Value}(h:w.ownsRow base e size v n xs):∀g,v.ownBlock=some g→Elem w g e:=by
 intro g hg
 obtain⟨-,⟨rfl,h0⟩|⟨g',cap,cur,rfl,-,hh,-⟩⟩:=h
 ·simp [Value.ownBlock]at hg
 ·simp only [Value.ownBlock,Option.some.injEq]at hg
  subst hg;exact⟨cur,_,hh⟩
structure kM (w0 wr:World) (neg:Bool) (e:Int) (N M k:Nat) (v:Value) (db mb kb B:Nat):Prop where
 d:aJ wr db 167 #[.bool neg,v,.int .i64 e]
 res:aJ wr (w0.heap.size+1) 167 #[.bool false,.slice none 0 0,.int .i64 0]
 m:bM wr mb 0 (M:Nat)
 mask:bM wr kb 0 4294967295
 own:wr.ownsRow B 233 1 v k (nK N k)
 below:Below w0.heap.size w0 wr
 hB:B≤wr.heap.size
 hd:w0.heap.size+1<db∧db<B
 hm:w0.heap.size+1<mb∧mb<B∧mb≠db
 hk:w0.heap.size+1<kb∧kb<B∧kb≠db∧kb≠mb
theorem kM.later {w0 wr w2:World}{neg:Bool}{e:Int}{N M k:Nat}{v:Value}{db mb kb B:Nat}(h:kM w0 wr neg e N M k v db mb kb B) (hb:Below wr.heap.size wr w2):kM w0 w2 neg e N M k v db mb kb B:=
 ⟨h.d.below hb,h.res.below hb,h.m.below hb,h.mask.below hb,h.own.kept (oP hb) (by cases v.ownBlock<;>simp),h.below.trans (hb.mono h.below.size),Nat.le_trans h.hB hb.size,h.hd,h.hm,h.hk⟩
theorem kM.push {w0 wr w2:World}{neg:Bool}{e:Int}{N M k:Nat}{v v':Value}{db mb kb B:Nat}(h:kM w0 wr neg e N M k v db mb kb B) (hg:wr.grownBy w2 v.ownBlock) (ho:w2.ownsRow B 233 1 v' (k+1) (nK N (k+1))):
  kM w0 (w2.setCell ⟨db,1,none⟩ v') neg e N M (k+1) v' db mb kb B:=by
 have hd:=h.hd
 have hm:=h.hm
 have hk:=h.hk
 have hne:∀{b:Nat},b<B→some b≠v.ownBlock:=fun hb e=>by have:=(h.own.lt _ e.symm).1;omega
 have h0:=h.d.of_block (hg.block db (Nat.lt_of_lt_of_le hd.2 h.hB) (hne hd.2))
 have h1:=h.res.of_block (hg.block _ (by have:=h.hB;omega) (hne (by omega)))
 have h2:=h.m.grown hg (aD7 h.own) (by decide) (hne hm.2.1)
 have h3:=h.mask.grown hg (aD7 h.own) (by decide) (hne hk.2.1)
 refine⟨h0.set _,h1.setOther (by omega) _,h2.setOther h0 iY hm.2.2 _,h3.setOther h0 iY hk.2.2.1 _,ho.kept (nR _ _ _ _) (zH ho hd.2),?_,?_,hd,hm,hk⟩
 ·exact(h.below.grown hg h.below.size (fun k hk=>by have:=(h.own.lt k hk).1;omega)).setCell (show w0.heap.size≤db by omega) _
 ·have:=h.hB;have:=hg.size;simp;omega
theorem kM.rsh {w0 wr w2:World}{neg:Bool}{e:Int}{N M M' k:Nat}{v:Value}{db mb kb B:Nat}(h:kM w0 wr neg e N M k v db mb kb B) (hi:bM w2 mb 0 (M':Nat)) (hm2:Mod mb 0 wr w2):kM w0 w2 neg e N M' k v db mb kb B:=by
 have hd:=h.hd
 have hm:=h.hm
 have hk:=h.hk
 obtain⟨t,ht,hT⟩:=h.m.1.2.1
 exact⟨h.d.mod hm2 hm.2.2.symm,h.res.mod hm2 (by omega),hi,h.mask.mod hm2 (.inl hk.2.2.2) ⟨t,ht,hT⟩,h.own.kept (aF2 hm2) (zH h.own hm.2.1),hm2.below h.below (by omega) h.below.size,Nat.le_trans h.hB hm2.size,hd,hm,hk⟩
theorem aGr (a:Nat):((a:Int).natAbs&&&(4294967295:Int).natAbs:Nat)=a%2^32:=by
 rw [Int.natAbs_natCast,show(4294967295:Int).natAbs=2^32-1 from rfl,Nat.and_two_pow_sub_one_eq_mod]
theorem aEf {a:Nat}(h:a<2^64):dg 64 ((a:Int).natAbs) 0=a:=by
 rw [Int.natAbs_natCast];unfold dg;simp [Nat.mod_eq_of_lt h]
theorem aVf (N k:Nat):((N/2^(32*k):Nat):Int)/2^32=((N/2^(32*(k+1)):Nat):Int):=by
 rw [Nat.mul_succ,Nat.pow_add,←Nat.div_div_eq_div_mul];simp
theorem yY {N k:Nat}(h:N/2^(32*k)≠0):k<ln 32 N:=by
 rcases Nat.lt_or_ge k (ln 32 N)with h1|h1
 ·exact h1
 ·exact absurd (Nat.div_eq_of_lt ((dL (by decide)).1 h1)) h
theorem zI {N k:Nat}(hk:k≤ln 32 N) (h:N/2^(32*k)=0):k=ln 32 N:=by
 have:N<2^(32*k):=by
  rcases Nat.lt_or_ge N (2^(32*k))with h1|h1
  ·exact h1
  ·have:=Nat.div_pos h1 (Nat.two_pow_pos _);omega
 have:=(dL (s:=32) (by decide)).2 this
 omega
def yO (z e:Int):Bool:=decide (65536<bl (hvZ z).natAbs)||decide (100000<hvE z e)||decide (hvE z e< -100000)
def kE (z e:Int) (w:World) (en:Ending) (w':World):Prop:=
 ∃sl,en= .returned (.tuple #[DyV (decide (z<0)) sl e,.int .i64 0])∧Raw .u32 32 w' sl (ln 32 z.natAbs) z.natAbs∧vH w' w.heap.size 233 sl∧Below w.heap.size w w'
def xR (w0 W:World) (p:Nat) (z e:Int):Prop:=
 aJ W w0.heap.size 199 #[.pointer (some ⟨p,0,none⟩),.int .i64 e]∧aJ W (w0.heap.size+1) 167 #[.bool false,.slice none 0 0,.int .i64 0]∧bM W p 0 z∧Below w0.heap.size w0 W∧w0.heap.size+1<p
theorem xR.cells {w0 W:World}{p:Nat}{z e:Int}(h:xR w0 W p z e):W.cell? ⟨w0.heap.size,0,none⟩=some (.pointer (some ⟨p,0,none⟩))∧W.cell? ⟨w0.heap.size,1,none⟩=some (.int .i64 e):=⟨h.1.cell 0,h.1.cell 1⟩
theorem xR.later {w0 W V:World}{p:Nat}{z e:Int}(h:xR w0 W p z e) (hb:Below W.heap.size W V):xR w0 V p z e:=
 ⟨h.1.below hb,h.2.1.below hb,h.2.2.1.below hb,h.2.2.2.1.trans (hb.mono h.2.2.2.1.size),h.2.2.2.2⟩
theorem aRp (b:Nat) (z e:Int) (w:World) (hx:bM w b 0 z) (hl:bl z.natAbs≤68719476736) (h1: -4611686018427387904≤e) (h2:e≤1099511627776) (hT:eY w) (hTs:1<w.heap.size) (h0:z=0):
  Calls Tryz.prog 215 #[ExV b e] w (kE 0 0 w):=by
 have HX:=jH hx
 have HT:=jH hT
 have HTs:=jH hTs
 have HL:=jH hl
 have H0:=jH h0
 clear h0
 clear hx hT hTs hl
 unfold ExV
 go_enter Tryz.func215,Tryz.ntmps215
 go_wp2_with fail
 refine(aD5 b z e _ (HX.out.below (below2 _ _ _)) HL.out h1 h2 (HT.out.below HTs.out (below2 _ _ _)) (Nat.lt_of_lt_of_le HTs.out (below2 _ _ _).size)).mono ?_
 rintro e1 W ⟨p,rfl,hp,hi,hb⟩
 have HP:Hid (xR w ((W.setCell ⟨w.heap.size,0,none⟩ (.pointer (some ⟨p,0,none⟩))).setCell ⟨w.heap.size,1,none⟩ (.int .i64 (hvE z e))) p (hvZ z) (hvE z e)):=by
  have k1:aJ ((w.alloc (.cells #[.pointer (some ⟨b,0,none⟩),.int .i64 e] 199)).alloc (.cells #[.bool false,.slice none 0 0,.int .i64 0] 167)) w.heap.size 199 #[.pointer (some ⟨b,0,none⟩),.int .i64 e]:=(aJ.new w _ _).alloc _
  have k2:=aJ.new1 w (.cells #[.pointer (some ⟨b,0,none⟩),.int .i64 e] 199) #[.bool false,.slice none 0 0,.int .i64 0] 167
  have k3:=k1.below hb
  have k4:=k2.below hb
  have hpp:w.heap.size+1<p:=by simp at hp;omega
  refine jH ⟨(k3.set _).set _,(k4.setOther (by omega) _).setOther (by omega) _,(hi.setOther k3 cZ (by omega) _).setOther (k3.set _) cZ (by omega) _,?_,hpp⟩
  exact(((below2 w _ _).trans (hb.mono (by simp;omega))).setCell (Nat.le_refl _) _).setCell (Nat.le_refl _) _
 have HW:Hid (aJ W w.heap.size 199 #[.pointer (some ⟨b,0,none⟩),.int .i64 e]):=jH (aJ.below ((aJ.new w _ _).alloc _) hb)
 obtain⟨x0,x1,x2,x3⟩:=HW.out.cells2
 clear hp hi hb
 generalize hz':hvZ z=z' at*
 generalize he':hvE z e=e' at*
 have HZE:=jH (And.intro hz' he')
 clear hz' he'
 unfold ExV
 go_wp2_with fail
 generalize hV:(W.setCell ⟨w.heap.size,0,none⟩ (.pointer (some ⟨p,0,none⟩))).setCell ⟨w.heap.size,1,none⟩ (.int .i64 e')=V at HP ⊢
 clear hV x0 x1 x2 x3 HW
 obtain⟨x0,x1,x2,x3⟩:=HP.out.1.cells2
 obtain⟨q0,q1,q2,q3,q4,q5⟩:=HP.out.2.1.cells3
 refine(cO p 0 z' _ HP.out.2.2.1).mono ?_
 rintro e2 w2 ⟨rfl,rfl⟩
 obtain rfl:z'=0:=by rw [←HZE.out.1,H0.out];exact mQ
 have HS0:Hid ((0:Int).sign=0):=jH rfl
 rw [HS0.out]
 go_wp2
 refine bodyPost_ret (v:= .tuple #[DyV false (.slice none 0 0) 0,.int .i64 0]) (by simp [results,Tryz.results215,go_sem,DyV,q0,q1,q2]) rfl ⟨_,rfl,by rw [show(0:Int).natAbs=0 from rfl,eG];exact Raw.nil _ _ _,⟨none,0,0,rfl,fun a ha=>by cases ha⟩,?_⟩
 exact((HP.out.2.2.2.1.setCell (by simp) _).setCell (by simp) _).setCell (by simp) _
theorem aVg {z:Int}(h:z≠0):(z.sign==0)=false:=by have:=sV h;simpa using this
theorem aPk (z:Int):decide (z.sign<0)=decide (z<0):=by rw [decide_eq_decide];exact Int.sign_neg_iff
theorem iM {w:World}{base t n:Nat}{v:Value}{xs:List Value}(h:w.ownsRow base t 1 v n xs):∃ao cap,v= .slice ao n cap:=by
 obtain⟨-,⟨rfl,h0⟩|⟨g,cap,cur,rfl,-⟩⟩:=h
 ·exact⟨none,0,by rw [h0]⟩
 ·exact⟨_,cap,rfl⟩
theorem Tryz.info233 :(Tryz.prog.info? 233).map (fun i=>(i.zero,i.size,i.bytes))=some (some (.int .u32 0),1,4):=by kernel_rfl
theorem kM.fin {w0 wr:World}{e:Int}{z:Int}{Mn:Nat}{v:Value}{db mb kb B:Nat}(h:kM w0 wr (decide (z<0)) e z.natAbs Mn (ln 32 z.natAbs) v db mb kb B) (hn:ln 32 z.natAbs≤1099511627776) (hB:w0.heap.size≤B):
  kE z e w0 (.returned (.tuple #[DyV (decide (z<0)) v e,.int .i64 0])) (((wr.setCell ⟨w0.heap.size+1,0,none⟩ (.bool (decide (z<0)))).setCell ⟨w0.heap.size+1,1,none⟩ v).setCell ⟨w0.heap.size+1,2,none⟩ (.int .i64 e)):=by
 have hne:w0.heap.size+1<B:=by have:=h.hd;omega
 have k1:=h.own.kept (nR _ (w0.heap.size+1) 0 (.bool (decide (z<0)))) (zH h.own hne)
 have k2:=k1.kept (nR _ (w0.heap.size+1) 1 v) (zH k1 hne)
 have k3:=k2.kept (nR _ (w0.heap.size+1) 2 (.int .i64 e)) (zH k2 hne)
 refine⟨v,rfl,Raw.mM k3 rfl (fun i hi=>aCi hi) (pW (by decide)) hn,?_,((h.below.setCell (by simp) _).setCell (by simp) _).setCell (by simp) _⟩
 obtain⟨ao,n,cap,e1,e2⟩:=vH.mM k3
 exact⟨ao,n,cap,e1,fun a ha=>by obtain⟨b,cs,e3,e4,e5⟩:=e2 a ha;exact⟨b,cs,e3,by omega,e5⟩⟩
theorem aWr (b:Nat) (z e:Int) (w:World) (hx:bM w b 0 z) (hl:bl z.natAbs≤68719476736) (h1: -4611686018427387904≤e) (h2:e≤1099511627776) (hT:eY w) (hTs:1<w.heap.size)
  (H0:Hid (hvZ z≠0)) (HG:Hid (bl (hvZ z).natAbs≤65536∧hvE z e≤100000∧-100000≤hvE z e)):
  Calls Tryz.prog 215 #[ExV b e] w (kE (hvZ z) (hvE z e) w):=by
 obtain⟨i0,hi,hz0,hz1,hz2⟩:=info_parts Tryz.info233
 have HX:=jH hx
 have HT:=jH hT
 have HTs:=jH hTs
 have HL:=jH hl
 clear hx hT hTs hl
 unfold ExV
 go_enter Tryz.func215,Tryz.ntmps215
 go_wp2_with fail
 refine(aD5 b z e _ (HX.out.below (below2 _ _ _)) HL.out h1 h2 (HT.out.below HTs.out (below2 _ _ _)) (Nat.lt_of_lt_of_le HTs.out (below2 _ _ _).size)).mono ?_
 rintro e1 W ⟨p,rfl,hp,hi,hb⟩
 have HP:Hid (xR w ((W.setCell ⟨w.heap.size,0,none⟩ (.pointer (some ⟨p,0,none⟩))).setCell ⟨w.heap.size,1,none⟩ (.int .i64 (hvE z e))) p (hvZ z) (hvE z e)):=by
  have k1:aJ ((w.alloc (.cells #[.pointer (some ⟨b,0,none⟩),.int .i64 e] 199)).alloc (.cells #[.bool false,.slice none 0 0,.int .i64 0] 167)) w.heap.size 199 #[.pointer (some ⟨b,0,none⟩),.int .i64 e]:=(aJ.new w _ _).alloc _
  have k2:=aJ.new1 w (.cells #[.pointer (some ⟨b,0,none⟩),.int .i64 e] 199) #[.bool false,.slice none 0 0,.int .i64 0] 167
  have k3:=k1.below hb
  have k4:=k2.below hb
  have hpp:w.heap.size+1<p:=by simp at hp;omega
  refine jH ⟨(k3.set _).set _,(k4.setOther (by omega) _).setOther (by omega) _,(hi.setOther k3 cZ (by omega) _).setOther (k3.set _) cZ (by omega) _,?_,hpp⟩
  exact(((below2 w _ _).trans (hb.mono (by simp;omega))).setCell (Nat.le_refl _) _).setCell (Nat.le_refl _) _
 have HW:Hid (aJ W w.heap.size 199 #[.pointer (some ⟨b,0,none⟩),.int .i64 e]):=jH (aJ.below ((aJ.new w _ _).alloc _) hb)
 obtain⟨x0,x1,x2,x3⟩:=HW.out.cells2
 clear hp hi hb
 generalize hz':hvZ z=z' at*
 generalize he':hvE z e=e' at*
 have HZE:=jH (And.intro hz' he')
 clear hz' he'
 unfold ExV
 go_wp2_with fail
 generalize hV:(W.setCell ⟨w.heap.size,0,none⟩ (.pointer (some ⟨p,0,none⟩))).setCell ⟨w.heap.size,1,none⟩ (.int .i64 e')=V at HP ⊢
 clear hV x0 x1 x2 x3 HW
 obtain⟨x0,x1,x2,x3⟩:=HP.out.1.cells2
 obtain⟨q0,q1,q2,q3,q4,q5⟩:=HP.out.2.1.cells3
 refine(cO p 0 z' _ HP.out.2.2.1).mono ?_
 rintro e2 w2 ⟨rfl,rfl⟩
 obtain⟨sg,HS,hsg,hneg⟩:∃sg,Hid (z'.sign=sg)∧(sg==0)=false∧decide (sg<0)=decide (z'<0):=⟨_,jH rfl,aVg H0.out,aPk z'⟩
 obtain⟨neg,hneg2⟩:∃neg,decide (z'<0)=neg:=⟨_,rfl⟩
 rw [hneg2]at hneg
 rw [HS.out]
 obtain⟨g1,g2,g3⟩:=HG.out
 generalize hbl:bl z'.natAbs=q at*
 have HBL:=jH hbl
 have HNG:=jH hneg2
 clear hbl hneg2
 have hq1:decide ((65536:Int)<(q:Int))=false:=by simp;omega
 have hq2:decide ((100000:Int)<e')=false:=by simp;omega
 have hq3:decide (e'<(-100000:Int))=false:=by simp;omega
 go_wp2_with fail
 refine(sJ p 0 z' _ HP.out.2.2.1).mono ?_
 rintro e3 w3 ⟨rfl,rfl⟩
 rw [HBL.out]
 go_wp2
 refine aC (fun w':World=>w'.cell? ⟨w.heap.size,0,none⟩=some (.pointer (some ⟨p,0,none⟩))∧w'.cell? ⟨w.heap.size,1,none⟩=some (.int .i64 e')) 8 (.take 0 (.take 1 (.take 4 (.take 5 (.fork 2 (.take 3 (.take 6 (.run 7 .nil))) 7 (.run 2 (.take 3 (.take 6 .nil)))))))) (by kernel_rfl) (by kernel_rfl) ?_
 have HV1:=jH (HP.out.later (aB V))
 generalize V.drew=V1 at HV1 ⊢
 clear HP x0 x1 x2 x3 q0 q1 q2 q3 q4 q5
 have hS:(fun w':World=>w'.cell? ⟨w.heap.size,0,none⟩=some (.pointer (some ⟨p,0,none⟩))∧w'.cell? ⟨w.heap.size,1,none⟩=some (.int .i64 e')) V1:=HV1.out.cells
 repeat (refine bD (v:= ?_) rfl (fun _ _ _ h=>h) rfl (fun w' hSw=> ?_) hS ?_;rotate_left;focus (go_simp;with_reducible rfl);try simp only [Act.put,aF])
 refine kR ?_ ?_
 ·as_aux_lemma=>
   refine aZ rfl fun K' hK=> ?_
   go_simp
   refine(cO p 0 z' _ (HV1.out.2.2.1)).mono ?_
   rintro e2 w2 ⟨rfl,rfl⟩
   rw [HS.out]
   refine hK _ _ HV1.out.cells ?_
   clear hK K'
   repeat (refine bD (v:= ?_) rfl (fun _ _ _ h=>h) rfl (fun w' hSw=> ?_) hS ?_;rotate_left;focus (go_simp;with_reducible rfl);try simp only [Act.put,aF])
   refine aZ rfl fun K' hK=> ?_
   go_simp
   refine hK _ _ (HV1.out.later (Below.aA V1 (.cells #[.bool false,.slice none 0 0,.int .i64 0] 167))).cells ?_
   clear hK K'
   clear hS
   refine aN ?_
   simp only [drL]
   clear hq1 hq2 hq3
   go_wp2_with fail
   have HV2:=jH (HV1.out.later (Below.aA V1 (.cells #[.bool neg,.slice none 0 0,.int .i64 e'] 167)))
   have HDB:=jH (aJ.new V1 #[.bool neg,.slice none 0 0,.int .i64 e'] 167)
   have HDL:Hid (w.heap.size+1<V1.heap.size):=jH HV1.out.2.1.lt
   have HDS:Hid (V1.heap.size<(V1.alloc (.cells #[.bool neg,.slice none 0 0,.int .i64 e'] 167)).heap.size):=jH (by simp)
   generalize V1.alloc (.cells #[.bool neg,.slice none 0 0,.int .i64 e'] 167)=V2 at HV2 HDB HDS ⊢
   generalize V1.heap.size=db at HDB HDL HDS ⊢
   clear HV1
   refine(iE 4294967295 _ (by omega) (by omega)).mono ?_
   rintro e3 V3 ⟨kb,rfl,hkb,hik,hbk⟩
   have HV3:=jH (HV2.out.later hbk)
   have HDB3:=jH (HDB.out.below hbk)
   have HDS3:Hid (db<V3.heap.size∧db<kb):=jH ⟨Nat.lt_of_lt_of_le HDS.out hbk.size,Nat.lt_of_lt_of_le HDS.out hkb⟩
   have HK3:=jH hik
   clear hkb hik hbk HV2 HDB HDS
   obtain⟨x0,x1,x2,x3⟩:=HV3.out.1.cells2
   have hlt3:=HV3.out.1.lt
   have x0o:=fun o=>(World.cell?_alloc_lt V3 o ⟨w.heap.size,0,none⟩ hlt3).trans x0
   go_wp2_with fail
   clear hlt3 x0o
   refine(aFy _ 0 p 0 z' _ (dB.zero (k:= .u64) (s:=64) V3 _ dO).1 (HV3.out.2.2.1.below (Below.aA _ _)) ?_).mono ?_
   ·exact bV (by rw [HBL.out];omega)
   rintro e4 V4 ⟨rfl,him,hmm⟩
   have HB4:Hid (Below V3.heap.size V3 V4):=jH (hmm.below (Below.aA _ _) (Nat.le_refl _) (by simp))
   have HMB:Hid (V3.heap.size<V4.heap.size):=jH (Nat.lt_of_lt_of_le (by simp) hmm.size)
   have HNL:Hid (ln 32 z'.natAbs≤65536):=jH (Nat.le_trans (dV 32 _ (by decide)) (by rw [HBL.out];exact g1))
   have hBL:=Nat.le_trans (Nat.le_of_eq HBL.out) g1
   have HR0:Hid (kM w V4 neg e' z'.natAbs (z'.natAbs/2^(32*0)) 0 (.slice none 0 0) db V3.heap.size kb V4.heap.size):=by
    have e1:z'.natAbs/2^(32*0)=z'.natAbs:=by simp
    rw [e1]
    have h4:=HV3.out.later HB4.out
    have h5:=HK3.out.1.1
    have h6:=HDS3.out
    have h7:=HMB.out
    have h8:=HDL.out
    exact jH ⟨HDB3.out.below HB4.out,h4.2.1,him,HK3.out.below HB4.out,World.ownsRow_nil _ _ _ _,h4.2.2.2.1,Nat.le_refl _,⟨h8,by omega⟩,⟨by omega,h7,by omega⟩,⟨by omega,by omega,by omega,by omega⟩⟩
   have HBG:Hid (w.heap.size≤V4.heap.size):=jH HR0.out.below.size
   generalize V3.heap.size=mb at*
   generalize hBB:V4.heap.size=B at HR0 HBG
   clear hBB him hmm HB4 HMB HV3 HDB3 HDS3 HK3 HDL x0 x1 x2 x3
   go_wp2
   rw [←HNG.out]at HR0
   generalize hN:z'.natAbs=N at*
   have HN:=jH hN
   clear hN
   go_loopw [] (fun wr=>∃(k:Nat) (v:Value),k≤ln 32 N∧Hid (kM w wr (decide (z'<0)) e' N (N/2^(32*k)) k v db mb kb B))
    (fun wr=>ln 32 N-(match wr.cell? ⟨db,1,none⟩with|some (.slice _ n _)=>n|_=>0))
   case atStart=>exact⟨0,_,Nat.zero_le _,HR0⟩
   case round=>
    obtain⟨k,v,hk,HR⟩:=hrel
    obtain⟨ao,cap,rfl⟩:=iM HR.out.own
    obtain⟨y0,y1,y2,y3,y4,y5⟩:=HR.out.d.cells3
    by_cases hM:N/2^(32*k)=0
    ·have HK:Hid (k=ln 32 N):=jH (zI hk hM)
     have HS0:Hid (((N/2^(32*k):Nat):Int).sign=0):=jH (by rw [hM];rfl)
     obtain⟨q0,q1,q2,q3,q4,q5⟩:=HR.out.res.cells3
     clear hM hk
     go_wp2_with fail
     refine(cO mb 0 _ _ HR.out.m).mono ?_
     rintro e5 w5 ⟨rfl,rfl⟩
     rw [HS0.out]
     go_wp2
     refine bodyPost_ret (v:= .tuple #[DyV (decide (z'<0)) (.slice ao k cap) e',.int .i64 0]) (by simp [results,Tryz.results215,go_sem,DyV,q0,q1,q2]) rfl ?_
     have e1:=HK.out
     have e2:=HN.out
     subst e2
     subst e1
     exact HR.out.fin (Nat.le_trans HNL.out (by decide)) HBG.out
    ·have hlt:=yY hM
     obtain⟨sg2,HS2,hsg2⟩:∃sg,Hid (((N/2^(32*k):Nat):Int).sign=sg)∧(sg !=0)=true:=⟨_,jH rfl,sV (by omega)⟩
     have HBM:Hid (bl ((N/2^(32*k):Nat):Int).natAbs≤65536):=jH (by rw [Int.natAbs_natCast];exact Nat.le_trans (lG (Nat.div_le_self _ _)) hBL)
     have hkl:=HNL.out
     clear hM
     go_wp2_with fail
     refine(cO mb 0 _ _ HR.out.m).mono ?_
     rintro e5 w5 ⟨rfl,rfl⟩
     rw [HS2.out]
     go_wp2
     refine aC (fun w':World=>w'.cell? ⟨db,1,none⟩=some (.slice ao k cap)) 10 (.take 0 (.take 1 (.take 3 (.take 4 (.run 2 (.run 5 (.run 6 (.take 7 (.run 8 (.run 9 .nil)))))))))) (by kernel_rfl) (by kernel_rfl) ?_
     have HR1:=jH (HR.out.later (aB wr))
     generalize wr.drew=U at HR1 ⊢
     have hS:(fun w':World=>w'.cell? ⟨db,1,none⟩=some (.slice ao k cap)) U:=HR1.out.d.cell 1
     repeat (refine bD (v:= ?_) rfl (fun _ _ _ h=>h) rfl (fun w' hSw=> ?_) hS ?_;rotate_left;focus (go_simp;with_reducible rfl);try simp only [Act.put,aF])
     refine aZ rfl fun K' hK=> ?_
     go_simp
     refine hK _ _ ((HR1.out.later (Below.aA U (.cells #[.bool false,.slice none 0 0] 220))).d.cell 1) ?_
     clear hK K' hS
     refine aZ rfl fun K' hK=> ?_
     go_simp
     refine(aL9 _ 0 mb 0 kb 0 _ _ _ (dB.zero (k:= .u64) (s:=64) U _ dO).1 (HR1.out.later (Below.aA U (.cells #[.bool false,.slice none 0 0] 220))).m (HR1.out.later (Below.aA U (.cells #[.bool false,.slice none 0 0] 220))).mask ?_ ?_).mono ?_
     ·exact bV (Nat.le_trans HBM.out (by decide))
     ·exact bV (Nat.le_trans (aY (k:=32) (by decide)) (by decide))
     rintro e5 U2 ⟨rfl,hit,hmt⟩
     rw [aGr]at hit
     have HR2:=jH (HR1.out.later (hmt.below (Below.aA _ _) (Nat.le_refl _) (by simp)))
     have HIT:Hid (bM U2 U.heap.size 0 (dg 32 N k:Nat)):=jH hit
     refine hK _ _ (HR2.out.d.cell 1) ?_
     clear hK K' hit hmt
     generalize U.heap.size=tb at*
     refine aZ rfl fun K' hK=> ?_
     go_simp
     refine(xQ tb 0 _ _ HIT.out).mono ?_
     rintro e5 U3 ⟨rfl,rfl⟩
     rw [aEf (Nat.lt_of_lt_of_le (iT 32 N k) (by decide))]
     refine hK _ _ (HR2.out.d.cell 1) ?_
     clear hK K' HIT HR1
     have hdd:dg 32 N k<4294967296:=iT 32 N k
     generalize hdg:dg 32 N k=dd at*
     have HDD:=jH hdg
     have hwr:IntKind.u32.wrap (dd:Int)=dd:=by rw [IntKind.wrap_u32];omega
     clear hdg y0 y1 y2 y3 y4 y5
     have hS:(fun w':World=>w'.cell? ⟨db,1,none⟩=some (.slice ao k cap)) U2:=HR2.out.d.cell 1
     repeat (refine bD (v:= ?_) rfl (fun _ _ _ h=>h) rfl (fun w' hSw=> ?_) hS ?_;rotate_left;focus (go_simp;with_reducible rfl);try simp only [Act.put,aF])
     refine aZ rfl fun K' hK=> ?_
     go_simp
     have HR3:=jH (HR2.out.later (Below.aA U2 (.cells #[.int .u32 dd] 233)))
     refine hK _ _ (HR3.out.d.cell 1) ?_
     clear hK K' hS
     refine aE1 rfl rfl fun K' hK=> ?_
     refine wp_append_own _ _ _ 165 rfl B 233 i0 (.int .u32 0) 1 4 Tryz.underlying165 hi hz0 hz1 hz2 rfl (by decide) _ _ _ rfl HR3.out.own ⟨U2.heap.size,0,none⟩ 1 1 [.int .u32 dd] rfl rfl (cell_one_new _ _ _) ?c2 ?c3 ?c4 ?c5 ?_
     case c2=>intro u hu;simp only [List.mem_singleton]at hu;subst hu;rfl
     case c3=>unfold maxLen;omega
     case c4=>omega
     case c5=>exact HR3.out.hB
     intro v' U4 hown hgrow _
     have hown2:U4.ownsRow B 233 1 v' (k+1) (nK N (k+1)):=by rw [aAl,HDD.out];exact hown
     obtain⟨ao',cap',hv'⟩:=iM hown2
     rw [hv']at hown2 ⊢
     have HP:=jH (HR3.out.push hgrow hown2)
     have HD4:Hid (aJ U4 db 167 #[.bool (decide (z'<0)),.slice ao k cap,.int .i64 e']):=
      jH (HR3.out.d.of_block (hgrow.block db (Nat.lt_of_lt_of_le HR3.out.hd.2 HR3.out.hB) (fun e=>by have:=(HR3.out.own.lt _ e.symm).1;have:=HR3.out.hd.2;omega)))
     refine hK _ _ (HD4.out.cell 1) ?_
     clear hK K' hown hown2 hgrow hv' HR3 HR2 hwr
     refine aN ?_
     simp only [drL]
     obtain⟨y0,y1,y2,y3,y4,y5⟩:=HD4.out.cells3
     go_wp2_with fail
     refine(aBt mb 0 mb 0 32 _ _ HP.out.m.1 HP.out.m (bV (Nat.le_trans HBM.out (by decide))) (by omega)).mono ?_
     rintro e6 U5 ⟨rfl,hi6,hm6⟩
     rw [aVf]at hi6
     have HQ:=jH (HP.out.rsh hi6 hm6)
     clear hi6 hm6
     go_wp2
     go_roundw
     case rel=>exact⟨k+1,_,hlt,HQ⟩
     case measure=>rw [HR.out.d.cell 1,HQ.out.d.cell 1];exact Nat.sub_lt_sub_left hlt (Nat.lt_succ_self k)
 ·as_aux_lemma=>
   refine aZ rfl fun K' hK=> ?_
   go_simp
   refine hK _ _ (HV1.out.later (Below.aA V1 (.cells #[.bool false,.slice none 0 0,.int .i64 0] 167))).cells ?_
   clear hK K'
   have hS:(fun w':World=>w'.cell? ⟨w.heap.size,0,none⟩=some (.pointer (some ⟨p,0,none⟩))∧w'.cell? ⟨w.heap.size,1,none⟩=some (.int .i64 e')) (V1.alloc (.cells #[.bool false,.slice none 0 0,.int .i64 0] 167)):=(HV1.out.later (Below.aA V1 (.cells #[.bool false,.slice none 0 0,.int .i64 0] 167))).cells
   refine aZ rfl fun K' hK=> ?_
   go_simp
   refine(cO p 0 z' _ ((HV1.out.later (Below.aA V1 (.cells #[.bool false,.slice none 0 0,.int .i64 0] 167))).2.2.1)).mono ?_
   rintro e2 w2 ⟨rfl,rfl⟩
   rw [HS.out]
   refine hK _ _ hS ?_
   clear hK K'
   repeat (refine bD (v:= ?_) rfl (fun _ _ _ h=>h) rfl (fun w' hSw=> ?_) hS ?_;rotate_left;focus (go_simp;with_reducible rfl);try simp only [Act.put,aF])
   clear hS
   refine aN ?_
   simp only [drL]
   clear hq1 hq2 hq3
   go_wp2_with fail
   have HV2:=jH (HV1.out.later (Below.aA V1 (.cells #[.bool neg,.slice none 0 0,.int .i64 e'] 167)))
   have HDB:=jH (aJ.new V1 #[.bool neg,.slice none 0 0,.int .i64 e'] 167)
   have HDL:Hid (w.heap.size+1<V1.heap.size):=jH HV1.out.2.1.lt
   have HDS:Hid (V1.heap.size<(V1.alloc (.cells #[.bool neg,.slice none 0 0,.int .i64 e'] 167)).heap.size):=jH (by simp)
   generalize V1.alloc (.cells #[.bool neg,.slice none 0 0,.int .i64 e'] 167)=V2 at HV2 HDB HDS ⊢
   generalize V1.heap.size=db at HDB HDL HDS ⊢
   clear HV1
   refine(iE 4294967295 _ (by omega) (by omega)).mono ?_
   rintro e3 V3 ⟨kb,rfl,hkb,hik,hbk⟩
   have HV3:=jH (HV2.out.later hbk)
   have HDB3:=jH (HDB.out.below hbk)
   have HDS3:Hid (db<V3.heap.size∧db<kb):=jH ⟨Nat.lt_of_lt_of_le HDS.out hbk.size,Nat.lt_of_lt_of_le HDS.out hkb⟩
   have HK3:=jH hik
   clear hkb hik hbk HV2 HDB HDS
   obtain⟨x0,x1,x2,x3⟩:=HV3.out.1.cells2
   have hlt3:=HV3.out.1.lt
   have x0o:=fun o=>(World.cell?_alloc_lt V3 o ⟨w.heap.size,0,none⟩ hlt3).trans x0
   go_wp2_with fail
   clear hlt3 x0o
   refine(aFy _ 0 p 0 z' _ (dB.zero (k:= .u64) (s:=64) V3 _ dO).1 (HV3.out.2.2.1.below (Below.aA _ _)) ?_).mono ?_
   ·exact bV (by rw [HBL.out];omega)
   rintro e4 V4 ⟨rfl,him,hmm⟩
   have HB4:Hid (Below V3.heap.size V3 V4):=jH (hmm.below (Below.aA _ _) (Nat.le_refl _) (by simp))
   have HMB:Hid (V3.heap.size<V4.heap.size):=jH (Nat.lt_of_lt_of_le (by simp) hmm.size)
   have HNL:Hid (ln 32 z'.natAbs≤65536):=jH (Nat.le_trans (dV 32 _ (by decide)) (by rw [HBL.out];exact g1))
   have hBL:=Nat.le_trans (Nat.le_of_eq HBL.out) g1
   have HR0:Hid (kM w V4 neg e' z'.natAbs (z'.natAbs/2^(32*0)) 0 (.slice none 0 0) db V3.heap.size kb V4.heap.size):=by
    have e1:z'.natAbs/2^(32*0)=z'.natAbs:=by simp
    rw [e1]
    have h4:=HV3.out.later HB4.out
    have h5:=HK3.out.1.1
    have h6:=HDS3.out
    have h7:=HMB.out
    have h8:=HDL.out
    exact jH ⟨HDB3.out.below HB4.out,h4.2.1,him,HK3.out.below HB4.out,World.ownsRow_nil _ _ _ _,h4.2.2.2.1,Nat.le_refl _,⟨h8,by omega⟩,⟨by omega,h7,by omega⟩,⟨by omega,by omega,by omega,by omega⟩⟩
   have HBG:Hid (w.heap.size≤V4.heap.size):=jH HR0.out.below.size
   generalize V3.heap.size=mb at*
   generalize hBB:V4.heap.size=B at HR0 HBG
   clear hBB him hmm HB4 HMB HV3 HDB3 HDS3 HK3 HDL x0 x1 x2 x3
   go_wp2
   rw [←HNG.out]at HR0
   generalize hN:z'.natAbs=N at*
   have HN:=jH hN
   clear hN
   go_loopw [] (fun wr=>∃(k:Nat) (v:Value),k≤ln 32 N∧Hid (kM w wr (decide (z'<0)) e' N (N/2^(32*k)) k v db mb kb B))
    (fun wr=>ln 32 N-(match wr.cell? ⟨db,1,none⟩with|some (.slice _ n _)=>n|_=>0))
   case atStart=>exact⟨0,_,Nat.zero_le _,HR0⟩
   case round=>
    obtain⟨k,v,hk,HR⟩:=hrel
    obtain⟨ao,cap,rfl⟩:=iM HR.out.own
    obtain⟨y0,y1,y2,y3,y4,y5⟩:=HR.out.d.cells3
    by_cases hM:N/2^(32*k)=0
    ·have HK:Hid (k=ln 32 N):=jH (zI hk hM)
     have HS0:Hid (((N/2^(32*k):Nat):Int).sign=0):=jH (by rw [hM];rfl)
     obtain⟨q0,q1,q2,q3,q4,q5⟩:=HR.out.res.cells3
     clear hM hk
     go_wp2_with fail
     refine(cO mb 0 _ _ HR.out.m).mono ?_
     rintro e5 w5 ⟨rfl,rfl⟩
     rw [HS0.out]
     go_wp2
     refine bodyPost_ret (v:= .tuple #[DyV (decide (z'<0)) (.slice ao k cap) e',.int .i64 0]) (by simp [results,Tryz.results215,go_sem,DyV,q0,q1,q2]) rfl ?_
     have e1:=HK.out
     have e2:=HN.out
     subst e2
     subst e1
     exact HR.out.fin (Nat.le_trans HNL.out (by decide)) HBG.out
    ·have hlt:=yY hM
     obtain⟨sg2,HS2,hsg2⟩:∃sg,Hid (((N/2^(32*k):Nat):Int).sign=sg)∧(sg !=0)=true:=⟨_,jH rfl,sV (by omega)⟩
     have HBM:Hid (bl ((N/2^(32*k):Nat):Int).natAbs≤65536):=jH (by rw [Int.natAbs_natCast];exact Nat.le_trans (lG (Nat.div_le_self _ _)) hBL)
     have hkl:=HNL.out
     clear hM
     go_wp2_with fail
     refine(cO mb 0 _ _ HR.out.m).mono ?_
     rintro e5 w5 ⟨rfl,rfl⟩
     rw [HS2.out]
     go_wp2
     refine aC (fun w':World=>w'.cell? ⟨db,1,none⟩=some (.slice ao k cap)) 10 (.take 0 (.take 1 (.take 3 (.take 4 (.run 2 (.run 5 (.run 6 (.take 7 (.run 8 (.run 9 .nil)))))))))) (by kernel_rfl) (by kernel_rfl) ?_
     have HR1:=jH (HR.out.later (aB wr))
     generalize wr.drew=U at HR1 ⊢
     have hS:(fun w':World=>w'.cell? ⟨db,1,none⟩=some (.slice ao k cap)) U:=HR1.out.d.cell 1
     repeat (refine bD (v:= ?_) rfl (fun _ _ _ h=>h) rfl (fun w' hSw=> ?_) hS ?_;rotate_left;focus (go_simp;with_reducible rfl);try simp only [Act.put,aF])
     refine aZ rfl fun K' hK=> ?_
     go_simp
     refine hK _ _ ((HR1.out.later (Below.aA U (.cells #[.bool false,.slice none 0 0] 220))).d.cell 1) ?_
     clear hK K' hS
     refine aZ rfl fun K' hK=> ?_
     go_simp
     refine(aL9 _ 0 mb 0 kb 0 _ _ _ (dB.zero (k:= .u64) (s:=64) U _ dO).1 (HR1.out.later (Below.aA U (.cells #[.bool false,.slice none 0 0] 220))).m (HR1.out.later (Below.aA U (.cells #[.bool false,.slice none 0 0] 220))).mask ?_ ?_).mono ?_
     ·exact bV (Nat.le_trans HBM.out (by decide))
     ·exact bV (Nat.le_trans (aY (k:=32) (by decide)) (by decide))
     rintro e5 U2 ⟨rfl,hit,hmt⟩
     rw [aGr]at hit
     have HR2:=jH (HR1.out.later (hmt.below (Below.aA _ _) (Nat.le_refl _) (by simp)))
     have HIT:Hid (bM U2 U.heap.size 0 (dg 32 N k:Nat)):=jH hit
     refine hK _ _ (HR2.out.d.cell 1) ?_
     clear hK K' hit hmt
     generalize U.heap.size=tb at*
     refine aZ rfl fun K' hK=> ?_
     go_simp
     refine(xQ tb 0 _ _ HIT.out).mono ?_
     rintro e5 U3 ⟨rfl,rfl⟩
     rw [aEf (Nat.lt_of_lt_of_le (iT 32 N k) (by decide))]
     refine hK _ _ (HR2.out.d.cell 1) ?_
     clear hK K' HIT HR1
     have hdd:dg 32 N k<4294967296:=iT 32 N k
     generalize hdg:dg 32 N k=dd at*
     have HDD:=jH hdg
     have hwr:IntKind.u32.wrap (dd:Int)=dd:=by rw [IntKind.wrap_u32];omega
     clear hdg y0 y1 y2 y3 y4 y5
     have hS:(fun w':World=>w'.cell? ⟨db,1,none⟩=some (.slice ao k cap)) U2:=HR2.out.d.cell 1
     repeat (refine bD (v:= ?_) rfl (fun _ _ _ h=>h) rfl (fun w' hSw=> ?_) hS ?_;rotate_left;focus (go_simp;with_reducible rfl);try simp only [Act.put,aF])
     refine aZ rfl fun K' hK=> ?_
     go_simp
     have HR3:=jH (HR2.out.later (Below.aA U2 (.cells #[.int .u32 dd] 233)))
     refine hK _ _ (HR3.out.d.cell 1) ?_
     clear hK K' hS
     refine aE1 rfl rfl fun K' hK=> ?_
     refine wp_append_own _ _ _ 165 rfl B 233 i0 (.int .u32 0) 1 4 Tryz.underlying165 hi hz0 hz1 hz2 rfl (by decide) _ _ _ rfl HR3.out.own ⟨U2.heap.size,0,none⟩ 1 1 [.int .u32 dd] rfl rfl (cell_one_new _ _ _) ?c2 ?c3 ?c4 ?c5 ?_
     case c2=>intro u hu;simp only [List.mem_singleton]at hu;subst hu;rfl
     case c3=>unfold maxLen;omega
     case c4=>omega
     case c5=>exact HR3.out.hB
     intro v' U4 hown hgrow _
     have hown2:U4.ownsRow B 233 1 v' (k+1) (nK N (k+1)):=by rw [aAl,HDD.out];exact hown
     obtain⟨ao',cap',hv'⟩:=iM hown2
     rw [hv']at hown2 ⊢
     have HP:=jH (HR3.out.push hgrow hown2)
     have HD4:Hid (aJ U4 db 167 #[.bool (decide (z'<0)),.slice ao k cap,.int .i64 e']):=
      jH (HR3.out.d.of_block (hgrow.block db (Nat.lt_of_lt_of_le HR3.out.hd.2 HR3.out.hB) (fun e=>by have:=(HR3.out.own.lt _ e.symm).1;have:=HR3.out.hd.2;omega)))
     refine hK _ _ (HD4.out.cell 1) ?_
     clear hK K' hown hown2 hgrow hv' HR3 HR2 hwr
     refine aN ?_
     simp only [drL]
     obtain⟨y0,y1,y2,y3,y4,y5⟩:=HD4.out.cells3
     go_wp2_with fail
     refine(aBt mb 0 mb 0 32 _ _ HP.out.m.1 HP.out.m (bV (Nat.le_trans HBM.out (by decide))) (by omega)).mono ?_
     rintro e6 U5 ⟨rfl,hi6,hm6⟩
     rw [aVf]at hi6
     have HQ:=jH (HP.out.rsh hi6 hm6)
     clear hi6 hm6
     go_wp2
     go_roundw
     case rel=>exact⟨k+1,_,hlt,HQ⟩
     case measure=>rw [HR.out.d.cell 1,HQ.out.d.cell 1];exact Nat.sub_lt_sub_left hlt (Nat.lt_succ_self k)
end Go.Proofs.YtfmecpembnmnkaaGreatDoor
