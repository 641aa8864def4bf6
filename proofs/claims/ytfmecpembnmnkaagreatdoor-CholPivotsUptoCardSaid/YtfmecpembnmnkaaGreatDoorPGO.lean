/- Walks: the references' whole numbers (binnacleref00): Neg, Abs, Lsh, Mul, sums. Printed by wip/gen/rf6.py. -/
import Derived.Test.YtfmecpembnmnkaaGreatDoorPGF
import Derived.Test.YtfmecpembnmnkaaGreatDoorPGK
import Derived.Test.YtfmecpembnmnkaaGreatDoorPGC
import Derived.Shelf.Small.Bits
namespace Go.Proofs.YtfmecpembnmnkaaGreatDoor
section
set_option maxRecDepth 100000
set_option maxHeartbeats 6400000
open Go.RowKit
theorem aB6 {o:Oper}{a:Act}{W:World}{K:Act→World→Prop}{Q:Exit→Act→World→Prop}{v:Value}{n N:Nat}(s x:Operand)
  (ho:o.op= .call {callee:= .builtin .append,args:= #[s,x],argTypes:= #[165,165]}) (hot:o.type=165)
  (hs:a.eval s= .slice none 0 0) (hx:a.eval x=v) (hr:Raw .u32 32 W v n N)
  (h:∀v' W2,Raw .u32 32 W2 v' n N→vH W2 W.heap.size 233 v'→Below W.heap.size W W2→K (a.put o.dst v') W2):o.wp Tryz.prog a W K Q:=by
 obtain⟨i0,hi,hz0,hz1,hz2⟩:=info_parts Tryz.info233
 obtain⟨aa,ca,rfl,hcap,hN,hn,hc⟩:=hr
 by_cases h0:0<n
 ·obtain⟨b,off,rfl,hb,-,hcc⟩:=hc h0
  have hcells:∀(j:Nat) (u:Value),(nK N n)[j]? =some u→W.cell? ((⟨b,off,none⟩:Addr).add j)=some u:=by
   intro j u hu
   by_cases hj:j<n
   ·rw [aCi hj]at hu
    simp only [Option.some.injEq]at hu
    rw [←hu,←hcc j hj]
    unfold Addr.add
    by_cases hj0:j=0
    ·subst hj0;simp
    ·rw [if_neg hj0]
   ·rw [List.getElem?_eq_none (by rw [aAy];omega)]at hu;simp at hu
  have hone:∀u∈nK N n,u.oneCell'=true:=by
   intro u hu
   obtain⟨i,-,rfl⟩:=List.mem_map.1 hu
   rfl
  refine wp_append_own _ s x 165 ho W.heap.size 233 i0 (.int .u32 0) 1 4 Tryz.underlying165 hi hz0 hz1 hz2 rfl (by decide) (.slice none 0 0) 0 [] hs (World.ownsRow_nil _ _ _ _) ⟨b,off,none⟩ n ca (nK N n) hx (by rw [aAy];simp) hcells hone (by unfold maxLen;omega) (by omega) (Nat.le_refl _) ?_
  intro v' W2 hown hgrow _
  rw [Nat.zero_add,List.nil_append]at hown
  exact h v' W2 (Raw.mM hown rfl (fun i hi=>aCi hi) hN (by omega)) (vH.mM hown) ((Below.refl _ _).grown hgrow (Nat.le_refl _) (fun k hk=>by simp [Value.ownBlock]at hk))
 ·obtain rfl:n=0:=by omega
  have hz:N=0:=by simp at hN;omega
  subst hz
  have happ:(Builtin.append_ #[165,165] o.type #[.slice none 0 0,.slice aa 0 ca]).run Tryz.prog W= .ok (.slice none 0 0) W:=by
   rw [hot]
   cases aa<;>simp [Builtin.append_,go_sem]
  exact wp_append_run s x 165 ho _ _ _ _ hs hx happ (h _ _ (Raw.nil .u32 32 W) ⟨none,0,0,rfl,fun a ha=>by cases ha⟩ (Below.refl _ _))
theorem yP {ops:Array Oper}{rest:List Oper}{o:Oper}{a:Act}{W:World}{Q:Exit→Act→World→Prop}{v:Value}{n N:Nat}(hgd:o.guard=none) (s x:Operand)
  (ho:o.op= .call {callee:= .builtin .append,args:= #[s,x],argTypes:= #[165,165]}) (hot:o.type=165)
  (hs:a.eval s= .slice none 0 0) (hx:a.eval x=v) (hr:Raw .u32 32 W v n N)
  (h:∀v' W2,Raw .u32 32 W2 v' n N→vH W2 W.heap.size 233 v'→Below W.heap.size W W2→wpList Tryz.prog ops Q rest (a.put o.dst v') W2):wpList Tryz.prog ops Q (o::rest) a W:=
 wpList_plain hgd fun _ hK=>aB6 s x ho hot hs hx hr fun v' W2 h1 h2 h3=>hK _ _ (h v' W2 h1 h2 h3)
theorem aQy (b o c p:Nat) (X:Int) (w:World) (hz:fO w b o) (hx:dB .u32 32 w c p X):
  Calls Tryz.prog 192 #[.pointer (some ⟨b,o,none⟩),.pointer (some ⟨c,p,none⟩)] w (Puts .u32 32 b o (-X) w):=by
 obtain⟨hxs,hx0,vx,hx1,hrx⟩:=hx
 have hcx:=hxs.1
 have HRx:=jH hrx
 obtain⟨avx,cvx,rfl,-⟩:=hrx
 have HZ:=jH hz
 have HF:=jH (aGb X)
 generalize decide (X<0)=sx at*
 generalize X.natAbs=ax at*
 clear hxs hz
 go_enter Tryz.func192,Tryz.ntmps192
 go_wp2_with fail
 refine aC (fun w':World=>w'.cell? ⟨c,p,none⟩=some (.bool sx)∧w'.cell? ⟨c,p+1,none⟩=some (.slice avx (ln 32 ax) cvx)) 11 (.take 0 (.take 1 (.take 2 (.take 3 (.take 4 (.take 5 (.take 6 (.take 7 (.take 8 (.take 9 (.run 10 .nil))))))))))) (by kernel_rfl) (by kernel_rfl) ?_
 have hS:(fun w':World=>w'.cell? ⟨c,p,none⟩=some (.bool sx)∧w'.cell? ⟨c,p+1,none⟩=some (.slice avx (ln 32 ax) cvx)) w.drew:=⟨by go_simp,by go_simp⟩
 repeat (refine tkL (v:= ?_) rfl rfl rfl (fun w' hSw=> ?_) hS ?_;rotate_left;(focus (go_simp;with_reducible rfl));simp only [aF])
 refine aI rfl rfl fun K' hK=> ?_
 refine aB6 _ _ rfl rfl rfl rfl (HRx.out.below (aB w)) fun v1 w1 hr1 _ hb1=> ?_
 have HB:=jH ((aB w).trans hb1)
 have HR1:=jH hr1
 have hS:(fun w':World=>w'.cell? ⟨c,p,none⟩=some (.bool sx)∧w'.cell? ⟨c,p+1,none⟩=some (.slice avx (ln 32 ax) cvx)) w1:=⟨(HB.out.cell (p:=⟨c,p,none⟩) hcx).trans hx0,(HB.out.cell (p:=⟨c,p+1,none⟩) hcx).trans hx1⟩
 refine hK _ _ hS ?_
 clear hK K'
 obtain⟨av,cv,rfl,-⟩:=hr1
 clear hb1
 try simp only [Act.put,aF]
 repeat (refine tkL (v:= ?_) rfl rfl rfl (fun w' hSw=> ?_) hS ?_;rotate_left;(focus (go_simp;with_reducible rfl));simp only [aF])
 clear hS
 refine aN ?_
 simp only [drL]
 go_wp2_with fail
 refine(gY b o _ _ _ _ _ (HZ.out.below HB.out) HR1.out).mono ?_
 rintro e w2 ⟨rfl,hi2,hm2⟩
 have HF2:=jH hi2
 have HM:=jH ((Mod.of_below HB.out HZ.out.1).trans HZ.out.1 hm2)
 clear hi2 hm2
 go_wp2
 go_ret
 rw [←HF.out]
 exact⟨rfl,HF2.out,HM.out⟩
def aX7 (b o:Nat) (z:Int) (B:Nat) (w:World) (e:Ending) (w':World):Prop:=Puts .u32 32 b o z w e w'∧∀a n c,w'.cell? ⟨b,o+1,none⟩=some (.slice (some a) n c)→B≤a.block
theorem aDf.fresh {b o B:Nat}{z:Int}{v:Value}{w w':World}{e:Ending}(h:aDf b o z v w e w') (hf:FrS B v):∀a n c,w'.cell? ⟨b,o+1,none⟩=some (.slice (some a) n c)→B≤a.block:=by
 intro a n c hc
 obtain⟨-,ao,m,n',c',rfl,h2⟩:=h
 rw [hc]at h2
 simp only [Option.some.injEq,Value.slice.injEq]at h2
 exact hf a m c' (by rw [←h2.1])
theorem vH.fr {w:World}{B t:Nat}{v:Value}(h:vH w B t v):FrS B v:=by
 intro a n c e
 obtain⟨ao,m,cap,rfl,h2⟩:=h
 simp only [Value.slice.injEq]at e
 obtain⟨b,cs,rfl,h3,-⟩:=h2 a e.1
 exact h3
theorem aJh (b o c p:Nat) (X:Int) (w:World) (hz:fO w b o) (hx:dB .u32 32 w c p X):
  Calls Tryz.prog 168 #[.pointer (some ⟨b,o,none⟩),.pointer (some ⟨c,p,none⟩)] w (aX7 b o X.natAbs w.heap.size w):=by
 obtain⟨hxs,hx0,vx,hx1,hrx⟩:=hx
 have hcx:=hxs.1
 have HRx:=jH hrx
 have HZ:=jH hz
 generalize X.natAbs=ax at*
 have HF:Hid ((if false then-(ax:Int)else ax)=ax):=jH rfl
 obtain⟨avx,cvx,rfl,-⟩:=hrx
 clear hxs hz
 go_enter Tryz.func168,Tryz.ntmps168
 go_wp2_with (at_builtin;refine yP rfl _ _ rfl rfl rfl rfl HRx.out fun v1 w1 hr1 ho1 hb1=> ?_)
 have HB:=jH hb1
 have HR1:=jH hr1
 have HO:=jH ho1.fr
 obtain⟨av,cv,rfl,-⟩:=hr1
 clear hb1 ho1
 go_wp2_with fail
 refine(aDt b o _ _ _ _ false _ (HZ.out.below HB.out) HR1.out).mono ?_
 rintro e w2 hp2
 have HP:=jH (hp2.fresh HO.out)
 obtain⟨⟨rfl,hi2,hm2⟩,-⟩:=hp2
 have HF2:=jH hi2
 have HM:=jH ((Mod.of_below HB.out HZ.out.1).trans HZ.out.1 hm2)
 clear hi2 hm2
 go_wp2
 go_ret
 rw [←HF.out]
 exact⟨⟨rfl,HF2.out,HM.out⟩,HP.out⟩
theorem aPc (b o c p:Nat) (X:Int) (w:World) (hz:fO w b o) (hx:dB .u32 32 w c p X):
  Calls Tryz.prog 168 #[.pointer (some ⟨b,o,none⟩),.pointer (some ⟨c,p,none⟩)] w (Puts .u32 32 b o X.natAbs w):=
 (aJh b o c p X w hz hx).mono fun _ _ h=>h.1
theorem vC (b o c p n:Nat) (X:Int) (w:World) (hz:fO w b o) (hx:dB .u32 32 w c p X) (hl:ln 32 X.natAbs≤68719476736) (hn:n≤1099511627776):
  Calls Tryz.prog 175 #[.pointer (some ⟨b,o,none⟩),.pointer (some ⟨c,p,none⟩),.int .u64 n] w (Puts .u32 32 b o (X*2^n) w):=by
 obtain⟨hxs,hx0,vx,hx1,hrx⟩:=hx
 have hcx:=hxs.1
 have HRx:=jH hrx
 have HZ:=jH hz
 have HF:=jH (aMb X n)
 generalize decide (X<0)=sx at*
 generalize X.natAbs=ax at*
 clear hrx hxs hz
 go_enter Tryz.func175,Tryz.ntmps175
 go_wp2_with fail
 refine aC (fun w':World=>w'.cell? ⟨c,p,none⟩=some (.bool sx)∧w'.cell? ⟨c,p+1,none⟩=some vx) 11 (.take 0 (.take 1 (.take 2 (.take 3 (.take 4 (.take 5 (.take 6 (.take 7 (.take 8 (.take 9 (.run 10 .nil))))))))))) (by kernel_rfl) (by kernel_rfl) ?_
 have hS:(fun w':World=>w'.cell? ⟨c,p,none⟩=some (.bool sx)∧w'.cell? ⟨c,p+1,none⟩=some vx) w.drew:=⟨by go_simp,by go_simp⟩
 repeat (refine tkL (v:= ?_) rfl rfl rfl (fun w' hSw=> ?_) hS ?_;rotate_left;(focus (go_simp;with_reducible rfl));simp only [aF])
 refine aI rfl rfl fun K' hK=> ?_
 go_simp
 refine(aN5 _ ax n _ _ (HRx.out.below (aB w)) hn hl).mono ?_
 rintro e w1 ⟨v1,rfl,hb1,hr1⟩
 have HB:=jH ((aB w).trans hb1)
 have HR1:=jH hr1
 have hS:(fun w':World=>w'.cell? ⟨c,p,none⟩=some (.bool sx)∧w'.cell? ⟨c,p+1,none⟩=some vx) w1:=⟨(HB.out.cell (p:=⟨c,p,none⟩) hcx).trans hx0,(HB.out.cell (p:=⟨c,p+1,none⟩) hcx).trans hx1⟩
 refine hK _ _ hS ?_
 clear hK K'
 clear hb1 hr1
 try simp only [Act.put,aF]
 repeat (refine tkL (v:= ?_) rfl rfl rfl (fun w' hSw=> ?_) hS ?_;rotate_left;(focus (go_simp;with_reducible rfl));simp only [aF])
 clear hS
 refine aN ?_
 simp only [drL]
 go_wp2_with fail
 refine(gY b o _ _ _ _ _ (HZ.out.below HB.out) HR1.out).mono ?_
 rintro e w2 ⟨rfl,hi2,hm2⟩
 have HF2:=jH hi2
 have HM:=jH ((Mod.of_below HB.out HZ.out.1).trans HZ.out.1 hm2)
 clear hi2 hm2
 go_wp2
 go_ret
 rw [←HF.out]
 exact⟨rfl,HF2.out,HM.out⟩
theorem aPp (b o c p d q:Nat) (X Y:Int) (w:World) (hz:fO w b o) (hx:dB .u32 32 w c p X) (hy:dB .u32 32 w d q Y) (hl:ln 32 X.natAbs≤68719476736) (hk:ln 32 Y.natAbs≤68719476736):
  Calls Tryz.prog 203 #[.pointer (some ⟨b,o,none⟩),.pointer (some ⟨c,p,none⟩),.pointer (some ⟨d,q,none⟩)] w (Puts .u32 32 b o (X*Y) w):=by
 obtain⟨hxs,hx0,vx,hx1,hrx⟩:=hx
 have hcx:=hxs.1
 have HRx:=jH hrx
 obtain⟨hys,hy0,vy,hy1,hry⟩:=hy
 have hcy:=hys.1
 have HRy:=jH hry
 have HZ:=jH hz
 have HF:=jH (aLr X Y)
 generalize decide (X<0)=sx at*
 generalize decide (Y<0)=sy at*
 generalize X.natAbs=ax at*
 generalize Y.natAbs=ay at*
 clear hrx hxs hz hry hys
 go_enter Tryz.func203,Tryz.ntmps203
 go_wp2_with fail
 refine aC (fun w':World=>((w'.cell? ⟨c,p,none⟩=some (.bool sx)∧w'.cell? ⟨c,p+1,none⟩=some vx)∧w'.cell? ⟨d,q,none⟩=some (.bool sy))∧w'.cell? ⟨d,q+1,none⟩=some vy) 19 (.take 0 (.take 1 (.take 2 (.take 3 (.take 4 (.take 5 (.take 6 (.take 7 (.take 8 (.take 9 (.take 10 (.take 11 (.take 12 (.take 13 (.take 14 (.take 15 (.take 16 (.take 17 (.run 18 .nil))))))))))))))))))) (by kernel_rfl) (by kernel_rfl) ?_
 have hS:(fun w':World=>((w'.cell? ⟨c,p,none⟩=some (.bool sx)∧w'.cell? ⟨c,p+1,none⟩=some vx)∧w'.cell? ⟨d,q,none⟩=some (.bool sy))∧w'.cell? ⟨d,q+1,none⟩=some vy) w.drew:=⟨⟨⟨by go_simp,by go_simp⟩,by go_simp⟩,by go_simp⟩
 repeat (refine tkL (v:= ?_) rfl rfl rfl (fun w' hSw=> ?_) hS ?_;rotate_left;(focus (go_simp;with_reducible rfl));simp only [aF])
 refine aI rfl rfl fun K' hK=> ?_
 go_simp
 refine(aKs _ _ _ _ ax ay _ (HRx.out.below (aB w)) (HRy.out.below (aB w)) (by omega)).mono ?_
 rintro e w1 ⟨v1,rfl,hb1,hr1⟩
 have HB:=jH ((aB w).trans hb1)
 have HR1:=jH hr1
 have hS:(fun w':World=>((w'.cell? ⟨c,p,none⟩=some (.bool sx)∧w'.cell? ⟨c,p+1,none⟩=some vx)∧w'.cell? ⟨d,q,none⟩=some (.bool sy))∧w'.cell? ⟨d,q+1,none⟩=some vy) w1:=⟨⟨⟨(HB.out.cell (p:=⟨c,p,none⟩) hcx).trans hx0,(HB.out.cell (p:=⟨c,p+1,none⟩) hcx).trans hx1⟩,(HB.out.cell (p:=⟨d,q,none⟩) hcy).trans hy0⟩,(HB.out.cell (p:=⟨d,q+1,none⟩) hcy).trans hy1⟩
 refine hK _ _ hS ?_
 clear hK K'
 clear hb1 hr1
 try simp only [Act.put,aF]
 repeat (refine tkL (v:= ?_) rfl rfl rfl (fun w' hSw=> ?_) hS ?_;rotate_left;(focus (go_simp;with_reducible rfl));simp only [aF])
 clear hS
 refine aN ?_
 simp only [drL]
 go_wp2_with fail
 refine(gY b o _ _ _ _ _ (HZ.out.below HB.out) HR1.out).mono ?_
 rintro e w2 ⟨rfl,hi2,hm2⟩
 have HF2:=jH hi2
 have HM:=jH ((Mod.of_below HB.out HZ.out.1).trans HZ.out.1 hm2)
 clear hi2 hm2
 go_wp2
 go_ret
 rw [←HF.out]
 exact⟨rfl,HF2.out,HM.out⟩
theorem aSv (Y:Int) (turn:Bool):(if(decide (Y<0) !=turn)then-(Y.natAbs:Int)else Y.natAbs)=if turn then-Y else Y:=by
 by_cases h:Y<0<;>cases turn<;>simp [h]<;>omega
theorem aIp (b o c p d q:Nat) (turn:Bool) (X Y:Int) (w:World) (hz:fO w b o) (hx:dB .u32 32 w c p X) (hy:dB .u32 32 w d q Y) (hl:ln 32 X.natAbs≤68719476736) (hk:ln 32 Y.natAbs≤68719476736):
  Calls Tryz.prog 191 #[.pointer (some ⟨b,o,none⟩),.pointer (some ⟨c,p,none⟩),.pointer (some ⟨d,q,none⟩),.bool turn] w (Puts .u32 32 b o (X+if turn then-Y else Y) w):=by
 obtain⟨hxs,hx0,vx,hx1,hrx⟩:=hx
 have hcx:=hxs.1
 have HRx:=jH hrx
 obtain⟨hys,hy0,vy,hy1,hry⟩:=hy
 have hcy:=hys.1
 have HRy:=jH hry
 have HZ:=jH hz
 have ht:=aSv Y turn
 obtain⟨f1,f2⟩:=aH7 X Y.natAbs (decide (Y<0) !=turn)
 rw [ht]at f1 f2
 generalize X+(if turn then-Y else Y)=R at*
 generalize decide (X<0)=sx at*
 generalize X.natAbs=ax at*
 clear ht
 generalize hneg:(decide (Y<0) !=turn)=neg at f1 f2
 generalize decide (Y<0)=sy at*
 generalize Y.natAbs=ay at*
 have hneg2:(!(sy==turn))=neg:=hneg
 clear hrx hxs hz hry hys hneg
 go_enter Tryz.func191,Tryz.ntmps191
 by_cases hs:sx=neg
 ·have HF:=jH (f1 hs)
  have hb:(sx==neg)=true:=by subst hs;simp
  clear f1 f2 hs
  go_wp2_with fail
  refine aC (fun w':World=>w'.cell? ⟨c,p+1,none⟩=some vx∧w'.cell? ⟨d,q+1,none⟩=some vy) 11 (.take 0 (.take 1 (.take 2 (.take 3 (.take 4 (.take 5 (.take 6 (.take 7 (.take 8 (.take 9 (.run 10 .nil))))))))))) (by kernel_rfl) (by kernel_rfl) ?_
  have hS:(fun w':World=>w'.cell? ⟨c,p+1,none⟩=some vx∧w'.cell? ⟨d,q+1,none⟩=some vy) w.drew:=⟨((aB w).cell (p:=⟨c,p+1,none⟩) hcx).trans hx1,((aB w).cell (p:=⟨d,q+1,none⟩) hcy).trans hy1⟩
  repeat (refine tkL (v:= ?_) rfl rfl rfl (fun w' hSw=> ?_) hS ?_;rotate_left;(focus (go_simp;with_reducible rfl));simp only [aF])
  refine aI rfl rfl fun K' hK=> ?_
  go_simp
  refine(aD2 _ _ _ _ ax ay _ (HRx.out.below (aB w)) (HRy.out.below (aB w)) ⟨by omega,by omega⟩).mono ?_
  rintro e w1 ⟨v1,rfl,hb1,hr1⟩
  have HB1:=jH ((aB w).trans hb1)
  have HR1:=jH hr1
  have hS:(fun w':World=>w'.cell? ⟨c,p+1,none⟩=some vx∧w'.cell? ⟨d,q+1,none⟩=some vy) w1:=⟨(HB1.out.cell (p:=⟨c,p+1,none⟩) hcx).trans hx1,(HB1.out.cell (p:=⟨d,q+1,none⟩) hcy).trans hy1⟩
  refine hK _ _ hS ?_
  clear hK K'
  clear hb1 hr1
  try simp only [Act.put,aF]
  repeat (refine tkL (v:= ?_) rfl rfl rfl (fun w' hSw=> ?_) hS ?_;rotate_left;(focus (go_simp;with_reducible rfl));simp only [aF])
  clear hS
  refine aN ?_
  simp only [drL]
  go_wp2_with fail
  refine(gY b o _ _ neg _ _ (HZ.out.below HB1.out) HR1.out).mono ?_
  rintro e w2 ⟨rfl,hi2,hm2⟩
  have HF2:=jH hi2
  have HM:=jH ((Mod.of_below HB1.out HZ.out.1).trans HZ.out.1 hm2)
  clear hi2 hm2
  go_wp2
  go_ret
  rw [←HF.out]
  exact⟨rfl,HF2.out,HM.out⟩
 ·obtain⟨g2,g3⟩:=f2 (by revert hs;cases sx<;>cases neg<;>simp)
  have hb:(sx==neg)=false:=by revert hs;cases sx<;>cases neg<;>simp
  clear f1 f2 hs
  go_wp2_with fail
  refine aC (fun w':World=>w'.cell? ⟨c,p+1,none⟩=some vx∧w'.cell? ⟨d,q+1,none⟩=some vy) 8 (.take 0 (.take 1 (.take 2 (.take 3 (.take 4 (.take 5 (.take 6 (.take 7 .nil)))))))) (by kernel_rfl) (by kernel_rfl) ?_
  have hS:(fun w':World=>w'.cell? ⟨c,p+1,none⟩=some vx∧w'.cell? ⟨d,q+1,none⟩=some vy) w.drew:=⟨((aB w).cell (p:=⟨c,p+1,none⟩) hcx).trans hx1,((aB w).cell (p:=⟨d,q+1,none⟩) hcy).trans hy1⟩
  repeat (refine tkL (v:= ?_) rfl rfl rfl (fun w' hSw=> ?_) hS ?_;rotate_left;(focus (go_simp;with_reducible rfl));simp only [aF])
  clear hS
  refine aN ?_
  simp only [drL]
  by_cases hge:ay≤ax
  ·have HF:=jH (g2 hge)
   have HGE:=jH hge
   have hcmp:decide (dQ ax ay<0)=false:=by
    rw [decide_eq_false_iff_not];unfold dQ;rw [if_neg (by omega)];split<;>omega
   have hcmp2:(0:Int)≤dQ ax ay:=by simpa using hcmp
   clear g2 g3 hge hcmp
   generalize hcz:dQ (ax:Int) ay=cz at hcmp2
   have HCZ:=jH hcz
   clear hcz
   go_wp2_with fail
   refine(oC _ _ ax ay _ (HRx.out.below (aB w)) (HRy.out.below (aB w))).mono ?_
   rintro e wd ⟨rfl,nd,rfl⟩
   rw [HCZ.out]
   have HB:Hid (Below w.heap.size w (w.drew.drewN nd)):=jH ⟨rfl,rfl,rfl,Nat.le_refl _,fun _ _=>rfl⟩
   generalize w.drew.drewN nd=W at HB ⊢
   have hx0':W.cell? ⟨c,p,none⟩=some (.bool sx):=(HB.out.cell (p:=⟨c,p,none⟩) hcx).trans hx0
   go_wp2_with fail
   refine aC (fun w':World=>(w'.cell? ⟨c,p,none⟩=some (.bool sx)∧w'.cell? ⟨c,p+1,none⟩=some vx)∧w'.cell? ⟨d,q+1,none⟩=some vy) 14 (.take 0 (.take 1 (.take 2 (.take 3 (.take 4 (.take 5 (.take 6 (.take 7 (.take 8 (.take 9 (.take 10 (.take 11 (.take 12 (.run 13 .nil)))))))))))))) (by kernel_rfl) (by kernel_rfl) ?_
   have hS:(fun w':World=>(w'.cell? ⟨c,p,none⟩=some (.bool sx)∧w'.cell? ⟨c,p+1,none⟩=some vx)∧w'.cell? ⟨d,q+1,none⟩=some vy) W.drew:=⟨⟨(HB.out.cell (p:=⟨c,p,none⟩) hcx).trans hx0,(HB.out.cell (p:=⟨c,p+1,none⟩) hcx).trans hx1⟩,(HB.out.cell (p:=⟨d,q+1,none⟩) hcy).trans hy1⟩
   repeat (refine tkL (v:= ?_) rfl rfl rfl (fun w' hSw=> ?_) hS ?_;rotate_left;(focus (go_simp;with_reducible rfl));simp only [aF])
   refine aI rfl rfl fun K' hK=> ?_
   go_simp
   refine(sK _ _ _ _ ax ay _ (HRx.out.below HB.out.drew) (HRy.out.below HB.out.drew) (by omega) HGE.out).mono ?_
   rintro e w1 ⟨v1,rfl,hb1,hr1⟩
   have HB1:=jH (HB.out.drew.trans (hb1.mono HB.out.size))
   have HR1:=jH hr1
   have hS:(fun w':World=>(w'.cell? ⟨c,p,none⟩=some (.bool sx)∧w'.cell? ⟨c,p+1,none⟩=some vx)∧w'.cell? ⟨d,q+1,none⟩=some vy) w1:=⟨⟨(HB1.out.cell (p:=⟨c,p,none⟩) hcx).trans hx0,(HB1.out.cell (p:=⟨c,p+1,none⟩) hcx).trans hx1⟩,(HB1.out.cell (p:=⟨d,q+1,none⟩) hcy).trans hy1⟩
   refine hK _ _ hS ?_
   clear hK K'
   clear hb1 hr1
   try simp only [Act.put,aF]
   repeat (refine tkL (v:= ?_) rfl rfl rfl (fun w' hSw=> ?_) hS ?_;rotate_left;(focus (go_simp;with_reducible rfl));simp only [aF])
   clear hS
   refine aN ?_
   simp only [drL]
   go_wp2_with fail
   refine(gY b o _ _ sx _ _ (HZ.out.below HB1.out) HR1.out).mono ?_
   rintro e w2 ⟨rfl,hi2,hm2⟩
   have HF2:=jH hi2
   have HM:=jH ((Mod.of_below HB1.out HZ.out.1).trans HZ.out.1 hm2)
   clear hi2 hm2
   go_wp2
   go_ret
   rw [←HF.out]
   exact⟨rfl,HF2.out,HM.out⟩
  ·have HF:=jH (g3 (by omega))
   have HLE:Hid (ax≤ay):=jH (by omega)
   have hcmp2:dQ ax ay<0:=by unfold dQ;rw [if_pos (by omega)];decide
   clear g2 g3 hge
   generalize hcz:dQ (ax:Int) ay=cz at hcmp2
   have HCZ:=jH hcz
   clear hcz
   go_wp2_with fail
   refine(oC _ _ ax ay _ (HRx.out.below (aB w)) (HRy.out.below (aB w))).mono ?_
   rintro e wd ⟨rfl,nd,rfl⟩
   rw [HCZ.out]
   have HB:Hid (Below w.heap.size w (w.drew.drewN nd)):=jH ⟨rfl,rfl,rfl,Nat.le_refl _,fun _ _=>rfl⟩
   generalize w.drew.drewN nd=W at HB ⊢
   go_wp2_with fail
   refine aC (fun w':World=>w'.cell? ⟨c,p+1,none⟩=some vx∧w'.cell? ⟨d,q+1,none⟩=some vy) 11 (.take 0 (.take 1 (.take 2 (.take 3 (.take 4 (.take 5 (.take 6 (.take 7 (.take 8 (.take 9 (.run 10 .nil))))))))))) (by kernel_rfl) (by kernel_rfl) ?_
   have hS:(fun w':World=>w'.cell? ⟨c,p+1,none⟩=some vx∧w'.cell? ⟨d,q+1,none⟩=some vy) W.drew:=⟨(HB.out.cell (p:=⟨c,p+1,none⟩) hcx).trans hx1,(HB.out.cell (p:=⟨d,q+1,none⟩) hcy).trans hy1⟩
   repeat (refine tkL (v:= ?_) rfl rfl rfl (fun w' hSw=> ?_) hS ?_;rotate_left;(focus (go_simp;with_reducible rfl));simp only [aF])
   refine aI rfl rfl fun K' hK=> ?_
   go_simp
   refine(sK _ _ _ _ ay ax _ (HRy.out.below HB.out.drew) (HRx.out.below HB.out.drew) (by omega) HLE.out).mono ?_
   rintro e w1 ⟨v1,rfl,hb1,hr1⟩
   have HB1:=jH (HB.out.drew.trans (hb1.mono HB.out.size))
   have HR1:=jH hr1
   have hS:(fun w':World=>w'.cell? ⟨c,p+1,none⟩=some vx∧w'.cell? ⟨d,q+1,none⟩=some vy) w1:=⟨(HB1.out.cell (p:=⟨c,p+1,none⟩) hcx).trans hx1,(HB1.out.cell (p:=⟨d,q+1,none⟩) hcy).trans hy1⟩
   refine hK _ _ hS ?_
   clear hK K'
   clear hb1 hr1
   try simp only [Act.put,aF]
   repeat (refine tkL (v:= ?_) rfl rfl rfl (fun w' hSw=> ?_) hS ?_;rotate_left;(focus (go_simp;with_reducible rfl));simp only [aF])
   clear hS
   refine aN ?_
   simp only [drL]
   go_wp2_with fail
   refine(gY b o _ _ neg _ _ (HZ.out.below HB1.out) HR1.out).mono ?_
   rintro e w2 ⟨rfl,hi2,hm2⟩
   have HF2:=jH hi2
   have HM:=jH ((Mod.of_below HB1.out HZ.out.1).trans HZ.out.1 hm2)
   clear hi2 hm2
   go_wp2
   go_ret
   rw [←HF.out]
   exact⟨rfl,HF2.out,HM.out⟩
theorem aGo (b o c p d q:Nat) (X Y:Int) (w:World) (hz:fO w b o) (hx:dB .u32 32 w c p X) (hy:dB .u32 32 w d q Y) (hl:ln 32 X.natAbs≤68719476736) (hk:ln 32 Y.natAbs≤68719476736):
  Calls Tryz.prog 162 #[.pointer (some ⟨b,o,none⟩),.pointer (some ⟨c,p,none⟩),.pointer (some ⟨d,q,none⟩)] w (Puts .u32 32 b o (X+Y) w):=by
 have HS:=jH (aIp b o c p d q false X Y w hz hx hy hl hk)
 clear hz hx hy
 go_enter Tryz.func162,Tryz.ntmps162
 go_wp2_with fail
 refine HS.out.mono ?_
 rintro e w2 ⟨rfl,hi2,hm2⟩
 have HF2:=jH hi2
 have HM:=jH hm2
 clear hi2 hm2
 go_wp2
 go_ret
 exact⟨rfl,HF2.out,HM.out⟩
theorem aQq (b o c p d q:Nat) (X Y:Int) (w:World) (hz:fO w b o) (hx:dB .u32 32 w c p X) (hy:dB .u32 32 w d q Y) (hl:ln 32 X.natAbs≤68719476736) (hk:ln 32 Y.natAbs≤68719476736):
  Calls Tryz.prog 230 #[.pointer (some ⟨b,o,none⟩),.pointer (some ⟨c,p,none⟩),.pointer (some ⟨d,q,none⟩)] w (Puts .u32 32 b o (X-Y) w):=by
 have HS:=jH (aIp b o c p d q true X Y w hz hx hy hl hk)
 clear hz hx hy
 go_enter Tryz.func230,Tryz.ntmps230
 go_wp2_with fail
 refine HS.out.mono ?_
 rintro e w2 ⟨rfl,hi2,hm2⟩
 have HF2:=jH hi2
 have HM:=jH hm2
 clear hi2 hm2
 go_wp2
 go_ret
 exact⟨rfl,HF2.out,HM.out⟩
end
section
set_option maxRecDepth 100000
set_option maxHeartbeats 6400000
open Go.RowKit
def Tryz.aHp :Go.Shelf.Ren:=⟨fun|128=>229|n=>n,fun|51=>233|3=>3|4=>4|46=>160|5=>5|9=>9|n=>n,fun|n=>n⟩
theorem Tryz.lays128 :Go.Proofs.Lays.n128 Tryz.prog Tryz.aHp:={
 mixed:=by kernel_rfl
 f128:=Tryz.func229.trans (congrArg some (by kernel_rfl))
 t3:=Tryz.underlying3
 a3:=Tryz.isAgg3
 z3:=Tryz.sizeOf3
 v3:=Tryz.zeroValue3
 t4:=Tryz.underlying4
 a4:=Tryz.isAgg4
 z4:=Tryz.sizeOf4
 v4:=Tryz.zeroValue4
 t5:=Tryz.underlying5
 a5:=Tryz.isAgg5
 z5:=Tryz.sizeOf5
 v5:=Tryz.zeroValue5
 t9:=Tryz.underlying9
 a9:=Tryz.isAgg9
 z9:=Tryz.sizeOf9
 v9:=Tryz.zeroValue9
 t46:=Tryz.underlying160
 a46:=Tryz.isAgg160
 z46:=Tryz.sizeOf160
 v46:=Tryz.zeroValue160
 t51:=Tryz.underlying233
 a51:=Tryz.isAgg233
 z51:=Tryz.sizeOf233
 v51:=Tryz.zeroValue233}
theorem aEg (x:Nat) (hx:x<4294967296) (w:World):
  Calls Tryz.prog 229 #[.int .u32 x] w fun e w'=>e= .returned (.int .i64 (bl x:Nat))∧w=w':=
 (Any.bits_Len32 Tryz.lays128 x w (by omega) (by omega)).mono fun _ _ ⟨h1,h2⟩=>⟨by rw [h1,Int.toNat_natCast,aEm (by omega)],h2.symm⟩
theorem Raw.uno (w:World):Raw .u32 32 (w.alloc (.cells #[.int .u32 1] 233)) (.slice (some ⟨w.heap.size,0,none⟩) 1 1) 1 1:=by
 refine⟨_,1,rfl,by omega,by decide,by omega,fun _=>⟨w.heap.size,0,rfl,by simp,Elem.new _ _ _,fun i hi=> ?_⟩⟩
 obtain rfl:i=0:=by omega
 rw [show(⟨w.heap.size,0+0,none⟩:Addr)=⟨w.heap.size,0,none⟩from rfl,World.cell?_alloc_new]
 simp [dg]
theorem aSi (X:Int) (n:Nat):
  (decide (X<0)=false→(if false then-((X.natAbs/2^n:Nat):Int)else((X.natAbs/2^n:Nat):Int))=X/2^n)∧
  (decide (X<0)=true→1≤X.natAbs∧(if true then-(((X.natAbs-1)/2^n+1:Nat):Int)else(((X.natAbs-1)/2^n+1:Nat):Int))=X/2^n):=by
 refine⟨(aK4 X n).1,fun h=> ?_⟩
 have hp:0<2^n:=Nat.two_pow_pos n
 have e:(2:Int)^n=((2^n:Nat):Int):=by simp
 simp only [decide_eq_true_eq,if_true]at h ⊢
 rw [e]
 generalize 2^n=M at*
 have hX:X= -(X.natAbs:Int):=by omega
 have h1:1≤X.natAbs:=by omega
 generalize X.natAbs=a at*
 subst hX
 have hd:=Nat.div_add_mod (a-1) M
 have hlt:=Nat.mod_lt (a-1) hp
 generalize (a-1)/M=q at*
 generalize (a-1)%M=r at*
 refine⟨h1,?_⟩
 have ha:a=M*q+r+1:=by omega
 have:(-(a:Int))=((M-1-r:Nat):Int)+(M:Int)*(-((q+1:Nat):Int)):=by
  rw [ha,Int.mul_neg,←Int.natCast_mul,Nat.mul_add,Nat.mul_one];omega
 rw [this,Int.add_mul_ediv_left _ _ (by omega),Int.ediv_eq_zero_of_lt (by omega) (by omega)]
 omega
theorem aJk (N:Nat):dg 64 N 0=dg 32 N 0+dg 32 N 1*4294967296:=by
 unfold dg;simp;omega
theorem aHh (b o c p n:Nat) (X:Int) (w:World) (hz:fO w b o) (hx:dB .u32 32 w c p X) (hl:ln 32 X.natAbs≤68719476736) (hn:n≤1099511627776):
  Calls Tryz.prog 198 #[.pointer (some ⟨b,o,none⟩),.pointer (some ⟨c,p,none⟩),.int .u64 n] w (Puts .u32 32 b o (X/2^n) w):=by
 obtain⟨hxs,hx0,vx,hx1,hrx⟩:=hx
 have hcx:=hxs.1
 have HRx:=jH hrx
 have HZ:=jH hz
 have hlq:ln 32 ((X.natAbs-1)/2^n)≤68719476736:=Nat.le_trans (sN (by decide) (Nat.le_trans (Nat.div_le_self _ _) (by omega))) hl
 have hlm:ln 32 (X.natAbs-1)≤68719476736:=Nat.le_trans (sN (by decide) (by omega)) hl
 obtain⟨f1,f2⟩:=aSi X n
 generalize decide (X<0)=sx at*
 generalize X.natAbs=ax at*
 clear hrx hxs hz
 cases sx
 ·have HF:=jH (f1 rfl)
  clear f1 f2
  go_enter Tryz.func198,Tryz.ntmps198
  go_wp2_with fail
  refine(xX _ ax n _ _ HRx.out hn hl).mono ?_
  rintro e w1 ⟨v1,rfl,hb1,hr1⟩
  have HB:=jH hb1
  have HR1:=jH hr1
  clear hb1 hr1
  go_wp2_with fail
  refine(gY b o _ _ false _ _ (HZ.out.below HB.out) HR1.out).mono ?_
  rintro e w2 ⟨rfl,hi2,hm2⟩
  have HF2:=jH hi2
  have HM:=jH ((Mod.of_below HB.out HZ.out.1).trans HZ.out.1 hm2)
  clear hi2 hm2
  go_wp2
  go_ret
  rw [←HF.out]
  exact⟨rfl,HF2.out,HM.out⟩
 ·have HF:=jH (f2 rfl)
  clear f1 f2
  go_enter Tryz.func198,Tryz.ntmps198
  go_wp2_with fail
  refine(sK _ _ _ 1 ax 1 _ (HRx.out.below (Below.aA _ _)) (Raw.uno _) (by omega) HF.out.1).mono ?_
  rintro e w1 ⟨v1,rfl,hb1,hr1⟩
  have HB1:=jH ((Below.aA w _).trans (hb1.mono (by simp)))
  have HR1:=jH hr1
  clear hb1 hr1
  go_wp2_with fail
  refine(xX _ (ax-1) n _ _ HR1.out hn hlm).mono ?_
  rintro e w2 ⟨v2,rfl,hb2,hr2⟩
  have HB2:=jH (HB1.out.trans (hb2.mono HB1.out.size))
  have HR2:=jH hr2
  obtain⟨av2,cv2,rfl,-⟩:=hr2
  clear hb2
  go_wp2_with fail
  refine(aD2 _ _ _ 1 ((ax-1)/2^n) 1 _ (HR2.out.below (Below.aA _ _)) (Raw.uno _) ⟨by omega,by omega⟩).mono ?_
  rintro e w3 ⟨v3,rfl,hb3,hr3⟩
  have HB:=jH ((HB2.out.alloc HB2.out.size _).trans (hb3.mono (by have:=HB2.out.size;simp;omega)))
  have HR3:=jH hr3
  clear hb3 hr3
  go_wp2_with fail
  refine(gY b o _ _ true _ _ (HZ.out.below HB.out) HR3.out).mono ?_
  rintro e w4 ⟨rfl,hi4,hm4⟩
  have HF2:=jH hi4
  have HM:=jH ((Mod.of_below HB.out HZ.out.1).trans HZ.out.1 hm4)
  clear hi4 hm4
  go_wp2
  go_ret
  rw [←HF.out.2]
  exact⟨rfl,HF2.out,HM.out⟩
theorem uT (c p:Nat) (X:Int) (w:World) (hx:dB .u32 32 w c p X):
  Calls Tryz.prog 193 #[.pointer (some ⟨c,p,none⟩)] w (Gives (.int .i64 (bl X.natAbs:Nat)) w):=by
 obtain⟨hxs,hx0,vx,hx1,hrx⟩:=hx
 obtain⟨ao,cap,rfl,hcap,-,hn,hc⟩:=hrx
 by_cases h0:X.natAbs=0
 ·rw [h0,eG]at hx1
  rw [h0,aF9]
  clear hc hn h0 hx0 hxs
  go_enter Tryz.func193,Tryz.ntmps193
  go_wp2
  go_ret
  exact⟨rfl,Below.refl _ _⟩
 ·have hl:=(kL (s:=32) (N:=X.natAbs) (by decide)).2 (by omega)
  have HB:=jH (aJv (s:=32) (by decide) h0)
  obtain⟨b,off,rfl,hb,-,hc⟩:=hc hl
  have hcell:=hc (ln 32 X.natAbs-1) (by omega)
  have hle:=aY (k:=32) (iT 32 X.natAbs (ln 32 X.natAbs-1))
  have hdl:=bH X.natAbs (ln 32 X.natAbs-1)
  clear hc h0 hx0 hxs
  generalize dg 32 X.natAbs (ln 32 X.natAbs-1)=t at*
  generalize ln 32 X.natAbs=n at*
  have hb1:((n:Int)==0)=false:=by simp;omega
  have k1:IntKind.i64.wrap ((n:Int)-1)=(n:Int)-1:=IntWalk.i64_in _ (by omega)
  have k2:IntKind.i64.wrap (32*((n:Int)-1))=32*((n:Int)-1):=IntWalk.i64_in _ (by omega)
  have k3:(0:Int)≤(n:Int)-1:=by omega
  have k4:(n:Int)-1<(n:Int):=by omega
  have k6:(1:Int)≤(n:Int):=by omega
  have k5:((n:Int)-1).toNat=n-1:=by omega
  have HK:=jH hdl
  have HBL:=jH hle
  go_enter Tryz.func193,Tryz.ntmps193
  go_wp2
  refine aC (fun w':World=>w'.cell? ⟨c,p+1,none⟩=some (.slice (some ⟨b,off,none⟩) n cap)∧w'.cell? ⟨b,off+(n-1),none⟩=some (.int .u32 t)) 20 (.take 0 (.take 1 (.take 2 (.take 3 (.take 4 (.take 5 (.take 6 (.take 7 (.take 8 (.take 9 (.take 10 (.take 11 (.take 12 (.take 13 (.take 14 (.take 15 (.take 16 (.take 17 (.take 18 (.run 19 .nil)))))))))))))))))))) (by kernel_rfl) (by kernel_rfl) ?_
  have hS:(fun w':World=>w'.cell? ⟨c,p+1,none⟩=some (.slice (some ⟨b,off,none⟩) n cap)∧w'.cell? ⟨b,off+(n-1),none⟩=some (.int .u32 t)) w.drew:=⟨hx1,hcell⟩
  repeat (refine tkL (v:= ?_) rfl rfl rfl (fun w' hSw=> ?_) hS ?_;rotate_left;(focus (go_simp;with_reducible rfl));simp only [aF])
  refine aI rfl rfl fun K' hK=> ?_
  go_simp
  refine(aEg t HK.out _).mono ?_
  rintro e w1 ⟨rfl,rfl⟩
  have hS:(fun w':World=>w'.cell? ⟨c,p+1,none⟩=some (.slice (some ⟨b,off,none⟩) n cap)∧w'.cell? ⟨b,off+(n-1),none⟩=some (.int .u32 t)) w.drew:=⟨hx1,hcell⟩
  refine hK _ _ hS ?_
  clear hK K'
  try simp only [Act.put,aF]
  repeat (refine tkL (v:= ?_) rfl rfl rfl (fun w' hSw=> ?_) hS ?_;rotate_left;(focus (go_simp;with_reducible rfl));simp only [aF])
  clear hS
  refine aN ?_
  simp only [drL]
  go_wp2
  go_ret
  exact⟨congrArg Ending.returned (congrArg (Value.int .i64) (by rw [HB.out];omega)),aB _⟩
theorem aHe (c p:Nat) (X:Int) (w:World) (hx:dB .u32 32 w c p X):
  Calls Tryz.prog 200 #[.pointer (some ⟨c,p,none⟩)] w (Gives (.int .u64 (dg 64 X.natAbs 0:Nat)) w):=by
 obtain⟨hxs,hx0,vx,hx1,hrx⟩:=hx
 obtain⟨ao,cap,rfl,-,hN,hn,hc⟩:=hrx
 have HD:=jH (aJk X.natAbs)
 have HN:=jH hN
 have HC:=jH hc
 clear hN hc hxs hx0
 generalize X.natAbs=N at*
 generalize ln 32 N=n at*
 by_cases h0:n=0
 ·subst h0
  have e0:dg 64 N 0=0:=by rw [HD.out,fK HN.out (Nat.le_refl _),fK HN.out (Nat.zero_le _)]
  rw [e0]
  clear e0
  go_enter Tryz.func200,Tryz.ntmps200
  go_wp2
  go_ret
  exact⟨rfl,Below.refl _ _⟩
 obtain⟨b,off,rfl,hb,-,hc⟩:=HC.out (by omega)
 have hc0:=hc 0 (by omega)
 rw [Nat.add_zero]at hc0
 have hd0:=bH N 0
 by_cases h1:n=1
 ·subst h1
  have e0:dg 64 N 0=dg 32 N 0:=by rw [HD.out,fK HN.out (Nat.le_refl _),Nat.zero_mul,Nat.add_zero]
  rw [e0]
  clear e0 hc h0 HD
  generalize dg 32 N 0=x at*
  go_enter Tryz.func200,Tryz.ntmps200
  go_wp2
  go_ret
  exact⟨rfl,Below.refl _ _⟩
 have hc1:=hc 1 (by omega)
 have hd1:=bH N 1
 have hn2:(1:Int)<(n:Int):=by omega
 have hor:=or_hi hd0 hd1
 rw [HD.out]
 clear hc h0 h1 HD
 generalize dg 32 N 0=x at*
 generalize dg 32 N 1=y at*
 rw [show((y*4294967296:Nat):Int)=(y:Int)*4294967296 from by simp]at hor
 go_enter Tryz.func200,Tryz.ntmps200
 go_wp2
 go_ret
 exact⟨rfl,Below.refl _ _⟩
end
end Go.Proofs.YtfmecpembnmnkaaGreatDoor
