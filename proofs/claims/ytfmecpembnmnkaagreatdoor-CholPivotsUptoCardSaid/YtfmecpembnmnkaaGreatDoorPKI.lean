/- Walks: the references' intervals: Mul, above. Printed by wip/gen/cx8.py. -/
import Derived.Test.YtfmecpembnmnkaaGreatDoorPKH
import Derived.Deep.CutBlock
import Derived.Test.YtfmecpembnmnkaaGreatDoorPII
namespace Go.Proofs.YtfmecpembnmnkaaGreatDoor
section
set_option maxRecDepth 100000
set_option maxHeartbeats 6400000
open Go.RowKit
attribute [local go_sem] bG
def loQ (P:Nat→Int→Int):Nat→Int
 |0=>aG
 |i+1=>min (loQ P i) (P i 4)
def hiQ (P:Nat→Int→Int):Nat→Int
 |0=> -(aG:Int)
 |i+1=>max (hiQ P i) (P i 3)
def zT (l h m k:Nat) (i:Nat) (mode:Int):Int:=prK (if i<2 then l else h) (if i%2=0 then m else k) mode
theorem aJ.aP {w:World}{b t:Nat}{x y:Value}(h:aJ w b t #[x,y]):(w.cell? ⟨b,0,none⟩=some x∧w.cell? ⟨b,1,none⟩=some y)∧w.frozen? ⟨b,0,none⟩=false∧w.frozen? ⟨b,1,none⟩=false:=
 ⟨⟨h.cell 0,h.cell 1⟩,h.frozen 0,h.frozen 1⟩
theorem aUv (l h m k:Nat) (w:World) (hl:W64 l) (hh:W64 h) (hm:W64 m) (hk:W64 k):
  Calls Tryz.prog 53 #[.agg #[.float .f64 l,.float .f64 h],.agg #[.float .f64 m,.float .f64 k]] w (Gives (.agg #[.float .f64 (ivL (tH (ivK l h) (ivK m k))),.float .f64 (ivH (tH (ivK l h) (ivK m k)))]) w):=by
 have HFA:=jH fun w=>jO l h w hl hh
 have HFB:=jH fun w=>jO m k w hm hk
 have HE:=jH fun w=>oZ w
 have HIP:=jH fun w=>oD w
 have HIN:=jH fun w=>kK w
 have HW:=jH (I3.new w l h m k)
 rcases e1:ivK l h with _|p
 ·rw [e1,Option.isSome_none]at HFA
  rw [show ivL (tH none (ivK m k))=9218868437227405312 from rfl,show ivH (tH none (ivK m k))=18442240474082181120 from rfl]
  clear e1 HFB
  go_enter Tryz.func53,Tryz.ntmps53
  obtain⟨⟨⟨c0,c1⟩,c2,c3⟩,q0,q1,q2,q3⟩:=HW.out.cells
  go_wp2_with fail
  refine(HFA.out _).mono ?_
  rintro e1 w1 ⟨rfl,hb1⟩
  replace HW:=jH (HW.out.later hb1)
  clear hb1 c0 c1 c2 c3 q0 q1 q2 q3
  obtain⟨⟨⟨c0,c1⟩,c2,c3⟩,q0,q1,q2,q3⟩:=HW.out.cells
  go_wp2_with fail
  refine(HE.out _).mono ?_
  rintro e2 w2 ⟨rfl,hb2⟩
  replace HW:=jH (HW.out.later hb2)
  clear hb2 c0 c1 c2 c3 q0 q1 q2 q3
  obtain⟨⟨⟨c0,c1⟩,c2,c3⟩,q0,q1,q2,q3⟩:=HW.out.cells
  go_wp2
  refine bodyPost_ret (v:= .agg #[.float .f64 9218868437227405312,.float .f64 18442240474082181120]) (by simp [results,Tryz.results53,go_sem,q0,q1]) rfl ⟨rfl,HW.out.stored _ _⟩
 rw [e1,Option.isSome_some]at HFA
 rcases e2:ivK m k with _|q
 ·rw [e2,Option.isSome_none]at HFB
  rw [show ivL (tH (some p) none)=9218868437227405312 from rfl,show ivH (tH (some p) none)=18442240474082181120 from rfl]
  clear e1 e2
  go_enter Tryz.func53,Tryz.ntmps53
  obtain⟨⟨⟨c0,c1⟩,c2,c3⟩,q0,q1,q2,q3⟩:=HW.out.cells
  go_wp2_with fail
  refine(HFA.out _).mono ?_
  rintro e1 w1 ⟨rfl,hb1⟩
  replace HW:=jH (HW.out.later hb1)
  clear hb1 c0 c1 c2 c3 q0 q1 q2 q3
  obtain⟨⟨⟨c0,c1⟩,c2,c3⟩,q0,q1,q2,q3⟩:=HW.out.cells
  go_wp2_with fail
  refine(HFB.out _).mono ?_
  rintro e2 w2 ⟨rfl,hb2⟩
  replace HW:=jH (HW.out.later hb2)
  clear hb2 c0 c1 c2 c3 q0 q1 q2 q3
  obtain⟨⟨⟨c0,c1⟩,c2,c3⟩,q0,q1,q2,q3⟩:=HW.out.cells
  go_wp2_with fail
  refine(HE.out _).mono ?_
  rintro e3 w3 ⟨rfl,hb3⟩
  replace HW:=jH (HW.out.later hb3)
  clear hb3 c0 c1 c2 c3 q0 q1 q2 q3
  obtain⟨⟨⟨c0,c1⟩,c2,c3⟩,q0,q1,q2,q3⟩:=HW.out.cells
  go_wp2
  refine bodyPost_ret (v:= .agg #[.float .f64 9218868437227405312,.float .f64 18442240474082181120]) (by simp [results,Tryz.results53,go_sem,q0,q1]) rfl ⟨rfl,HW.out.stored _ _⟩
 rw [e2,Option.isSome_some]at HFB
 have a1:=pK hl hh
 have a2:=pK hm hk
 rw [e1]at a1
 rw [e2]at a2
 obtain⟨nl,nh,rfl⟩:=dX e1
 obtain⟨nm,nk,rfl⟩:=dX e2
 have b1:=a1 _ _ rfl
 have b2:=a2 _ _ rfl
 clear a1 a2
 have hL:ivL (tH (some (ky l,ky h)) (some (ky m,ky k)))=kb (loQ (zT l h m k) 4):=by
  show kb (min (min (min (min (aG:Int) (prK (kb (ky l)) (kb (ky m)) 4)) (prK (kb (ky l)) (kb (ky k)) 4)) (prK (kb (ky h)) (kb (ky m)) 4)) (prK (kb (ky h)) (kb (ky k)) 4))=_
  rw [jU,jU,jU,jU];rfl
 have hH:ivH (tH (some (ky l,ky h)) (some (ky m,ky k)))=kb (hiQ (zT l h m k) 4):=by
  show kb (max (max (max (max (-(aG:Int)) (prK (kb (ky l)) (kb (ky m)) 3)) (prK (kb (ky l)) (kb (ky k)) 3)) (prK (kb (ky h)) (kb (ky m)) 3)) (prK (kb (ky h)) (kb (ky k)) 3))=_
  rw [jU,jU,jU,jU];rfl
 rw [hL,hH]
 have HP04:=jH fun W=>(show Calls Tryz.prog 109 #[.float .f64 l,.float .f64 m,.int .i64 4] W (eX (zT l h m k 0 4) W)from kV l m 4 W hl hm nl nm (.inr rfl))
 have HP03:=jH fun W=>(show Calls Tryz.prog 109 #[.float .f64 l,.float .f64 m,.int .i64 3] W (eX (zT l h m k 0 3) W)from kV l m 3 W hl hm nl nm (.inl rfl))
 have HP14:=jH fun W=>(show Calls Tryz.prog 109 #[.float .f64 l,.float .f64 k,.int .i64 4] W (eX (zT l h m k 1 4) W)from kV l k 4 W hl hk nl nk (.inr rfl))
 have HP13:=jH fun W=>(show Calls Tryz.prog 109 #[.float .f64 l,.float .f64 k,.int .i64 3] W (eX (zT l h m k 1 3) W)from kV l k 3 W hl hk nl nk (.inl rfl))
 have HP24:=jH fun W=>(show Calls Tryz.prog 109 #[.float .f64 h,.float .f64 m,.int .i64 4] W (eX (zT l h m k 2 4) W)from kV h m 4 W hh hm nh nm (.inr rfl))
 have HP23:=jH fun W=>(show Calls Tryz.prog 109 #[.float .f64 h,.float .f64 m,.int .i64 3] W (eX (zT l h m k 2 3) W)from kV h m 3 W hh hm nh nm (.inl rfl))
 have HP34:=jH fun W=>(show Calls Tryz.prog 109 #[.float .f64 h,.float .f64 k,.int .i64 4] W (eX (zT l h m k 3 4) W)from kV h k 4 W hh hk nh nk (.inr rfl))
 have HP33:=jH fun W=>(show Calls Tryz.prog 109 #[.float .f64 h,.float .f64 k,.int .i64 3] W (eX (zT l h m k 3 3) W)from kV h k 3 W hh hk nh nk (.inl rfl))
 obtain⟨L,hLL⟩:∃L,kb (loQ (zT l h m k) 4)=L:=⟨_,rfl⟩
 obtain⟨H,hHH⟩:∃H,kb (hiQ (zT l h m k) 4)=H:=⟨_,rfl⟩
 rw [hLL,hHH]
 have HLH:=jH (And.intro hLL hHH)
 clear hL hH hLL hHH e1 e2 nl nh nm nk hl hh hm hk HE b1 b2
 generalize zT l h m k=P0 at*
 go_enter Tryz.func53,Tryz.ntmps53
 obtain⟨⟨⟨c0,c1⟩,c2,c3⟩,q0,q1,q2,q3⟩:=HW.out.cells
 go_wp2_with fail
 refine(HFA.out _).mono ?_
 rintro e1 w1 ⟨rfl,hb1⟩
 replace HW:=jH (HW.out.later hb1)
 clear hb1 c0 c1 c2 c3 q0 q1 q2 q3
 obtain⟨⟨⟨c0,c1⟩,c2,c3⟩,q0,q1,q2,q3⟩:=HW.out.cells
 go_wp2_with fail
 refine(HFB.out _).mono ?_
 rintro e2 w2 ⟨rfl,hb2⟩
 replace HW:=jH (HW.out.later hb2)
 clear hb2 c0 c1 c2 c3 q0 q1 q2 q3
 obtain⟨⟨⟨c0,c1⟩,c2,c3⟩,q0,q1,q2,q3⟩:=HW.out.cells
 clear HFA HFB
 obtain⟨⟨⟨u0,u1⟩,u2,u3⟩,u4,u5,u6,u7⟩:=(HW.out.later (Below.aA w2 (.cells #[.float .f64 l,.float .f64 l,.float .f64 h,.float .f64 h] 136))).cells
 go_upto_region 5 with fail
 clear c0 c1 c2 c3 q0 q1 q2 q3 u0 u1 u2 u3 u4 u5 u6 u7
 have HB:=jH (Bks.new2 w2 136 #[.float .f64 l,.float .f64 l,.float .f64 h,.float .f64 h] #[.float .f64 m,.float .f64 k,.float .f64 m,.float .f64 k])
 replace HW:=jH (HW.out.later HB.out.2)
 have H5:=jH (HB.out.get (.head _))
 have H6:=jH (HB.out.get (.tail _ (.head _)))
 clear HB
 generalize World.alloc (World.alloc w2 _) _=W2 at HW H5 H6 ⊢
 generalize w2.heap.size+1=b6 at*
 generalize w2.heap.size=b5 at*
 go_wp2_with fail
 refine(HIP.out _).mono ?_
 rintro e3 w3 ⟨rfl,hb3⟩
 replace HW:=jH (HW.out.later hb3)
 replace H5:=jH (H5.out.below hb3)
 replace H6:=jH (H6.out.below hb3)
 clear hb3
 go_wp2_with fail
 refine(HIN.out _).mono ?_
 rintro e4 w4 ⟨rfl,hb4⟩
 replace HW:=jH (HW.out.later hb4)
 replace H5:=jH (H5.out.below hb4)
 replace H6:=jH (H6.out.below hb4)
 clear hb4
 clear HIP HIN
 go_wp2
 go_loopw [7,8,9] (fun lo hi i wr=>∃(j:Int) (a b:Nat),(0≤j∧j≤4)∧i= .int .i64 j∧lo= .float .f64 a∧hi= .float .f64 b∧Hid ((W64 a∧aU a=false∧ky a=loQ P0 j.toNat)∧W64 b∧aU b=false∧ky b=hiQ P0 j.toNat)∧Hid (I3 w wr l h m k)∧Hid (aJ wr b5 136 #[.float .f64 l,.float .f64 l,.float .f64 h,.float .f64 h])∧Hid (aJ wr b6 136 #[.float .f64 m,.float .f64 k,.float .f64 m,.float .f64 k])) (fun _ _ i _=>4-(intOf i).toNat)
 case atStart=>exact⟨0,_,_,by omega,rfl,rfl,rfl,jH ⟨⟨by decide,by decide,show ky 9218868437227405312=(aG:Int) by decide⟩,by decide,by decide,show ky 18442240474082181120= -(aG:Int) by decide⟩,HW,H5,H6⟩
 case round=>
  clear HW H5 H6
  obtain⟨j,a,b,hj,rfl,rfl,rfl,HAB,HW,H5,H6⟩:=hrel
  have hcase:j=0∨j=1∨j=2∨j=3∨j=4:=by omega
  rcases hcase with rfl|rfl|rfl|rfl|rfl
  ·go_upto_region 9 with fail
   refine aC (fun w':World=>(w'.cell? ⟨b5,0,none⟩=some (.float .f64 l)∧w'.cell? ⟨b5,1,none⟩=some (.float .f64 l)∧w'.cell? ⟨b5,2,none⟩=some (.float .f64 h)∧w'.cell? ⟨b5,3,none⟩=some (.float .f64 h))∧w'.cell? ⟨b6,0,none⟩=some (.float .f64 m)∧w'.cell? ⟨b6,1,none⟩=some (.float .f64 k)∧w'.cell? ⟨b6,2,none⟩=some (.float .f64 m)∧w'.cell? ⟨b6,3,none⟩=some (.float .f64 k)) 8 (.take 0 (.take 1 (.take 2 (.take 3 (.take 4 (.take 5 (.take 6 (.run 7 (.nil))))))))) (by kernel_rfl) (by kernel_rfl) ?_
   replace HW:=jH (HW.out.later (aB _))
   replace H5:=jH (H5.out.below (aB _))
   replace H6:=jH (H6.out.below (aB _))
   generalize World.drew _=W9_0 at HW H5 H6 ⊢
   repeat (refine tkL (v:= ?_) rfl rfl rfl (fun w' hSw=> ?_) (⟨H5.out.cells4.1,H6.out.cells4.1⟩) ?_;rotate_left;(focus (go_simp;with_reducible rfl));simp only [aF])
   refine aI rfl rfl fun K' hK=> ?_
   go_simp
   refine(HP04.out _).mono ?_
   rintro e1 W9_0v1 ⟨r0,rfl,l0,n0,k0,hb1⟩
   replace HW:=jH (HW.out.later hb1)
   replace H5:=jH (H5.out.below hb1)
   replace H6:=jH (H6.out.below hb1)
   have HT0:=jH (And.intro l0 (And.intro n0 k0))
   clear l0 n0 k0
   refine hK _ _ ⟨H5.out.cells4.1,H6.out.cells4.1⟩ ?_
   clear hK K' hb1
   try simp only [Act.put,aF]
   repeat (refine tkL (v:= ?_) rfl rfl rfl (fun w' hSw=> ?_) (⟨H5.out.cells4.1,H6.out.cells4.1⟩) ?_;rotate_left;(focus (go_simp;with_reducible rfl));simp only [aF])
   refine aN ?_
   simp only [drL]
   have HM0:=jH fun W=>pF a r0 W HAB.out.1.1 HT0.out.1 HAB.out.1.2.1 HT0.out.2.1
   rw [HT0.out.2.2,HAB.out.1.2.2]at HM0
   go_wp2_with fail
   refine(HM0.out _).mono ?_
   rintro e9 w9 ⟨s0,rfl,l0,n0,k0,hb9⟩
   replace HW:=jH (HW.out.later hb9)
   replace H5:=jH (H5.out.below hb9)
   replace H6:=jH (H6.out.below hb9)
   have HS0:=jH (And.intro l0 (And.intro n0 k0))
   clear l0 n0 k0 hb9 HM0 HT0
   go_upto_region 10 with fail
   refine aC (fun w':World=>(w'.cell? ⟨b5,0,none⟩=some (.float .f64 l)∧w'.cell? ⟨b5,1,none⟩=some (.float .f64 l)∧w'.cell? ⟨b5,2,none⟩=some (.float .f64 h)∧w'.cell? ⟨b5,3,none⟩=some (.float .f64 h))∧w'.cell? ⟨b6,0,none⟩=some (.float .f64 m)∧w'.cell? ⟨b6,1,none⟩=some (.float .f64 k)∧w'.cell? ⟨b6,2,none⟩=some (.float .f64 m)∧w'.cell? ⟨b6,3,none⟩=some (.float .f64 k)) 8 (.take 0 (.take 1 (.take 2 (.take 3 (.take 4 (.take 5 (.take 6 (.run 7 (.nil))))))))) (by kernel_rfl) (by kernel_rfl) ?_
   replace HW:=jH (HW.out.later (aB _))
   replace H5:=jH (H5.out.below (aB _))
   replace H6:=jH (H6.out.below (aB _))
   generalize World.drew _=W10_0 at HW H5 H6 ⊢
   repeat (refine tkL (v:= ?_) rfl rfl rfl (fun w' hSw=> ?_) (⟨H5.out.cells4.1,H6.out.cells4.1⟩) ?_;rotate_left;(focus (go_simp;with_reducible rfl));simp only [aF])
   refine aI rfl rfl fun K' hK=> ?_
   go_simp
   refine(HP03.out _).mono ?_
   rintro e1 W10_0v1 ⟨r1,rfl,l1,n1,k1,hb1⟩
   replace HW:=jH (HW.out.later hb1)
   replace H5:=jH (H5.out.below hb1)
   replace H6:=jH (H6.out.below hb1)
   have HT1:=jH (And.intro l1 (And.intro n1 k1))
   clear l1 n1 k1
   refine hK _ _ ⟨H5.out.cells4.1,H6.out.cells4.1⟩ ?_
   clear hK K' hb1
   try simp only [Act.put,aF]
   repeat (refine tkL (v:= ?_) rfl rfl rfl (fun w' hSw=> ?_) (⟨H5.out.cells4.1,H6.out.cells4.1⟩) ?_;rotate_left;(focus (go_simp;with_reducible rfl));simp only [aF])
   refine aN ?_
   simp only [drL]
   have HM1:=jH fun W=>lY b r1 W HAB.out.2.1 HT1.out.1 HAB.out.2.2.1 HT1.out.2.1
   rw [HT1.out.2.2,HAB.out.2.2.2]at HM1
   go_wp2_with fail
   refine(HM1.out _).mono ?_
   rintro e10 w10 ⟨s1,rfl,l1,n1,k1,hb10⟩
   replace HW:=jH (HW.out.later hb10)
   replace H5:=jH (H5.out.below hb10)
   replace H6:=jH (H6.out.below hb10)
   have HS1:=jH (And.intro l1 (And.intro n1 k1))
   clear l1 n1 k1 hb10 HM1 HT1
   go_wp2
   go_roundw
   case rel=>exact⟨1,s0,s1,by omega,rfl,rfl,rfl,jH ⟨HS0.out,HS1.out⟩,HW,H5,H6⟩
   case measure=>simp [intOf]
  ·go_upto_region 9 with fail
   refine aC (fun w':World=>(w'.cell? ⟨b5,0,none⟩=some (.float .f64 l)∧w'.cell? ⟨b5,1,none⟩=some (.float .f64 l)∧w'.cell? ⟨b5,2,none⟩=some (.float .f64 h)∧w'.cell? ⟨b5,3,none⟩=some (.float .f64 h))∧w'.cell? ⟨b6,0,none⟩=some (.float .f64 m)∧w'.cell? ⟨b6,1,none⟩=some (.float .f64 k)∧w'.cell? ⟨b6,2,none⟩=some (.float .f64 m)∧w'.cell? ⟨b6,3,none⟩=some (.float .f64 k)) 8 (.take 0 (.take 1 (.take 2 (.take 3 (.take 4 (.take 5 (.take 6 (.run 7 (.nil))))))))) (by kernel_rfl) (by kernel_rfl) ?_
   replace HW:=jH (HW.out.later (aB _))
   replace H5:=jH (H5.out.below (aB _))
   replace H6:=jH (H6.out.below (aB _))
   generalize World.drew _=W9_1 at HW H5 H6 ⊢
   repeat (refine tkL (v:= ?_) rfl rfl rfl (fun w' hSw=> ?_) (⟨H5.out.cells4.1,H6.out.cells4.1⟩) ?_;rotate_left;(focus (go_simp;with_reducible rfl));simp only [aF])
   refine aI rfl rfl fun K' hK=> ?_
   go_simp
   refine(HP14.out _).mono ?_
   rintro e1 W9_1v1 ⟨r0,rfl,l0,n0,k0,hb1⟩
   replace HW:=jH (HW.out.later hb1)
   replace H5:=jH (H5.out.below hb1)
   replace H6:=jH (H6.out.below hb1)
   have HT0:=jH (And.intro l0 (And.intro n0 k0))
   clear l0 n0 k0
   refine hK _ _ ⟨H5.out.cells4.1,H6.out.cells4.1⟩ ?_
   clear hK K' hb1
   try simp only [Act.put,aF]
   repeat (refine tkL (v:= ?_) rfl rfl rfl (fun w' hSw=> ?_) (⟨H5.out.cells4.1,H6.out.cells4.1⟩) ?_;rotate_left;(focus (go_simp;with_reducible rfl));simp only [aF])
   refine aN ?_
   simp only [drL]
   have HM0:=jH fun W=>pF a r0 W HAB.out.1.1 HT0.out.1 HAB.out.1.2.1 HT0.out.2.1
   rw [HT0.out.2.2,HAB.out.1.2.2]at HM0
   go_wp2_with fail
   refine(HM0.out _).mono ?_
   rintro e9 w9 ⟨s0,rfl,l0,n0,k0,hb9⟩
   replace HW:=jH (HW.out.later hb9)
   replace H5:=jH (H5.out.below hb9)
   replace H6:=jH (H6.out.below hb9)
   have HS0:=jH (And.intro l0 (And.intro n0 k0))
   clear l0 n0 k0 hb9 HM0 HT0
   go_upto_region 10 with fail
   refine aC (fun w':World=>(w'.cell? ⟨b5,0,none⟩=some (.float .f64 l)∧w'.cell? ⟨b5,1,none⟩=some (.float .f64 l)∧w'.cell? ⟨b5,2,none⟩=some (.float .f64 h)∧w'.cell? ⟨b5,3,none⟩=some (.float .f64 h))∧w'.cell? ⟨b6,0,none⟩=some (.float .f64 m)∧w'.cell? ⟨b6,1,none⟩=some (.float .f64 k)∧w'.cell? ⟨b6,2,none⟩=some (.float .f64 m)∧w'.cell? ⟨b6,3,none⟩=some (.float .f64 k)) 8 (.take 0 (.take 1 (.take 2 (.take 3 (.take 4 (.take 5 (.take 6 (.run 7 (.nil))))))))) (by kernel_rfl) (by kernel_rfl) ?_
   replace HW:=jH (HW.out.later (aB _))
   replace H5:=jH (H5.out.below (aB _))
   replace H6:=jH (H6.out.below (aB _))
   generalize World.drew _=W10_1 at HW H5 H6 ⊢
   repeat (refine tkL (v:= ?_) rfl rfl rfl (fun w' hSw=> ?_) (⟨H5.out.cells4.1,H6.out.cells4.1⟩) ?_;rotate_left;(focus (go_simp;with_reducible rfl));simp only [aF])
   refine aI rfl rfl fun K' hK=> ?_
   go_simp
   refine(HP13.out _).mono ?_
   rintro e1 W10_1v1 ⟨r1,rfl,l1,n1,k1,hb1⟩
   replace HW:=jH (HW.out.later hb1)
   replace H5:=jH (H5.out.below hb1)
   replace H6:=jH (H6.out.below hb1)
   have HT1:=jH (And.intro l1 (And.intro n1 k1))
   clear l1 n1 k1
   refine hK _ _ ⟨H5.out.cells4.1,H6.out.cells4.1⟩ ?_
   clear hK K' hb1
   try simp only [Act.put,aF]
   repeat (refine tkL (v:= ?_) rfl rfl rfl (fun w' hSw=> ?_) (⟨H5.out.cells4.1,H6.out.cells4.1⟩) ?_;rotate_left;(focus (go_simp;with_reducible rfl));simp only [aF])
   refine aN ?_
   simp only [drL]
   have HM1:=jH fun W=>lY b r1 W HAB.out.2.1 HT1.out.1 HAB.out.2.2.1 HT1.out.2.1
   rw [HT1.out.2.2,HAB.out.2.2.2]at HM1
   go_wp2_with fail
   refine(HM1.out _).mono ?_
   rintro e10 w10 ⟨s1,rfl,l1,n1,k1,hb10⟩
   replace HW:=jH (HW.out.later hb10)
   replace H5:=jH (H5.out.below hb10)
   replace H6:=jH (H6.out.below hb10)
   have HS1:=jH (And.intro l1 (And.intro n1 k1))
   clear l1 n1 k1 hb10 HM1 HT1
   go_wp2
   go_roundw
   case rel=>exact⟨2,s0,s1,by omega,rfl,rfl,rfl,jH ⟨HS0.out,HS1.out⟩,HW,H5,H6⟩
   case measure=>simp [intOf]
  ·go_upto_region 9 with fail
   refine aC (fun w':World=>(w'.cell? ⟨b5,0,none⟩=some (.float .f64 l)∧w'.cell? ⟨b5,1,none⟩=some (.float .f64 l)∧w'.cell? ⟨b5,2,none⟩=some (.float .f64 h)∧w'.cell? ⟨b5,3,none⟩=some (.float .f64 h))∧w'.cell? ⟨b6,0,none⟩=some (.float .f64 m)∧w'.cell? ⟨b6,1,none⟩=some (.float .f64 k)∧w'.cell? ⟨b6,2,none⟩=some (.float .f64 m)∧w'.cell? ⟨b6,3,none⟩=some (.float .f64 k)) 8 (.take 0 (.take 1 (.take 2 (.take 3 (.take 4 (.take 5 (.take 6 (.run 7 (.nil))))))))) (by kernel_rfl) (by kernel_rfl) ?_
   replace HW:=jH (HW.out.later (aB _))
   replace H5:=jH (H5.out.below (aB _))
   replace H6:=jH (H6.out.below (aB _))
   generalize World.drew _=W9_2 at HW H5 H6 ⊢
   repeat (refine tkL (v:= ?_) rfl rfl rfl (fun w' hSw=> ?_) (⟨H5.out.cells4.1,H6.out.cells4.1⟩) ?_;rotate_left;(focus (go_simp;with_reducible rfl));simp only [aF])
   refine aI rfl rfl fun K' hK=> ?_
   go_simp
   refine(HP24.out _).mono ?_
   rintro e1 W9_2v1 ⟨r0,rfl,l0,n0,k0,hb1⟩
   replace HW:=jH (HW.out.later hb1)
   replace H5:=jH (H5.out.below hb1)
   replace H6:=jH (H6.out.below hb1)
   have HT0:=jH (And.intro l0 (And.intro n0 k0))
   clear l0 n0 k0
   refine hK _ _ ⟨H5.out.cells4.1,H6.out.cells4.1⟩ ?_
   clear hK K' hb1
   try simp only [Act.put,aF]
   repeat (refine tkL (v:= ?_) rfl rfl rfl (fun w' hSw=> ?_) (⟨H5.out.cells4.1,H6.out.cells4.1⟩) ?_;rotate_left;(focus (go_simp;with_reducible rfl));simp only [aF])
   refine aN ?_
   simp only [drL]
   have HM0:=jH fun W=>pF a r0 W HAB.out.1.1 HT0.out.1 HAB.out.1.2.1 HT0.out.2.1
   rw [HT0.out.2.2,HAB.out.1.2.2]at HM0
   go_wp2_with fail
   refine(HM0.out _).mono ?_
   rintro e9 w9 ⟨s0,rfl,l0,n0,k0,hb9⟩
   replace HW:=jH (HW.out.later hb9)
   replace H5:=jH (H5.out.below hb9)
   replace H6:=jH (H6.out.below hb9)
   have HS0:=jH (And.intro l0 (And.intro n0 k0))
   clear l0 n0 k0 hb9 HM0 HT0
   go_upto_region 10 with fail
   refine aC (fun w':World=>(w'.cell? ⟨b5,0,none⟩=some (.float .f64 l)∧w'.cell? ⟨b5,1,none⟩=some (.float .f64 l)∧w'.cell? ⟨b5,2,none⟩=some (.float .f64 h)∧w'.cell? ⟨b5,3,none⟩=some (.float .f64 h))∧w'.cell? ⟨b6,0,none⟩=some (.float .f64 m)∧w'.cell? ⟨b6,1,none⟩=some (.float .f64 k)∧w'.cell? ⟨b6,2,none⟩=some (.float .f64 m)∧w'.cell? ⟨b6,3,none⟩=some (.float .f64 k)) 8 (.take 0 (.take 1 (.take 2 (.take 3 (.take 4 (.take 5 (.take 6 (.run 7 (.nil))))))))) (by kernel_rfl) (by kernel_rfl) ?_
   replace HW:=jH (HW.out.later (aB _))
   replace H5:=jH (H5.out.below (aB _))
   replace H6:=jH (H6.out.below (aB _))
   generalize World.drew _=W10_2 at HW H5 H6 ⊢
   repeat (refine tkL (v:= ?_) rfl rfl rfl (fun w' hSw=> ?_) (⟨H5.out.cells4.1,H6.out.cells4.1⟩) ?_;rotate_left;(focus (go_simp;with_reducible rfl));simp only [aF])
   refine aI rfl rfl fun K' hK=> ?_
   go_simp
   refine(HP23.out _).mono ?_
   rintro e1 W10_2v1 ⟨r1,rfl,l1,n1,k1,hb1⟩
   replace HW:=jH (HW.out.later hb1)
   replace H5:=jH (H5.out.below hb1)
   replace H6:=jH (H6.out.below hb1)
   have HT1:=jH (And.intro l1 (And.intro n1 k1))
   clear l1 n1 k1
   refine hK _ _ ⟨H5.out.cells4.1,H6.out.cells4.1⟩ ?_
   clear hK K' hb1
   try simp only [Act.put,aF]
   repeat (refine tkL (v:= ?_) rfl rfl rfl (fun w' hSw=> ?_) (⟨H5.out.cells4.1,H6.out.cells4.1⟩) ?_;rotate_left;(focus (go_simp;with_reducible rfl));simp only [aF])
   refine aN ?_
   simp only [drL]
   have HM1:=jH fun W=>lY b r1 W HAB.out.2.1 HT1.out.1 HAB.out.2.2.1 HT1.out.2.1
   rw [HT1.out.2.2,HAB.out.2.2.2]at HM1
   go_wp2_with fail
   refine(HM1.out _).mono ?_
   rintro e10 w10 ⟨s1,rfl,l1,n1,k1,hb10⟩
   replace HW:=jH (HW.out.later hb10)
   replace H5:=jH (H5.out.below hb10)
   replace H6:=jH (H6.out.below hb10)
   have HS1:=jH (And.intro l1 (And.intro n1 k1))
   clear l1 n1 k1 hb10 HM1 HT1
   go_wp2
   go_roundw
   case rel=>exact⟨3,s0,s1,by omega,rfl,rfl,rfl,jH ⟨HS0.out,HS1.out⟩,HW,H5,H6⟩
   case measure=>simp [intOf]
  ·go_upto_region 9 with fail
   refine aC (fun w':World=>(w'.cell? ⟨b5,0,none⟩=some (.float .f64 l)∧w'.cell? ⟨b5,1,none⟩=some (.float .f64 l)∧w'.cell? ⟨b5,2,none⟩=some (.float .f64 h)∧w'.cell? ⟨b5,3,none⟩=some (.float .f64 h))∧w'.cell? ⟨b6,0,none⟩=some (.float .f64 m)∧w'.cell? ⟨b6,1,none⟩=some (.float .f64 k)∧w'.cell? ⟨b6,2,none⟩=some (.float .f64 m)∧w'.cell? ⟨b6,3,none⟩=some (.float .f64 k)) 8 (.take 0 (.take 1 (.take 2 (.take 3 (.take 4 (.take 5 (.take 6 (.run 7 (.nil))))))))) (by kernel_rfl) (by kernel_rfl) ?_
   replace HW:=jH (HW.out.later (aB _))
   replace H5:=jH (H5.out.below (aB _))
   replace H6:=jH (H6.out.below (aB _))
   generalize World.drew _=W9_3 at HW H5 H6 ⊢
   repeat (refine tkL (v:= ?_) rfl rfl rfl (fun w' hSw=> ?_) (⟨H5.out.cells4.1,H6.out.cells4.1⟩) ?_;rotate_left;(focus (go_simp;with_reducible rfl));simp only [aF])
   refine aI rfl rfl fun K' hK=> ?_
   go_simp
   refine(HP34.out _).mono ?_
   rintro e1 W9_3v1 ⟨r0,rfl,l0,n0,k0,hb1⟩
   replace HW:=jH (HW.out.later hb1)
   replace H5:=jH (H5.out.below hb1)
   replace H6:=jH (H6.out.below hb1)
   have HT0:=jH (And.intro l0 (And.intro n0 k0))
   clear l0 n0 k0
   refine hK _ _ ⟨H5.out.cells4.1,H6.out.cells4.1⟩ ?_
   clear hK K' hb1
   try simp only [Act.put,aF]
   repeat (refine tkL (v:= ?_) rfl rfl rfl (fun w' hSw=> ?_) (⟨H5.out.cells4.1,H6.out.cells4.1⟩) ?_;rotate_left;(focus (go_simp;with_reducible rfl));simp only [aF])
   refine aN ?_
   simp only [drL]
   have HM0:=jH fun W=>pF a r0 W HAB.out.1.1 HT0.out.1 HAB.out.1.2.1 HT0.out.2.1
   rw [HT0.out.2.2,HAB.out.1.2.2]at HM0
   go_wp2_with fail
   refine(HM0.out _).mono ?_
   rintro e9 w9 ⟨s0,rfl,l0,n0,k0,hb9⟩
   replace HW:=jH (HW.out.later hb9)
   replace H5:=jH (H5.out.below hb9)
   replace H6:=jH (H6.out.below hb9)
   have HS0:=jH (And.intro l0 (And.intro n0 k0))
   clear l0 n0 k0 hb9 HM0 HT0
   go_upto_region 10 with fail
   refine aC (fun w':World=>(w'.cell? ⟨b5,0,none⟩=some (.float .f64 l)∧w'.cell? ⟨b5,1,none⟩=some (.float .f64 l)∧w'.cell? ⟨b5,2,none⟩=some (.float .f64 h)∧w'.cell? ⟨b5,3,none⟩=some (.float .f64 h))∧w'.cell? ⟨b6,0,none⟩=some (.float .f64 m)∧w'.cell? ⟨b6,1,none⟩=some (.float .f64 k)∧w'.cell? ⟨b6,2,none⟩=some (.float .f64 m)∧w'.cell? ⟨b6,3,none⟩=some (.float .f64 k)) 8 (.take 0 (.take 1 (.take 2 (.take 3 (.take 4 (.take 5 (.take 6 (.run 7 (.nil))))))))) (by kernel_rfl) (by kernel_rfl) ?_
   replace HW:=jH (HW.out.later (aB _))
   replace H5:=jH (H5.out.below (aB _))
   replace H6:=jH (H6.out.below (aB _))
   generalize World.drew _=W10_3 at HW H5 H6 ⊢
   repeat (refine tkL (v:= ?_) rfl rfl rfl (fun w' hSw=> ?_) (⟨H5.out.cells4.1,H6.out.cells4.1⟩) ?_;rotate_left;(focus (go_simp;with_reducible rfl));simp only [aF])
   refine aI rfl rfl fun K' hK=> ?_
   go_simp
   refine(HP33.out _).mono ?_
   rintro e1 W10_3v1 ⟨r1,rfl,l1,n1,k1,hb1⟩
   replace HW:=jH (HW.out.later hb1)
   replace H5:=jH (H5.out.below hb1)
   replace H6:=jH (H6.out.below hb1)
   have HT1:=jH (And.intro l1 (And.intro n1 k1))
   clear l1 n1 k1
   refine hK _ _ ⟨H5.out.cells4.1,H6.out.cells4.1⟩ ?_
   clear hK K' hb1
   try simp only [Act.put,aF]
   repeat (refine tkL (v:= ?_) rfl rfl rfl (fun w' hSw=> ?_) (⟨H5.out.cells4.1,H6.out.cells4.1⟩) ?_;rotate_left;(focus (go_simp;with_reducible rfl));simp only [aF])
   refine aN ?_
   simp only [drL]
   have HM1:=jH fun W=>lY b r1 W HAB.out.2.1 HT1.out.1 HAB.out.2.2.1 HT1.out.2.1
   rw [HT1.out.2.2,HAB.out.2.2.2]at HM1
   go_wp2_with fail
   refine(HM1.out _).mono ?_
   rintro e10 w10 ⟨s1,rfl,l1,n1,k1,hb10⟩
   replace HW:=jH (HW.out.later hb10)
   replace H5:=jH (H5.out.below hb10)
   replace H6:=jH (H6.out.below hb10)
   have HS1:=jH (And.intro l1 (And.intro n1 k1))
   clear l1 n1 k1 hb10 HM1 HT1
   go_wp2
   go_roundw
   case rel=>exact⟨4,s0,s1,by omega,rfl,rfl,rfl,jH ⟨HS0.out,HS1.out⟩,HW,H5,H6⟩
   case measure=>simp [intOf]
  ·obtain⟨⟨⟨c0,c1⟩,c2,c3⟩,q0,q1,q2,q3⟩:=HW.out.cells
   go_wp2_with fail
   have HMK:=jH fun W=>lW a b W HAB.out.1.1 HAB.out.2.1 HAB.out.1.2.1 HAB.out.2.2.1
   rw [HAB.out.1.2.2,HAB.out.2.2.2,show(4:Int).toNat=4 from rfl,HLH.out.1,HLH.out.2]at HMK
   refine(HMK.out _).mono ?_
   rintro e9 w9 ⟨rfl,hb9⟩
   replace HW:=jH (HW.out.later hb9)
   clear hb9 HMK c0 c1 c2 c3 q0 q1 q2 q3
   obtain⟨⟨⟨c0,c1⟩,c2,c3⟩,q0,q1,q2,q3⟩:=HW.out.cells
   go_wp2
   refine bodyPost_ret (v:= .agg #[.float .f64 L,.float .f64 H]) (by simp [results,Tryz.results53,go_sem,q0,q1]) rfl ⟨rfl,HW.out.stored _ _⟩
theorem rU (p:Prop) [Decidable p]:(decide p=true→p)∧(decide p=false→¬p):=⟨of_decide_eq_true,of_decide_eq_false⟩
theorem aWz {l h u v:Nat}(c:0≤ky l) (v0:ky v≠0):(ovK (ky l) (ky h) (ky u) (ky v)).1=quK l v 4:=by
 show byK (kb (ky l)) (kb (if ky l<0 then ky u else ky v)) 4=_
 rw [if_neg (by omega),qP];exact if_neg (fun t=>v0 t.1)
theorem aTu {l h u v:Nat}(c:ky l<0) (v0:ky u=0):(ovK (ky l) (ky h) (ky u) (ky v)).1= -(aG:Int):=by
 show byK (kb (ky l)) (kb (if ky l<0 then ky u else ky v)) 4=_
 rw [if_pos c,qP];unfold byK;rw [if_pos ⟨v0,by omega⟩,if_neg (by omega)]
theorem aUh {l h u v:Nat}(c:ky l<0) (v0:ky u≠0):(ovK (ky l) (ky h) (ky u) (ky v)).1=quK l u 4:=by
 show byK (kb (ky l)) (kb (if ky l<0 then ky u else ky v)) 4=_
 rw [if_pos c,qP];exact if_neg (fun t=>v0 t.1)
theorem aUj {l h u v:Nat}(c:ky h≤0) (v0:ky v≠0):(ovK (ky l) (ky h) (ky u) (ky v)).2=quK h v 3:=by
 show byK (kb (ky h)) (kb (if 0<ky h then ky u else ky v)) 3=_
 rw [if_neg (by omega),qP];exact if_neg (fun t=>v0 t.1)
theorem aQk {l h u v:Nat}(c:0<ky h) (v0:ky u=0):(ovK (ky l) (ky h) (ky u) (ky v)).2=(aG:Int):=by
 show byK (kb (ky h)) (kb (if 0<ky h then ky u else ky v)) 3=_
 rw [if_pos c,qP];unfold byK;rw [if_pos ⟨v0,by omega⟩,if_pos c]
theorem aQg {l h u v:Nat}(c:0<ky h) (v0:ky u≠0):(ovK (ky l) (ky h) (ky u) (ky v)).2=quK h u 3:=by
 show byK (kb (ky h)) (kb (if 0<ky h then ky u else ky v)) 3=_
 rw [if_pos c,qP];exact if_neg (fun t=>v0 t.1)
theorem aD9 (l h u v:Nat) (w:World) (hl:W64 l) (hh:W64 h) (hu:W64 u) (hv:W64 v) (nl:aU l=false) (nh:aU h=false) (nu:aU u=false) (nv:aU v=false) (u0:0≤ky u) (u1:ky u<aG) (v1:0<ky v):
  Calls Tryz.prog 113 #[.agg #[.float .f64 l,.float .f64 h],.float .f64 u,.float .f64 v] w (Gives (.agg #[.float .f64 (kb (ovK (ky l) (ky h) (ky u) (ky v)).1),.float .f64 (kb (ovK (ky l) (ky h) (ky u) (ky v)).2)]) w):=by
 have t1:=aEr hl (by decide:W64 0) nl (by decide)
 have t2:=yR hh (by decide:W64 0) nh (by decide)
 have t3:=eq_test hu (by decide:W64 0) nu (by decide)
 rw [dW]at t1 t2 t3
 have v0:ky v≠0:=by omega
 have HNB:=jH fun R fl W=>qJ R fl W
 have HD:=jH fun W=>mV W
 have HI0:=jH fun w=>kK w
 have HI1:=jH fun w=>oD w
 have HX0:=jH fun W=>jJ l W hl nl
 have HX1:=jH fun W=>jJ h W hh nh
 have HZ:=jH fun W=>jJ u W hu nu
 have HO0:=jH fun W=>aG9 l v 4 W hl hv nl nv (.inr rfl) v0
 have HO1:=jH fun W=>aG9 h v 3 W hh hv nh nv (.inl rfl) v0
 have HK:=jH (Bks.aWf (Bks.aH6 w 37 37 37 #[.float .f64 l,.float .f64 h] #[.float .f64 0,.float .f64 0] #[.float .f64 0,.float .f64 0]))
 have hfu:aK u=true:=by
  have h2:=kQ hu (dH nu)
  have h3: -(aG:Int)<0:=by decide
  exact(gW hu (dH nu)).2 ⟨by omega,u1⟩
 obtain⟨f0,hf0⟩:∃f,w.heap.size=f:=⟨_,rfl⟩
 rw [hf0]at HK
 obtain⟨K0,hK0⟩:∃k,(ovK (ky l) (ky h) (ky u) (ky v)).1=k:=⟨_,rfl⟩
 obtain⟨K1,hK1⟩:∃k,(ovK (ky l) (ky h) (ky u) (ky v)).2=k:=⟨_,rfl⟩
 rw [hK0,hK1]
 have L1:Hid (0≤ky l→quK l v 4=K0):=jH fun c=>by rw [←hK0,aWz c v0]
 have L2:Hid (¬0≤ky l→ky u=0→K0= -(aG:Int)):=jH fun c z=>by rw [←hK0,aTu (by omega) z]
 have L3:=jH fun(c:¬0≤ky l) (z:¬ky u=0) p q W (h1:fU W p (bJ l:Nat)) (h2:fU W q (bJ u:Nat))=>(show Calls Tryz.prog 143 #[iK,iJ (dM l) (aQ l) p (bT l),iJ (dM u) (aQ u) q (bT u),.int .i64 4] W (aDo K0 W)from by rw [←hK0,aUh (by omega) z];exact aCn l u p q 4 W hl hu hfu (by omega) z (.inr rfl) h1 h2)
 have M1:Hid (ky h≤0→quK h v 3=K1):=jH fun c=>by rw [←hK1,aUj c v0]
 have M2:Hid (¬ky h≤0→ky u=0→K1=(aG:Int)):=jH fun c z=>by rw [←hK1,aQk (by omega) z]
 have M3:=jH fun(c:¬ky h≤0) (z:¬ky u=0) p q W (h1:fU W p (bJ h:Nat)) (h2:fU W q (bJ u:Nat))=>(show Calls Tryz.prog 143 #[iK,iJ (dM h) (aQ h) p (bT h),iJ (dM u) (aQ u) q (bT u),.int .i64 3] W (aDo K1 W)from by rw [←hK1,aQg (by omega) z];exact aCn h u p q 3 W hh hu hfu (by omega) z (.inl rfl) h1 h2)
 have B0:=jH (rU (0≤ky l))
 have BZ:=jH (rU (ky u=0))
 have B1:=jH (rU (ky h≤0))
 generalize decide (0≤ky l)=b0 at*
 generalize decide (ky u=0)=bz at*
 generalize decide (ky h≤0)=b1 at*
 generalize quK l v 4=Q0 at*
 generalize quK h v 3=Q1 at*
 clear hK0 hK1 hl hh hu hv nl nh nu nv u0 u1 v1 v0 hfu
 generalize ky l=kl at*
 generalize ky h=kh at*
 generalize ky u=ku at*
 generalize aQ l=sgl at*
 generalize bJ l=mtl at*
 generalize bT l=xpl at*
 generalize dM l=kdl at*
 generalize aQ h=sgh at*
 generalize bJ h=mth at*
 generalize bT h=xph at*
 generalize dM h=kdh at*
 generalize aQ u=sgu at*
 generalize bJ u=mtu at*
 generalize bT u=xpu at*
 generalize dM u=kdu at*
 unfold pI aDo at*
 unfold iJ iK at*
 go_enter Tryz.func113,Tryz.ntmps113
 obtain⟨⟨o0,o1⟩,o2,o3⟩:=(HK.out.get (.head _)).aP
 obtain⟨⟨p0,p1⟩,p2,p3⟩:=(HK.out.get (.tail _ (.head _))).aP
 obtain⟨⟨q0,q1⟩,q2,q3⟩:=(HK.out.get (.tail _ (.tail _ (.head _)))).aP
 go_upto_block 0 with fail
 go_cut []from 8 to 32 (fun wx=>∃R0:Nat,Hid (W64 R0∧aU R0=false∧ky R0=K0)∧Hid (Bks w wx [(f0+1+1,37,#[.float .f64 R0,.float .f64 0]),(f0,37,#[.float .f64 l,.float .f64 h]),(f0+1,37,#[.float .f64 0,.float .f64 0])]))
 case first=>
  cases b0
  ·cases bz
   ·go_upto_region 2 with fail
    clear o0 o1 o2 o3 p0 p1 p2 p3 q0 q1 q2 q3
    refine aC (fun w':World=>w'.cell? ⟨f0,0,none⟩=some (.float .f64 l)∧w'.cell? ⟨f0,1,none⟩=some (.float .f64 h)) 9 (.take 1 (.take 2 (.take 4 (.run 0 (.run 3 (.run 5 (.run 6 (.take 7 (.take 8 (.nil)))))))))) (by kernel_rfl) (by kernel_rfl) ?_
    replace HK:=jH (HK.out.later (aB _))
    generalize World.drew _=W2 at HK ⊢
    repeat (refine tkL (v:= ?_) rfl rfl rfl (fun w' hSw=> ?_) (HK.out.two (.tail _ (.head _))) ?_;rotate_left;(focus (go_simp;with_reducible rfl));simp only [aF])
    refine aI rfl rfl fun K' hK=> ?_
    go_simp
    refine(HD.out _).mono ?_
    rintro e1 W2v1 ⟨rfl,hb1⟩
    replace HK:=jH (HK.out.later hb1)
    refine hK _ _ (HK.out.two (.tail _ (.head _))) ?_
    clear hK K' hb1
    try simp only [Act.put,aF]
    repeat (refine tkL (v:= ?_) rfl rfl rfl (fun w' hSw=> ?_) (HK.out.two (.tail _ (.head _))) ?_;rotate_left;(focus (go_simp;with_reducible rfl));simp only [aF])
    refine aI rfl rfl fun K' hK=> ?_
    go_simp
    refine(HX0.out _).mono ?_
    rintro e1 W2v2 ⟨q1,rfl,-,hq1,hb1⟩
    replace HK:=jH (HK.out.later hb1)
    have HQ1:=jH hq1
    clear hq1
    refine hK _ _ (HK.out.two (.tail _ (.head _))) ?_
    clear hK K' hb1
    try simp only [Act.put,aF]
    repeat (refine tkL (v:= ?_) rfl rfl rfl (fun w' hSw=> ?_) (HK.out.two (.tail _ (.head _))) ?_;rotate_left;(focus (go_simp;with_reducible rfl));simp only [aF])
    refine aI rfl rfl fun K' hK=> ?_
    go_simp
    refine(HZ.out _).mono ?_
    rintro e1 W2v3 ⟨q2,rfl,-,hq2,hb1⟩
    replace HK:=jH (HK.out.later hb1)
    have HQ2:=jH hq2
    clear hq2
    replace HQ1:=jH (HQ1.out.below hb1)
    refine hK _ _ (HK.out.two (.tail _ (.head _))) ?_
    clear hK K' hb1
    try simp only [Act.put,aF]
    repeat (refine tkL (v:= ?_) rfl rfl rfl (fun w' hSw=> ?_) (HK.out.two (.tail _ (.head _))) ?_;rotate_left;(focus (go_simp;with_reducible rfl));simp only [aF])
    refine aI rfl rfl fun K' hK=> ?_
    go_simp
    refine(L3.out (B0.out.2 rfl) (BZ.out.2 rfl) q1 q2 _ HQ1.out HQ2.out).mono ?_
    rintro e1 W2v4 ⟨R,fl,rfl,a1,a2,a3,hb1⟩
    replace HK:=jH (HK.out.later hb1)
    have HJJ:=jH (And.intro a1 (And.intro a2 a3))
    clear a1 a2 a3 HQ1 HQ2
    refine hK _ _ (HK.out.two (.tail _ (.head _))) ?_
    clear hK K' hb1
    try simp only [Act.put,aF]
    repeat (refine tkL (v:= ?_) rfl rfl rfl (fun w' hSw=> ?_) (HK.out.two (.tail _ (.head _))) ?_;rotate_left;(focus (go_simp;with_reducible rfl));simp only [aF])
    refine aN ?_
    simp only [drL]
    obtain⟨⟨o0,o1⟩,o2,o3⟩:=(HK.out.get (.head _)).aP
    obtain⟨⟨p0,p1⟩,p2,p3⟩:=(HK.out.get (.tail _ (.head _))).aP
    obtain⟨⟨q0,q1⟩,q2,q3⟩:=(HK.out.get (.tail _ (.tail _ (.head _)))).aP
    go_wp2_with fail
    refine(HNB.out R fl _).mono ?_
    rintro e1 w1 ⟨rfl,hb1⟩
    replace HK:=jH (HK.out.later hb1)
    clear hb1
    clear o0 o1 o2 o3 p0 p1 p2 p3 q0 q1 q2 q3
    obtain⟨⟨o0,o1⟩,o2,o3⟩:=(HK.out.get (.head _)).aP
    obtain⟨⟨p0,p1⟩,p2,p3⟩:=(HK.out.get (.tail _ (.head _))).aP
    obtain⟨⟨q0,q1⟩,q2,q3⟩:=(HK.out.get (.tail _ (.tail _ (.head _)))).aP
    go_wp2
    go_meet
    exact⟨R,HJJ,jH (HK.out.set (by omega) (fun t m=>by simp only [List.mem_cons,List.not_mem_nil,or_false]at m;rcases m with rfl|rfl<;>simp<;>omega) 0 (.float .f64 R))⟩
   ·go_wp2_with fail
    refine(HI0.out _).mono ?_
    rintro e1 w1 ⟨rfl,hb1⟩
    replace HK:=jH (HK.out.later hb1)
    clear hb1
    clear o0 o1 o2 o3 p0 p1 p2 p3 q0 q1 q2 q3
    obtain⟨⟨o0,o1⟩,o2,o3⟩:=(HK.out.get (.head _)).aP
    obtain⟨⟨p0,p1⟩,p2,p3⟩:=(HK.out.get (.tail _ (.head _))).aP
    obtain⟨⟨q0,q1⟩,q2,q3⟩:=(HK.out.get (.tail _ (.tail _ (.head _)))).aP
    have HJJ:Hid (W64 18442240474082181120∧aU 18442240474082181120=false∧ky 18442240474082181120=K0):=jH ⟨by decide,by decide,by rw [L2.out (B0.out.2 (by first|rfl|trivial)) (BZ.out.1 (by first|rfl|trivial))];decide⟩
    go_wp2
    go_meet
    exact⟨18442240474082181120,HJJ,jH (HK.out.set (by omega) (fun t m=>by simp only [List.mem_cons,List.not_mem_nil,or_false]at m;rcases m with rfl|rfl<;>simp<;>omega) 0 (.float .f64 18442240474082181120))⟩
  ·go_wp2_with fail
   refine(HO0.out _).mono ?_
   rintro e1 w1 ⟨R,rfl,a1,a2,a3,hb1⟩
   replace HK:=jH (HK.out.later hb1)
   have HJJ:=jH (And.intro a1 (And.intro a2 (a3.trans (L1.out (B0.out.1 (by first|rfl|trivial))))))
   clear a1 a2 a3
   clear hb1
   clear o0 o1 o2 o3 p0 p1 p2 p3 q0 q1 q2 q3
   obtain⟨⟨o0,o1⟩,o2,o3⟩:=(HK.out.get (.head _)).aP
   obtain⟨⟨p0,p1⟩,p2,p3⟩:=(HK.out.get (.tail _ (.head _))).aP
   obtain⟨⟨q0,q1⟩,q2,q3⟩:=(HK.out.get (.tail _ (.tail _ (.head _)))).aP
   go_wp2
   go_meet
   exact⟨R,HJJ,jH (HK.out.set (by omega) (fun t m=>by simp only [List.mem_cons,List.not_mem_nil,or_false]at m;rcases m with rfl|rfl<;>simp<;>omega) 0 (.float .f64 R))⟩
 case rest=>
 obtain⟨R0,HJ0,HK⟩:=hcut
 clear o0 o1 o2 o3 p0 p1 p2 p3 q0 q1 q2 q3
 obtain⟨⟨o0,o1⟩,o2,o3⟩:=(HK.out.get (.head _)).aP
 obtain⟨⟨p0,p1⟩,p2,p3⟩:=(HK.out.get (.tail _ (.head _))).aP
 obtain⟨⟨q0,q1⟩,q2,q3⟩:=(HK.out.get (.tail _ (.tail _ (.head _)))).aP
 go_upto_block 1 with fail
 go_cut []from 33 to 57 (fun wx=>∃R1:Nat,Hid (W64 R1∧aU R1=false∧ky R1=K1)∧Hid (Bks w wx [(f0+1+1,37,#[.float .f64 R0,.float .f64 R1]),(f0,37,#[.float .f64 l,.float .f64 h]),(f0+1,37,#[.float .f64 0,.float .f64 0])]))
 case first=>
  cases b1
  ·cases bz
   ·go_upto_region 7 with fail
    clear o0 o1 o2 o3 p0 p1 p2 p3 q0 q1 q2 q3
    refine aC (fun w':World=>w'.cell? ⟨f0,0,none⟩=some (.float .f64 l)∧w'.cell? ⟨f0,1,none⟩=some (.float .f64 h)) 9 (.take 1 (.take 2 (.take 4 (.run 0 (.run 3 (.run 5 (.run 6 (.take 7 (.take 8 (.nil)))))))))) (by kernel_rfl) (by kernel_rfl) ?_
    replace HK:=jH (HK.out.later (aB _))
    generalize World.drew _=W12 at HK ⊢
    repeat (refine tkL (v:= ?_) rfl rfl rfl (fun w' hSw=> ?_) (HK.out.two (.tail _ (.head _))) ?_;rotate_left;(focus (go_simp;with_reducible rfl));simp only [aF])
    refine aI rfl rfl fun K' hK=> ?_
    go_simp
    refine(HD.out _).mono ?_
    rintro e1 W12v1 ⟨rfl,hb1⟩
    replace HK:=jH (HK.out.later hb1)
    refine hK _ _ (HK.out.two (.tail _ (.head _))) ?_
    clear hK K' hb1
    try simp only [Act.put,aF]
    repeat (refine tkL (v:= ?_) rfl rfl rfl (fun w' hSw=> ?_) (HK.out.two (.tail _ (.head _))) ?_;rotate_left;(focus (go_simp;with_reducible rfl));simp only [aF])
    refine aI rfl rfl fun K' hK=> ?_
    go_simp
    refine(HX1.out _).mono ?_
    rintro e1 W12v2 ⟨q1,rfl,-,hq1,hb1⟩
    replace HK:=jH (HK.out.later hb1)
    have HQ1:=jH hq1
    clear hq1
    refine hK _ _ (HK.out.two (.tail _ (.head _))) ?_
    clear hK K' hb1
    try simp only [Act.put,aF]
    repeat (refine tkL (v:= ?_) rfl rfl rfl (fun w' hSw=> ?_) (HK.out.two (.tail _ (.head _))) ?_;rotate_left;(focus (go_simp;with_reducible rfl));simp only [aF])
    refine aI rfl rfl fun K' hK=> ?_
    go_simp
    refine(HZ.out _).mono ?_
    rintro e1 W12v3 ⟨q2,rfl,-,hq2,hb1⟩
    replace HK:=jH (HK.out.later hb1)
    have HQ2:=jH hq2
    clear hq2
    replace HQ1:=jH (HQ1.out.below hb1)
    refine hK _ _ (HK.out.two (.tail _ (.head _))) ?_
    clear hK K' hb1
    try simp only [Act.put,aF]
    repeat (refine tkL (v:= ?_) rfl rfl rfl (fun w' hSw=> ?_) (HK.out.two (.tail _ (.head _))) ?_;rotate_left;(focus (go_simp;with_reducible rfl));simp only [aF])
    refine aI rfl rfl fun K' hK=> ?_
    go_simp
    refine(M3.out (B1.out.2 rfl) (BZ.out.2 rfl) q1 q2 _ HQ1.out HQ2.out).mono ?_
    rintro e1 W12v4 ⟨R,fl,rfl,a1,a2,a3,hb1⟩
    replace HK:=jH (HK.out.later hb1)
    have HJJ:=jH (And.intro a1 (And.intro a2 a3))
    clear a1 a2 a3 HQ1 HQ2
    refine hK _ _ (HK.out.two (.tail _ (.head _))) ?_
    clear hK K' hb1
    try simp only [Act.put,aF]
    repeat (refine tkL (v:= ?_) rfl rfl rfl (fun w' hSw=> ?_) (HK.out.two (.tail _ (.head _))) ?_;rotate_left;(focus (go_simp;with_reducible rfl));simp only [aF])
    refine aN ?_
    simp only [drL]
    obtain⟨⟨o0,o1⟩,o2,o3⟩:=(HK.out.get (.head _)).aP
    obtain⟨⟨p0,p1⟩,p2,p3⟩:=(HK.out.get (.tail _ (.head _))).aP
    obtain⟨⟨q0,q1⟩,q2,q3⟩:=(HK.out.get (.tail _ (.tail _ (.head _)))).aP
    go_wp2_with fail
    refine(HNB.out R fl _).mono ?_
    rintro e11 w11 ⟨rfl,hb11⟩
    replace HK:=jH (HK.out.later hb11)
    clear hb11
    clear o0 o1 o2 o3 p0 p1 p2 p3 q0 q1 q2 q3
    obtain⟨⟨o0,o1⟩,o2,o3⟩:=(HK.out.get (.head _)).aP
    obtain⟨⟨p0,p1⟩,p2,p3⟩:=(HK.out.get (.tail _ (.head _))).aP
    obtain⟨⟨q0,q1⟩,q2,q3⟩:=(HK.out.get (.tail _ (.tail _ (.head _)))).aP
    go_wp2
    go_meet
    exact⟨R,HJJ,jH (HK.out.set (by omega) (fun t m=>by simp only [List.mem_cons,List.not_mem_nil,or_false]at m;rcases m with rfl|rfl<;>simp<;>omega) 1 (.float .f64 R))⟩
   ·go_wp2_with fail
    refine(HI1.out _).mono ?_
    rintro e11 w11 ⟨rfl,hb11⟩
    replace HK:=jH (HK.out.later hb11)
    clear hb11
    clear o0 o1 o2 o3 p0 p1 p2 p3 q0 q1 q2 q3
    obtain⟨⟨o0,o1⟩,o2,o3⟩:=(HK.out.get (.head _)).aP
    obtain⟨⟨p0,p1⟩,p2,p3⟩:=(HK.out.get (.tail _ (.head _))).aP
    obtain⟨⟨q0,q1⟩,q2,q3⟩:=(HK.out.get (.tail _ (.tail _ (.head _)))).aP
    have HJJ:Hid (W64 9218868437227405312∧aU 9218868437227405312=false∧ky 9218868437227405312=K1):=jH ⟨by decide,by decide,by rw [M2.out (B1.out.2 (by first|rfl|trivial)) (BZ.out.1 (by first|rfl|trivial))];decide⟩
    go_wp2
    go_meet
    exact⟨9218868437227405312,HJJ,jH (HK.out.set (by omega) (fun t m=>by simp only [List.mem_cons,List.not_mem_nil,or_false]at m;rcases m with rfl|rfl<;>simp<;>omega) 1 (.float .f64 9218868437227405312))⟩
  ·go_wp2_with fail
   refine(HO1.out _).mono ?_
   rintro e11 w11 ⟨R,rfl,a1,a2,a3,hb11⟩
   replace HK:=jH (HK.out.later hb11)
   have HJJ:=jH (And.intro a1 (And.intro a2 (a3.trans (M1.out (B1.out.1 (by first|rfl|trivial))))))
   clear a1 a2 a3
   clear hb11
   clear o0 o1 o2 o3 p0 p1 p2 p3 q0 q1 q2 q3
   obtain⟨⟨o0,o1⟩,o2,o3⟩:=(HK.out.get (.head _)).aP
   obtain⟨⟨p0,p1⟩,p2,p3⟩:=(HK.out.get (.tail _ (.head _))).aP
   obtain⟨⟨q0,q1⟩,q2,q3⟩:=(HK.out.get (.tail _ (.tail _ (.head _)))).aP
   go_wp2
   go_meet
   exact⟨R,HJJ,jH (HK.out.set (by omega) (fun t m=>by simp only [List.mem_cons,List.not_mem_nil,or_false]at m;rcases m with rfl|rfl<;>simp<;>omega) 1 (.float .f64 R))⟩
 case rest=>
 obtain⟨R1,HJ1,HK⟩:=hcut
 clear o0 o1 o2 o3 p0 p1 p2 p3 q0 q1 q2 q3
 obtain⟨⟨o0,o1⟩,o2,o3⟩:=(HK.out.get (.head _)).aP
 obtain⟨⟨p0,p1⟩,p2,p3⟩:=(HK.out.get (.tail _ (.head _))).aP
 obtain⟨⟨q0,q1⟩,q2,q3⟩:=(HK.out.get (.tail _ (.tail _ (.head _)))).aP
 go_upto_region 12 with fail
 have HMK:=jH fun W=>lW R0 R1 W HJ0.out.1 HJ1.out.1 HJ0.out.2.1 HJ1.out.2.1
 rw [HJ0.out.2.2,HJ1.out.2.2]at HMK
 generalize kb K0=L at*
 generalize kb K1=H at*
 go_wp2_with fail
 refine(HMK.out _).mono ?_
 rintro e30 w30 ⟨rfl,hb30⟩
 replace HK:=jH (HK.out.later hb30)
 clear hb30
 clear o0 o1 o2 o3 p0 p1 p2 p3 q0 q1 q2 q3
 obtain⟨⟨o0,o1⟩,o2,o3⟩:=(HK.out.get (.head _)).aP
 obtain⟨⟨p0,p1⟩,p2,p3⟩:=(HK.out.get (.tail _ (.head _))).aP
 obtain⟨⟨q0,q1⟩,q2,q3⟩:=(HK.out.get (.tail _ (.tail _ (.head _)))).aP
 go_wp2
 refine bodyPost_ret (v:= .agg #[.float .f64 L,.float .f64 H]) (by simp [results,Tryz.results113,go_sem,q0,q1]) rfl ⟨rfl,(HK.out.aWf.set2 (by omega) (fun t m=>by simp only [List.mem_cons,List.not_mem_nil,or_false]at m;rcases m with rfl|rfl<;>simp<;>omega) (.float .f64 L) (.float .f64 H)).2⟩
end
section
set_option maxRecDepth 100000
set_option maxHeartbeats 6400000
open Go.RowKit
attribute [local go_sem] bG
def upK (l h m k:Int):Option (Int×Int):=some (ovK l h (max m 0) k)
def loK (l h m k:Int):Option (Int×Int):=some (ovK (-h) (-l) (max (-k) 0) (-m))
theorem aKc {l h m k:Int}(b1: -(aG:Int)≤l∧l≤h∧h≤aG∧l<aG∧-(aG:Int)<h) (b2: -(aG:Int)≤m∧m≤k∧k≤aG∧m<aG∧-(aG:Int)<k) (k0:0<k):Iok (upK l h m k):=by
 have hi:(0:Int)<aG:=by decide
 exact aFm (by omega) (by omega) (by omega) (by omega) (by omega) (by omega) (by omega) (by omega) (by omega) (by omega)
theorem aJs {l h m k:Int}(b1: -(aG:Int)≤l∧l≤h∧h≤aG∧l<aG∧-(aG:Int)<h) (b2: -(aG:Int)≤m∧m≤k∧k≤aG∧m<aG∧-(aG:Int)<k) (m0:m<0):Iok (loK l h m k):=by
 have hi:(0:Int)<aG:=by decide
 exact aFm (by omega) (by omega) (by omega) (by omega) (by omega) (by omega) (by omega) (by omega) (by omega) (by omega)
theorem aKb {l h m k:Int}(b1: -(aG:Int)≤l∧l≤h∧h≤aG∧l<aG∧-(aG:Int)<h) (b2: -(aG:Int)≤m∧m≤k∧k≤aG∧m<aG∧-(aG:Int)<k):
  (¬0<k→¬m<0→mP (some (l,h)) (some (m,k))=none)∧(0<k→¬m<0→mP (some (l,h)) (some (m,k))=upK l h m k)∧(¬0<k→m<0→mP (some (l,h)) (some (m,k))=loK l h m k)∧
  (0<k→m<0→mP (some (l,h)) (some (m,k))=mX (upK l h m k) (loK l h m k)):=by
 have hi:(0:Int)<aG:=by decide
 have hd:mP (some (l,h)) (some (m,k))=if m=0∧k=0 then none else if 0≤m then some (ovK l h m k)else if k≤0 then some (ovK (-h) (-l) (-k) (-m))else if l=0∧h=0 then some (0,0)else some (-(aG:Int),(aG:Int)):=rfl
 refine⟨fun h1 h2=> ?_,fun h1 h2=> ?_,fun h1 h2=> ?_,fun h1 h2=> ?_⟩
 ·rw [hd,if_pos (by omega)]
 ·rw [hd,if_neg (by omega),if_pos (by omega)]
  unfold upK;rw [show max m 0=m by omega]
 ·rw [hd,if_neg (by omega),if_neg (by omega),if_pos (by omega)]
  unfold loK;rw [show max (-k) 0= -k by omega]
 ·rw [hd,if_neg (by omega),if_neg (by omega),if_neg (by omega)]
  have u1:=aKc b1 b2 h1
  have u2:=aJs b1 b2 h2
  unfold upK loK at*
  rw [show max m 0=0 by omega,show max (-k) 0=0 by omega]at*
  by_cases z:l=0∧h=0
  ·obtain⟨rfl,rfl⟩:=z
   rw [if_pos ⟨rfl,rfl⟩,aIg (by omega) (by omega) (by omega),Int.neg_zero,aIg (by omega) (by omega) (by omega)]
   rfl
  ·rw [if_neg z]
   obtain⟨x1,y1⟩:∃x,ovK l h 0 k=x:=⟨_,rfl⟩
   obtain⟨x2,y2⟩:∃x,ovK (-h) (-l) 0 (-m)=x:=⟨_,rfl⟩
   have r1:=u1 x1.1 x1.2 (by rw [y1])
   have r2:=u2 x2.1 x2.2 (by rw [y2])
   have byz:∀x mode:Int,-(aG:Int)≤x→x≤aG→(x<0→byK (kb x) (kb 0) mode= -(aG:Int))∧(0<x→byK (kb x) (kb 0) mode=(aG:Int)):=fun x mode h1 h2=>by
    have hk:=(jY h1 h2).2.2
    have h0:ky (kb 0)=0:=by decide
    unfold byK
    rw [hk,h0]
    exact⟨fun t=>by rw [if_pos ⟨rfl,by omega⟩,if_neg (by omega)],fun t=>by rw [if_pos ⟨rfl,by omega⟩,if_pos t]⟩
   have e1:x1.1=byK (kb l) (kb (if l<0 then 0 else k)) 4:=by rw [←y1];rfl
   have e2:x1.2=byK (kb h) (kb (if 0<h then 0 else k)) 3:=by rw [←y1];rfl
   have e3:x2.1=byK (kb (-h)) (kb (if-h<0 then 0 else-m)) 4:=by rw [←y2];rfl
   have e4:x2.2=byK (kb (-l)) (kb (if 0< -l then 0 else-m)) 3:=by rw [←y2];rfl
   rw [y1,y2]
   show _=some (min x1.1 x2.1,max x1.2 x2.2)
   by_cases c:l<0
   ·rw [if_pos c,(byz l 4 (by omega) (by omega)).1 c]at e1
    rw [if_pos (by omega),(byz (-l) 3 (by omega) (by omega)).2 (by omega)]at e4
    rw [show min x1.1 x2.1= -(aG:Int) by omega,show max x1.2 x2.2=(aG:Int) by omega]
   ·have c2:0<h:=by omega
    rw [if_pos c2,(byz h 3 (by omega) (by omega)).2 c2]at e2
    rw [if_pos (by omega),(byz (-h) 4 (by omega) (by omega)).1 (by omega)]at e3
    rw [show min x1.1 x2.1= -(aG:Int) by omega,show max x1.2 x2.2=(aG:Int) by omega]
theorem aTo (l h m k:Nat) (w:World) (hl:W64 l) (hh:W64 h) (hm:W64 m) (hk:W64 k):
  Calls Tryz.prog 54 #[.agg #[.float .f64 l,.float .f64 h],.agg #[.float .f64 m,.float .f64 k]] w (Gives (.agg #[.float .f64 (ivL (mP (ivK l h) (ivK m k))),.float .f64 (ivH (mP (ivK l h) (ivK m k)))]) w):=by
 have HFA:=jH fun w=>jO l h w hl hh
 have HFB:=jH fun w=>jO m k w hm hk
 have HE:=jH fun w=>oZ w
 have HK:=jH (Bks.aH6 w 37 37 37 #[.float .f64 l,.float .f64 h] #[.float .f64 m,.float .f64 k] #[.float .f64 0,.float .f64 0])
 obtain⟨f0,hf0⟩:∃f,w.heap.size=f:=⟨_,rfl⟩
 rw [hf0]at HK
 rcases e1:ivK l h with _|p
 ·rw [e1,Option.isSome_none]at HFA
  rw [show ivL (mP none (ivK m k))=9218868437227405312 from rfl,show ivH (mP none (ivK m k))=18442240474082181120 from rfl]
  clear e1 HFB
  go_enter Tryz.func54,Tryz.ntmps54
  obtain⟨⟨c0,c1⟩,c2,c3⟩:=(HK.out.get (.head _)).aP
  obtain⟨⟨e0,e1⟩,e2,e3⟩:=(HK.out.get (.tail _ (.head _))).aP
  obtain⟨⟨q0,q1⟩,q2,q3⟩:=(HK.out.get (.tail _ (.tail _ (.head _)))).aP
  go_wp2_with fail
  refine(HFA.out _).mono ?_
  rintro e1 w1 ⟨rfl,hb1⟩
  replace HK:=jH (HK.out.later hb1)
  clear hb1
  clear c0 c1 c2 c3 e0 e1 e2 e3 q0 q1 q2 q3
  obtain⟨⟨c0,c1⟩,c2,c3⟩:=(HK.out.get (.head _)).aP
  obtain⟨⟨e0,e1⟩,e2,e3⟩:=(HK.out.get (.tail _ (.head _))).aP
  obtain⟨⟨q0,q1⟩,q2,q3⟩:=(HK.out.get (.tail _ (.tail _ (.head _)))).aP
  go_wp2_with fail
  refine(HE.out _).mono ?_
  rintro e2 w2 ⟨rfl,hb2⟩
  replace HK:=jH (HK.out.later hb2)
  clear hb2
  clear c0 c1 c2 c3 e0 e1 e2 e3 q0 q1 q2 q3
  obtain⟨⟨c0,c1⟩,c2,c3⟩:=(HK.out.get (.head _)).aP
  obtain⟨⟨e0,e1⟩,e2,e3⟩:=(HK.out.get (.tail _ (.head _))).aP
  obtain⟨⟨q0,q1⟩,q2,q3⟩:=(HK.out.get (.tail _ (.tail _ (.head _)))).aP
  go_wp2
  refine bodyPost_ret (v:= .agg #[.float .f64 9218868437227405312,.float .f64 18442240474082181120]) (by simp [results,Tryz.results54,go_sem,q0,q1]) rfl ⟨rfl,(HK.out.2.setCell (p:=⟨f0+1+1,0,none⟩) (show w.heap.size≤f0+1+1 by omega) _).setCell (p:=⟨f0+1+1,1,none⟩) (show w.heap.size≤f0+1+1 by omega) _⟩
 rw [e1,Option.isSome_some]at HFA
 rcases e2:ivK m k with _|q
 ·rw [e2,Option.isSome_none]at HFB
  rw [show ivL (mP (some p) none)=9218868437227405312 from rfl,show ivH (mP (some p) none)=18442240474082181120 from rfl]
  clear e1 e2
  go_enter Tryz.func54,Tryz.ntmps54
  obtain⟨⟨c0,c1⟩,c2,c3⟩:=(HK.out.get (.head _)).aP
  obtain⟨⟨e0,e1⟩,e2,e3⟩:=(HK.out.get (.tail _ (.head _))).aP
  obtain⟨⟨q0,q1⟩,q2,q3⟩:=(HK.out.get (.tail _ (.tail _ (.head _)))).aP
  go_wp2_with fail
  refine(HFA.out _).mono ?_
  rintro e1 w1 ⟨rfl,hb1⟩
  replace HK:=jH (HK.out.later hb1)
  clear hb1
  clear c0 c1 c2 c3 e0 e1 e2 e3 q0 q1 q2 q3
  obtain⟨⟨c0,c1⟩,c2,c3⟩:=(HK.out.get (.head _)).aP
  obtain⟨⟨e0,e1⟩,e2,e3⟩:=(HK.out.get (.tail _ (.head _))).aP
  obtain⟨⟨q0,q1⟩,q2,q3⟩:=(HK.out.get (.tail _ (.tail _ (.head _)))).aP
  go_wp2_with fail
  refine(HFB.out _).mono ?_
  rintro e2 w2 ⟨rfl,hb2⟩
  replace HK:=jH (HK.out.later hb2)
  clear hb2
  clear c0 c1 c2 c3 e0 e1 e2 e3 q0 q1 q2 q3
  obtain⟨⟨c0,c1⟩,c2,c3⟩:=(HK.out.get (.head _)).aP
  obtain⟨⟨e0,e1⟩,e2,e3⟩:=(HK.out.get (.tail _ (.head _))).aP
  obtain⟨⟨q0,q1⟩,q2,q3⟩:=(HK.out.get (.tail _ (.tail _ (.head _)))).aP
  go_wp2_with fail
  refine(HE.out _).mono ?_
  rintro e3 w3 ⟨rfl,hb3⟩
  replace HK:=jH (HK.out.later hb3)
  clear hb3
  clear c0 c1 c2 c3 e0 e1 e2 e3 q0 q1 q2 q3
  obtain⟨⟨c0,c1⟩,c2,c3⟩:=(HK.out.get (.head _)).aP
  obtain⟨⟨e0,e1⟩,e2,e3⟩:=(HK.out.get (.tail _ (.head _))).aP
  obtain⟨⟨q0,q1⟩,q2,q3⟩:=(HK.out.get (.tail _ (.tail _ (.head _)))).aP
  go_wp2
  refine bodyPost_ret (v:= .agg #[.float .f64 9218868437227405312,.float .f64 18442240474082181120]) (by simp [results,Tryz.results54,go_sem,q0,q1]) rfl ⟨rfl,(HK.out.2.setCell (p:=⟨f0+1+1,0,none⟩) (show w.heap.size≤f0+1+1 by omega) _).setCell (p:=⟨f0+1+1,1,none⟩) (show w.heap.size≤f0+1+1 by omega) _⟩
 rw [e2,Option.isSome_some]at HFB
 have a1:=pK hl hh
 have a2:=pK hm hk
 have HNG:=jH fun W=>aKu l h W hl hh
 rw [e1]at a1 HNG
 rw [e2]at a2
 obtain⟨nl,nh,rfl⟩:=dX e1
 obtain⟨nm,nk,rfl⟩:=dX e2
 have b1:=a1 _ _ rfl
 have b2:=a2 _ _ rfl
 rw [show ivL (kW (some (ky l,ky h)))=kb (-ky h)from rfl,show ivH (kW (some (ky l,ky h)))=kb (-ky l)from rfl]at HNG
 have hi:(0:Int)<aG:=by decide
 have fn:∀x,W64 x→aU x=false→aU (bQ x)=false:=fun x hx nx=>by rw [dF,uD hx];exact dH nx
 have t1:=zQ hk (by decide:W64 0) nk (by decide)
 have t2:=zG hm (by decide:W64 0) nm (by decide)
 rw [dW]at t1 t2
 have ng1:∀w,(Op.unary .neg (.float .f64 k)).run Tryz.prog w= .ok (.float .f64 (bQ k)) w:=fun w=>by rw [←lJ hk];rfl
 have ng2:∀w,(Op.unary .neg (.float .f64 m)).run Tryz.prog w= .ok (.float .f64 (bQ m)) w:=fun w=>by rw [←lJ hm];rfl
 have HMO:=jH fun W=>lY m 0 W hm (by decide) nm (by decide)
 have HMP:=jH fun W=>lY (bQ k) 0 W (iF hk) (by decide) (fn _ hk nk) (by decide)
 rw [dW]at HMO HMP
 rw [lS hk]at HMP
 have hen:ivK 9218868437227405312 18442240474082181120=none:=by decide
 obtain⟨pp,pu,pl,pb⟩:=aKb b1 b2
 have hnh:=jY (k:= -ky h) (by omega) (by omega)
 have hnl:=jY (k:= -ky l) (by omega) (by omega)
 have HAB:=jH fun(c1:0<ky k) (r:Nat) W (h1:W64 r) (h2:aU r=false) (h3:ky r=max (ky m) 0)=>(show Calls Tryz.prog 113 #[.agg #[.float .f64 l,.float .f64 h],.float .f64 r,.float .f64 k] W (Gives (.agg #[.float .f64 (ivL (upK (ky l) (ky h) (ky m) (ky k))),.float .f64 (ivH (upK (ky l) (ky h) (ky m) (ky k)))]) W)from by have:=aD9 l h r k W hl hh h1 hk nl nh h2 nk (by rw [h3];omega) (by rw [h3];omega) (by omega);rw [h3]at this;exact this)
 have HAL:=jH fun(c2:ky m<0) (r:Nat) W (h1:W64 r) (h2:aU r=false) (h3:ky r=max (-ky k) 0)=>(show Calls Tryz.prog 113 #[.agg #[.float .f64 (kb (-ky h)),.float .f64 (kb (-ky l))],.float .f64 r,.float .f64 (bQ m)] W (Gives (.agg #[.float .f64 (ivL (loK (ky l) (ky h) (ky m) (ky k))),.float .f64 (ivH (loK (ky l) (ky h) (ky m) (ky k)))]) W)from by have:=aD9 (kb (-ky h)) (kb (-ky l)) r (bQ m) W hnh.1 hnl.1 h1 (iF hm) (dF.2 hnh.2.1) (dF.2 hnl.2.1) h2 (fn _ hm nm) (by rw [h3];omega) (by rw [h3];omega) (by rw [lS hm];omega);rw [h3,lS hm,hnh.2.2,hnl.2.2]at this;exact this)
 have HHU:=jH fun(c1:0<ky k) W=>(show Calls Tryz.prog 112 #[.agg #[.float .f64 9218868437227405312,.float .f64 18442240474082181120],.agg #[.float .f64 (ivL (upK (ky l) (ky h) (ky m) (ky k))),.float .f64 (ivH (upK (ky l) (ky h) (ky m) (ky k)))]] W (Gives (.agg #[.float .f64 (ivL (upK (ky l) (ky h) (ky m) (ky k))),.float .f64 (ivH (upK (ky l) (ky h) (ky m) (ky k)))]) W)from by have hu:=aKc b1 b2 c1;have:=aAo 9218868437227405312 18442240474082181120 _ _ W (by decide) (by decide) (qU hu) (qV hu);rwa [hen,oU hu,show mX none (upK (ky l) (ky h) (ky m) (ky k))=upK (ky l) (ky h) (ky m) (ky k)from rfl]at this)
 have HHE:=jH fun(c2:ky m<0) W=>(show Calls Tryz.prog 112 #[.agg #[.float .f64 9218868437227405312,.float .f64 18442240474082181120],.agg #[.float .f64 (ivL (loK (ky l) (ky h) (ky m) (ky k))),.float .f64 (ivH (loK (ky l) (ky h) (ky m) (ky k)))]] W (Gives (.agg #[.float .f64 (ivL (loK (ky l) (ky h) (ky m) (ky k))),.float .f64 (ivH (loK (ky l) (ky h) (ky m) (ky k)))]) W)from by have hv:=aJs b1 b2 c2;have:=aAo 9218868437227405312 18442240474082181120 _ _ W (by decide) (by decide) (qU hv) (qV hv);rwa [hen,oU hv,show mX none (loK (ky l) (ky h) (ky m) (ky k))=loK (ky l) (ky h) (ky m) (ky k)from rfl]at this)
 have HHB:=jH fun(c1:0<ky k) (c2:ky m<0) W=>(show Calls Tryz.prog 112 #[.agg #[.float .f64 (ivL (upK (ky l) (ky h) (ky m) (ky k))),.float .f64 (ivH (upK (ky l) (ky h) (ky m) (ky k)))],.agg #[.float .f64 (ivL (loK (ky l) (ky h) (ky m) (ky k))),.float .f64 (ivH (loK (ky l) (ky h) (ky m) (ky k)))]] W (Gives (.agg #[.float .f64 (ivL (mX (upK (ky l) (ky h) (ky m) (ky k)) (loK (ky l) (ky h) (ky m) (ky k)))),.float .f64 (ivH (mX (upK (ky l) (ky h) (ky m) (ky k)) (loK (ky l) (ky h) (ky m) (ky k))))]) W)from by have hu:=aKc b1 b2 c1;have hv:=aJs b1 b2 c2;have:=aAo _ _ _ _ W (qU hu) (qV hu) (qU hv) (qV hv);rwa [oU hu,oU hv]at this)
 have B1:=jH (rU (0<ky k))
 have B2:=jH (rU (ky m<0))
 generalize decide (0<ky k)=v1 at*
 generalize decide (ky m<0)=v2 at*
 have XE:Hid ((v1=false→v2=false→mP (some (ky l,ky h)) (some (ky m,ky k))=none)∧(v1=true→v2=false→mP (some (ky l,ky h)) (some (ky m,ky k))=upK (ky l) (ky h) (ky m) (ky k))∧(v1=false→v2=true→mP (some (ky l,ky h)) (some (ky m,ky k))=loK (ky l) (ky h) (ky m) (ky k))∧(v1=true→v2=true→mP (some (ky l,ky h)) (some (ky m,ky k))=mX (upK (ky l) (ky h) (ky m) (ky k)) (loK (ky l) (ky h) (ky m) (ky k)))):=jH ⟨fun a b=>pp (B1.out.2 a) (B2.out.2 b),fun a b=>pu (B1.out.1 a) (B2.out.2 b),fun a b=>pl (B1.out.2 a) (B2.out.1 b),fun a b=>pb (B1.out.1 a) (B2.out.1 b)⟩
 generalize mP (some (ky l,ky h)) (some (ky m,ky k))=DD at*
 generalize mX (upK (ky l) (ky h) (ky m) (ky k)) (loK (ky l) (ky h) (ky m) (ky k))=HH at*
 generalize upK (ky l) (ky h) (ky m) (ky k)=UU at*
 generalize loK (ky l) (ky h) (ky m) (ky k)=LL at*
 clear e1 e2 nl nh nm nk hl hh hm hk a1 a2 b1 b2 hi fn hen pp pu pl pb hnh hnl
 generalize ky k=kk at*
 generalize ky m=km at*
 generalize kb (-ky h)=nh1 at*
 generalize kb (-ky l)=nl1 at*
 generalize bQ k=fk at*
 generalize bQ m=fm at*
 go_enter Tryz.func54,Tryz.ntmps54
 obtain⟨⟨c0,c1⟩,c2,c3⟩:=(HK.out.get (.head _)).aP
 obtain⟨⟨e0,e1⟩,e2,e3⟩:=(HK.out.get (.tail _ (.head _))).aP
 obtain⟨⟨q0,q1⟩,q2,q3⟩:=(HK.out.get (.tail _ (.tail _ (.head _)))).aP
 go_wp2_with fail
 refine(HFA.out _).mono ?_
 rintro e1 w1 ⟨rfl,hb1⟩
 replace HK:=jH (HK.out.later hb1)
 clear hb1
 clear c0 c1 c2 c3 e0 e1 e2 e3 q0 q1 q2 q3
 obtain⟨⟨c0,c1⟩,c2,c3⟩:=(HK.out.get (.head _)).aP
 obtain⟨⟨e0,e1⟩,e2,e3⟩:=(HK.out.get (.tail _ (.head _))).aP
 obtain⟨⟨q0,q1⟩,q2,q3⟩:=(HK.out.get (.tail _ (.tail _ (.head _)))).aP
 go_wp2_with fail
 refine(HFB.out _).mono ?_
 rintro e2 w2 ⟨rfl,hb2⟩
 replace HK:=jH (HK.out.later hb2)
 clear hb2
 clear c0 c1 c2 c3 e0 e1 e2 e3 q0 q1 q2 q3
 obtain⟨⟨c0,c1⟩,c2,c3⟩:=(HK.out.get (.head _)).aP
 obtain⟨⟨e0,e1⟩,e2,e3⟩:=(HK.out.get (.tail _ (.head _))).aP
 obtain⟨⟨q0,q1⟩,q2,q3⟩:=(HK.out.get (.tail _ (.tail _ (.head _)))).aP
 go_wp2_with fail
 refine(HE.out _).mono ?_
 rintro e3 w3 ⟨rfl,hb3⟩
 replace HK:=jH (HK.out.later hb3)
 clear hb3
 clear c0 c1 c2 c3 e0 e1 e2 e3 q0 q1 q2 q3
 obtain⟨⟨c0,c1⟩,c2,c3⟩:=(HK.out.get (.head _)).aP
 obtain⟨⟨e0,e1⟩,e2,e3⟩:=(HK.out.get (.tail _ (.head _))).aP
 obtain⟨⟨q0,q1⟩,q2,q3⟩:=(HK.out.get (.tail _ (.tail _ (.head _)))).aP
 go_upto_region 4 with fail
 have HCL:Hid (f0+1+1<w3.heap.size):=jH (HK.out.lt _ (.tail _ (.tail _ (.head _))))
 replace HK:=jH (HK.out.alloc #[.float .f64 9218868437227405312,.float .f64 18442240474082181120] 37)
 generalize World.alloc w3 _=W3 at HK ⊢
 generalize w3.heap.size=cb at*
 clear c0 c1 c2 c3 e0 e1 e2 e3 q0 q1 q2 q3
 obtain⟨⟨o0,o1⟩,o2,o3⟩:=(HK.out.get (.head _)).aP
 obtain⟨⟨c0,c1⟩,c2,c3⟩:=(HK.out.get (.tail _ (.head _))).aP
 obtain⟨⟨e0,e1⟩,e2,e3⟩:=(HK.out.get (.tail _ (.tail _ (.head _)))).aP
 obtain⟨⟨q0,q1⟩,q2,q3⟩:=(HK.out.get (.tail _ (.tail _ (.tail _ (.head _))))).aP
 cases v1
 ·cases v2
  ·obtain rfl:DD=none:=XE.out.1 (by first|rfl|trivial) (by first|rfl|trivial)
   rw [show ivL none=9218868437227405312 from rfl,show ivH none=18442240474082181120 from rfl]
   go_upto_region 8 with fail
   go_wp2
   refine bodyPost_ret (v:= .agg #[.float .f64 9218868437227405312,.float .f64 18442240474082181120]) (by simp [results,Tryz.results54,go_sem,q0,q1]) rfl ⟨rfl,(HK.out.2.setCell (p:=⟨f0+1+1,0,none⟩) (show w.heap.size≤f0+1+1 by omega) _).setCell (p:=⟨f0+1+1,1,none⟩) (show w.heap.size≤f0+1+1 by omega) _⟩
  ·obtain rfl:DD=LL:=XE.out.2.2.1 (by first|rfl|trivial) (by first|rfl|trivial)
   replace HAL:=jH (HAL.out (B2.out.1 (by first|rfl|trivial)))
   have HHL:=jH (HHE.out (B2.out.1 (by first|rfl|trivial)))
   clear XE
   generalize ivL DD=V1 at*
   generalize ivH DD=V2 at*
   go_upto_region 6 with fail
   go_upto_region 7 with fail
   clear o0 o1 o2 o3 c0 c1 c2 c3 e0 e1 e2 e3 q0 q1 q2 q3
   refine aC (fun w':World=>(w'.cell? ⟨cb,0,none⟩=some (.float .f64 9218868437227405312)∧w'.cell? ⟨cb,1,none⟩=some (.float .f64 18442240474082181120))∧(w'.cell? ⟨f0,0,none⟩=some (.float .f64 l)∧w'.cell? ⟨f0,1,none⟩=some (.float .f64 h))∧w'.cell? ⟨f0+1,0,none⟩=some (.float .f64 m)∧w'.cell? ⟨f0+1,1,none⟩=some (.float .f64 k)) 11 (.take 0 (.take 1 (.take 3 (.take 4 (.take 5 (.take 7 (.take 8 (.take 9 (.run 2 (.run 6 (.run 10 (.nil)))))))))))) (by kernel_rfl) (by kernel_rfl) ?_
   replace HK:=jH (HK.out.later (aB _))
   generalize World.drew _=W7 at HK ⊢
   repeat (refine tkL (v:= ?_) rfl rfl rfl (fun w' hSw=> ?_) (⟨HK.out.two (.head _),HK.out.two (.tail _ (.head _)),HK.out.two (.tail _ (.tail _ (.head _)))⟩) ?_;rotate_left;(focus (go_simp;with_reducible rfl));simp only [aF])
   refine aI rfl rfl fun K' hK=> ?_
   go_simp
   refine(HNG.out _).mono ?_
   rintro e1 W7v1 ⟨rfl,hb1⟩
   replace HK:=jH (HK.out.later hb1)
   refine hK _ _ ⟨HK.out.two (.head _),HK.out.two (.tail _ (.head _)),HK.out.two (.tail _ (.tail _ (.head _)))⟩ ?_
   clear hK K' hb1
   try simp only [Act.put,aF]
   repeat (refine tkL (v:= ?_) rfl rfl rfl (fun w' hSw=> ?_) (⟨HK.out.two (.head _),HK.out.two (.tail _ (.head _)),HK.out.two (.tail _ (.tail _ (.head _)))⟩) ?_;rotate_left;(focus (go_simp;with_reducible rfl));simp only [aF])
   refine aI rfl rfl fun K' hK=> ?_
   go_simp
   refine(HMP.out _).mono ?_
   rintro e1 W7v2 ⟨r1,rfl,l1,n1,k1,hb1⟩
   replace HK:=jH (HK.out.later hb1)
   have HAU:=jH fun W=>HAL.out r1 W l1 n1 k1
   clear l1 n1 k1
   refine hK _ _ ⟨HK.out.two (.head _),HK.out.two (.tail _ (.head _)),HK.out.two (.tail _ (.tail _ (.head _)))⟩ ?_
   clear hK K' hb1
   try simp only [Act.put,aF]
   repeat (refine tkL (v:= ?_) rfl rfl rfl (fun w' hSw=> ?_) (⟨HK.out.two (.head _),HK.out.two (.tail _ (.head _)),HK.out.two (.tail _ (.tail _ (.head _)))⟩) ?_;rotate_left;(focus (go_simp;with_reducible rfl));simp only [aF])
   refine aI rfl rfl fun K' hK=> ?_
   go_simp
   refine(HAU.out _).mono ?_
   rintro e1 W7v3 ⟨rfl,hb1⟩
   replace HK:=jH (HK.out.later hb1)
   clear HAU
   refine hK _ _ ⟨HK.out.two (.head _),HK.out.two (.tail _ (.head _)),HK.out.two (.tail _ (.tail _ (.head _)))⟩ ?_
   clear hK K' hb1
   try simp only [Act.put,aF]
   repeat (refine tkL (v:= ?_) rfl rfl rfl (fun w' hSw=> ?_) (⟨HK.out.two (.head _),HK.out.two (.tail _ (.head _)),HK.out.two (.tail _ (.tail _ (.head _)))⟩) ?_;rotate_left;(focus (go_simp;with_reducible rfl));simp only [aF])
   refine aN ?_
   simp only [drL]
   obtain⟨⟨o0,o1⟩,o2,o3⟩:=(HK.out.get (.head _)).aP
   obtain⟨⟨c0,c1⟩,c2,c3⟩:=(HK.out.get (.tail _ (.head _))).aP
   obtain⟨⟨e0,e1⟩,e2,e3⟩:=(HK.out.get (.tail _ (.tail _ (.head _)))).aP
   obtain⟨⟨q0,q1⟩,q2,q3⟩:=(HK.out.get (.tail _ (.tail _ (.tail _ (.head _))))).aP
   go_wp2_with fail
   refine(HHL.out _).mono ?_
   rintro e7 w7 ⟨rfl,hb7⟩
   replace HK:=jH (HK.out.later hb7)
   clear hb7
   clear o0 o1 o2 o3 c0 c1 c2 c3 e0 e1 e2 e3 q0 q1 q2 q3
   obtain⟨⟨o0,o1⟩,o2,o3⟩:=(HK.out.get (.head _)).aP
   obtain⟨⟨c0,c1⟩,c2,c3⟩:=(HK.out.get (.tail _ (.head _))).aP
   obtain⟨⟨e0,e1⟩,e2,e3⟩:=(HK.out.get (.tail _ (.tail _ (.head _)))).aP
   obtain⟨⟨q0,q1⟩,q2,q3⟩:=(HK.out.get (.tail _ (.tail _ (.tail _ (.head _))))).aP
   go_upto_region 8 with fail
   replace HK:=jH (HK.out.set2 (by have:=HCL.out;omega) (fun t m=>by have:=HCL.out;simp only [List.mem_cons,List.not_mem_nil,or_false]at m;rcases m with rfl|rfl|rfl<;>simp<;>omega) (.float .f64 V1) (.float .f64 V2))
   generalize World.setCell (World.setCell w7 _ _) _ _=w7s at*
   clear o0 o1 o2 o3 c0 c1 c2 c3 e0 e1 e2 e3 q0 q1 q2 q3
   obtain⟨⟨o0,o1⟩,o2,o3⟩:=(HK.out.get (.head _)).aP
   obtain⟨⟨c0,c1⟩,c2,c3⟩:=(HK.out.get (.tail _ (.head _))).aP
   obtain⟨⟨e0,e1⟩,e2,e3⟩:=(HK.out.get (.tail _ (.tail _ (.head _)))).aP
   obtain⟨⟨q0,q1⟩,q2,q3⟩:=(HK.out.get (.tail _ (.tail _ (.tail _ (.head _))))).aP
   go_wp2
   refine bodyPost_ret (v:= .agg #[.float .f64 V1,.float .f64 V2]) (by simp [results,Tryz.results54,go_sem,q0,q1]) rfl ⟨rfl,(HK.out.2.setCell (p:=⟨f0+1+1,0,none⟩) (show w.heap.size≤f0+1+1 by omega) _).setCell (p:=⟨f0+1+1,1,none⟩) (show w.heap.size≤f0+1+1 by omega) _⟩
 ·replace HAB:=jH (HAB.out (B1.out.1 (by first|rfl|trivial)))
  replace HHU:=jH (HHU.out (B1.out.1 (by first|rfl|trivial)))
  generalize hU1:ivL UU=U1 at*
  generalize hU2:ivH UU=U2 at*
  replace hU1:=jH hU1
  replace hU2:=jH hU2
  go_upto_region 5 with fail
  clear o0 o1 o2 o3 c0 c1 c2 c3 e0 e1 e2 e3 q0 q1 q2 q3
  refine aC (fun w':World=>(w'.cell? ⟨cb,0,none⟩=some (.float .f64 9218868437227405312)∧w'.cell? ⟨cb,1,none⟩=some (.float .f64 18442240474082181120))∧(w'.cell? ⟨f0,0,none⟩=some (.float .f64 l)∧w'.cell? ⟨f0,1,none⟩=some (.float .f64 h))∧w'.cell? ⟨f0+1,0,none⟩=some (.float .f64 m)∧w'.cell? ⟨f0+1,1,none⟩=some (.float .f64 k)) 8 (.take 0 (.take 1 (.take 2 (.take 3 (.take 5 (.take 6 (.run 4 (.run 7 (.nil))))))))) (by kernel_rfl) (by kernel_rfl) ?_
  replace HK:=jH (HK.out.later (aB _))
  generalize World.drew _=W5 at HK ⊢
  repeat (refine tkL (v:= ?_) rfl rfl rfl (fun w' hSw=> ?_) (⟨HK.out.two (.head _),HK.out.two (.tail _ (.head _)),HK.out.two (.tail _ (.tail _ (.head _)))⟩) ?_;rotate_left;(focus (go_simp;with_reducible rfl));simp only [aF])
  refine aI rfl rfl fun K' hK=> ?_
  go_simp
  refine(HMO.out _).mono ?_
  rintro e1 W5v1 ⟨r1,rfl,l1,n1,k1,hb1⟩
  replace HK:=jH (HK.out.later hb1)
  have HAU:=jH fun W=>HAB.out r1 W l1 n1 k1
  clear l1 n1 k1
  refine hK _ _ ⟨HK.out.two (.head _),HK.out.two (.tail _ (.head _)),HK.out.two (.tail _ (.tail _ (.head _)))⟩ ?_
  clear hK K' hb1
  try simp only [Act.put,aF]
  repeat (refine tkL (v:= ?_) rfl rfl rfl (fun w' hSw=> ?_) (⟨HK.out.two (.head _),HK.out.two (.tail _ (.head _)),HK.out.two (.tail _ (.tail _ (.head _)))⟩) ?_;rotate_left;(focus (go_simp;with_reducible rfl));simp only [aF])
  refine aI rfl rfl fun K' hK=> ?_
  go_simp
  refine(HAU.out _).mono ?_
  rintro e1 W5v2 ⟨rfl,hb1⟩
  replace HK:=jH (HK.out.later hb1)
  clear HAU
  refine hK _ _ ⟨HK.out.two (.head _),HK.out.two (.tail _ (.head _)),HK.out.two (.tail _ (.tail _ (.head _)))⟩ ?_
  clear hK K' hb1
  try simp only [Act.put,aF]
  repeat (refine tkL (v:= ?_) rfl rfl rfl (fun w' hSw=> ?_) (⟨HK.out.two (.head _),HK.out.two (.tail _ (.head _)),HK.out.two (.tail _ (.tail _ (.head _)))⟩) ?_;rotate_left;(focus (go_simp;with_reducible rfl));simp only [aF])
  refine aN ?_
  simp only [drL]
  obtain⟨⟨o0,o1⟩,o2,o3⟩:=(HK.out.get (.head _)).aP
  obtain⟨⟨c0,c1⟩,c2,c3⟩:=(HK.out.get (.tail _ (.head _))).aP
  obtain⟨⟨e0,e1⟩,e2,e3⟩:=(HK.out.get (.tail _ (.tail _ (.head _)))).aP
  obtain⟨⟨q0,q1⟩,q2,q3⟩:=(HK.out.get (.tail _ (.tail _ (.tail _ (.head _))))).aP
  go_wp2_with fail
  refine(HHU.out _).mono ?_
  rintro e5 w5 ⟨rfl,hb5⟩
  replace HK:=jH (HK.out.later hb5)
  clear hb5
  clear o0 o1 o2 o3 c0 c1 c2 c3 e0 e1 e2 e3 q0 q1 q2 q3
  obtain⟨⟨o0,o1⟩,o2,o3⟩:=(HK.out.get (.head _)).aP
  obtain⟨⟨c0,c1⟩,c2,c3⟩:=(HK.out.get (.tail _ (.head _))).aP
  obtain⟨⟨e0,e1⟩,e2,e3⟩:=(HK.out.get (.tail _ (.tail _ (.head _)))).aP
  obtain⟨⟨q0,q1⟩,q2,q3⟩:=(HK.out.get (.tail _ (.tail _ (.tail _ (.head _))))).aP
  go_upto_region 6 with fail
  replace HK:=jH (HK.out.set2 (by have:=HCL.out;omega) (fun t m=>by have:=HCL.out;simp only [List.mem_cons,List.not_mem_nil,or_false]at m;rcases m with rfl|rfl|rfl<;>simp<;>omega) (.float .f64 U1) (.float .f64 U2))
  generalize World.setCell (World.setCell w5 _ _) _ _=w5s at*
  clear o0 o1 o2 o3 c0 c1 c2 c3 e0 e1 e2 e3 q0 q1 q2 q3
  obtain⟨⟨o0,o1⟩,o2,o3⟩:=(HK.out.get (.head _)).aP
  obtain⟨⟨c0,c1⟩,c2,c3⟩:=(HK.out.get (.tail _ (.head _))).aP
  obtain⟨⟨e0,e1⟩,e2,e3⟩:=(HK.out.get (.tail _ (.tail _ (.head _)))).aP
  obtain⟨⟨q0,q1⟩,q2,q3⟩:=(HK.out.get (.tail _ (.tail _ (.tail _ (.head _))))).aP
  cases v2
  ·obtain rfl:DD=UU:=XE.out.2.1 (by first|rfl|trivial) (by first|rfl|trivial)
   go_upto_region 8 with fail
   go_wp2
   refine bodyPost_ret (v:= .agg #[.float .f64 U1,.float .f64 U2]) (by simp [results,Tryz.results54,go_sem,q0,q1]) rfl ⟨by rw [hU1.out,hU2.out],(HK.out.2.setCell (p:=⟨f0+1+1,0,none⟩) (show w.heap.size≤f0+1+1 by omega) _).setCell (p:=⟨f0+1+1,1,none⟩) (show w.heap.size≤f0+1+1 by omega) _⟩
  ·obtain rfl:DD=HH:=XE.out.2.2.2 (by first|rfl|trivial) (by first|rfl|trivial)
   replace HAL:=jH (HAL.out (B2.out.1 (by first|rfl|trivial)))
   have HHL:=jH (HHB.out (B1.out.1 (by first|rfl|trivial)) (B2.out.1 (by first|rfl|trivial)))
   clear XE
   generalize ivL LL=Y1 at*
   generalize ivH LL=Y2 at*
   generalize ivL DD=X1 at*
   generalize ivH DD=X2 at*
   go_upto_region 7 with fail
   clear o0 o1 o2 o3 c0 c1 c2 c3 e0 e1 e2 e3 q0 q1 q2 q3
   refine aC (fun w':World=>(w'.cell? ⟨cb,0,none⟩=some (.float .f64 U1)∧w'.cell? ⟨cb,1,none⟩=some (.float .f64 U2))∧(w'.cell? ⟨f0,0,none⟩=some (.float .f64 l)∧w'.cell? ⟨f0,1,none⟩=some (.float .f64 h))∧w'.cell? ⟨f0+1,0,none⟩=some (.float .f64 m)∧w'.cell? ⟨f0+1,1,none⟩=some (.float .f64 k)) 11 (.take 0 (.take 1 (.take 3 (.take 4 (.take 5 (.take 7 (.take 8 (.take 9 (.run 2 (.run 6 (.run 10 (.nil)))))))))))) (by kernel_rfl) (by kernel_rfl) ?_
   replace HK:=jH (HK.out.later (aB _))
   generalize World.drew _=W7 at HK ⊢
   repeat (refine tkL (v:= ?_) rfl rfl rfl (fun w' hSw=> ?_) (⟨HK.out.two (.head _),HK.out.two (.tail _ (.head _)),HK.out.two (.tail _ (.tail _ (.head _)))⟩) ?_;rotate_left;(focus (go_simp;with_reducible rfl));simp only [aF])
   refine aI rfl rfl fun K' hK=> ?_
   go_simp
   refine(HNG.out _).mono ?_
   rintro e1 W7v1 ⟨rfl,hb1⟩
   replace HK:=jH (HK.out.later hb1)
   refine hK _ _ ⟨HK.out.two (.head _),HK.out.two (.tail _ (.head _)),HK.out.two (.tail _ (.tail _ (.head _)))⟩ ?_
   clear hK K' hb1
   try simp only [Act.put,aF]
   repeat (refine tkL (v:= ?_) rfl rfl rfl (fun w' hSw=> ?_) (⟨HK.out.two (.head _),HK.out.two (.tail _ (.head _)),HK.out.two (.tail _ (.tail _ (.head _)))⟩) ?_;rotate_left;(focus (go_simp;with_reducible rfl));simp only [aF])
   refine aI rfl rfl fun K' hK=> ?_
   go_simp
   refine(HMP.out _).mono ?_
   rintro e1 W7v2 ⟨r1,rfl,l1,n1,k1,hb1⟩
   replace HK:=jH (HK.out.later hb1)
   have HAU:=jH fun W=>HAL.out r1 W l1 n1 k1
   clear l1 n1 k1
   refine hK _ _ ⟨HK.out.two (.head _),HK.out.two (.tail _ (.head _)),HK.out.two (.tail _ (.tail _ (.head _)))⟩ ?_
   clear hK K' hb1
   try simp only [Act.put,aF]
   repeat (refine tkL (v:= ?_) rfl rfl rfl (fun w' hSw=> ?_) (⟨HK.out.two (.head _),HK.out.two (.tail _ (.head _)),HK.out.two (.tail _ (.tail _ (.head _)))⟩) ?_;rotate_left;(focus (go_simp;with_reducible rfl));simp only [aF])
   refine aI rfl rfl fun K' hK=> ?_
   go_simp
   refine(HAU.out _).mono ?_
   rintro e1 W7v3 ⟨rfl,hb1⟩
   replace HK:=jH (HK.out.later hb1)
   clear HAU
   refine hK _ _ ⟨HK.out.two (.head _),HK.out.two (.tail _ (.head _)),HK.out.two (.tail _ (.tail _ (.head _)))⟩ ?_
   clear hK K' hb1
   try simp only [Act.put,aF]
   repeat (refine tkL (v:= ?_) rfl rfl rfl (fun w' hSw=> ?_) (⟨HK.out.two (.head _),HK.out.two (.tail _ (.head _)),HK.out.two (.tail _ (.tail _ (.head _)))⟩) ?_;rotate_left;(focus (go_simp;with_reducible rfl));simp only [aF])
   refine aN ?_
   simp only [drL]
   obtain⟨⟨o0,o1⟩,o2,o3⟩:=(HK.out.get (.head _)).aP
   obtain⟨⟨c0,c1⟩,c2,c3⟩:=(HK.out.get (.tail _ (.head _))).aP
   obtain⟨⟨e0,e1⟩,e2,e3⟩:=(HK.out.get (.tail _ (.tail _ (.head _)))).aP
   obtain⟨⟨q0,q1⟩,q2,q3⟩:=(HK.out.get (.tail _ (.tail _ (.tail _ (.head _))))).aP
   go_wp2_with fail
   refine(HHL.out _).mono ?_
   rintro e7 w7 ⟨rfl,hb7⟩
   replace HK:=jH (HK.out.later hb7)
   clear hb7
   clear o0 o1 o2 o3 c0 c1 c2 c3 e0 e1 e2 e3 q0 q1 q2 q3
   obtain⟨⟨o0,o1⟩,o2,o3⟩:=(HK.out.get (.head _)).aP
   obtain⟨⟨c0,c1⟩,c2,c3⟩:=(HK.out.get (.tail _ (.head _))).aP
   obtain⟨⟨e0,e1⟩,e2,e3⟩:=(HK.out.get (.tail _ (.tail _ (.head _)))).aP
   obtain⟨⟨q0,q1⟩,q2,q3⟩:=(HK.out.get (.tail _ (.tail _ (.tail _ (.head _))))).aP
   go_upto_region 8 with fail
   replace HK:=jH (HK.out.set2 (by have:=HCL.out;omega) (fun t m=>by have:=HCL.out;simp only [List.mem_cons,List.not_mem_nil,or_false]at m;rcases m with rfl|rfl|rfl<;>simp<;>omega) (.float .f64 X1) (.float .f64 X2))
   generalize World.setCell (World.setCell w7 _ _) _ _=w7s at*
   clear o0 o1 o2 o3 c0 c1 c2 c3 e0 e1 e2 e3 q0 q1 q2 q3
   obtain⟨⟨o0,o1⟩,o2,o3⟩:=(HK.out.get (.head _)).aP
   obtain⟨⟨c0,c1⟩,c2,c3⟩:=(HK.out.get (.tail _ (.head _))).aP
   obtain⟨⟨e0,e1⟩,e2,e3⟩:=(HK.out.get (.tail _ (.tail _ (.head _)))).aP
   obtain⟨⟨q0,q1⟩,q2,q3⟩:=(HK.out.get (.tail _ (.tail _ (.tail _ (.head _))))).aP
   go_wp2
   refine bodyPost_ret (v:= .agg #[.float .f64 X1,.float .f64 X2]) (by simp [results,Tryz.results54,go_sem,q0,q1]) rfl ⟨rfl,(HK.out.2.setCell (p:=⟨f0+1+1,0,none⟩) (show w.heap.size≤f0+1+1 by omega) _).setCell (p:=⟨f0+1+1,1,none⟩) (show w.heap.size≤f0+1+1 by omega) _⟩
end
end Go.Proofs.YtfmecpembnmnkaaGreatDoor
