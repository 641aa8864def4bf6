/- Walks: sums, differences, products of intervals. Printed by wip/gen/iv8.py. -/
import Derived.Test.YtfmecpembnmnkaaGreatDoorPID
namespace Go.Proofs.YtfmecpembnmnkaaGreatDoor
set_option maxRecDepth 100000
set_option maxHeartbeats 6400000
open Go.RowKit
attribute [local go_sem] bG
theorem aC9 (x:Nat):kb (ky x)=x∨(x=aH∧kb (ky x)=0):=by
 by_cases h:x=aH
 ·exact .inr ⟨h,by rw [h];decide⟩
 ·exact .inl (aQ5 h)
theorem aVv (y:Nat) (mode:Int):suK aH y mode=suK 0 y mode:=by
 unfold suK adK
 rw [show aK aH=aK 0 by decide,show ky aH=ky 0 by decide,show aO aH=aO 0 by decide,show pE aH=pE 0 by decide]
theorem aVk (x:Nat) (mode:Int):suK x aH mode=suK x 0 mode:=by
 unfold suK adK
 rw [show aK aH=aK 0 by decide,show ky aH=ky 0 by decide,show aO aH=aO 0 by decide,show pE aH=pE 0 by decide]
theorem aE2 (x y:Nat) (mode:Int):suK (kb (ky x)) (kb (ky y)) mode=suK x y mode:=by
 rcases aC9 x with hx|⟨hx,hx'⟩<;>rcases aC9 y with hy|⟨hy,hy'⟩
 ·rw [hx,hy]
 ·rw [hx,hy',hy,aVk]
 ·rw [hx',hy,hx,aVv]
 ·rw [hx',hy',hx,hy,aVv,aVk]
theorem qY {x y:Nat}(mode:Int) (h:ky x=0∨ky y=0):prK x y mode=0:=if_pos h
theorem jU (x y:Nat) (mode:Int):prK (kb (ky x)) (kb (ky y)) mode=prK x y mode:=by
 rcases aC9 x with hx|⟨hx,hx'⟩
 ·rcases aC9 y with hy|⟨hy,hy'⟩
  ·rw [hx,hy]
  ·rw [hy',hy,qY mode (.inr (by decide)),qY mode (.inr (by decide))]
 ·rw [hx',hx,qY mode (.inl (by decide)),qY mode (.inl (by decide))]
def nM (a b:Option (Int×Int)):Option (Int×Int):=match a,b with
 |some (l,h),some (m,k)=>some (suK (kb l) (kb m) 4,suK (kb h) (kb k) 3)
 |_,_=>none
def tH (a b:Option (Int×Int)):Option (Int×Int):=match a,b with
 | some (l,h),some (m,k)=>some (min (min (min (min (aG:Int) (prK (kb l) (kb m) 4)) (prK (kb l) (kb k) 4)) (prK (kb h) (kb m) 4)) (prK (kb h) (kb k) 4),
   max (max (max (max (-(aG:Int)) (prK (kb l) (kb m) 3)) (prK (kb l) (kb k) 3)) (prK (kb h) (kb m) 3)) (prK (kb h) (kb k) 3))
 |_,_=>none
theorem aMt (a b:Nat) (w:World):(Instr.index 134 (.agg #[.float .f64 a,.float .f64 b]) (.int .i64 0)).run Tryz.prog w= .ok (.float .f64 a) w:=by kernel_rfl
theorem aM2 (a b:Nat) (w:World):(Instr.index 134 (.agg #[.float .f64 a,.float .f64 b]) (.int .i64 1)).run Tryz.prog w= .ok (.float .f64 b) w:=by kernel_rfl
theorem aW1 (l h m k:Nat) (w:World) (hl:W64 l) (hh:W64 h) (hm:W64 m) (hk:W64 k) (hT:dR w):
  Calls Tryz.prog 96 #[.agg #[.float .f64 l,.float .f64 h],.agg #[.float .f64 m,.float .f64 k]] w (Gives (.agg #[.float .f64 (ivL (nM (ivK l h) (ivK m k))),.float .f64 (ivH (nM (ivK l h) (ivK m k)))]) w):=by
 have HFA:=jH fun w=>mW l h w hl hh
 have HFB:=jH fun w=>mW m k w hm hk
 have HE:=jH fun w=>empty_any w
 have HW:=jH (I3.new w l h m k)
 rcases e1:ivK l h with _|p
 ·rw [e1,Option.isSome_none]at HFA
  rw [show ivL (nM none (ivK m k))=9218868437227405312 from rfl,show ivH (nM none (ivK m k))=18442240474082181120 from rfl]
  clear e1 HFB hT
  go_enter Tryz.func96,Tryz.ntmps96
  obtain⟨⟨⟨c0,c1⟩,c2,c3⟩,q0,q1,q2,q3⟩:=HW.out.cells
  go_wp2_with fail
  refine(HFA.out _).mono ?_
  rintro e1 w1 ⟨rfl,hb1⟩
  replace HW:=jH (HW.out.later hb1)
  clear hb1 c0 c1 c2 c3 q0 q1 q2 q3
  obtain⟨⟨⟨c0,c1⟩,c2,c3⟩,q0,q1,q2,q3⟩:=HW.out.cells
  go_wp2_with fail
  refine(HE.out _).mono ?_
  rintro e2 w2 ⟨rfl,hb2⟩
  replace HW:=jH (HW.out.later hb2)
  clear hb2 c0 c1 c2 c3 q0 q1 q2 q3
  obtain⟨⟨⟨c0,c1⟩,c2,c3⟩,q0,q1,q2,q3⟩:=HW.out.cells
  go_wp2
  refine bodyPost_ret (v:= .agg #[.float .f64 9218868437227405312,.float .f64 18442240474082181120]) (by simp [results,Tryz.results96,go_sem,q0,q1]) rfl ⟨rfl,HW.out.stored _ _⟩
 rw [e1,Option.isSome_some]at HFA
 rcases e2:ivK m k with _|q
 ·rw [e2,Option.isSome_none]at HFB
  rw [show ivL (nM (some p) none)=9218868437227405312 from rfl,show ivH (nM (some p) none)=18442240474082181120 from rfl]
  clear e1 e2 hT
  go_enter Tryz.func96,Tryz.ntmps96
  obtain⟨⟨⟨c0,c1⟩,c2,c3⟩,q0,q1,q2,q3⟩:=HW.out.cells
  go_wp2_with fail
  refine(HFA.out _).mono ?_
  rintro e1 w1 ⟨rfl,hb1⟩
  replace HW:=jH (HW.out.later hb1)
  clear hb1 c0 c1 c2 c3 q0 q1 q2 q3
  obtain⟨⟨⟨c0,c1⟩,c2,c3⟩,q0,q1,q2,q3⟩:=HW.out.cells
  go_wp2_with fail
  refine(HFB.out _).mono ?_
  rintro e2 w2 ⟨rfl,hb2⟩
  replace HW:=jH (HW.out.later hb2)
  clear hb2 c0 c1 c2 c3 q0 q1 q2 q3
  obtain⟨⟨⟨c0,c1⟩,c2,c3⟩,q0,q1,q2,q3⟩:=HW.out.cells
  go_wp2_with fail
  refine(HE.out _).mono ?_
  rintro e3 w3 ⟨rfl,hb3⟩
  replace HW:=jH (HW.out.later hb3)
  clear hb3 c0 c1 c2 c3 q0 q1 q2 q3
  obtain⟨⟨⟨c0,c1⟩,c2,c3⟩,q0,q1,q2,q3⟩:=HW.out.cells
  go_wp2
  refine bodyPost_ret (v:= .agg #[.float .f64 9218868437227405312,.float .f64 18442240474082181120]) (by simp [results,Tryz.results96,go_sem,q0,q1]) rfl ⟨rfl,HW.out.stored _ _⟩
 rw [e2,Option.isSome_some]at HFB
 obtain⟨nl,nh,rfl⟩:=dX e1
 obtain⟨nm,nk,rfl⟩:=dX e2
 rw [show ivL (nM (some (ky l,ky h)) (some (ky m,ky k)))=kb (suK (kb (ky l)) (kb (ky m)) 4)from rfl,show ivH (nM (some (ky l,ky h)) (some (ky m,ky k)))=kb (suK (kb (ky h)) (kb (ky k)) 3)from rfl,aE2,aE2]
 have HS1:=jH fun W (ht:dR W)=>aId l m 4 W hl hm nl nm (.inr rfl) ht
 have HS2:=jH fun W (ht:dR W)=>aId h k 3 W hh hk nh nk (.inl rfl) ht
 have HT:=jH hT
 generalize suK l m 4=K1 at*
 generalize suK h k 3=K2 at*
 clear e1 e2 nl nh nm nk hl hh hm hk hT HE
 go_enter Tryz.func96,Tryz.ntmps96
 obtain⟨⟨⟨c0,c1⟩,c2,c3⟩,q0,q1,q2,q3⟩:=HW.out.cells
 go_wp2_with fail
 refine(HFA.out _).mono ?_
 rintro e1 w1 ⟨rfl,hb1⟩
 replace HW:=jH (HW.out.later hb1)
 clear hb1 c0 c1 c2 c3 q0 q1 q2 q3
 obtain⟨⟨⟨c0,c1⟩,c2,c3⟩,q0,q1,q2,q3⟩:=HW.out.cells
 go_wp2_with fail
 refine(HFB.out _).mono ?_
 rintro e2 w2 ⟨rfl,hb2⟩
 replace HW:=jH (HW.out.later hb2)
 clear hb2 c0 c1 c2 c3 q0 q1 q2 q3
 obtain⟨⟨⟨c0,c1⟩,c2,c3⟩,q0,q1,q2,q3⟩:=HW.out.cells
 go_wp2
 refine aC (fun w':World=>(w'.cell? ⟨w.heap.size,0,none⟩=some (.float .f64 l)∧w'.cell? ⟨w.heap.size,1,none⟩=some (.float .f64 h))∧w'.cell? ⟨w.heap.size+1,0,none⟩=some (.float .f64 m)∧w'.cell? ⟨w.heap.size+1,1,none⟩=some (.float .f64 k)) 9 (.take 0 (.take 1 (.take 2 (.take 3 (.take 5 (.take 6 (.take 7 (.take 8 (.run 4 .nil))))))))) (by kernel_rfl) (by kernel_rfl) ?_
 replace HW:=jH (HW.out.later (aB _))
 generalize World.drew _=W0 at HW ⊢
 repeat (first|(refine tkL (v:= ?_) rfl rfl rfl (fun w' hSw=> ?_) HW.out.cells.1 ?_;rotate_left;(focus (go_simp;with_reducible rfl));simp only [aF])|(refine skL rfl rfl rfl HW.out.cells.1 ?_;simp only [aF]))
 refine aI rfl rfl fun K' hK=> ?_
 go_simp
 refine(HS1.out _ (HT.out.below HW.out.1.2)).mono ?_
 rintro e1 W0v1 ⟨r1,rfl,rl1,rn1,rk1,hb1⟩
 replace HW:=jH (HW.out.later hb1)
 have HR1:=jH (And.intro rl1 (And.intro rn1 rk1))
 clear rl1 rn1 rk1
 refine hK _ _ HW.out.cells.1 ?_
 clear hK K' hb1
 try simp only [Act.put,aF]
 repeat (first|(refine tkL (v:= ?_) rfl rfl rfl (fun w' hSw=> ?_) HW.out.cells.1 ?_;rotate_left;(focus (go_simp;with_reducible rfl));simp only [aF])|(refine skL rfl rfl rfl HW.out.cells.1 ?_;simp only [aF]))
 refine aN ?_
 simp only [drL]
 clear c0 c1 c2 c3 q0 q1 q2 q3
 obtain⟨⟨⟨c0,c1⟩,c2,c3⟩,q0,q1,q2,q3⟩:=HW.out.cells
 go_wp2_with fail
 refine(HS2.out _ (HT.out.below HW.out.1.2)).mono ?_
 rintro e9 w9 ⟨r2,rfl,rl2,rn2,rk2,hb9⟩
 replace HW:=jH (HW.out.later hb9)
 have HMK:=jH fun W=>jM r1 r2 W HR1.out.1 rl2 HR1.out.2.1 rn2
 rw [HR1.out.2.2,rk2]at HMK
 generalize kb K1=L at*
 generalize kb K2=H at*
 clear hb9 rl2 rn2 rk2 c0 c1 c2 c3 q0 q1 q2 q3
 obtain⟨⟨⟨c0,c1⟩,c2,c3⟩,q0,q1,q2,q3⟩:=HW.out.cells
 go_wp2_with fail
 refine(HMK.out _).mono ?_
 rintro e10 w10 ⟨rfl,hb10⟩
 replace HW:=jH (HW.out.later hb10)
 clear hb10 c0 c1 c2 c3 q0 q1 q2 q3
 obtain⟨⟨⟨c0,c1⟩,c2,c3⟩,q0,q1,q2,q3⟩:=HW.out.cells
 go_wp2
 refine bodyPost_ret (v:= .agg #[.float .f64 L,.float .f64 H]) (by simp [results,Tryz.results96,go_sem,q0,q1]) rfl ⟨rfl,HW.out.stored _ _⟩
def aGf (a b:Option (Int×Int)):Option (Int×Int):=nM a (kW b)
theorem aVw (l h m k:Nat) (w:World) (hl:W64 l) (hh:W64 h) (hm:W64 m) (hk:W64 k) (hT:dR w):
  Calls Tryz.prog 45 #[.agg #[.float .f64 l,.float .f64 h],.agg #[.float .f64 m,.float .f64 k]] w (Gives (.agg #[.float .f64 (ivL (aGf (ivK l h) (ivK m k))),.float .f64 (ivH (aGf (ivK l h) (ivK m k)))]) w):=by
 have HNG:=jH fun w=>aFr m k w hm hk
 have hok:=yN (pK hm hk)
 have HAD:=jH fun W (ht:dR W)=>aW1 l h _ _ W hl hh (qU hok) (qV hok) ht
 rw [oU hok]at HAD
 have HW:=jH (I3.new w l h m k)
 have HT:=jH hT
 rw [show aGf (ivK l h) (ivK m k)=nM (ivK l h) (kW (ivK m k))from rfl]
 generalize ivL (nM (ivK l h) (kW (ivK m k)))=L at*
 generalize ivH (nM (ivK l h) (kW (ivK m k)))=H at*
 generalize ivL (kW (ivK m k))=nm at*
 generalize ivH (kW (ivK m k))=nk at*
 clear hl hh hm hk hT hok
 go_enter Tryz.func45,Tryz.ntmps45
 go_wp2
 refine aC (fun w':World=>(w'.cell? ⟨w.heap.size,0,none⟩=some (.float .f64 l)∧w'.cell? ⟨w.heap.size,1,none⟩=some (.float .f64 h))∧w'.cell? ⟨w.heap.size+1,0,none⟩=some (.float .f64 m)∧w'.cell? ⟨w.heap.size+1,1,none⟩=some (.float .f64 k)) 3 (.take 0 (.take 1 (.run 2 .nil))) (by kernel_rfl) (by kernel_rfl) ?_
 replace HW:=jH (HW.out.later (aB _))
 generalize World.drew _=W0 at HW ⊢
 repeat (first|(refine tkL (v:= ?_) rfl rfl rfl (fun w' hSw=> ?_) HW.out.cells.1 ?_;rotate_left;(focus (go_simp;with_reducible rfl));simp only [aF])|(refine skL rfl rfl rfl HW.out.cells.1 ?_;simp only [aF]))
 refine aI rfl rfl fun K' hK=> ?_
 go_simp
 refine(HNG.out _).mono ?_
 rintro e1 W0v1 ⟨rfl,hb1⟩
 replace HW:=jH (HW.out.later hb1)
 refine hK _ _ HW.out.cells.1 ?_
 clear hK K' hb1
 try simp only [Act.put,aF]
 repeat (first|(refine tkL (v:= ?_) rfl rfl rfl (fun w' hSw=> ?_) HW.out.cells.1 ?_;rotate_left;(focus (go_simp;with_reducible rfl));simp only [aF])|(refine skL rfl rfl rfl HW.out.cells.1 ?_;simp only [aF]))
 refine aN ?_
 simp only [drL]
 obtain⟨⟨⟨c0,c1⟩,c2,c3⟩,q0,q1,q2,q3⟩:=HW.out.cells
 go_wp2_with fail
 refine(HAD.out _ (HT.out.below HW.out.1.2)).mono ?_
 rintro e9 w9 ⟨rfl,hb9⟩
 replace HW:=jH (HW.out.later hb9)
 clear hb9 c0 c1 c2 c3 q0 q1 q2 q3
 obtain⟨⟨⟨c0,c1⟩,c2,c3⟩,q0,q1,q2,q3⟩:=HW.out.cells
 go_wp2
 refine bodyPost_ret (v:= .agg #[.float .f64 L,.float .f64 H]) (by simp [results,Tryz.results45,go_sem,q0,q1]) rfl ⟨rfl,HW.out.stored _ _⟩
def loR (P:Nat→Nat→Int→Int) (i:Nat) (s:Int):Nat→Int
 |0=>s
 |j+1=>min (loR P i s j) (P i j 4)
def loS (P:Nat→Nat→Int→Int):Nat→Int
 |0=>aG
 |i+1=>loR P i (loS P i) 2
def hiR (P:Nat→Nat→Int→Int) (i:Nat) (s:Int):Nat→Int
 |0=>s
 |j+1=>max (hiR P i s j) (P i j 3)
def hiS (P:Nat→Nat→Int→Int):Nat→Int
 |0=> -(aG:Int)
 |i+1=>hiR P i (hiS P i) 2
def endP (l h m k:Nat) (i j:Nat) (mode:Int):Int:=prK (if i=0 then l else h) (if j=0 then m else k) mode
theorem aPn (l h m k:Nat) (w:World) (hl:W64 l) (hh:W64 h) (hm:W64 m) (hk:W64 k) (hT:dR w):
  Calls Tryz.prog 46 #[.agg #[.float .f64 l,.float .f64 h],.agg #[.float .f64 m,.float .f64 k]] w (Gives (.agg #[.float .f64 (ivL (tH (ivK l h) (ivK m k))),.float .f64 (ivH (tH (ivK l h) (ivK m k)))]) w):=by
 have HFA:=jH fun w=>mW l h w hl hh
 have HFB:=jH fun w=>mW m k w hm hk
 have HE:=jH fun w=>empty_any w
 have HIP:=jH fun w=>oD w
 have HIN:=jH fun w=>kK w
 have HW:=jH (I3.new w l h m k)
 rcases e1:ivK l h with _|p
 ·rw [e1,Option.isSome_none]at HFA
  rw [show ivL (tH none (ivK m k))=9218868437227405312 from rfl,show ivH (tH none (ivK m k))=18442240474082181120 from rfl]
  clear e1 HFB hT
  go_enter Tryz.func46,Tryz.ntmps46
  obtain⟨⟨⟨c0,c1⟩,c2,c3⟩,q0,q1,q2,q3⟩:=HW.out.cells
  go_wp2_with fail
  refine(HFA.out _).mono ?_
  rintro e1 w1 ⟨rfl,hb1⟩
  replace HW:=jH (HW.out.later hb1)
  clear hb1 c0 c1 c2 c3 q0 q1 q2 q3
  obtain⟨⟨⟨c0,c1⟩,c2,c3⟩,q0,q1,q2,q3⟩:=HW.out.cells
  go_wp2_with fail
  refine(HE.out _).mono ?_
  rintro e2 w2 ⟨rfl,hb2⟩
  replace HW:=jH (HW.out.later hb2)
  clear hb2 c0 c1 c2 c3 q0 q1 q2 q3
  obtain⟨⟨⟨c0,c1⟩,c2,c3⟩,q0,q1,q2,q3⟩:=HW.out.cells
  go_wp2
  refine bodyPost_ret (v:= .agg #[.float .f64 9218868437227405312,.float .f64 18442240474082181120]) (by simp [results,Tryz.results46,go_sem,q0,q1]) rfl ⟨rfl,HW.out.stored _ _⟩
 rw [e1,Option.isSome_some]at HFA
 rcases e2:ivK m k with _|q
 ·rw [e2,Option.isSome_none]at HFB
  rw [show ivL (tH (some p) none)=9218868437227405312 from rfl,show ivH (tH (some p) none)=18442240474082181120 from rfl]
  clear e1 e2 hT
  go_enter Tryz.func46,Tryz.ntmps46
  obtain⟨⟨⟨c0,c1⟩,c2,c3⟩,q0,q1,q2,q3⟩:=HW.out.cells
  go_wp2_with fail
  refine(HFA.out _).mono ?_
  rintro e1 w1 ⟨rfl,hb1⟩
  replace HW:=jH (HW.out.later hb1)
  clear hb1 c0 c1 c2 c3 q0 q1 q2 q3
  obtain⟨⟨⟨c0,c1⟩,c2,c3⟩,q0,q1,q2,q3⟩:=HW.out.cells
  go_wp2_with fail
  refine(HFB.out _).mono ?_
  rintro e2 w2 ⟨rfl,hb2⟩
  replace HW:=jH (HW.out.later hb2)
  clear hb2 c0 c1 c2 c3 q0 q1 q2 q3
  obtain⟨⟨⟨c0,c1⟩,c2,c3⟩,q0,q1,q2,q3⟩:=HW.out.cells
  go_wp2_with fail
  refine(HE.out _).mono ?_
  rintro e3 w3 ⟨rfl,hb3⟩
  replace HW:=jH (HW.out.later hb3)
  clear hb3 c0 c1 c2 c3 q0 q1 q2 q3
  obtain⟨⟨⟨c0,c1⟩,c2,c3⟩,q0,q1,q2,q3⟩:=HW.out.cells
  go_wp2
  refine bodyPost_ret (v:= .agg #[.float .f64 9218868437227405312,.float .f64 18442240474082181120]) (by simp [results,Tryz.results46,go_sem,q0,q1]) rfl ⟨rfl,HW.out.stored _ _⟩
 rw [e2,Option.isSome_some]at HFB
 obtain⟨nl,nh,rfl⟩:=dX e1
 obtain⟨nm,nk,rfl⟩:=dX e2
 have hL:ivL (tH (some (ky l,ky h)) (some (ky m,ky k)))=kb (loS (endP l h m k) 2):=by
  show kb (min (min (min (min (aG:Int) (prK (kb (ky l)) (kb (ky m)) 4)) (prK (kb (ky l)) (kb (ky k)) 4)) (prK (kb (ky h)) (kb (ky m)) 4)) (prK (kb (ky h)) (kb (ky k)) 4))=_
  rw [jU,jU,jU,jU];rfl
 have hH:ivH (tH (some (ky l,ky h)) (some (ky m,ky k)))=kb (hiS (endP l h m k) 2):=by
  show kb (max (max (max (max (-(aG:Int)) (prK (kb (ky l)) (kb (ky m)) 3)) (prK (kb (ky l)) (kb (ky k)) 3)) (prK (kb (ky h)) (kb (ky m)) 3)) (prK (kb (ky h)) (kb (ky k)) 3))=_
  rw [jU,jU,jU,jU];rfl
 rw [hL,hH]
 have HP004:=jH fun W (ht:dR W)=>(show Calls Tryz.prog 101 #[.float .f64 l,.float .f64 m,.int .i64 4] W (eX (endP l h m k 0 0 4) W)from gX l m 4 W hl hm nl nm (.inr rfl) ht)
 have HP003:=jH fun W (ht:dR W)=>(show Calls Tryz.prog 101 #[.float .f64 l,.float .f64 m,.int .i64 3] W (eX (endP l h m k 0 0 3) W)from gX l m 3 W hl hm nl nm (.inl rfl) ht)
 have HP014:=jH fun W (ht:dR W)=>(show Calls Tryz.prog 101 #[.float .f64 l,.float .f64 k,.int .i64 4] W (eX (endP l h m k 0 1 4) W)from gX l k 4 W hl hk nl nk (.inr rfl) ht)
 have HP013:=jH fun W (ht:dR W)=>(show Calls Tryz.prog 101 #[.float .f64 l,.float .f64 k,.int .i64 3] W (eX (endP l h m k 0 1 3) W)from gX l k 3 W hl hk nl nk (.inl rfl) ht)
 have HP104:=jH fun W (ht:dR W)=>(show Calls Tryz.prog 101 #[.float .f64 h,.float .f64 m,.int .i64 4] W (eX (endP l h m k 1 0 4) W)from gX h m 4 W hh hm nh nm (.inr rfl) ht)
 have HP103:=jH fun W (ht:dR W)=>(show Calls Tryz.prog 101 #[.float .f64 h,.float .f64 m,.int .i64 3] W (eX (endP l h m k 1 0 3) W)from gX h m 3 W hh hm nh nm (.inl rfl) ht)
 have HP114:=jH fun W (ht:dR W)=>(show Calls Tryz.prog 101 #[.float .f64 h,.float .f64 k,.int .i64 4] W (eX (endP l h m k 1 1 4) W)from gX h k 4 W hh hk nh nk (.inr rfl) ht)
 have HP113:=jH fun W (ht:dR W)=>(show Calls Tryz.prog 101 #[.float .f64 h,.float .f64 k,.int .i64 3] W (eX (endP l h m k 1 1 3) W)from gX h k 3 W hh hk nh nk (.inl rfl) ht)
 have HT:=jH hT
 obtain⟨L,hLL⟩:∃L,kb (loS (endP l h m k) 2)=L:=⟨_,rfl⟩
 obtain⟨H,hHH⟩:∃H,kb (hiS (endP l h m k) 2)=H:=⟨_,rfl⟩
 rw [hLL,hHH]
 have HLH:=jH (And.intro hLL hHH)
 clear hL hH hLL hHH e1 e2 nl nh nm nk hl hh hm hk hT HE
 generalize endP l h m k=P0 at*
 have hi0:=fun a b w=>aMt a b w
 have hi1:=fun a b w=>aM2 a b w
 go_enter Tryz.func46,Tryz.ntmps46
 obtain⟨⟨⟨c0,c1⟩,c2,c3⟩,q0,q1,q2,q3⟩:=HW.out.cells
 go_wp2_with fail
 refine(HFA.out _).mono ?_
 rintro e1 w1 ⟨rfl,hb1⟩
 replace HW:=jH (HW.out.later hb1)
 clear hb1 c0 c1 c2 c3 q0 q1 q2 q3
 obtain⟨⟨⟨c0,c1⟩,c2,c3⟩,q0,q1,q2,q3⟩:=HW.out.cells
 go_wp2_with fail
 refine(HFB.out _).mono ?_
 rintro e2 w2 ⟨rfl,hb2⟩
 replace HW:=jH (HW.out.later hb2)
 clear hb2 c0 c1 c2 c3 q0 q1 q2 q3
 obtain⟨⟨⟨c0,c1⟩,c2,c3⟩,q0,q1,q2,q3⟩:=HW.out.cells
 go_wp2_with fail
 refine(HIP.out _).mono ?_
 rintro e3 w3 ⟨rfl,hb3⟩
 replace HW:=jH (HW.out.later hb3)
 clear hb3 c0 c1 c2 c3 q0 q1 q2 q3
 obtain⟨⟨⟨c0,c1⟩,c2,c3⟩,q0,q1,q2,q3⟩:=HW.out.cells
 go_wp2_with fail
 refine(HIN.out _).mono ?_
 rintro e4 w4 ⟨rfl,hb4⟩
 replace HW:=jH (HW.out.later hb4)
 clear hb4 c0 c1 c2 c3 q0 q1 q2 q3
 obtain⟨⟨⟨c0,c1⟩,c2,c3⟩,q0,q1,q2,q3⟩:=HW.out.cells
 clear HFA HFB HIP HIN
 go_wp2
 go_loopw [5,6,27] (fun lo hi i wr=>∃(j:Int) (a b:Nat),(0≤j∧j≤2)∧i= .int .i64 j∧lo= .float .f64 a∧hi= .float .f64 b∧Hid ((W64 a∧aU a=false∧ky a=loS P0 j.toNat)∧W64 b∧aU b=false∧ky b=hiS P0 j.toNat)∧Hid (I3 w wr l h m k)) (fun _ _ i _=>2-(intOf i).toNat)
 case atStart=>exact⟨0,_,_,by omega,rfl,rfl,rfl,jH ⟨⟨by decide,by decide,show ky 9218868437227405312=(aG:Int) by decide⟩,by decide,by decide,show ky 18442240474082181120= -(aG:Int) by decide⟩,HW⟩
 case round=>
  clear HW c0 c1 c2 c3 q0 q1 q2 q3
  obtain⟨j,a,b,hj,rfl,rfl,rfl,HAB,HW⟩:=hrel
  obtain⟨⟨⟨c0,c1⟩,c2,c3⟩,q0,q1,q2,q3⟩:=HW.out.cells
  have hcase:j=0∨j=1∨j=2:=by omega
  rcases hcase with rfl|rfl|rfl
  ·go_wp2
   go_loopw [5,6,35] (fun lo hi i wr=>∃(j:Int) (a b:Nat),(0≤j∧j≤2)∧i= .int .i64 j∧lo= .float .f64 a∧hi= .float .f64 b∧Hid ((W64 a∧aU a=false∧ky a=loR P0 0 (loS P0 0) j.toNat)∧W64 b∧aU b=false∧ky b=hiR P0 0 (hiS P0 0) j.toNat)∧Hid (I3 w wr l h m k)) (fun _ _ i _=>2-(intOf i).toNat)
   case atStart=>exact⟨0,a,b,by omega,rfl,rfl,rfl,HAB,HW⟩
   case round=>
    clear HAB HW c0 c1 c2 c3 q0 q1 q2 q3
    obtain⟨j,a,b,hj,rfl,rfl,rfl,HAB,HW⟩:=hrel
    obtain⟨⟨⟨c0,c1⟩,c2,c3⟩,q0,q1,q2,q3⟩:=HW.out.cells
    have hcase:j=0∨j=1∨j=2:=by omega
    rcases hcase with rfl|rfl|rfl
    ·go_wp2_with fail
     refine(HP004.out _ (HT.out.below HW.out.1.2)).mono ?_
     rintro e5 w5 ⟨r1,rfl,rl1,rn1,rk1,hb5⟩
     replace HW:=jH (HW.out.later hb5)
     obtain⟨s1,hs1,sl1,sn1,sk1⟩:=vZ HAB.out.1.1 rl1 HAB.out.1.2.1 rn1
     rw [rk1,HAB.out.1.2.2]at sk1
     have HS1:=jH (And.intro sl1 (And.intro sn1 sk1))
     clear hb5 rl1 rn1 rk1 sl1 sn1 sk1 c0 c1 c2 c3 q0 q1 q2 q3
     go_wp2_with fail
     refine(HP003.out _ (HT.out.below HW.out.1.2)).mono ?_
     rintro e6 w6 ⟨r2,rfl,rl2,rn2,rk2,hb6⟩
     replace HW:=jH (HW.out.later hb6)
     obtain⟨s2,hs2,sl2,sn2,sk2⟩:=vY HAB.out.2.1 rl2 HAB.out.2.2.1 rn2
     rw [rk2,HAB.out.2.2.2]at sk2
     have HS2:=jH (And.intro sl2 (And.intro sn2 sk2))
     clear hb6 rl2 rn2 rk2 sl2 sn2 sk2 hs1
     go_wp2
     go_roundw
     case rel=>exact⟨1,s1,s2,by omega,rfl,rfl,rfl,jH ⟨HS1.out,HS2.out⟩,HW⟩
     case measure=>simp [intOf]
    ·go_wp2_with fail
     refine(HP014.out _ (HT.out.below HW.out.1.2)).mono ?_
     rintro e5 w5 ⟨r1,rfl,rl1,rn1,rk1,hb5⟩
     replace HW:=jH (HW.out.later hb5)
     obtain⟨s1,hs1,sl1,sn1,sk1⟩:=vZ HAB.out.1.1 rl1 HAB.out.1.2.1 rn1
     rw [rk1,HAB.out.1.2.2]at sk1
     have HS1:=jH (And.intro sl1 (And.intro sn1 sk1))
     clear hb5 rl1 rn1 rk1 sl1 sn1 sk1 c0 c1 c2 c3 q0 q1 q2 q3
     go_wp2_with fail
     refine(HP013.out _ (HT.out.below HW.out.1.2)).mono ?_
     rintro e6 w6 ⟨r2,rfl,rl2,rn2,rk2,hb6⟩
     replace HW:=jH (HW.out.later hb6)
     obtain⟨s2,hs2,sl2,sn2,sk2⟩:=vY HAB.out.2.1 rl2 HAB.out.2.2.1 rn2
     rw [rk2,HAB.out.2.2.2]at sk2
     have HS2:=jH (And.intro sl2 (And.intro sn2 sk2))
     clear hb6 rl2 rn2 rk2 sl2 sn2 sk2 hs1
     go_wp2
     go_roundw
     case rel=>exact⟨2,s1,s2,by omega,rfl,rfl,rfl,jH ⟨HS1.out,HS2.out⟩,HW⟩
     case measure=>simp [intOf]
    ·go_wp2
     go_roundw
     case rel=>exact⟨1,a,b,by omega,rfl,rfl,rfl,HAB,HW⟩
     case measure=>simp [intOf]
  ·go_wp2
   go_loopw [5,6,35] (fun lo hi i wr=>∃(j:Int) (a b:Nat),(0≤j∧j≤2)∧i= .int .i64 j∧lo= .float .f64 a∧hi= .float .f64 b∧Hid ((W64 a∧aU a=false∧ky a=loR P0 1 (loS P0 1) j.toNat)∧W64 b∧aU b=false∧ky b=hiR P0 1 (hiS P0 1) j.toNat)∧Hid (I3 w wr l h m k)) (fun _ _ i _=>2-(intOf i).toNat)
   case atStart=>exact⟨0,a,b,by omega,rfl,rfl,rfl,HAB,HW⟩
   case round=>
    clear HAB HW c0 c1 c2 c3 q0 q1 q2 q3
    obtain⟨j,a,b,hj,rfl,rfl,rfl,HAB,HW⟩:=hrel
    obtain⟨⟨⟨c0,c1⟩,c2,c3⟩,q0,q1,q2,q3⟩:=HW.out.cells
    have hcase:j=0∨j=1∨j=2:=by omega
    rcases hcase with rfl|rfl|rfl
    ·go_wp2_with fail
     refine(HP104.out _ (HT.out.below HW.out.1.2)).mono ?_
     rintro e5 w5 ⟨r1,rfl,rl1,rn1,rk1,hb5⟩
     replace HW:=jH (HW.out.later hb5)
     obtain⟨s1,hs1,sl1,sn1,sk1⟩:=vZ HAB.out.1.1 rl1 HAB.out.1.2.1 rn1
     rw [rk1,HAB.out.1.2.2]at sk1
     have HS1:=jH (And.intro sl1 (And.intro sn1 sk1))
     clear hb5 rl1 rn1 rk1 sl1 sn1 sk1 c0 c1 c2 c3 q0 q1 q2 q3
     go_wp2_with fail
     refine(HP103.out _ (HT.out.below HW.out.1.2)).mono ?_
     rintro e6 w6 ⟨r2,rfl,rl2,rn2,rk2,hb6⟩
     replace HW:=jH (HW.out.later hb6)
     obtain⟨s2,hs2,sl2,sn2,sk2⟩:=vY HAB.out.2.1 rl2 HAB.out.2.2.1 rn2
     rw [rk2,HAB.out.2.2.2]at sk2
     have HS2:=jH (And.intro sl2 (And.intro sn2 sk2))
     clear hb6 rl2 rn2 rk2 sl2 sn2 sk2 hs1
     go_wp2
     go_roundw
     case rel=>exact⟨1,s1,s2,by omega,rfl,rfl,rfl,jH ⟨HS1.out,HS2.out⟩,HW⟩
     case measure=>simp [intOf]
    ·go_wp2_with fail
     refine(HP114.out _ (HT.out.below HW.out.1.2)).mono ?_
     rintro e5 w5 ⟨r1,rfl,rl1,rn1,rk1,hb5⟩
     replace HW:=jH (HW.out.later hb5)
     obtain⟨s1,hs1,sl1,sn1,sk1⟩:=vZ HAB.out.1.1 rl1 HAB.out.1.2.1 rn1
     rw [rk1,HAB.out.1.2.2]at sk1
     have HS1:=jH (And.intro sl1 (And.intro sn1 sk1))
     clear hb5 rl1 rn1 rk1 sl1 sn1 sk1 c0 c1 c2 c3 q0 q1 q2 q3
     go_wp2_with fail
     refine(HP113.out _ (HT.out.below HW.out.1.2)).mono ?_
     rintro e6 w6 ⟨r2,rfl,rl2,rn2,rk2,hb6⟩
     replace HW:=jH (HW.out.later hb6)
     obtain⟨s2,hs2,sl2,sn2,sk2⟩:=vY HAB.out.2.1 rl2 HAB.out.2.2.1 rn2
     rw [rk2,HAB.out.2.2.2]at sk2
     have HS2:=jH (And.intro sl2 (And.intro sn2 sk2))
     clear hb6 rl2 rn2 rk2 sl2 sn2 sk2 hs1
     go_wp2
     go_roundw
     case rel=>exact⟨2,s1,s2,by omega,rfl,rfl,rfl,jH ⟨HS1.out,HS2.out⟩,HW⟩
     case measure=>simp [intOf]
    ·go_wp2
     go_roundw
     case rel=>exact⟨2,a,b,by omega,rfl,rfl,rfl,HAB,HW⟩
     case measure=>simp [intOf]
  ·go_wp2_with fail
   have HMK:=jH fun W=>jM a b W HAB.out.1.1 HAB.out.2.1 HAB.out.1.2.1 HAB.out.2.2.1
   rw [HAB.out.1.2.2,HAB.out.2.2.2,show(2:Int).toNat=2 from rfl,HLH.out.1,HLH.out.2]at HMK
   refine(HMK.out _).mono ?_
   rintro e9 w9 ⟨rfl,hb9⟩
   replace HW:=jH (HW.out.later hb9)
   clear hb9 c0 c1 c2 c3 q0 q1 q2 q3 HMK
   obtain⟨⟨⟨c0,c1⟩,c2,c3⟩,q0,q1,q2,q3⟩:=HW.out.cells
   go_wp2
   refine bodyPost_ret (v:= .agg #[.float .f64 L,.float .f64 H]) (by simp [results,Tryz.results46,go_sem,q0,q1]) rfl ⟨rfl,HW.out.stored _ _⟩
end Go.Proofs.YtfmecpembnmnkaaGreatDoor
