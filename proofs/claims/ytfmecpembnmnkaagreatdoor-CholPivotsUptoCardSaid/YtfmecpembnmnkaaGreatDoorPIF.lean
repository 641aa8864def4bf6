/- Walks: quotients and roots of intervals; what is one; new ones. Printed by wip/gen/iv9.py. -/
import Derived.Test.YtfmecpembnmnkaaGreatDoorPIE
namespace Go.Proofs.YtfmecpembnmnkaaGreatDoor
set_option maxRecDepth 100000
set_option maxHeartbeats 6400000
open Go.RowKit
attribute [local go_sem] bG
theorem aSb {x:Nat}(y:Nat) (mode:Int) (h:ky x=0):byK x y mode=0:=by
 unfold byK quK
 rw [if_neg (fun hh=>hh.2 h),if_pos (.inl h)]
theorem aVd (x:Nat) {y:Nat}(mode:Int) (h:ky y=0):byK x y mode=if ky x≠0 then(if 0<ky x then(aG:Int)else-(aG:Int))else 0:=by
 by_cases h0:ky x=0
 ·rw [aSb y mode h0,if_neg (fun hh=>hh h0)]
 ·unfold byK
  rw [if_pos ⟨h,h0⟩,if_pos h0]
theorem qP (x y:Nat) (mode:Int):byK (kb (ky x)) (kb (ky y)) mode=byK x y mode:=by
 rcases aC9 x with hx|⟨hx,hx'⟩
 ·rw [hx]
  rcases aC9 y with hy|⟨hy,hy'⟩
  ·rw [hy]
  ·rw [hy',hy,aVd x mode (by decide),aVd x mode (by decide)]
 ·rw [hx',hx,aSb _ mode (by decide),aSb _ mode (by decide)]
def ovK (l h m k:Int):Int×Int:=(byK (kb l) (kb (if l<0 then m else k)) 4,byK (kb h) (kb (if 0<h then m else k)) 3)
def mP (a b:Option (Int×Int)):Option (Int×Int):=match a,b with
 |some (l,h),some (m,k)=>if m=0∧k=0 then none else if 0≤m then some (ovK l h m k)else if k≤0 then some (ovK (-h) (-l) (-k) (-m))else if l=0∧h=0 then some (0,0)else some (-(aG:Int),(aG:Int))
 |_,_=>none
theorem aFl (l h m k:Nat) (w:World) (hl:W64 l) (hh:W64 h) (hm:W64 m) (hk:W64 k) (nl:aU l=false) (nh:aU h=false) (nm:aU m=false) (nk:aU k=false) (hT:dR w):
  Calls Tryz.prog 102 #[.agg #[.float .f64 l,.float .f64 h],.agg #[.float .f64 m,.float .f64 k]] w (Gives (.agg #[.float .f64 (kb (byK l (if ky l<0 then m else k) 4)),.float .f64 (kb (byK h (if 0<ky h then m else k) 3))]) w):=by
 have t1:=zG hl (by decide:W64 0) nl (by decide)
 have t2:=zQ hh (by decide:W64 0) nh (by decide)
 rw [dW]at t1 t2
 have HW:=jH (I3.new w l h m k)
 have HT:=jH hT
 by_cases cl:ky l<0
 ·by_cases ch:0<ky h
  ·rw [decide_eq_true cl]at t1
   rw [decide_eq_true ch]at t2
   rw [if_pos cl,if_pos ch]
   have HB1:=jH fun W (ht:dR W)=>qI l m 4 W hl hm nl nm (.inr rfl) ht
   have HB2:=jH fun W (ht:dR W)=>qI h m 3 W hh hm nh nm (.inl rfl) ht
   generalize byK l m 4=K1 at*
   generalize byK h m 3=K2 at*
   clear nl nh nm nk hl hh hm hk hT cl ch
   go_enter Tryz.func102,Tryz.ntmps102
   go_wp2
   refine aC (fun w':World=>(w'.cell? ⟨w.heap.size,0,none⟩=some (.float .f64 l)∧w'.cell? ⟨w.heap.size,1,none⟩=some (.float .f64 h))∧w'.cell? ⟨w.heap.size+1,0,none⟩=some (.float .f64 m)∧w'.cell? ⟨w.heap.size+1,1,none⟩=some (.float .f64 k)) 5 (.take 0 (.take 1 (.take 2 (.take 3 (.take 4 .nil))))) (by kernel_rfl) (by kernel_rfl) ?_
   replace HW:=jH (HW.out.later (aB _))
   generalize World.drew _=W1 at HW ⊢
   repeat (first|(refine tkL (v:= ?_) rfl rfl rfl (fun w' hSw=> ?_) HW.out.cells.1 ?_;rotate_left;(focus (go_simp;with_reducible rfl));simp only [aF])|(refine skL rfl rfl rfl HW.out.cells.1 ?_;simp only [aF]))
   refine aN ?_
   simp only [drL]
   obtain⟨⟨⟨c0,c1⟩,c2,c3⟩,q0,q1,q2,q3⟩:=HW.out.cells
   go_wp2
   refine aC (fun w':World=>(w'.cell? ⟨w.heap.size,0,none⟩=some (.float .f64 l)∧w'.cell? ⟨w.heap.size,1,none⟩=some (.float .f64 h))∧w'.cell? ⟨w.heap.size+1,0,none⟩=some (.float .f64 m)∧w'.cell? ⟨w.heap.size+1,1,none⟩=some (.float .f64 k)) 7 (.take 0 (.take 1 (.take 2 (.take 4 (.take 5 (.take 6 (.run 3 .nil))))))) (by kernel_rfl) (by kernel_rfl) ?_
   replace HW:=jH (HW.out.later (aB _))
   generalize World.drew _=W2 at HW ⊢
   repeat (first|(refine tkL (v:= ?_) rfl rfl rfl (fun w' hSw=> ?_) HW.out.cells.1 ?_;rotate_left;(focus (go_simp;with_reducible rfl));simp only [aF])|(refine skL rfl rfl rfl HW.out.cells.1 ?_;simp only [aF]))
   refine aI rfl rfl fun K' hK=> ?_
   go_simp
   refine(HB1.out _ (HT.out.below HW.out.1.2)).mono ?_
   rintro e1 W2v1 ⟨r1,rfl,rl1,rn1,rk1,hb1⟩
   replace HW:=jH (HW.out.later hb1)
   have HR1:=jH (And.intro rl1 (And.intro rn1 rk1))
   clear rl1 rn1 rk1
   refine hK _ _ HW.out.cells.1 ?_
   clear hK K' hb1
   try simp only [Act.put,aF]
   repeat (first|(refine tkL (v:= ?_) rfl rfl rfl (fun w' hSw=> ?_) HW.out.cells.1 ?_;rotate_left;(focus (go_simp;with_reducible rfl));simp only [aF])|(refine skL rfl rfl rfl HW.out.cells.1 ?_;simp only [aF]))
   refine aN ?_
   simp only [drL]
   clear c0 c1 c2 c3 q0 q1 q2 q3
   obtain⟨⟨⟨c0,c1⟩,c2,c3⟩,q0,q1,q2,q3⟩:=HW.out.cells
   go_wp2_with fail
   refine(HB2.out _ (HT.out.below HW.out.1.2)).mono ?_
   rintro e9 w9 ⟨r2,rfl,rl,rn,rk,hb9⟩
   replace HW:=jH (HW.out.later hb9)
   have HR2:=jH (And.intro rl (And.intro rn rk))
   clear hb9 rl rn rk c0 c1 c2 c3 q0 q1 q2 q3
   obtain⟨⟨⟨c0,c1⟩,c2,c3⟩,q0,q1,q2,q3⟩:=HW.out.cells
   have HMK:=jH fun W=>jM r1 r2 W HR1.out.1 HR2.out.1 HR1.out.2.1 HR2.out.2.1
   rw [HR1.out.2.2,HR2.out.2.2]at HMK
   generalize kb K1=L at*
   generalize kb K2=H at*
   clear HR1 HR2
   go_wp2_with fail
   refine(HMK.out _).mono ?_
   rintro e10 w10 ⟨rfl,hb10⟩
   replace HW:=jH (HW.out.later hb10)
   clear hb10 c0 c1 c2 c3 q0 q1 q2 q3
   obtain⟨⟨⟨c0,c1⟩,c2,c3⟩,q0,q1,q2,q3⟩:=HW.out.cells
   go_wp2
   refine bodyPost_ret (v:= .agg #[.float .f64 L,.float .f64 H]) (by simp [results,Tryz.results102,go_sem,q0,q1]) rfl ⟨rfl,HW.out.stored _ _⟩
  ·rw [decide_eq_true cl]at t1
   rw [decide_eq_false ch]at t2
   rw [if_pos cl,if_neg ch]
   have HB1:=jH fun W (ht:dR W)=>qI l m 4 W hl hm nl nm (.inr rfl) ht
   have HB2:=jH fun W (ht:dR W)=>qI h k 3 W hh hk nh nk (.inl rfl) ht
   generalize byK l m 4=K1 at*
   generalize byK h k 3=K2 at*
   clear nl nh nm nk hl hh hm hk hT cl ch
   go_enter Tryz.func102,Tryz.ntmps102
   go_wp2
   refine aC (fun w':World=>(w'.cell? ⟨w.heap.size,0,none⟩=some (.float .f64 l)∧w'.cell? ⟨w.heap.size,1,none⟩=some (.float .f64 h))∧w'.cell? ⟨w.heap.size+1,0,none⟩=some (.float .f64 m)∧w'.cell? ⟨w.heap.size+1,1,none⟩=some (.float .f64 k)) 5 (.take 0 (.take 1 (.take 2 (.take 3 (.take 4 .nil))))) (by kernel_rfl) (by kernel_rfl) ?_
   replace HW:=jH (HW.out.later (aB _))
   generalize World.drew _=W1 at HW ⊢
   repeat (first|(refine tkL (v:= ?_) rfl rfl rfl (fun w' hSw=> ?_) HW.out.cells.1 ?_;rotate_left;(focus (go_simp;with_reducible rfl));simp only [aF])|(refine skL rfl rfl rfl HW.out.cells.1 ?_;simp only [aF]))
   refine aN ?_
   simp only [drL]
   obtain⟨⟨⟨c0,c1⟩,c2,c3⟩,q0,q1,q2,q3⟩:=HW.out.cells
   go_wp2
   refine aC (fun w':World=>(w'.cell? ⟨w.heap.size,0,none⟩=some (.float .f64 l)∧w'.cell? ⟨w.heap.size,1,none⟩=some (.float .f64 h))∧w'.cell? ⟨w.heap.size+1,0,none⟩=some (.float .f64 m)∧w'.cell? ⟨w.heap.size+1,1,none⟩=some (.float .f64 k)) 7 (.take 0 (.take 1 (.take 2 (.take 4 (.take 5 (.take 6 (.run 3 .nil))))))) (by kernel_rfl) (by kernel_rfl) ?_
   replace HW:=jH (HW.out.later (aB _))
   generalize World.drew _=W2 at HW ⊢
   repeat (first|(refine tkL (v:= ?_) rfl rfl rfl (fun w' hSw=> ?_) HW.out.cells.1 ?_;rotate_left;(focus (go_simp;with_reducible rfl));simp only [aF])|(refine skL rfl rfl rfl HW.out.cells.1 ?_;simp only [aF]))
   refine aI rfl rfl fun K' hK=> ?_
   go_simp
   refine(HB1.out _ (HT.out.below HW.out.1.2)).mono ?_
   rintro e1 W2v1 ⟨r1,rfl,rl1,rn1,rk1,hb1⟩
   replace HW:=jH (HW.out.later hb1)
   have HR1:=jH (And.intro rl1 (And.intro rn1 rk1))
   clear rl1 rn1 rk1
   refine hK _ _ HW.out.cells.1 ?_
   clear hK K' hb1
   try simp only [Act.put,aF]
   repeat (first|(refine tkL (v:= ?_) rfl rfl rfl (fun w' hSw=> ?_) HW.out.cells.1 ?_;rotate_left;(focus (go_simp;with_reducible rfl));simp only [aF])|(refine skL rfl rfl rfl HW.out.cells.1 ?_;simp only [aF]))
   refine aN ?_
   simp only [drL]
   clear c0 c1 c2 c3 q0 q1 q2 q3
   obtain⟨⟨⟨c0,c1⟩,c2,c3⟩,q0,q1,q2,q3⟩:=HW.out.cells
   go_wp2_with fail
   refine(HB2.out _ (HT.out.below HW.out.1.2)).mono ?_
   rintro e9 w9 ⟨r2,rfl,rl,rn,rk,hb9⟩
   replace HW:=jH (HW.out.later hb9)
   have HR2:=jH (And.intro rl (And.intro rn rk))
   clear hb9 rl rn rk c0 c1 c2 c3 q0 q1 q2 q3
   obtain⟨⟨⟨c0,c1⟩,c2,c3⟩,q0,q1,q2,q3⟩:=HW.out.cells
   have HMK:=jH fun W=>jM r1 r2 W HR1.out.1 HR2.out.1 HR1.out.2.1 HR2.out.2.1
   rw [HR1.out.2.2,HR2.out.2.2]at HMK
   generalize kb K1=L at*
   generalize kb K2=H at*
   clear HR1 HR2
   go_wp2_with fail
   refine(HMK.out _).mono ?_
   rintro e10 w10 ⟨rfl,hb10⟩
   replace HW:=jH (HW.out.later hb10)
   clear hb10 c0 c1 c2 c3 q0 q1 q2 q3
   obtain⟨⟨⟨c0,c1⟩,c2,c3⟩,q0,q1,q2,q3⟩:=HW.out.cells
   go_wp2
   refine bodyPost_ret (v:= .agg #[.float .f64 L,.float .f64 H]) (by simp [results,Tryz.results102,go_sem,q0,q1]) rfl ⟨rfl,HW.out.stored _ _⟩
 ·by_cases ch:0<ky h
  ·rw [decide_eq_false cl]at t1
   rw [decide_eq_true ch]at t2
   rw [if_neg cl,if_pos ch]
   have HB1:=jH fun W (ht:dR W)=>qI l k 4 W hl hk nl nk (.inr rfl) ht
   have HB2:=jH fun W (ht:dR W)=>qI h m 3 W hh hm nh nm (.inl rfl) ht
   generalize byK l k 4=K1 at*
   generalize byK h m 3=K2 at*
   clear nl nh nm nk hl hh hm hk hT cl ch
   go_enter Tryz.func102,Tryz.ntmps102
   go_wp2
   refine aC (fun w':World=>(w'.cell? ⟨w.heap.size,0,none⟩=some (.float .f64 l)∧w'.cell? ⟨w.heap.size,1,none⟩=some (.float .f64 h))∧w'.cell? ⟨w.heap.size+1,0,none⟩=some (.float .f64 m)∧w'.cell? ⟨w.heap.size+1,1,none⟩=some (.float .f64 k)) 5 (.take 0 (.take 1 (.take 2 (.take 3 (.take 4 .nil))))) (by kernel_rfl) (by kernel_rfl) ?_
   replace HW:=jH (HW.out.later (aB _))
   generalize World.drew _=W1 at HW ⊢
   repeat (first|(refine tkL (v:= ?_) rfl rfl rfl (fun w' hSw=> ?_) HW.out.cells.1 ?_;rotate_left;(focus (go_simp;with_reducible rfl));simp only [aF])|(refine skL rfl rfl rfl HW.out.cells.1 ?_;simp only [aF]))
   refine aN ?_
   simp only [drL]
   obtain⟨⟨⟨c0,c1⟩,c2,c3⟩,q0,q1,q2,q3⟩:=HW.out.cells
   go_wp2
   refine aC (fun w':World=>(w'.cell? ⟨w.heap.size,0,none⟩=some (.float .f64 l)∧w'.cell? ⟨w.heap.size,1,none⟩=some (.float .f64 h))∧w'.cell? ⟨w.heap.size+1,0,none⟩=some (.float .f64 m)∧w'.cell? ⟨w.heap.size+1,1,none⟩=some (.float .f64 k)) 7 (.take 0 (.take 1 (.take 2 (.take 4 (.take 5 (.take 6 (.run 3 .nil))))))) (by kernel_rfl) (by kernel_rfl) ?_
   replace HW:=jH (HW.out.later (aB _))
   generalize World.drew _=W2 at HW ⊢
   repeat (first|(refine tkL (v:= ?_) rfl rfl rfl (fun w' hSw=> ?_) HW.out.cells.1 ?_;rotate_left;(focus (go_simp;with_reducible rfl));simp only [aF])|(refine skL rfl rfl rfl HW.out.cells.1 ?_;simp only [aF]))
   refine aI rfl rfl fun K' hK=> ?_
   go_simp
   refine(HB1.out _ (HT.out.below HW.out.1.2)).mono ?_
   rintro e1 W2v1 ⟨r1,rfl,rl1,rn1,rk1,hb1⟩
   replace HW:=jH (HW.out.later hb1)
   have HR1:=jH (And.intro rl1 (And.intro rn1 rk1))
   clear rl1 rn1 rk1
   refine hK _ _ HW.out.cells.1 ?_
   clear hK K' hb1
   try simp only [Act.put,aF]
   repeat (first|(refine tkL (v:= ?_) rfl rfl rfl (fun w' hSw=> ?_) HW.out.cells.1 ?_;rotate_left;(focus (go_simp;with_reducible rfl));simp only [aF])|(refine skL rfl rfl rfl HW.out.cells.1 ?_;simp only [aF]))
   refine aN ?_
   simp only [drL]
   clear c0 c1 c2 c3 q0 q1 q2 q3
   obtain⟨⟨⟨c0,c1⟩,c2,c3⟩,q0,q1,q2,q3⟩:=HW.out.cells
   go_wp2_with fail
   refine(HB2.out _ (HT.out.below HW.out.1.2)).mono ?_
   rintro e9 w9 ⟨r2,rfl,rl,rn,rk,hb9⟩
   replace HW:=jH (HW.out.later hb9)
   have HR2:=jH (And.intro rl (And.intro rn rk))
   clear hb9 rl rn rk c0 c1 c2 c3 q0 q1 q2 q3
   obtain⟨⟨⟨c0,c1⟩,c2,c3⟩,q0,q1,q2,q3⟩:=HW.out.cells
   have HMK:=jH fun W=>jM r1 r2 W HR1.out.1 HR2.out.1 HR1.out.2.1 HR2.out.2.1
   rw [HR1.out.2.2,HR2.out.2.2]at HMK
   generalize kb K1=L at*
   generalize kb K2=H at*
   clear HR1 HR2
   go_wp2_with fail
   refine(HMK.out _).mono ?_
   rintro e10 w10 ⟨rfl,hb10⟩
   replace HW:=jH (HW.out.later hb10)
   clear hb10 c0 c1 c2 c3 q0 q1 q2 q3
   obtain⟨⟨⟨c0,c1⟩,c2,c3⟩,q0,q1,q2,q3⟩:=HW.out.cells
   go_wp2
   refine bodyPost_ret (v:= .agg #[.float .f64 L,.float .f64 H]) (by simp [results,Tryz.results102,go_sem,q0,q1]) rfl ⟨rfl,HW.out.stored _ _⟩
  ·rw [decide_eq_false cl]at t1
   rw [decide_eq_false ch]at t2
   rw [if_neg cl,if_neg ch]
   have HB1:=jH fun W (ht:dR W)=>qI l k 4 W hl hk nl nk (.inr rfl) ht
   have HB2:=jH fun W (ht:dR W)=>qI h k 3 W hh hk nh nk (.inl rfl) ht
   generalize byK l k 4=K1 at*
   generalize byK h k 3=K2 at*
   clear nl nh nm nk hl hh hm hk hT cl ch
   go_enter Tryz.func102,Tryz.ntmps102
   go_wp2
   refine aC (fun w':World=>(w'.cell? ⟨w.heap.size,0,none⟩=some (.float .f64 l)∧w'.cell? ⟨w.heap.size,1,none⟩=some (.float .f64 h))∧w'.cell? ⟨w.heap.size+1,0,none⟩=some (.float .f64 m)∧w'.cell? ⟨w.heap.size+1,1,none⟩=some (.float .f64 k)) 5 (.take 0 (.take 1 (.take 2 (.take 3 (.take 4 .nil))))) (by kernel_rfl) (by kernel_rfl) ?_
   replace HW:=jH (HW.out.later (aB _))
   generalize World.drew _=W1 at HW ⊢
   repeat (first|(refine tkL (v:= ?_) rfl rfl rfl (fun w' hSw=> ?_) HW.out.cells.1 ?_;rotate_left;(focus (go_simp;with_reducible rfl));simp only [aF])|(refine skL rfl rfl rfl HW.out.cells.1 ?_;simp only [aF]))
   refine aN ?_
   simp only [drL]
   obtain⟨⟨⟨c0,c1⟩,c2,c3⟩,q0,q1,q2,q3⟩:=HW.out.cells
   go_wp2
   refine aC (fun w':World=>(w'.cell? ⟨w.heap.size,0,none⟩=some (.float .f64 l)∧w'.cell? ⟨w.heap.size,1,none⟩=some (.float .f64 h))∧w'.cell? ⟨w.heap.size+1,0,none⟩=some (.float .f64 m)∧w'.cell? ⟨w.heap.size+1,1,none⟩=some (.float .f64 k)) 7 (.take 0 (.take 1 (.take 2 (.take 4 (.take 5 (.take 6 (.run 3 .nil))))))) (by kernel_rfl) (by kernel_rfl) ?_
   replace HW:=jH (HW.out.later (aB _))
   generalize World.drew _=W2 at HW ⊢
   repeat (first|(refine tkL (v:= ?_) rfl rfl rfl (fun w' hSw=> ?_) HW.out.cells.1 ?_;rotate_left;(focus (go_simp;with_reducible rfl));simp only [aF])|(refine skL rfl rfl rfl HW.out.cells.1 ?_;simp only [aF]))
   refine aI rfl rfl fun K' hK=> ?_
   go_simp
   refine(HB1.out _ (HT.out.below HW.out.1.2)).mono ?_
   rintro e1 W2v1 ⟨r1,rfl,rl1,rn1,rk1,hb1⟩
   replace HW:=jH (HW.out.later hb1)
   have HR1:=jH (And.intro rl1 (And.intro rn1 rk1))
   clear rl1 rn1 rk1
   refine hK _ _ HW.out.cells.1 ?_
   clear hK K' hb1
   try simp only [Act.put,aF]
   repeat (first|(refine tkL (v:= ?_) rfl rfl rfl (fun w' hSw=> ?_) HW.out.cells.1 ?_;rotate_left;(focus (go_simp;with_reducible rfl));simp only [aF])|(refine skL rfl rfl rfl HW.out.cells.1 ?_;simp only [aF]))
   refine aN ?_
   simp only [drL]
   clear c0 c1 c2 c3 q0 q1 q2 q3
   obtain⟨⟨⟨c0,c1⟩,c2,c3⟩,q0,q1,q2,q3⟩:=HW.out.cells
   go_wp2_with fail
   refine(HB2.out _ (HT.out.below HW.out.1.2)).mono ?_
   rintro e9 w9 ⟨r2,rfl,rl,rn,rk,hb9⟩
   replace HW:=jH (HW.out.later hb9)
   have HR2:=jH (And.intro rl (And.intro rn rk))
   clear hb9 rl rn rk c0 c1 c2 c3 q0 q1 q2 q3
   obtain⟨⟨⟨c0,c1⟩,c2,c3⟩,q0,q1,q2,q3⟩:=HW.out.cells
   have HMK:=jH fun W=>jM r1 r2 W HR1.out.1 HR2.out.1 HR1.out.2.1 HR2.out.2.1
   rw [HR1.out.2.2,HR2.out.2.2]at HMK
   generalize kb K1=L at*
   generalize kb K2=H at*
   clear HR1 HR2
   go_wp2_with fail
   refine(HMK.out _).mono ?_
   rintro e10 w10 ⟨rfl,hb10⟩
   replace HW:=jH (HW.out.later hb10)
   clear hb10 c0 c1 c2 c3 q0 q1 q2 q3
   obtain⟨⟨⟨c0,c1⟩,c2,c3⟩,q0,q1,q2,q3⟩:=HW.out.cells
   go_wp2
   refine bodyPost_ret (v:= .agg #[.float .f64 L,.float .f64 H]) (by simp [results,Tryz.results102,go_sem,q0,q1]) rfl ⟨rfl,HW.out.stored _ _⟩
theorem aF5 {p:Prop} [Decidable p] (x y:Nat):ky (if p then x else y)=if p then ky x else ky y:=by split<;>rfl
theorem aWw (l h m k:Nat) (w:World) (hl:W64 l) (hh:W64 h) (hm:W64 m) (hk:W64 k) (hT:dR w):
  Calls Tryz.prog 49 #[.agg #[.float .f64 l,.float .f64 h],.agg #[.float .f64 m,.float .f64 k]] w (Gives (.agg #[.float .f64 (ivL (mP (ivK l h) (ivK m k))),.float .f64 (ivH (mP (ivK l h) (ivK m k)))]) w):=by
 have HFA:=jH fun w=>mW l h w hl hh
 have HFB:=jH fun w=>mW m k w hm hk
 have HE:=jH fun w=>empty_any w
 have HAL:=jH fun w=>aTm w
 have HT:=jH hT
 have HW:=jH (I3.new w l h m k)
 rcases e1:ivK l h with _|p
 ·rw [e1,Option.isSome_none]at HFA
  rw [show ivL (mP none (ivK m k))=9218868437227405312 from rfl,show ivH (mP none (ivK m k))=18442240474082181120 from rfl]
  clear e1 HFB hT
  go_enter Tryz.func49,Tryz.ntmps49
  obtain⟨⟨⟨c0,c1⟩,c2,c3⟩,q0,q1,q2,q3⟩:=HW.out.cells
  go_wp2_with fail
  refine(HFA.out _).mono ?_
  rintro e1 w1 ⟨rfl,hb1⟩
  replace HW:=jH (HW.out.later hb1)
  clear hb1 c0 c1 c2 c3 q0 q1 q2 q3
  obtain⟨⟨⟨c0,c1⟩,c2,c3⟩,q0,q1,q2,q3⟩:=HW.out.cells
  go_wp2_with fail
  refine(HE.out _).mono ?_
  rintro e2 w2 ⟨rfl,hb2⟩
  replace HW:=jH (HW.out.later hb2)
  clear hb2 c0 c1 c2 c3 q0 q1 q2 q3
  obtain⟨⟨⟨c0,c1⟩,c2,c3⟩,q0,q1,q2,q3⟩:=HW.out.cells
  go_wp2
  refine bodyPost_ret (v:= .agg #[.float .f64 9218868437227405312,.float .f64 18442240474082181120]) (by simp [results,Tryz.results49,go_sem,q0,q1]) rfl ⟨rfl,HW.out.stored _ _⟩
 rw [e1,Option.isSome_some]at HFA
 rcases e2:ivK m k with _|q
 ·rw [e2,Option.isSome_none]at HFB
  rw [show ivL (mP (some p) none)=9218868437227405312 from rfl,show ivH (mP (some p) none)=18442240474082181120 from rfl]
  clear e1 e2 hT
  go_enter Tryz.func49,Tryz.ntmps49
  obtain⟨⟨⟨c0,c1⟩,c2,c3⟩,q0,q1,q2,q3⟩:=HW.out.cells
  go_wp2_with fail
  refine(HFA.out _).mono ?_
  rintro e1 w1 ⟨rfl,hb1⟩
  replace HW:=jH (HW.out.later hb1)
  clear hb1 c0 c1 c2 c3 q0 q1 q2 q3
  obtain⟨⟨⟨c0,c1⟩,c2,c3⟩,q0,q1,q2,q3⟩:=HW.out.cells
  go_wp2_with fail
  refine(HFB.out _).mono ?_
  rintro e2 w2 ⟨rfl,hb2⟩
  replace HW:=jH (HW.out.later hb2)
  clear hb2 c0 c1 c2 c3 q0 q1 q2 q3
  obtain⟨⟨⟨c0,c1⟩,c2,c3⟩,q0,q1,q2,q3⟩:=HW.out.cells
  go_wp2_with fail
  refine(HE.out _).mono ?_
  rintro e3 w3 ⟨rfl,hb3⟩
  replace HW:=jH (HW.out.later hb3)
  clear hb3 c0 c1 c2 c3 q0 q1 q2 q3
  obtain⟨⟨⟨c0,c1⟩,c2,c3⟩,q0,q1,q2,q3⟩:=HW.out.cells
  go_wp2
  refine bodyPost_ret (v:= .agg #[.float .f64 9218868437227405312,.float .f64 18442240474082181120]) (by simp [results,Tryz.results49,go_sem,q0,q1]) rfl ⟨rfl,HW.out.stored _ _⟩
 rw [e2,Option.isSome_some]at HFB
 have kl:=pK hl hh _ _ (e1.trans (by rw [show p=(p.1,p.2)from rfl]))
 have km:=pK hm hk _ _ (e2.trans (by rw [show q=(q.1,q.2)from rfl]))
 obtain⟨nl,nh,rfl⟩:=dX e1
 obtain⟨nm,nk,rfl⟩:=dX e2
 simp only at kl km
 have HD:Hid (mP (some (ky l,ky h)) (some (ky m,ky k))=if ky m=0∧ky k=0 then none else if 0≤ky m then some (ovK (ky l) (ky h) (ky m) (ky k))else if ky k≤0 then some (ovK (-ky h) (-ky l) (-ky k) (-ky m))else if ky l=0∧ky h=0 then some (0,0)else some (-(aG:Int),(aG:Int))):=jH rfl
 rw [HD.out]
 have z1:=eq_test hm (by decide:W64 0) nm (by decide)
 have z2:=eq_test hk (by decide:W64 0) nk (by decide)
 have z3:=aEr hm (by decide:W64 0) nm (by decide)
 have z4:=yR hk (by decide:W64 0) nk (by decide)
 have z5:=eq_test hl (by decide:W64 0) nl (by decide)
 have z6:=eq_test hh (by decide:W64 0) nh (by decide)
 rw [dW]at z1 z2 z3 z4 z5 z6
 by_cases m0:ky m=0
 ·rw [decide_eq_true m0]at z1
  by_cases k0:ky k=0
  ·rw [decide_eq_true k0]at z2
   rw [if_pos ⟨m0,k0⟩,show ivL none=9218868437227405312 from rfl,show ivH none=18442240474082181120 from rfl]
   clear e1 e2 nl nh nm nk hl hh hm hk hT kl km HD HAL z3 z4 z5 z6 m0 k0
   go_enter Tryz.func49,Tryz.ntmps49
   obtain⟨⟨⟨c0,c1⟩,c2,c3⟩,q0,q1,q2,q3⟩:=HW.out.cells
   go_wp2_with fail
   refine(HFA.out _).mono ?_
   rintro e1 w1 ⟨rfl,hb1⟩
   replace HW:=jH (HW.out.later hb1)
   clear hb1 c0 c1 c2 c3 q0 q1 q2 q3
   obtain⟨⟨⟨c0,c1⟩,c2,c3⟩,q0,q1,q2,q3⟩:=HW.out.cells
   go_wp2_with fail
   refine(HFB.out _).mono ?_
   rintro e2 w2 ⟨rfl,hb2⟩
   replace HW:=jH (HW.out.later hb2)
   clear hb2 c0 c1 c2 c3 q0 q1 q2 q3
   obtain⟨⟨⟨c0,c1⟩,c2,c3⟩,q0,q1,q2,q3⟩:=HW.out.cells
   go_wp2_with fail
   refine(HE.out _).mono ?_
   rintro e3 w3 ⟨rfl,hb3⟩
   replace HW:=jH (HW.out.later hb3)
   clear hb3 c0 c1 c2 c3 q0 q1 q2 q3
   obtain⟨⟨⟨c0,c1⟩,c2,c3⟩,q0,q1,q2,q3⟩:=HW.out.cells
   go_wp2
   refine bodyPost_ret (v:= .agg #[.float .f64 9218868437227405312,.float .f64 18442240474082181120]) (by simp [results,Tryz.results49,go_sem,q0,q1]) rfl ⟨rfl,HW.out.stored _ _⟩
  ·rw [decide_eq_false k0]at z2
   rw [if_neg (fun hh=>k0 hh.2),if_pos (by omega)]
   rw [decide_eq_true (by omega)]at z3
   rw [show ivL (some (ovK (ky l) (ky h) (ky m) (ky k)))=kb (byK (kb (ky l)) (kb (if ky l<0 then ky m else ky k)) 4)from rfl,show ivH (some (ovK (ky l) (ky h) (ky m) (ky k)))=kb (byK (kb (ky h)) (kb (if 0<ky h then ky m else ky k)) 3)from rfl,←aF5,←aF5,qP,qP]
   have HOV:=jH fun W (ht:dR W)=>aFl l h m k W hl hh hm hk nl nh nm nk ht
   generalize kb (byK l (if ky l<0 then m else k) 4)=L at*
   generalize kb (byK h (if 0<ky h then m else k) 3)=H at*
   clear e1 e2 nl nh nm nk hl hh hm hk hT kl km HD HAL HE z4 z5 z6 m0 k0
   go_enter Tryz.func49,Tryz.ntmps49
   obtain⟨⟨⟨c0,c1⟩,c2,c3⟩,q0,q1,q2,q3⟩:=HW.out.cells
   go_wp2_with fail
   refine(HFA.out _).mono ?_
   rintro e1 w1 ⟨rfl,hb1⟩
   replace HW:=jH (HW.out.later hb1)
   clear hb1 c0 c1 c2 c3 q0 q1 q2 q3
   obtain⟨⟨⟨c0,c1⟩,c2,c3⟩,q0,q1,q2,q3⟩:=HW.out.cells
   go_wp2_with fail
   refine(HFB.out _).mono ?_
   rintro e2 w2 ⟨rfl,hb2⟩
   replace HW:=jH (HW.out.later hb2)
   clear hb2 c0 c1 c2 c3 q0 q1 q2 q3
   obtain⟨⟨⟨c0,c1⟩,c2,c3⟩,q0,q1,q2,q3⟩:=HW.out.cells
   go_wp2_with fail
   refine(HOV.out _ (HT.out.below HW.out.1.2)).mono ?_
   rintro e7 w7 ⟨rfl,hb7⟩
   replace HW:=jH (HW.out.later hb7)
   clear hb7 c0 c1 c2 c3 q0 q1 q2 q3
   obtain⟨⟨⟨c0,c1⟩,c2,c3⟩,q0,q1,q2,q3⟩:=HW.out.cells
   go_wp2
   refine bodyPost_ret (v:= .agg #[.float .f64 L,.float .f64 H]) (by simp [results,Tryz.results49,go_sem,q0,q1]) rfl ⟨rfl,HW.out.stored _ _⟩
 rw [decide_eq_false m0]at z1
 rw [if_neg (fun hh=>m0 hh.1)]
 by_cases mp:0≤ky m
 ·rw [decide_eq_true mp,z1,Bool.or_false]at z3
  rw [if_pos mp]
  rw [show ivL (some (ovK (ky l) (ky h) (ky m) (ky k)))=kb (byK (kb (ky l)) (kb (if ky l<0 then ky m else ky k)) 4)from rfl,show ivH (some (ovK (ky l) (ky h) (ky m) (ky k)))=kb (byK (kb (ky h)) (kb (if 0<ky h then ky m else ky k)) 3)from rfl,←aF5,←aF5,qP,qP]
  have HOV:=jH fun W (ht:dR W)=>aFl l h m k W hl hh hm hk nl nh nm nk ht
  generalize kb (byK l (if ky l<0 then m else k) 4)=L at*
  generalize kb (byK h (if 0<ky h then m else k) 3)=H at*
  clear e1 e2 nl nh nm nk hl hh hm hk hT kl km HD HAL HE z2 z4 z5 z6 m0 mp
  go_enter Tryz.func49,Tryz.ntmps49
  obtain⟨⟨⟨c0,c1⟩,c2,c3⟩,q0,q1,q2,q3⟩:=HW.out.cells
  go_wp2_with fail
  refine(HFA.out _).mono ?_
  rintro e1 w1 ⟨rfl,hb1⟩
  replace HW:=jH (HW.out.later hb1)
  clear hb1 c0 c1 c2 c3 q0 q1 q2 q3
  obtain⟨⟨⟨c0,c1⟩,c2,c3⟩,q0,q1,q2,q3⟩:=HW.out.cells
  go_wp2_with fail
  refine(HFB.out _).mono ?_
  rintro e2 w2 ⟨rfl,hb2⟩
  replace HW:=jH (HW.out.later hb2)
  clear hb2 c0 c1 c2 c3 q0 q1 q2 q3
  obtain⟨⟨⟨c0,c1⟩,c2,c3⟩,q0,q1,q2,q3⟩:=HW.out.cells
  go_wp2_with fail
  refine(HOV.out _ (HT.out.below HW.out.1.2)).mono ?_
  rintro e7 w7 ⟨rfl,hb7⟩
  replace HW:=jH (HW.out.later hb7)
  clear hb7 c0 c1 c2 c3 q0 q1 q2 q3
  obtain⟨⟨⟨c0,c1⟩,c2,c3⟩,q0,q1,q2,q3⟩:=HW.out.cells
  go_wp2
  refine bodyPost_ret (v:= .agg #[.float .f64 L,.float .f64 H]) (by simp [results,Tryz.results49,go_sem,q0,q1]) rfl ⟨rfl,HW.out.stored _ _⟩
 rw [decide_eq_false mp,z1,Bool.or_false]at z3
 rw [if_neg mp]
 by_cases kn:ky k≤0
 case pos=>
  rw [decide_eq_true kn]at z4
  rw [if_pos kn]
  have HNA:=jH fun w=>aFr l h w hl hh
  have HNB:=jH fun w=>aFr m k w hm hk
  rw [e1,show ivL (kW (some (ky l,ky h)))=kb (-ky h)from rfl,show ivH (kW (some (ky l,ky h)))=kb (-ky l)from rfl]at HNA
  rw [e2,show ivL (kW (some (ky m,ky k)))=kb (-ky k)from rfl,show ivH (kW (some (ky m,ky k)))=kb (-ky m)from rfl]at HNB
  obtain⟨a1,a2,a3⟩:=jY (k:= -ky h) (by omega) (by omega)
  obtain⟨b1,b2,b3⟩:=jY (k:= -ky l) (by omega) (by omega)
  obtain⟨d1,d2,d3⟩:=jY (k:= -ky k) (by omega) (by omega)
  obtain⟨f1,f2,f3⟩:=jY (k:= -ky m) (by omega) (by omega)
  have HOV:=jH fun W (ht:dR W)=>aFl (kb (-ky h)) (kb (-ky l)) (kb (-ky k)) (kb (-ky m)) W a1 b1 d1 f1 (dF.2 a2) (dF.2 b2) (dF.2 d2) (dF.2 f2) ht
  rw [a3,b3]at HOV
  have HLL:Hid (ivL (some (ovK (-ky h) (-ky l) (-ky k) (-ky m)))=kb (byK (kb (-ky h)) (if-ky h<0 then kb (-ky k)else kb (-ky m)) 4)):=jH (by
   show kb (byK (kb (-ky h)) (kb (if-ky h<0 then-ky k else-ky m)) 4)=_
   split<;>rfl)
  have HHH:Hid (ivH (some (ovK (-ky h) (-ky l) (-ky k) (-ky m)))=kb (byK (kb (-ky l)) (if 0< -ky l then kb (-ky k)else kb (-ky m)) 3)):=jH (by
   show kb (byK (kb (-ky l)) (kb (if 0< -ky l then-ky k else-ky m)) 3)=_
   split<;>rfl)
  rw [HLL.out,HHH.out]
  clear HLL HHH HD
  generalize kb (byK (kb (-ky h)) (if-ky h<0 then kb (-ky k)else kb (-ky m)) 4)=L at*
  generalize kb (byK (kb (-ky l)) (if 0< -ky l then kb (-ky k)else kb (-ky m)) 3)=H at*
  generalize kb (-ky h)=x1 at*
  generalize kb (-ky l)=x2 at*
  generalize kb (-ky k)=x3 at*
  generalize kb (-ky m)=x4 at*
  clear e1 e2 nl nh nm nk hl hh hm hk hT kl km HAL HE z2 z5 z6 m0 mp kn a1 a2 a3 b1 b2 b3 d1 d2 d3 f1 f2 f3
  go_enter Tryz.func49,Tryz.ntmps49
  obtain⟨⟨⟨c0,c1⟩,c2,c3⟩,q0,q1,q2,q3⟩:=HW.out.cells
  go_wp2_with fail
  refine(HFA.out _).mono ?_
  rintro e1 w1 ⟨rfl,hb1⟩
  replace HW:=jH (HW.out.later hb1)
  clear hb1 c0 c1 c2 c3 q0 q1 q2 q3
  obtain⟨⟨⟨c0,c1⟩,c2,c3⟩,q0,q1,q2,q3⟩:=HW.out.cells
  go_wp2_with fail
  refine(HFB.out _).mono ?_
  rintro e2 w2 ⟨rfl,hb2⟩
  replace HW:=jH (HW.out.later hb2)
  clear hb2 c0 c1 c2 c3 q0 q1 q2 q3
  obtain⟨⟨⟨c0,c1⟩,c2,c3⟩,q0,q1,q2,q3⟩:=HW.out.cells
  go_wp2
  refine aC (fun w':World=>(w'.cell? ⟨w.heap.size,0,none⟩=some (.float .f64 l)∧w'.cell? ⟨w.heap.size,1,none⟩=some (.float .f64 h))∧w'.cell? ⟨w.heap.size+1,0,none⟩=some (.float .f64 m)∧w'.cell? ⟨w.heap.size+1,1,none⟩=some (.float .f64 k)) 3 (.take 0 (.take 2 (.run 1 .nil))) (by kernel_rfl) (by kernel_rfl) ?_
  replace HW:=jH (HW.out.later (aB _))
  generalize World.drew _=W0 at HW ⊢
  repeat (first|(refine tkL (v:= ?_) rfl rfl rfl (fun w' hSw=> ?_) HW.out.cells.1 ?_;rotate_left;(focus (go_simp;with_reducible rfl));simp only [aF])|(refine skL rfl rfl rfl HW.out.cells.1 ?_;simp only [aF]))
  refine aI rfl rfl fun K' hK=> ?_
  go_simp
  refine(HNA.out _).mono ?_
  rintro e1 W0v1 ⟨rfl,hb1⟩
  replace HW:=jH (HW.out.later hb1)
  refine hK _ _ HW.out.cells.1 ?_
  clear hK K' hb1
  try simp only [Act.put,aF]
  repeat (first|(refine tkL (v:= ?_) rfl rfl rfl (fun w' hSw=> ?_) HW.out.cells.1 ?_;rotate_left;(focus (go_simp;with_reducible rfl));simp only [aF])|(refine skL rfl rfl rfl HW.out.cells.1 ?_;simp only [aF]))
  refine aN ?_
  simp only [drL]
  clear c0 c1 c2 c3 q0 q1 q2 q3
  obtain⟨⟨⟨c0,c1⟩,c2,c3⟩,q0,q1,q2,q3⟩:=HW.out.cells
  go_wp2_with fail
  refine(HNB.out _).mono ?_
  rintro e6 w6 ⟨rfl,hb6⟩
  replace HW:=jH (HW.out.later hb6)
  clear hb6 c0 c1 c2 c3 q0 q1 q2 q3
  obtain⟨⟨⟨c0,c1⟩,c2,c3⟩,q0,q1,q2,q3⟩:=HW.out.cells
  go_wp2_with fail
  refine(HOV.out _ (HT.out.below HW.out.1.2)).mono ?_
  rintro e7 w7 ⟨rfl,hb7⟩
  replace HW:=jH (HW.out.later hb7)
  clear hb7 c0 c1 c2 c3 q0 q1 q2 q3
  obtain⟨⟨⟨c0,c1⟩,c2,c3⟩,q0,q1,q2,q3⟩:=HW.out.cells
  go_wp2
  refine bodyPost_ret (v:= .agg #[.float .f64 L,.float .f64 H]) (by simp [results,Tryz.results49,go_sem,q0,q1]) rfl ⟨rfl,HW.out.stored _ _⟩
 rw [decide_eq_false kn]at z4
 rw [if_neg kn]
 by_cases l0:ky l=0
 ·rw [decide_eq_true l0]at z5
  by_cases h0:ky h=0
  ·rw [decide_eq_true h0]at z6
   rw [if_pos ⟨l0,h0⟩,show ivL (some (0,0))=kb (ky 0)from rfl,show ivH (some (0,0))=kb (ky 0)from rfl]
   have HMK:=jH fun w=>jM 0 0 w (by decide) (by decide) (by decide) (by decide)
   generalize kb (ky 0)=L at*
   clear e1 e2 nl nh nm nk hl hh hm hk hT kl km HD HAL HE z2 m0 mp kn l0 h0
   go_enter Tryz.func49,Tryz.ntmps49
   obtain⟨⟨⟨c0,c1⟩,c2,c3⟩,q0,q1,q2,q3⟩:=HW.out.cells
   go_wp2_with fail
   refine(HFA.out _).mono ?_
   rintro e1 w1 ⟨rfl,hb1⟩
   replace HW:=jH (HW.out.later hb1)
   clear hb1 c0 c1 c2 c3 q0 q1 q2 q3
   obtain⟨⟨⟨c0,c1⟩,c2,c3⟩,q0,q1,q2,q3⟩:=HW.out.cells
   go_wp2_with fail
   refine(HFB.out _).mono ?_
   rintro e2 w2 ⟨rfl,hb2⟩
   replace HW:=jH (HW.out.later hb2)
   clear hb2 c0 c1 c2 c3 q0 q1 q2 q3
   obtain⟨⟨⟨c0,c1⟩,c2,c3⟩,q0,q1,q2,q3⟩:=HW.out.cells
   go_wp2_with fail
   refine(HMK.out _).mono ?_
   rintro e3 w3 ⟨rfl,hb3⟩
   replace HW:=jH (HW.out.later hb3)
   clear hb3 c0 c1 c2 c3 q0 q1 q2 q3
   obtain⟨⟨⟨c0,c1⟩,c2,c3⟩,q0,q1,q2,q3⟩:=HW.out.cells
   go_wp2
   refine bodyPost_ret (v:= .agg #[.float .f64 L,.float .f64 L]) (by simp [results,Tryz.results49,go_sem,q0,q1]) rfl ⟨rfl,HW.out.stored _ _⟩
  ·rw [decide_eq_false h0]at z6
   rw [if_neg (fun hh=>h0 hh.2),show ivL (some (-(aG:Int),(aG:Int)))=18442240474082181120 from rfl,show ivH (some (-(aG:Int),(aG:Int)))=9218868437227405312 from rfl]
   clear e1 e2 nl nh nm nk hl hh hm hk hT kl km HD HE z2 m0 mp kn l0 h0
   go_enter Tryz.func49,Tryz.ntmps49
   obtain⟨⟨⟨c0,c1⟩,c2,c3⟩,q0,q1,q2,q3⟩:=HW.out.cells
   go_wp2_with fail
   refine(HFA.out _).mono ?_
   rintro e1 w1 ⟨rfl,hb1⟩
   replace HW:=jH (HW.out.later hb1)
   clear hb1 c0 c1 c2 c3 q0 q1 q2 q3
   obtain⟨⟨⟨c0,c1⟩,c2,c3⟩,q0,q1,q2,q3⟩:=HW.out.cells
   go_wp2_with fail
   refine(HFB.out _).mono ?_
   rintro e2 w2 ⟨rfl,hb2⟩
   replace HW:=jH (HW.out.later hb2)
   clear hb2 c0 c1 c2 c3 q0 q1 q2 q3
   obtain⟨⟨⟨c0,c1⟩,c2,c3⟩,q0,q1,q2,q3⟩:=HW.out.cells
   go_wp2_with fail
   refine(HAL.out _).mono ?_
   rintro e3 w3 ⟨rfl,hb3⟩
   replace HW:=jH (HW.out.later hb3)
   clear hb3 c0 c1 c2 c3 q0 q1 q2 q3
   obtain⟨⟨⟨c0,c1⟩,c2,c3⟩,q0,q1,q2,q3⟩:=HW.out.cells
   go_wp2
   refine bodyPost_ret (v:= .agg #[.float .f64 18442240474082181120,.float .f64 9218868437227405312]) (by simp [results,Tryz.results49,go_sem,q0,q1]) rfl ⟨rfl,HW.out.stored _ _⟩
 ·rw [decide_eq_false l0]at z5
  rw [if_neg (fun hh=>l0 hh.1),show ivL (some (-(aG:Int),(aG:Int)))=18442240474082181120 from rfl,show ivH (some (-(aG:Int),(aG:Int)))=9218868437227405312 from rfl]
  clear e1 e2 nl nh nm nk hl hh hm hk hT kl km HD HE z2 z6 m0 mp kn l0
  go_enter Tryz.func49,Tryz.ntmps49
  obtain⟨⟨⟨c0,c1⟩,c2,c3⟩,q0,q1,q2,q3⟩:=HW.out.cells
  go_wp2_with fail
  refine(HFA.out _).mono ?_
  rintro e1 w1 ⟨rfl,hb1⟩
  replace HW:=jH (HW.out.later hb1)
  clear hb1 c0 c1 c2 c3 q0 q1 q2 q3
  obtain⟨⟨⟨c0,c1⟩,c2,c3⟩,q0,q1,q2,q3⟩:=HW.out.cells
  go_wp2_with fail
  refine(HFB.out _).mono ?_
  rintro e2 w2 ⟨rfl,hb2⟩
  replace HW:=jH (HW.out.later hb2)
  clear hb2 c0 c1 c2 c3 q0 q1 q2 q3
  obtain⟨⟨⟨c0,c1⟩,c2,c3⟩,q0,q1,q2,q3⟩:=HW.out.cells
  go_wp2_with fail
  refine(HAL.out _).mono ?_
  rintro e3 w3 ⟨rfl,hb3⟩
  replace HW:=jH (HW.out.later hb3)
  clear hb3 c0 c1 c2 c3 q0 q1 q2 q3
  obtain⟨⟨⟨c0,c1⟩,c2,c3⟩,q0,q1,q2,q3⟩:=HW.out.cells
  go_wp2
  refine bodyPost_ret (v:= .agg #[.float .f64 18442240474082181120,.float .f64 9218868437227405312]) (by simp [results,Tryz.results49,go_sem,q0,q1]) rfl ⟨rfl,HW.out.stored _ _⟩
def newE (b:Bool):Int:=if b then 0 else 60
def aQw (b:Bool) (x:Nat):Nat:=if b then x else 0
theorem aRh (x:Nat) (w:World) (hx:W64 x):Calls Tryz.prog 41 #[.float .f64 x] w (Gives (.tuple #[.agg #[.float .f64 (aQw (aK x) (kb (ky x))),.float .f64 (aQw (aK x) (kb (ky x)))],.int .i64 (newE (aK x))]) w):=by
 have HFX:=jH fun w=>iI x w hx
 have HW:=jH (tV.new w 0 0)
 cases hf:aK x
 ·rw [hf]at HFX
  rw [show aQw false (kb (ky x))=0 from rfl,show newE false=60 from rfl]
  clear hf hx
  go_enter Tryz.func41,Tryz.ntmps41
  obtain⟨q0,q1,q2,q3⟩:=HW.out.cells2
  go_wp2_with fail
  refine(HFX.out _).mono ?_
  rintro e1 w1 ⟨rfl,hb1⟩
  replace HW:=jH (HW.out.later hb1)
  clear hb1 q0 q1 q2 q3
  obtain⟨q0,q1,q2,q3⟩:=HW.out.cells2
  go_wp2
  refine bodyPost_ret (v:= .tuple #[.agg #[.float .f64 0,.float .f64 0],.int .i64 60]) (by simp [results,Tryz.results41,go_sem,q0,q1]) rfl ⟨rfl,HW.out.stored (Nat.le_refl _) _ _⟩
 ·rw [hf]at HFX
  rw [show aQw true (kb (ky x))=kb (ky x)from rfl,show newE true=0 from rfl]
  have HMK:=jH fun W=>jM x x W hx hx (jC hf) (jC hf)
  generalize kb (ky x)=L at*
  clear hf hx
  go_enter Tryz.func41,Tryz.ntmps41
  obtain⟨q0,q1,q2,q3⟩:=HW.out.cells2
  go_wp2_with fail
  refine(HFX.out _).mono ?_
  rintro e1 w1 ⟨rfl,hb1⟩
  replace HW:=jH (HW.out.later hb1)
  clear hb1 q0 q1 q2 q3
  obtain⟨q0,q1,q2,q3⟩:=HW.out.cells2
  go_wp2_with fail
  refine(HMK.out _).mono ?_
  rintro e2 w2 ⟨rfl,hb2⟩
  replace HW:=jH (HW.out.later hb2)
  clear hb2 q0 q1 q2 q3
  obtain⟨q0,q1,q2,q3⟩:=HW.out.cells2
  go_wp2
  refine bodyPost_ret (v:= .tuple #[.agg #[.float .f64 L,.float .f64 L],.int .i64 0]) (by simp [results,Tryz.results41,go_sem,q0,q1]) rfl ⟨rfl,HW.out.stored (Nat.le_refl _) _ _⟩
end Go.Proofs.YtfmecpembnmnkaaGreatDoor
