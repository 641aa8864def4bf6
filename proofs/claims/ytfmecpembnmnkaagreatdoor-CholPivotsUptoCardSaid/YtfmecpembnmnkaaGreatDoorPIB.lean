/- Walks: intervals: what is one, its ends, the empty one; hull, meet, sign. Printed by wip/gen/iv1.py. -/
import Derived.Test.YtfmecpembnmnkaaGreatDoorPIA
import Derived.Test.YtfmecpembnmnkaaGreatDoorPHB
namespace Go.Proofs.YtfmecpembnmnkaaGreatDoor
section
set_option maxRecDepth 100000
set_option maxHeartbeats 6400000
open Go.RowKit
def tV (w0 W:World) (b l h:Nat):Prop:=aJ W b 37 #[.float .f64 l,.float .f64 h]∧Below w0.heap.size w0 W
theorem tV.later {w0 W V:World}{b l h:Nat}(hx:tV w0 W b l h) (hb:Below W.heap.size W V):tV w0 V b l h:=⟨hx.1.below hb,hx.2.trans (hb.mono hx.2.size)⟩
theorem tV.cells {w0 W:World}{b l h:Nat}(hx:tV w0 W b l h):W.cell? ⟨b,0,none⟩=some (.float .f64 l)∧W.cell? ⟨b,1,none⟩=some (.float .f64 h):=⟨hx.1.cell 0,hx.1.cell 1⟩
theorem tV.cells2 {w0 W:World}{b l h:Nat}(hx:tV w0 W b l h):W.cell? ⟨b,0,none⟩=some (.float .f64 l)∧W.cell? ⟨b,1,none⟩=some (.float .f64 h)∧W.frozen? ⟨b,0,none⟩=false∧W.frozen? ⟨b,1,none⟩=false:=hx.1.cells2
theorem tV.new (w:World) (l h:Nat):tV w (w.alloc (.cells #[.float .f64 l,.float .f64 h] 37)) w.heap.size l h:=⟨aJ.new w _ _,Below.aA w _⟩
theorem tV.stored {w0 W:World}{b l h:Nat}(hx:tV w0 W b l h) (hb:w0.heap.size≤b) (x y:Value):Below w0.heap.size w0 ((W.setCell ⟨b,0,none⟩ x).setCell ⟨b,1,none⟩ y):=(hx.2.setCell hb _).setCell hb _
def I2 (w0 W:World) (l h m k:Nat):Prop:=(aJ W w0.heap.size 37 #[.float .f64 l,.float .f64 h]∧aJ W (w0.heap.size+1) 37 #[.float .f64 m,.float .f64 k])∧Below w0.heap.size w0 W
theorem I2.later {w0 W V:World}{l h m k:Nat}(hx:I2 w0 W l h m k) (hb:Below W.heap.size W V):I2 w0 V l h m k:=⟨⟨hx.1.1.below hb,hx.1.2.below hb⟩,hx.2.trans (hb.mono hx.2.size)⟩
theorem I2.cells {w0 W:World}{l h m k:Nat}(hx:I2 w0 W l h m k):(W.cell? ⟨w0.heap.size,0,none⟩=some (.float .f64 l)∧W.cell? ⟨w0.heap.size,1,none⟩=some (.float .f64 h))∧W.cell? ⟨w0.heap.size+1,0,none⟩=some (.float .f64 m)∧W.cell? ⟨w0.heap.size+1,1,none⟩=some (.float .f64 k):=
 ⟨⟨hx.1.1.cell 0,hx.1.1.cell 1⟩,hx.1.2.cell 0,hx.1.2.cell 1⟩
theorem I2.new (w:World) (l h m k:Nat):I2 w ((w.alloc (.cells #[.float .f64 l,.float .f64 h] 37)).alloc (.cells #[.float .f64 m,.float .f64 k] 37)) l h m k:=
 ⟨⟨(aJ.new w _ _).alloc _,aJ.new1 w _ _ _⟩,(Below.aA w _).alloc (Below.aA w _).size _⟩
def I3 (w0 W:World) (l h m k:Nat):Prop:=I2 w0 W l h m k∧aJ W (w0.heap.size+1+1) 37 #[.float .f64 0,.float .f64 0]
theorem I3.later {w0 W V:World}{l h m k:Nat}(hx:I3 w0 W l h m k) (hb:Below W.heap.size W V):I3 w0 V l h m k:=⟨hx.1.later hb,hx.2.below hb⟩
theorem I3.new (w:World) (l h m k:Nat):I3 w (((w.alloc (.cells #[.float .f64 l,.float .f64 h] 37)).alloc (.cells #[.float .f64 m,.float .f64 k] 37)).alloc (.cells #[.float .f64 0,.float .f64 0] 37)) l h m k:=
 ⟨(I2.new w l h m k).later (Below.aA _ _),aJ.new2 w _ _ _ _⟩
theorem I3.cells {w0 W:World}{l h m k:Nat}(hx:I3 w0 W l h m k):((W.cell? ⟨w0.heap.size,0,none⟩=some (.float .f64 l)∧W.cell? ⟨w0.heap.size,1,none⟩=some (.float .f64 h))∧W.cell? ⟨w0.heap.size+1,0,none⟩=some (.float .f64 m)∧W.cell? ⟨w0.heap.size+1,1,none⟩=some (.float .f64 k))∧
  W.cell? ⟨w0.heap.size+1+1,0,none⟩=some (.float .f64 0)∧W.cell? ⟨w0.heap.size+1+1,1,none⟩=some (.float .f64 0)∧W.frozen? ⟨w0.heap.size+1+1,0,none⟩=false∧W.frozen? ⟨w0.heap.size+1+1,1,none⟩=false:=
 ⟨hx.1.cells,hx.2.cells2⟩
theorem I3.stored {w0 W:World}{l h m k:Nat}(hx:I3 w0 W l h m k) (x y:Value):Below w0.heap.size w0 ((W.setCell ⟨w0.heap.size+1+1,0,none⟩ x).setCell ⟨w0.heap.size+1+1,1,none⟩ y):=(hx.1.2.setCell (show w0.heap.size≤w0.heap.size+1+1 by omega) _).setCell (show w0.heap.size≤w0.heap.size+1+1 by omega) _
def I1 (w0 W:World) (l h:Nat):Prop:=(aJ W w0.heap.size 37 #[.float .f64 l,.float .f64 h]∧aJ W (w0.heap.size+1) 37 #[.float .f64 0,.float .f64 0])∧Below w0.heap.size w0 W
theorem I1.later {w0 W V:World}{l h:Nat}(hx:I1 w0 W l h) (hb:Below W.heap.size W V):I1 w0 V l h:=⟨⟨hx.1.1.below hb,hx.1.2.below hb⟩,hx.2.trans (hb.mono hx.2.size)⟩
theorem I1.new (w:World) (l h:Nat):I1 w ((w.alloc (.cells #[.float .f64 l,.float .f64 h] 37)).alloc (.cells #[.float .f64 0,.float .f64 0] 37)) l h:=
 ⟨⟨(aJ.new w _ _).alloc _,aJ.new1 w _ _ _⟩,(Below.aA w _).alloc (Below.aA w _).size _⟩
theorem I1.cells {w0 W:World}{l h:Nat}(hx:I1 w0 W l h):(W.cell? ⟨w0.heap.size,0,none⟩=some (.float .f64 l)∧W.cell? ⟨w0.heap.size,1,none⟩=some (.float .f64 h))∧
  W.cell? ⟨w0.heap.size+1,0,none⟩=some (.float .f64 0)∧W.cell? ⟨w0.heap.size+1,1,none⟩=some (.float .f64 0)∧W.frozen? ⟨w0.heap.size+1,0,none⟩=false∧W.frozen? ⟨w0.heap.size+1,1,none⟩=false:=
 ⟨⟨hx.1.1.cell 0,hx.1.1.cell 1⟩,hx.1.2.cells2⟩
theorem I1.stored {w0 W:World}{l h:Nat}(hx:I1 w0 W l h) (x y:Value):Below w0.heap.size w0 ((W.setCell ⟨w0.heap.size+1,0,none⟩ x).setCell ⟨w0.heap.size+1,1,none⟩ y):=(hx.2.setCell (show w0.heap.size≤w0.heap.size+1 by omega) _).setCell (show w0.heap.size≤w0.heap.size+1 by omega) _
theorem bG {P:Program}(a:Addr) (b:Nat) (w:World) {m:Mode}:(store a (.float .f64 b) m).run P w=stored P w a (.float .f64 b) m:=run_store P w a _ m rfl
attribute [local go_sem] bG
abbrev W64 (b:Nat):Prop:=b<18446744073709551616
theorem jM (l h:Nat) (w:World) (hl:W64 l) (hh:W64 h) (nl:aU l=false) (nh:aU h=false):
  Calls Tryz.prog 94 #[.float .f64 l,.float .f64 h] w (Gives (.agg #[.float .f64 (kb (ky l)),.float .f64 (kb (ky h))]) w):=by
 have h1:∀t w,(binOp .add t (.float .f64 l) (.float .f64 0)).run Tryz.prog w= .ok (.float .f64 (kb (ky l))) w:=fun t w=>run_float_arith w .add t .f64 _ _ _ (lN hl (dH nl))
 have h2:∀t w,(binOp .add t (.float .f64 h) (.float .f64 0)).run Tryz.prog w= .ok (.float .f64 (kb (ky h))) w:=fun t w=>run_float_arith w .add t .f64 _ _ _ (lN hh (dH nh))
 generalize kb (ky l)=L at*
 generalize kb (ky h)=H at*
 clear hl hh nl nh
 go_enter Tryz.func94,Tryz.ntmps94
 go_wp2
 refine bodyPost_ret (v:= .agg #[.float .f64 L,.float .f64 H]) (by simp [results,Tryz.results94,go_sem]) rfl ⟨rfl,Below.aA _ _⟩
theorem mW (l h:Nat) (w:World) (hl:W64 l) (hh:W64 h):
  Calls Tryz.prog 98 #[.agg #[.float .f64 l,.float .f64 h]] w (Gives (.bool (ivK l h).isSome) w):=by
 obtain⟨t1,h1⟩:∃b,(FloatKind.f64.format.order l h==some Ordering.lt||FloatKind.f64.format.order l h==some Ordering.eq)=b:=⟨_,rfl⟩
 obtain⟨t2,h2⟩:∃b,(FloatKind.f64.format.order l 9218868437227405312==some Ordering.lt)=b:=⟨_,rfl⟩
 obtain⟨t3,h3⟩:∃b,(FloatKind.f64.format.order h 18442240474082181120==some Ordering.gt)=b:=⟨_,rfl⟩
 have HR:Hid ((t1&&(t2&&t3))=(ivK l h).isSome):=jH (by rw [←aPa hl hh,←h1,←h2,←h3];rfl)
 have HP:=jH fun w=>oD w
 have HN:=jH fun w=>kK w
 have HW:=jH (tV.new w l h)
 generalize (ivK l h).isSome=R at*
 clear hl hh
 cases t1
 ·obtain rfl:false=R:=HR.out
  go_enter Tryz.func98,Tryz.ntmps98
  go_wp2
  refine aC (fun w':World=>w'.cell? ⟨w.heap.size,0,none⟩=some (.float .f64 l)∧w'.cell? ⟨w.heap.size,1,none⟩=some (.float .f64 h)) 15 (.take 0 (.take 1 (.take 2 (.take 3 (.take 4 (.take 5 (.take 6 (.take 7 (.run 8 (.take 9 (.take 10 (.take 11 (.take 12 (.take 13 (.run 14 .nil))))))))))))))) (by kernel_rfl) (by kernel_rfl) ?_
  replace HW:=jH (HW.out.later (aB _))
  generalize World.drew _=W0 at HW ⊢
  have hS:(fun w':World=>w'.cell? ⟨w.heap.size,0,none⟩=some (.float .f64 l)∧w'.cell? ⟨w.heap.size,1,none⟩=some (.float .f64 h)) W0:=HW.out.cells
  repeat (first|(refine tkL (v:= ?_) rfl rfl rfl (fun w' hSw=> ?_) hS ?_;rotate_left;(focus (go_simp;with_reducible rfl));simp only [aF])|(refine skL rfl rfl rfl hS ?_;simp only [aF]))
  refine sS rfl rfl rfl hS ?_
  simp only [aF]
  repeat (first|(refine tkL (v:= ?_) rfl rfl rfl (fun w' hSw=> ?_) hS ?_;rotate_left;(focus (go_simp;with_reducible rfl));simp only [aF])|(refine skL rfl rfl rfl hS ?_;simp only [aF]))
  refine sS rfl rfl rfl hS ?_
  simp only [aF]
  repeat (first|(refine tkL (v:= ?_) rfl rfl rfl (fun w' hSw=> ?_) hS ?_;rotate_left;(focus (go_simp;with_reducible rfl));simp only [aF])|(refine skL rfl rfl rfl hS ?_;simp only [aF]))
  clear hS
  refine aN ?_
  simp only [drL]
  go_wp2
  go_ret
  exact⟨rfl,HW.out.2⟩
 ·cases t2
  ·obtain rfl:false=R:=HR.out
   go_enter Tryz.func98,Tryz.ntmps98
   go_wp2
   refine aC (fun w':World=>w'.cell? ⟨w.heap.size,0,none⟩=some (.float .f64 l)∧w'.cell? ⟨w.heap.size,1,none⟩=some (.float .f64 h)) 15 (.take 0 (.take 1 (.take 2 (.take 3 (.take 4 (.take 5 (.take 6 (.take 7 (.run 8 (.take 9 (.take 10 (.take 11 (.take 12 (.take 13 (.run 14 .nil))))))))))))))) (by kernel_rfl) (by kernel_rfl) ?_
   replace HW:=jH (HW.out.later (aB _))
   generalize World.drew _=W0 at HW ⊢
   have hS:(fun w':World=>w'.cell? ⟨w.heap.size,0,none⟩=some (.float .f64 l)∧w'.cell? ⟨w.heap.size,1,none⟩=some (.float .f64 h)) W0:=HW.out.cells
   repeat (first|(refine tkL (v:= ?_) rfl rfl rfl (fun w' hSw=> ?_) hS ?_;rotate_left;(focus (go_simp;with_reducible rfl));simp only [aF])|(refine skL rfl rfl rfl hS ?_;simp only [aF]))
   clear hS
   refine aI rfl rfl fun K' hK=> ?_
   go_simp
   refine(HP.out _).mono ?_
   rintro e1 W0v1 ⟨rfl,hb1⟩
   replace HW:=jH (HW.out.later hb1)
   refine hK _ _ HW.out.cells ?_
   clear hK K' hb1
   try simp only [Act.put,aF]
   have hS:(fun w':World=>w'.cell? ⟨w.heap.size,0,none⟩=some (.float .f64 l)∧w'.cell? ⟨w.heap.size,1,none⟩=some (.float .f64 h)) W0v1:=HW.out.cells
   repeat (first|(refine tkL (v:= ?_) rfl rfl rfl (fun w' hSw=> ?_) hS ?_;rotate_left;(focus (go_simp;with_reducible rfl));simp only [aF])|(refine skL rfl rfl rfl hS ?_;simp only [aF]))
   refine sS rfl rfl rfl hS ?_
   simp only [aF]
   repeat (first|(refine tkL (v:= ?_) rfl rfl rfl (fun w' hSw=> ?_) hS ?_;rotate_left;(focus (go_simp;with_reducible rfl));simp only [aF])|(refine skL rfl rfl rfl hS ?_;simp only [aF]))
   clear hS
   refine aN ?_
   simp only [drL]
   go_wp2
   go_ret
   exact⟨rfl,HW.out.2⟩
  ·obtain rfl:t3=R:=HR.out
   go_enter Tryz.func98,Tryz.ntmps98
   go_wp2
   refine aC (fun w':World=>w'.cell? ⟨w.heap.size,0,none⟩=some (.float .f64 l)∧w'.cell? ⟨w.heap.size,1,none⟩=some (.float .f64 h)) 15 (.take 0 (.take 1 (.take 2 (.take 3 (.take 4 (.take 5 (.take 6 (.take 7 (.run 8 (.take 9 (.take 10 (.take 11 (.take 12 (.take 13 (.run 14 .nil))))))))))))))) (by kernel_rfl) (by kernel_rfl) ?_
   replace HW:=jH (HW.out.later (aB _))
   generalize World.drew _=W0 at HW ⊢
   have hS:(fun w':World=>w'.cell? ⟨w.heap.size,0,none⟩=some (.float .f64 l)∧w'.cell? ⟨w.heap.size,1,none⟩=some (.float .f64 h)) W0:=HW.out.cells
   repeat (first|(refine tkL (v:= ?_) rfl rfl rfl (fun w' hSw=> ?_) hS ?_;rotate_left;(focus (go_simp;with_reducible rfl));simp only [aF])|(refine skL rfl rfl rfl hS ?_;simp only [aF]))
   clear hS
   refine aI rfl rfl fun K' hK=> ?_
   go_simp
   refine(HP.out _).mono ?_
   rintro e1 W0v1 ⟨rfl,hb1⟩
   replace HW:=jH (HW.out.later hb1)
   refine hK _ _ HW.out.cells ?_
   clear hK K' hb1
   try simp only [Act.put,aF]
   have hS:(fun w':World=>w'.cell? ⟨w.heap.size,0,none⟩=some (.float .f64 l)∧w'.cell? ⟨w.heap.size,1,none⟩=some (.float .f64 h)) W0v1:=HW.out.cells
   repeat (first|(refine tkL (v:= ?_) rfl rfl rfl (fun w' hSw=> ?_) hS ?_;rotate_left;(focus (go_simp;with_reducible rfl));simp only [aF])|(refine skL rfl rfl rfl hS ?_;simp only [aF]))
   clear hS
   refine aI rfl rfl fun K' hK=> ?_
   go_simp
   refine(HN.out _).mono ?_
   rintro e1 W0v2 ⟨rfl,hb1⟩
   replace HW:=jH (HW.out.later hb1)
   refine hK _ _ HW.out.cells ?_
   clear hK K' hb1
   try simp only [Act.put,aF]
   have hS:(fun w':World=>w'.cell? ⟨w.heap.size,0,none⟩=some (.float .f64 l)∧w'.cell? ⟨w.heap.size,1,none⟩=some (.float .f64 h)) W0v2:=HW.out.cells
   repeat (first|(refine tkL (v:= ?_) rfl rfl rfl (fun w' hSw=> ?_) hS ?_;rotate_left;(focus (go_simp;with_reducible rfl));simp only [aF])|(refine skL rfl rfl rfl hS ?_;simp only [aF]))
   clear hS
   refine aN ?_
   simp only [drL]
   go_wp2
   go_ret
   exact⟨rfl,HW.out.2⟩
theorem aFz {x:Nat}(h:W64 x) (hf:aK x=true):F6.sub x x=some 0:=by
 unfold Ieee.Format.sub
 rw [dK h hf]
 unfold Ieee.Datum.opposite Ieee.Datum.sum
 simp only
 have:Ieee.signed (aQ x) (aS x) (aW x-min (aW x) (aW x)).toNat+Ieee.signed (!aQ x) (aS x) (aW x-min (aW x) (aW x)).toNat=0:=by
  unfold Ieee.signed
  cases aQ x<;>simp<;>omega
 rw [this,if_pos rfl]
 show some (F6.write (.number (aQ x&& !aQ x) 0 _))=some 0
 cases aQ x<;>rfl
theorem aF7 {x:Nat}(h:W64 x) (hf:aK x=false):F6.sub x x=none:=by
 unfold Ieee.Format.sub
 by_cases hn:aU x=true
 ·rw [←rD]at hn
  rw [aAf hn];rfl
 ·have hle:x%aH≤aG:=dH (by simpa using hn)
  rcases jI hle with h1|h1
  ·rw [hf]at h1;cases h1.1
  ·rw [rP h h1.2]
   cases aQ x<;>rfl
theorem iI (x:Nat) (w:World) (hx:W64 x):
  Calls Tryz.prog 93 #[.float .f64 x] w (Gives (.bool (aK x)) w):=by
 cases hf:aK x
 ·have hs:=aF7 hx hf
  have hsub:∀t w,(binOp .sub t (.float .f64 x) (.float .f64 x)).run Tryz.prog w= .ok (.float .f64 (fV .sub x x w)) (fN .sub x x w):=fun t w=>jA .sub (.inr (.inl rfl)) t x x w
  have hv:fV .sub x x w=nzB x x w:=by
   have:floatBits .sub .f64 x x=none:=hs
   unfold fV;rw [this]
  have hnn:=kT (y:=0) (aPj x x w).2
  rw [←hv]at hnn
  have hz:(FloatKind.f64.format.order (fV .sub x x w) 0==some Ordering.eq)=false:=by unfold F6 at hnn;rw [hnn];rfl
  have HB:=jH (rG .sub x x w)
  clear hs hv hnn hf hx
  go_enter Tryz.func93,Tryz.ntmps93
  go_wp2
  go_ret
  exact⟨rfl,HB.out⟩
 ·have hsub:∀t w,(binOp .sub t (.float .f64 x) (.float .f64 x)).run Tryz.prog w= .ok (.float .f64 0) w:=fun t w=>run_float_arith w .sub t .f64 _ _ _ (aFz hx hf)
  clear hf hx
  go_enter Tryz.func93,Tryz.ntmps93
  go_wp2
  go_ret
  exact⟨rfl,Below.refl _ _⟩
theorem empty_any (w:World):
  Calls Tryz.prog 99 #[] w (Gives (.agg #[.float .f64 9218868437227405312,.float .f64 18442240474082181120]) w):=by
 have HP:=jH fun w=>oD w
 have HN:=jH fun w=>kK w
 have HW:=jH (tV.new w 0 0)
 go_enter Tryz.func99,Tryz.ntmps99
 go_wp2_with fail
 refine(HP.out _).mono ?_
 rintro e1 w1 ⟨rfl,hb1⟩
 replace HW:=jH (HW.out.later hb1)
 clear hb1
 go_wp2_with fail
 refine(HN.out _).mono ?_
 rintro e2 w2 ⟨rfl,hb2⟩
 replace HW:=jH (HW.out.later hb2)
 clear hb2
 obtain⟨q0,q1,q2,q3⟩:=HW.out.cells2
 go_wp2
 refine bodyPost_ret (v:= .agg #[.float .f64 9218868437227405312,.float .f64 18442240474082181120]) (by simp [results,Tryz.results99,go_sem,q0,q1]) rfl ⟨rfl,HW.out.stored (Nat.le_refl _) _ _⟩
theorem aTm (w:World):
  Calls Tryz.prog 103 #[] w (Gives (.agg #[.float .f64 18442240474082181120,.float .f64 9218868437227405312]) w):=by
 have HP:=jH fun w=>oD w
 have HN:=jH fun w=>kK w
 have HW:=jH (tV.new w 0 0)
 go_enter Tryz.func103,Tryz.ntmps103
 go_wp2_with fail
 refine(HN.out _).mono ?_
 rintro e1 w1 ⟨rfl,hb1⟩
 replace HW:=jH (HW.out.later hb1)
 clear hb1
 go_wp2_with fail
 refine(HP.out _).mono ?_
 rintro e2 w2 ⟨rfl,hb2⟩
 replace HW:=jH (HW.out.later hb2)
 clear hb2
 obtain⟨q0,q1,q2,q3⟩:=HW.out.cells2
 go_wp2
 refine bodyPost_ret (v:= .agg #[.float .f64 18442240474082181120,.float .f64 9218868437227405312]) (by simp [results,Tryz.results103,go_sem,q0,q1]) rfl ⟨rfl,HW.out.stored (Nat.le_refl _) _ _⟩
end
section
set_option maxRecDepth 100000
set_option maxHeartbeats 6400000
open Go.RowKit
attribute [local go_sem] bG
theorem dX {l h:Nat}{p:Int×Int}(e:ivK l h=some p):aU l=false∧aU h=false∧p=(ky l,ky h):=by
 unfold ivK at e
 split at e
 ·rename_i hc
  simp only [Option.some.injEq]at e
  exact⟨hc.1,hc.2.1,e.symm⟩
 ·cases e
theorem vZ {x y:Nat}(hx:W64 x) (hy:W64 y) (nx:aU x=false) (ny:aU y=false):
  ∃r,(∀(ts:Array TypeId) (t:TypeId) (w:World),(Builtin.min_ ts t #[.float .f64 x,.float .f64 y]).run Tryz.prog w= .ok (.float .f64 r) w)∧W64 r∧aU r=false∧ky r=min (ky x) (ky y):=by
 have ho:=jX hx hy (dH nx) (dH ny)
 unfold F6 at ho
 rcases Int.lt_trichotomy (ky x) (ky y)with h|h|h
 ·rw [Int.compare_eq_lt.2 h]at ho
  exact⟨x,fun ts t w=>by simp [Builtin.min_,Builtin.min2,ho],hx,nx,by omega⟩
 ·rw [Int.compare_eq_eq.2 h]at ho
  refine⟨if(FloatKind.f64.decode x).neg then x else y,fun ts t w=>by simp [Builtin.min_,Builtin.min2,ho],?_,?_,?_⟩<;>split<;>first|assumption|omega
 ·rw [Int.compare_eq_gt.2 h]at ho
  exact⟨y,fun ts t w=>by simp [Builtin.min_,Builtin.min2,ho],hy,ny,by omega⟩
theorem vY {x y:Nat}(hx:W64 x) (hy:W64 y) (nx:aU x=false) (ny:aU y=false):
  ∃r,(∀(ts:Array TypeId) (t:TypeId) (w:World),(Builtin.max_ ts t #[.float .f64 x,.float .f64 y]).run Tryz.prog w= .ok (.float .f64 r) w)∧W64 r∧aU r=false∧ky r=max (ky x) (ky y):=by
 have ho:=jX hx hy (dH nx) (dH ny)
 unfold F6 at ho
 rcases Int.lt_trichotomy (ky x) (ky y)with h|h|h
 ·rw [Int.compare_eq_lt.2 h]at ho
  exact⟨y,fun ts t w=>by simp [Builtin.max_,Builtin.max2,ho],hy,ny,by omega⟩
 ·rw [Int.compare_eq_eq.2 h]at ho
  refine⟨if(FloatKind.f64.decode x).neg then y else x,fun ts t w=>by simp [Builtin.max_,Builtin.max2,ho],?_,?_,?_⟩<;>split<;>first|assumption|omega
 ·rw [Int.compare_eq_gt.2 h]at ho
  exact⟨x,fun ts t w=>by simp [Builtin.max_,Builtin.max2,ho],hx,nx,by omega⟩
theorem yR {x y:Nat}(hx:W64 x) (hy:W64 y) (nx:aU x=false) (ny:aU y=false):(FloatKind.f64.format.order x y==some Ordering.lt||FloatKind.f64.format.order x y==some Ordering.eq)=decide (ky x≤ky y):=by
 have:=aJ6 hx hy
 unfold leB xP F6 at this
 rw [this,nx,ny];simp
theorem zG {x y:Nat}(hx:W64 x) (hy:W64 y) (nx:aU x=false) (ny:aU y=false):(FloatKind.f64.format.order x y==some Ordering.lt)=decide (ky x<ky y):=by
 have:=aFo hx hy
 unfold xP F6 at this
 rw [this,nx,ny];simp
theorem zQ {x y:Nat}(hx:W64 x) (hy:W64 y) (nx:aU x=false) (ny:aU y=false):(FloatKind.f64.format.order x y==some Ordering.gt)=decide (ky y<ky x):=by
 have:=aFc hx hy
 unfold xP F6 at this
 rw [this,nx,ny];simp
theorem aEr {x y:Nat}(hx:W64 x) (hy:W64 y) (nx:aU x=false) (ny:aU y=false):(FloatKind.f64.format.order x y==some Ordering.gt||FloatKind.f64.format.order x y==some Ordering.eq)=decide (ky y≤ky x):=by
 have h1:=aFc hx hy
 have h2:=aFa hx hy
 unfold xP F6 at h1 h2
 rw [h1,h2,nx,ny]
 simp
 rw [Bool.eq_iff_iff];simp;omega
theorem eq_test {x y:Nat}(hx:W64 x) (hy:W64 y) (nx:aU x=false) (ny:aU y=false):(FloatKind.f64.format.order x y==some Ordering.eq)=decide (ky x=ky y):=by
 have:=aFa hx hy
 unfold xP F6 at this
 rw [this,nx,ny];simp
theorem aFr (l h:Nat) (w:World) (hl:W64 l) (hh:W64 h):
  Calls Tryz.prog 97 #[.agg #[.float .f64 l,.float .f64 h]] w (Gives (.agg #[.float .f64 (ivL (kW (ivK l h))),.float .f64 (ivH (kW (ivK l h)))]) w):=by
 have HFA:=jH fun w=>mW l h w hl hh
 have HE:=jH fun w=>empty_any w
 have HW:=jH (I1.new w l h)
 rcases e1:ivK l h with _|p
 ·rw [e1,Option.isSome_none]at HFA
  rw [show ivL (kW none)=9218868437227405312 from rfl,show ivH (kW none)=18442240474082181120 from rfl]
  clear e1
  go_enter Tryz.func97,Tryz.ntmps97
  obtain⟨⟨c0,c1⟩,q0,q1,q2,q3⟩:=HW.out.cells
  go_wp2_with fail
  refine(HFA.out _).mono ?_
  rintro e1 w1 ⟨rfl,hb1⟩
  replace HW:=jH (HW.out.later hb1)
  clear hb1 c0 c1 q0 q1 q2 q3
  obtain⟨⟨c0,c1⟩,q0,q1,q2,q3⟩:=HW.out.cells
  go_wp2_with fail
  refine(HE.out _).mono ?_
  rintro e2 w2 ⟨rfl,hb2⟩
  replace HW:=jH (HW.out.later hb2)
  clear hb2 c0 c1 q0 q1 q2 q3
  obtain⟨⟨c0,c1⟩,q0,q1,q2,q3⟩:=HW.out.cells
  go_wp2
  refine bodyPost_ret (v:= .agg #[.float .f64 9218868437227405312,.float .f64 18442240474082181120]) (by simp [results,Tryz.results97,go_sem,q0,q1]) rfl ⟨rfl,HW.out.stored _ _⟩
 ·rw [e1,Option.isSome_some]at HFA
  obtain⟨nl,nh,rfl⟩:=dX e1
  rw [show ivL (kW (some (ky l,ky h)))=kb (-ky h)from rfl,show ivH (kW (some (ky l,ky h)))=kb (-ky l)from rfl,←lS hh,←lS hl]
  have ng1:∀w,(Op.unary .neg (.float .f64 h)).run Tryz.prog w= .ok (.float .f64 (bQ h)) w:=fun w=>by rw [←lJ hh];rfl
  have ng2:∀w,(Op.unary .neg (.float .f64 l)).run Tryz.prog w= .ok (.float .f64 (bQ l)) w:=fun w=>by rw [←lJ hl];rfl
  have fn:∀x,W64 x→aU x=false→aU (bQ x)=false:=fun x hx nx=>by rw [dF,uD hx];exact dH nx
  have HK:=jH fun w=>jM (bQ h) (bQ l) w (iF hh) (iF hl) (fn _ hh nh) (fn _ hl nl)
  generalize kb (ky (bQ h))=L at*
  generalize kb (ky (bQ l))=H at*
  generalize bQ h=fh at*
  generalize bQ l=fl at*
  clear e1 nl nh hl hh fn
  go_enter Tryz.func97,Tryz.ntmps97
  obtain⟨⟨c0,c1⟩,q0,q1,q2,q3⟩:=HW.out.cells
  go_wp2_with fail
  refine(HFA.out _).mono ?_
  rintro e1 w1 ⟨rfl,hb1⟩
  replace HW:=jH (HW.out.later hb1)
  clear hb1 c0 c1 q0 q1 q2 q3
  obtain⟨⟨c0,c1⟩,q0,q1,q2,q3⟩:=HW.out.cells
  go_wp2_with fail
  refine(HK.out _).mono ?_
  rintro e2 w2 ⟨rfl,hb2⟩
  replace HW:=jH (HW.out.later hb2)
  clear hb2 c0 c1 q0 q1 q2 q3
  obtain⟨⟨c0,c1⟩,q0,q1,q2,q3⟩:=HW.out.cells
  go_wp2
  refine bodyPost_ret (v:= .agg #[.float .f64 L,.float .f64 H]) (by simp [results,Tryz.results97,go_sem,q0,q1]) rfl ⟨rfl,HW.out.stored _ _⟩
theorem aS2 (l h x:Nat) (w:World) (hl:W64 l) (hh:W64 h) (hx:W64 x):
  Calls Tryz.prog 48 #[.agg #[.float .f64 l,.float .f64 h],.float .f64 x] w (Gives (.bool (hasK (ivK l h) x)) w):=by
 have HFA:=jH fun w=>mW l h w hl hh
 have HFX:=jH fun w=>iI x w hx
 have HW:=jH (tV.new w l h)
 rcases e1:ivK l h with _|p
 ·rw [e1,Option.isSome_none]at HFA
  rw [show hasK none x=false from rfl]
  clear e1
  go_enter Tryz.func48,Tryz.ntmps48
  obtain⟨c0,c1⟩:=HW.out.cells
  go_wp2_with fail
  refine(HFA.out _).mono ?_
  rintro e1 w1 ⟨rfl,hb1⟩
  replace HW:=jH (HW.out.later hb1)
  clear hb1 c0 c1
  obtain⟨c0,c1⟩:=HW.out.cells
  go_wp2
  go_ret
  exact⟨rfl,HW.out.2⟩
 rw [e1,Option.isSome_some]at HFA
 obtain⟨nl,nh,rfl⟩:=dX e1
 rw [show hasK (some (ky l,ky h)) x=(aK x&&(decide (ky l≤ky x)&&decide (ky x≤ky h)))from rfl]
 cases fx:aK x
 ·rw [fx]at HFX
  clear e1 nl nh
  go_enter Tryz.func48,Tryz.ntmps48
  obtain⟨c0,c1⟩:=HW.out.cells
  go_wp2_with fail
  refine(HFA.out _).mono ?_
  rintro e1 w1 ⟨rfl,hb1⟩
  replace HW:=jH (HW.out.later hb1)
  clear hb1 c0 c1
  obtain⟨c0,c1⟩:=HW.out.cells
  go_wp2_with fail
  refine(HFX.out _).mono ?_
  rintro e2 w2 ⟨rfl,hb2⟩
  replace HW:=jH (HW.out.later hb2)
  clear hb2 c0 c1
  obtain⟨c0,c1⟩:=HW.out.cells
  go_wp2
  go_ret
  exact⟨rfl,HW.out.2⟩
 rw [fx]at HFX
 have nx:=jC fx
 have t1:=yR hl hx nl nx
 have t2:=yR hx hh nx nh
 generalize decide (ky l≤ky x)=b1 at*
 generalize decide (ky x≤ky h)=b2 at*
 clear e1 nl nh nx fx hl hh hx
 cases b1
 ·go_enter Tryz.func48,Tryz.ntmps48
  obtain⟨c0,c1⟩:=HW.out.cells
  go_wp2_with fail
  refine(HFA.out _).mono ?_
  rintro e1 w1 ⟨rfl,hb1⟩
  replace HW:=jH (HW.out.later hb1)
  clear hb1 c0 c1
  obtain⟨c0,c1⟩:=HW.out.cells
  go_wp2_with fail
  refine(HFX.out _).mono ?_
  rintro e2 w2 ⟨rfl,hb2⟩
  replace HW:=jH (HW.out.later hb2)
  clear hb2 c0 c1
  obtain⟨c0,c1⟩:=HW.out.cells
  go_wp2
  go_ret
  exact⟨rfl,HW.out.2⟩
 ·go_enter Tryz.func48,Tryz.ntmps48
  obtain⟨c0,c1⟩:=HW.out.cells
  go_wp2_with fail
  refine(HFA.out _).mono ?_
  rintro e1 w1 ⟨rfl,hb1⟩
  replace HW:=jH (HW.out.later hb1)
  clear hb1 c0 c1
  obtain⟨c0,c1⟩:=HW.out.cells
  go_wp2_with fail
  refine(HFX.out _).mono ?_
  rintro e2 w2 ⟨rfl,hb2⟩
  replace HW:=jH (HW.out.later hb2)
  clear hb2 c0 c1
  obtain⟨c0,c1⟩:=HW.out.cells
  go_wp2
  go_ret
  exact⟨rfl,HW.out.2⟩
end
end Go.Proofs.YtfmecpembnmnkaaGreatDoor
