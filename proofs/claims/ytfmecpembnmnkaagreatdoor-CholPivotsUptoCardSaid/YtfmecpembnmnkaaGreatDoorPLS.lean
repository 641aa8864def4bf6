/- Own blocks in a list: what a law has made and what it holds. -/
import Derived.Test.YtfmecpembnmnkaaGreatDoorPIF
import Derived.Test.YtfmecpembnmnkaaGreatDoorPGC
import Derived.Test.YtfmecpembnmnkaaGreatDoorPHB
import Derived.Test.YtfmecpembnmnkaaGreatDoorPII
import Derived.Test.YtfmecpembnmnkaaGreatDoorPGV
import Derived.Test.YtfmecpembnmnkaaGreatDoorPKE
import Derived.Test.YtfmecpembnmnkaaGreatDoorPGW
import Derived.Test.YtfmecpembnmnkaaGreatDoorPGB
import Derived.Test.YtfmecpembnmnkaaGreatDoorPGE
import Derived.Deep.CutRange
import Derived.Test.YtfmecpembnmnkaaGreatDoorPID
import Derived.Test.YtfmecpembnmnkaaGreatDoorPGX
import Derived.Test.YtfmecpembnmnkaaGreatDoorPGR
namespace Go.Proofs.YtfmecpembnmnkaaGreatDoor
section
open Go.RowKit
def Bks (w0 W:World) (l:List (Nat×Nat×Array Value)):Prop:=(∀t∈l,aJ W t.1 t.2.1 t.2.2)∧Below w0.heap.size w0 W
theorem Bks.nil (w:World):Bks w w []:=⟨fun _ h=>(by cases h),Below.refl _ _⟩
theorem Bks.later {w0 W V:World}{l:List (Nat×Nat×Array Value)}(h:Bks w0 W l) (hb:Below W.heap.size W V):Bks w0 V l:=⟨fun t m=>(h.1 t m).below hb,h.2.trans (hb.mono h.2.size)⟩
theorem Bks.size {w0 W:World}{l:List (Nat×Nat×Array Value)}(h:Bks w0 W l):w0.heap.size≤W.heap.size:=h.2.size
theorem Bks.lt {w0 W:World}{l:List (Nat×Nat×Array Value)}(h:Bks w0 W l):∀t∈l,t.1<W.heap.size:=fun t m=>(h.1 t m).lt
theorem Bks.get {w0 W:World}{l:List (Nat×Nat×Array Value)}(h:Bks w0 W l) {x t:Nat}{cs:Array Value}(m:(x,t,cs)∈l):aJ W x t cs:=h.1 _ m
theorem Bks.two {w0 W:World}{l:List (Nat×Nat×Array Value)}(h:Bks w0 W l) {x t:Nat}{a b:Value}(m:(x,t,#[a,b])∈l):W.cell? ⟨x,0,none⟩=some a∧W.cell? ⟨x,1,none⟩=some b:=⟨(h.get m).cell 0,(h.get m).cell 1⟩
theorem Bks.alloc {w0 W:World}{l:List (Nat×Nat×Array Value)}(h:Bks w0 W l) (cs:Array Value) (t:Nat):Bks w0 (W.alloc (.cells cs t)) ((W.heap.size,t,cs)::l):=
 ⟨fun q m=>by
  rcases List.mem_cons.1 m with rfl|m
  ·exact aJ.new W _ _
  ·exact(h.1 q m).alloc _,h.2.alloc h.2.size _⟩
theorem Bks.sub {w0 W:World}{l l':List (Nat×Nat×Array Value)}(h:Bks w0 W l) (hs:∀t∈l',t∈l):Bks w0 W l':=⟨fun t m=>h.1 t (hs t m),h.2⟩
theorem Bks.cons {w0 W:World}{l:List (Nat×Nat×Array Value)}(h:Bks w0 W l) {x t:Nat}{cs:Array Value}(hx:aJ W x t cs):Bks w0 W ((x,t,cs)::l):=
 ⟨fun q m=>by
  rcases List.mem_cons.1 m with rfl|m
  ·exact hx
  ·exact h.1 q m,h.2⟩
theorem Bks.set {w0 W:World}{l:List (Nat×Nat×Array Value)}{x t:Nat}{cs:Array Value}(h:Bks w0 W ((x,t,cs)::l)) (lx:w0.heap.size≤x) (hn:∀q∈l,q.1≠x) (i:Nat) (v:Value):
  Bks w0 (W.setCell ⟨x,i,none⟩ v) ((x,t,cs.setIfInBounds i v)::l):=
 ⟨fun q m=>by
  rcases List.mem_cons.1 m with rfl|m
  ·exact(h.1 _ (List.mem_cons_self ..)).set v
  ·exact(h.1 q (List.mem_cons_of_mem _ m)).setOther (hn q m) v,h.2.setCell (p:=⟨x,i,none⟩) lx v⟩
theorem Bks.set2 {w0 W:World}{l:List (Nat×Nat×Array Value)}{x t:Nat}{a b:Value}(h:Bks w0 W ((x,t,#[a,b])::l)) (lx:w0.heap.size≤x) (hn:∀q∈l,q.1≠x) (u v:Value):
  Bks w0 ((W.setCell ⟨x,0,none⟩ u).setCell ⟨x,1,none⟩ v) ((x,t,#[u,v])::l):=(h.set lx hn 0 u).set lx hn 1 v
theorem Bks.new2 (w:World) (T:Nat) (a b:Array Value):Bks w ((w.alloc (.cells a T)).alloc (.cells b T)) [(w.heap.size,T,a),(w.heap.size+1,T,b)]:=
 ⟨fun t m=>by
  simp only [List.mem_cons,List.not_mem_nil,or_false]at m
  rcases m with rfl|rfl
  ·exact(aJ.new w _ _).alloc _
  ·exact aJ.new1 w _ _ _,below2 _ _ _⟩
theorem Bks.aH6 (w:World) (T U V:Nat) (a b c:Array Value):Bks w (((w.alloc (.cells a T)).alloc (.cells b U)).alloc (.cells c V)) [(w.heap.size,T,a),(w.heap.size+1,U,b),(w.heap.size+1+1,V,c)]:=
 ⟨fun t m=>by
  simp only [List.mem_cons,List.not_mem_nil,or_false]at m
  rcases m with rfl|rfl|rfl
  ·exact((aJ.new w _ _).alloc _).alloc _
  ·exact(aJ.new1 w _ _ _).alloc _
  ·exact aJ.new2 w _ _ _ _,below3 _ _ _ _⟩
theorem Bks.aVo (w:World) (T U:Nat) (a b:Array Value):Bks w ((w.alloc (.cells a T)).alloc (.cells b U)) [(w.heap.size,T,a),(w.heap.size+1,U,b)]:=
 ⟨fun t m=>by
  simp only [List.mem_cons,List.not_mem_nil,or_false]at m
  rcases m with rfl|rfl
  ·exact(aJ.new w _ _).alloc _
  ·exact aJ.new1 w _ _ _,below2 _ _ _⟩
end
section
set_option maxRecDepth 100000
set_option maxHeartbeats 6400000
open Go.RowKit
attribute [local go_sem] bG
theorem aP8 {x:Nat}(hx:W64 x):(ky x=aG↔x=aG)∧(ky x= -(aG:Int)↔x=aH+aG):=by
 have hs:aH=9223372036854775808:=rfl
 have hi:aG=9218868437227405312:=rfl
 unfold ky
 split<;>omega
theorem aN2 {l h:Nat}(hl:W64 l) (hh:W64 h):(leB l h&&(!decide (l=aG)&& !decide (h=aH+aG)))=(ivK l h).isSome:=by
 rw [aJ6 hl hh]
 have k1:=(aP8 hl).1
 have k2:=(aP8 hh).2
 unfold ivK
 cases nl:aU l
 ·cases nh:aU h
  ·have b1:=kQ hl (dH nl)
   have b2:=kQ hh (dH nh)
   simp only [Bool.not_false,Bool.true_and,true_and]
   by_cases c1:ky l≤ky h<;>by_cases c2:l=aG<;>by_cases c3:h=aH+aG
   ·rw [if_neg (by omega),decide_eq_true c2];simp
   ·rw [if_neg (by omega),decide_eq_true c2];simp
   ·rw [if_neg (by omega),decide_eq_true c3];simp
   ·rw [if_pos (by omega),decide_eq_true c1,decide_eq_false c2,decide_eq_false c3];rfl
   ·rw [if_neg (by omega),decide_eq_false c1];rfl
   ·rw [if_neg (by omega),decide_eq_false c1];rfl
   ·rw [if_neg (by omega),decide_eq_false c1];rfl
   ·rw [if_neg (by omega),decide_eq_false c1];rfl
  ·simp
 ·simp
theorem jO (l h:Nat) (w:World) (hl:W64 l) (hh:W64 h):
  Calls Tryz.prog 106 #[.agg #[.float .f64 l,.float .f64 h]] w (Gives (.bool (ivK l h).isSome) w):=by
 obtain⟨t1,h1⟩:∃b,(FloatKind.f64.format.order l h==some Ordering.lt||FloatKind.f64.format.order l h==some Ordering.eq)=b:=⟨_,rfl⟩
 have HP:=jH fun w=>aQ9 l w hl
 have HN:=jH fun w=>aJ4 h w hh
 have HR:Hid ((t1&&(!decide (l=aG)&& !decide (h=aH+aG)))=(ivK l h).isSome):=jH (by rw [←aN2 hl hh,←h1];rfl)
 have HW:=jH (tV.new w l h)
 generalize (ivK l h).isSome=R at*
 generalize decide (l=aG)=t2 at*
 generalize decide (h=aH+aG)=t3 at*
 clear hl hh
 cases t1
 ·obtain rfl:false=R:=HR.out
  go_enter Tryz.func106,Tryz.ntmps106
  obtain⟨c0,c1⟩:=HW.out.cells
  go_wp2
  go_ret
  exact⟨rfl,HW.out.2⟩
 ·cases t2
  ·obtain rfl:(!t3)=R:=HR.out
   go_enter Tryz.func106,Tryz.ntmps106
   obtain⟨c0,c1⟩:=HW.out.cells
   go_wp2_with fail
   refine(HP.out _).mono ?_
   rintro e1 w1 ⟨rfl,hb1⟩
   replace HW:=jH (HW.out.later hb1)
   clear hb1 c0 c1
   obtain⟨c0,c1⟩:=HW.out.cells
   go_wp2_with fail
   refine(HN.out _).mono ?_
   rintro e2 w2 ⟨rfl,hb2⟩
   replace HW:=jH (HW.out.later hb2)
   clear hb2 c0 c1
   obtain⟨c0,c1⟩:=HW.out.cells
   go_wp2
   go_ret
   exact⟨rfl,HW.out.2⟩
  ·obtain rfl:false=R:=HR.out
   go_enter Tryz.func106,Tryz.ntmps106
   obtain⟨c0,c1⟩:=HW.out.cells
   go_wp2_with fail
   refine(HP.out _).mono ?_
   rintro e1 w1 ⟨rfl,hb1⟩
   replace HW:=jH (HW.out.later hb1)
   clear hb1 c0 c1
   obtain⟨c0,c1⟩:=HW.out.cells
   go_wp2
   go_ret
   exact⟨rfl,HW.out.2⟩
theorem lW (l h:Nat) (w:World) (hl:W64 l) (hh:W64 h) (nl:aU l=false) (nh:aU h=false):
  Calls Tryz.prog 111 #[.float .f64 l,.float .f64 h] w (Gives (.agg #[.float .f64 (kb (ky l)),.float .f64 (kb (ky h))]) w):=by
 have h1:∀t w,(binOp .add t (.float .f64 l) (.float .f64 0)).run Tryz.prog w= .ok (.float .f64 (kb (ky l))) w:=fun t w=>run_float_arith w .add t .f64 _ _ _ (lN hl (dH nl))
 have h2:∀t w,(binOp .add t (.float .f64 h) (.float .f64 0)).run Tryz.prog w= .ok (.float .f64 (kb (ky h))) w:=fun t w=>run_float_arith w .add t .f64 _ _ _ (lN hh (dH nh))
 generalize kb (ky l)=L at*
 generalize kb (ky h)=H at*
 clear hl hh nl nh
 go_enter Tryz.func111,Tryz.ntmps111
 go_wp2
 refine bodyPost_ret (v:= .agg #[.float .f64 L,.float .f64 H]) (by simp [results,Tryz.results111,go_sem]) rfl ⟨rfl,Below.aA _ _⟩
theorem oZ (w:World):Calls Tryz.prog 107 #[] w (Gives (.agg #[.float .f64 9218868437227405312,.float .f64 18442240474082181120]) w):=by
 have HP:=jH fun w=>oD w
 have HN:=jH fun w=>kK w
 have HW:=jH (tV.new w 0 0)
 go_enter Tryz.func107,Tryz.ntmps107
 go_wp2_with fail
 refine(HP.out _).mono ?_
 rintro e1 w1 ⟨rfl,hb1⟩
 replace HW:=jH (HW.out.later hb1)
 clear hb1
 go_wp2_with fail
 refine(HN.out _).mono ?_
 rintro e2 w2 ⟨rfl,hb2⟩
 replace HW:=jH (HW.out.later hb2)
 clear hb2
 obtain⟨q0,q1,q2,q3⟩:=HW.out.cells2
 go_wp2
 refine bodyPost_ret (v:= .agg #[.float .f64 9218868437227405312,.float .f64 18442240474082181120]) (by simp [results,Tryz.results107,go_sem,q0,q1]) rfl ⟨rfl,HW.out.stored (Nat.le_refl _) _ _⟩
theorem pF (x y:Nat) (w:World) (hx:W64 x) (hy:W64 y) (nx:aU x=false) (ny:aU y=false):Calls Tryz.prog 108 #[.float .f64 x,.float .f64 y] w (eX (min (ky x) (ky y)) w):=by
 have t1:=zG hy hx ny nx
 by_cases c:ky y<ky x
 ·rw [decide_eq_true c]at t1
  have HR9:Hid (W64 y∧aU y=false∧ky y=min (ky x) (ky y)):=jH ⟨hy,ny,by omega⟩
  generalize min (ky x) (ky y)=K at*
  clear hx hy nx ny c
  go_enter Tryz.func108,Tryz.ntmps108
  go_wp2
  go_ret
  exact⟨_,rfl,HR9.out.1,HR9.out.2.1,HR9.out.2.2,Below.refl _ _⟩
 ·rw [decide_eq_false c]at t1
  have HR9:Hid (W64 x∧aU x=false∧ky x=min (ky x) (ky y)):=jH ⟨hx,nx,by omega⟩
  generalize min (ky x) (ky y)=K at*
  clear hx hy nx ny c
  go_enter Tryz.func108,Tryz.ntmps108
  go_wp2
  go_ret
  exact⟨_,rfl,HR9.out.1,HR9.out.2.1,HR9.out.2.2,Below.refl _ _⟩
theorem lY (x y:Nat) (w:World) (hx:W64 x) (hy:W64 y) (nx:aU x=false) (ny:aU y=false):Calls Tryz.prog 110 #[.float .f64 x,.float .f64 y] w (eX (max (ky x) (ky y)) w):=by
 have t1:=zQ hy hx ny nx
 by_cases c:ky x<ky y
 ·rw [decide_eq_true c]at t1
  have HR9:Hid (W64 y∧aU y=false∧ky y=max (ky x) (ky y)):=jH ⟨hy,ny,by omega⟩
  generalize max (ky x) (ky y)=K at*
  clear hx hy nx ny c
  go_enter Tryz.func110,Tryz.ntmps110
  go_wp2
  go_ret
  exact⟨_,rfl,HR9.out.1,HR9.out.2.1,HR9.out.2.2,Below.refl _ _⟩
 ·rw [decide_eq_false c]at t1
  have HR9:Hid (W64 x∧aU x=false∧ky x=max (ky x) (ky y)):=jH ⟨hx,nx,by omega⟩
  generalize max (ky x) (ky y)=K at*
  clear hx hy nx ny c
  go_enter Tryz.func110,Tryz.ntmps110
  go_wp2
  go_ret
  exact⟨_,rfl,HR9.out.1,HR9.out.2.1,HR9.out.2.2,Below.refl _ _⟩
theorem aAo (l h m k:Nat) (w:World) (hl:W64 l) (hh:W64 h) (hm:W64 m) (hk:W64 k):
  Calls Tryz.prog 112 #[.agg #[.float .f64 l,.float .f64 h],.agg #[.float .f64 m,.float .f64 k]] w (Gives (.agg #[.float .f64 (ivL (mX (ivK l h) (ivK m k))),.float .f64 (ivH (mX (ivK l h) (ivK m k)))]) w):=by
 have HFA:=jH fun w=>jO l h w hl hh
 have HFB:=jH fun w=>jO m k w hm hk
 have HE:=jH fun w=>oZ w
 have HW:=jH (I3.new w l h m k)
 rcases e1:ivK l h with _|p
 ·rw [e1,Option.isSome_none]at HFA
  rcases e2:ivK m k with _|q
  ·rw [e2,Option.isSome_none]at HFB
   rw [show ivL (mX none none)=9218868437227405312 from rfl,show ivH (mX none none)=18442240474082181120 from rfl]
   clear e1 e2
   go_enter Tryz.func112,Tryz.ntmps112
   obtain⟨⟨⟨c0,c1⟩,c2,c3⟩,q0,q1,q2,q3⟩:=HW.out.cells
   go_wp2_with fail
   refine(HFA.out _).mono ?_
   rintro e1 w1 ⟨rfl,hb1⟩
   replace HW:=jH (HW.out.later hb1)
   clear hb1 c0 c1 c2 c3 q0 q1 q2 q3
   obtain⟨⟨⟨c0,c1⟩,c2,c3⟩,q0,q1,q2,q3⟩:=HW.out.cells
   go_wp2_with fail
   refine(HFB.out _).mono ?_
   rintro e2 w2 ⟨rfl,hb2⟩
   replace HW:=jH (HW.out.later hb2)
   clear hb2 c0 c1 c2 c3 q0 q1 q2 q3
   obtain⟨⟨⟨c0,c1⟩,c2,c3⟩,q0,q1,q2,q3⟩:=HW.out.cells
   go_wp2_with fail
   refine(HE.out _).mono ?_
   rintro e3 w3 ⟨rfl,hb3⟩
   replace HW:=jH (HW.out.later hb3)
   clear hb3 c0 c1 c2 c3 q0 q1 q2 q3
   obtain⟨⟨⟨c0,c1⟩,c2,c3⟩,q0,q1,q2,q3⟩:=HW.out.cells
   go_wp2
   refine bodyPost_ret (v:= .agg #[.float .f64 9218868437227405312,.float .f64 18442240474082181120]) (by simp [results,Tryz.results112,go_sem,q0,q1]) rfl ⟨rfl,HW.out.stored _ _⟩
  ·rw [e2,Option.isSome_some]at HFB
   obtain⟨nm,nk,rfl⟩:=dX e2
   rw [show ivL (mX none (some (ky m,ky k)))=kb (ky m)from rfl,show ivH (mX none (some (ky m,ky k)))=kb (ky k)from rfl]
   have HK:=jH fun w=>lW m k w hm hk nm nk
   generalize kb (ky m)=L at*
   generalize kb (ky k)=H at*
   clear e1 e2 nm nk
   go_enter Tryz.func112,Tryz.ntmps112
   obtain⟨⟨⟨c0,c1⟩,c2,c3⟩,q0,q1,q2,q3⟩:=HW.out.cells
   go_wp2_with fail
   refine(HFA.out _).mono ?_
   rintro e1 w1 ⟨rfl,hb1⟩
   replace HW:=jH (HW.out.later hb1)
   clear hb1 c0 c1 c2 c3 q0 q1 q2 q3
   obtain⟨⟨⟨c0,c1⟩,c2,c3⟩,q0,q1,q2,q3⟩:=HW.out.cells
   go_wp2_with fail
   refine(HFB.out _).mono ?_
   rintro e2 w2 ⟨rfl,hb2⟩
   replace HW:=jH (HW.out.later hb2)
   clear hb2 c0 c1 c2 c3 q0 q1 q2 q3
   obtain⟨⟨⟨c0,c1⟩,c2,c3⟩,q0,q1,q2,q3⟩:=HW.out.cells
   go_wp2_with fail
   refine(HFA.out _).mono ?_
   rintro e3 w3 ⟨rfl,hb3⟩
   replace HW:=jH (HW.out.later hb3)
   clear hb3 c0 c1 c2 c3 q0 q1 q2 q3
   obtain⟨⟨⟨c0,c1⟩,c2,c3⟩,q0,q1,q2,q3⟩:=HW.out.cells
   go_wp2_with fail
   refine(HK.out _).mono ?_
   rintro e4 w4 ⟨rfl,hb4⟩
   replace HW:=jH (HW.out.later hb4)
   clear hb4 c0 c1 c2 c3 q0 q1 q2 q3
   obtain⟨⟨⟨c0,c1⟩,c2,c3⟩,q0,q1,q2,q3⟩:=HW.out.cells
   go_wp2
   refine bodyPost_ret (v:= .agg #[.float .f64 L,.float .f64 H]) (by simp [results,Tryz.results112,go_sem,q0,q1]) rfl ⟨rfl,HW.out.stored _ _⟩
 rw [e1,Option.isSome_some]at HFA
 rcases e2:ivK m k with _|q
 ·rw [e2,Option.isSome_none]at HFB
  obtain⟨nl,nh,rfl⟩:=dX e1
  rw [show ivL (mX (some (ky l,ky h)) none)=kb (ky l)from rfl,show ivH (mX (some (ky l,ky h)) none)=kb (ky h)from rfl]
  have HK:=jH fun w=>lW l h w hl hh nl nh
  generalize kb (ky l)=L at*
  generalize kb (ky h)=H at*
  clear e1 e2 nl nh
  go_enter Tryz.func112,Tryz.ntmps112
  obtain⟨⟨⟨c0,c1⟩,c2,c3⟩,q0,q1,q2,q3⟩:=HW.out.cells
  go_wp2_with fail
  refine(HFA.out _).mono ?_
  rintro e1 w1 ⟨rfl,hb1⟩
  replace HW:=jH (HW.out.later hb1)
  clear hb1 c0 c1 c2 c3 q0 q1 q2 q3
  obtain⟨⟨⟨c0,c1⟩,c2,c3⟩,q0,q1,q2,q3⟩:=HW.out.cells
  go_wp2_with fail
  refine(HFA.out _).mono ?_
  rintro e2 w2 ⟨rfl,hb2⟩
  replace HW:=jH (HW.out.later hb2)
  clear hb2 c0 c1 c2 c3 q0 q1 q2 q3
  obtain⟨⟨⟨c0,c1⟩,c2,c3⟩,q0,q1,q2,q3⟩:=HW.out.cells
  go_wp2_with fail
  refine(HFB.out _).mono ?_
  rintro e3 w3 ⟨rfl,hb3⟩
  replace HW:=jH (HW.out.later hb3)
  clear hb3 c0 c1 c2 c3 q0 q1 q2 q3
  obtain⟨⟨⟨c0,c1⟩,c2,c3⟩,q0,q1,q2,q3⟩:=HW.out.cells
  go_wp2_with fail
  refine(HK.out _).mono ?_
  rintro e4 w4 ⟨rfl,hb4⟩
  replace HW:=jH (HW.out.later hb4)
  clear hb4 c0 c1 c2 c3 q0 q1 q2 q3
  obtain⟨⟨⟨c0,c1⟩,c2,c3⟩,q0,q1,q2,q3⟩:=HW.out.cells
  go_wp2
  refine bodyPost_ret (v:= .agg #[.float .f64 L,.float .f64 H]) (by simp [results,Tryz.results112,go_sem,q0,q1]) rfl ⟨rfl,HW.out.stored _ _⟩
 rw [e2,Option.isSome_some]at HFB
 obtain⟨nl,nh,rfl⟩:=dX e1
 obtain⟨nm,nk,rfl⟩:=dX e2
 rw [show ivL (mX (some (ky l,ky h)) (some (ky m,ky k)))=kb (min (ky l) (ky m))from rfl,show ivH (mX (some (ky l,ky h)) (some (ky m,ky k)))=kb (max (ky h) (ky k))from rfl]
 have HS1:=jH fun W=>pF l m W hl hm nl nm
 have HS2:=jH fun W=>lY h k W hh hk nh nk
 generalize min (ky l) (ky m)=K1 at*
 generalize max (ky h) (ky k)=K2 at*
 clear e1 e2 nl nh nm nk hl hh hm hk HE
 go_enter Tryz.func112,Tryz.ntmps112
 obtain⟨⟨⟨c0,c1⟩,c2,c3⟩,q0,q1,q2,q3⟩:=HW.out.cells
 go_wp2_with fail
 refine(HFA.out _).mono ?_
 rintro e1 w1 ⟨rfl,hb1⟩
 replace HW:=jH (HW.out.later hb1)
 clear hb1 c0 c1 c2 c3 q0 q1 q2 q3
 obtain⟨⟨⟨c0,c1⟩,c2,c3⟩,q0,q1,q2,q3⟩:=HW.out.cells
 go_wp2_with fail
 refine(HFA.out _).mono ?_
 rintro e2 w2 ⟨rfl,hb2⟩
 replace HW:=jH (HW.out.later hb2)
 clear hb2 c0 c1 c2 c3 q0 q1 q2 q3
 obtain⟨⟨⟨c0,c1⟩,c2,c3⟩,q0,q1,q2,q3⟩:=HW.out.cells
 go_wp2_with fail
 refine(HFB.out _).mono ?_
 rintro e3 w3 ⟨rfl,hb3⟩
 replace HW:=jH (HW.out.later hb3)
 clear hb3 c0 c1 c2 c3 q0 q1 q2 q3
 obtain⟨⟨⟨c0,c1⟩,c2,c3⟩,q0,q1,q2,q3⟩:=HW.out.cells
 go_wp2
 refine aC (fun w':World=>(w'.cell? ⟨w.heap.size,0,none⟩=some (.float .f64 l)∧w'.cell? ⟨w.heap.size,1,none⟩=some (.float .f64 h))∧w'.cell? ⟨w.heap.size+1,0,none⟩=some (.float .f64 m)∧w'.cell? ⟨w.heap.size+1,1,none⟩=some (.float .f64 k)) 9 (.take 0 (.take 1 (.take 2 (.take 3 (.take 5 (.take 6 (.take 7 (.take 8 (.run 4 .nil))))))))) (by kernel_rfl) (by kernel_rfl) ?_
 replace HW:=jH (HW.out.later (aB _))
 generalize World.drew _=W0 at HW ⊢
 have hS:(fun w':World=>(w'.cell? ⟨w.heap.size,0,none⟩=some (.float .f64 l)∧w'.cell? ⟨w.heap.size,1,none⟩=some (.float .f64 h))∧w'.cell? ⟨w.heap.size+1,0,none⟩=some (.float .f64 m)∧w'.cell? ⟨w.heap.size+1,1,none⟩=some (.float .f64 k)) W0:=HW.out.cells.1
 repeat (first|(refine tkL (v:= ?_) rfl rfl rfl (fun w' hSw=> ?_) hS ?_;rotate_left;(focus (go_simp;with_reducible rfl));simp only [aF])|(refine skL rfl rfl rfl hS ?_;simp only [aF]))
 clear hS
 refine aI rfl rfl fun K' hK=> ?_
 go_simp
 refine(HS1.out _).mono ?_
 rintro e1 W0v1 ⟨r1,rfl,rl1,rn1,rk1,hb1⟩
 replace HW:=jH (HW.out.later hb1)
 have HR1:=jH (And.intro rl1 (And.intro rn1 rk1))
 clear rl1 rn1 rk1
 refine hK _ _ HW.out.cells.1 ?_
 clear hK K' hb1
 try simp only [Act.put,aF]
 have hS:(fun w':World=>(w'.cell? ⟨w.heap.size,0,none⟩=some (.float .f64 l)∧w'.cell? ⟨w.heap.size,1,none⟩=some (.float .f64 h))∧w'.cell? ⟨w.heap.size+1,0,none⟩=some (.float .f64 m)∧w'.cell? ⟨w.heap.size+1,1,none⟩=some (.float .f64 k)) W0v1:=HW.out.cells.1
 repeat (first|(refine tkL (v:= ?_) rfl rfl rfl (fun w' hSw=> ?_) hS ?_;rotate_left;(focus (go_simp;with_reducible rfl));simp only [aF])|(refine skL rfl rfl rfl hS ?_;simp only [aF]))
 clear hS
 refine aN ?_
 simp only [drL]
 clear c0 c1 c2 c3 q0 q1 q2 q3
 obtain⟨⟨⟨c0,c1⟩,c2,c3⟩,q0,q1,q2,q3⟩:=HW.out.cells
 go_wp2_with fail
 refine(HS2.out _).mono ?_
 rintro e9 w9 ⟨r2,rfl,rl2,rn2,rk2,hb9⟩
 replace HW:=jH (HW.out.later hb9)
 have HMK:=jH fun W=>lW r1 r2 W HR1.out.1 rl2 HR1.out.2.1 rn2
 rw [HR1.out.2.2,rk2]at HMK
 generalize kb K1=L at*
 generalize kb K2=H at*
 clear hb9 rl2 rn2 rk2 c0 c1 c2 c3 q0 q1 q2 q3
 obtain⟨⟨⟨c0,c1⟩,c2,c3⟩,q0,q1,q2,q3⟩:=HW.out.cells
 go_wp2_with fail
 refine(HMK.out _).mono ?_
 rintro e10 w10 ⟨rfl,hb10⟩
 replace HW:=jH (HW.out.later hb10)
 clear hb10 c0 c1 c2 c3 q0 q1 q2 q3
 obtain⟨⟨⟨c0,c1⟩,c2,c3⟩,q0,q1,q2,q3⟩:=HW.out.cells
 go_wp2
 refine bodyPost_ret (v:= .agg #[.float .f64 L,.float .f64 H]) (by simp [results,Tryz.results112,go_sem,q0,q1]) rfl ⟨rfl,HW.out.stored _ _⟩
end
section
open Go.RowKit
theorem aWx {x y:Nat}(fx:aK x=true) (fy:aK y=true):0≤plE (aO x) (pE x) (aO y) (pE y)+1074∧sc 1074 (plZ (aO x) (pE x) (aO y) (pE y)) (plE (aO x) (pE x) (aO y) (pE y))=fI x+fI y:=by
 have e1:=gV fx
 have e2:=gV fy
 exact⟨aAq (by omega) (by omega),aBw (by omega) (by omega)⟩
end
section
open Go.RowKit
theorem aP4 (z:Int):(z.sign≤0↔z≤0)∧(0≤z.sign↔0≤z)∧(z.sign<0↔z<0)∧(0<z.sign↔0<z):=by
 rcases Int.lt_trichotomy z 0 with h|h|h
 ·rw [Int.sign_eq_neg_one_of_neg h];omega
 ·rw [h];decide
 ·rw [Int.sign_eq_one_of_pos h];omega
end
section
open Go.RowKit
theorem aVx {x:Nat}(hx:W64 x) (nx:aU x=false) (fx:aK x=false):x=aG∨x=aH+aG:=by
 have h1:=dH nx
 have h2:x<18446744073709551616:=hx
 unfold aK eF at fx
 have h3:=of_decide_eq_false fx
 have e1:aG=9218868437227405312:=rfl
 have e2:aH=9223372036854775808:=rfl
 have e3:aT=4503599627370496:=rfl
 rw [e3]at h3
 rw [e2,e1]at h1
 rw [e2,e1]
 omega
theorem aU0 {x:Nat}(hx:W64 x) (nx:aU x=false) (fx:aK x=false) (h:0≤ky x):x=aG:=by
 have h1:=aVx hx nx fx
 rcases h1 with h1|h1
 ·exact h1
 ·exfalso
  rw [h1]at h
  exact absurd h (by decide)
end
end Go.Proofs.YtfmecpembnmnkaaGreatDoor
