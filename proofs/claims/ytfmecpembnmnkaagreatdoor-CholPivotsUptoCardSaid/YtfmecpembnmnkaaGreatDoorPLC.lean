/- Walk: a matrix taken apart column by column, whatever closures say how. Printed by wip/gen/ch8.py. -/
import Derived.Test.YtfmecpembnmnkaaGreatDoorPLA
import Derived.Test.YtfmecpembnmnkaaGreatDoorPLB
import Derived.Test.YtfmecpembnmnkaaGreatDoorPIB
import Derived.Maps.AppendAt
import Derived.WalkMore
import Derived.Deep.CutRange
import Derived.Test.YtfmecpembnmnkaaGreatDoorPLS
import Derived.Shelf.Abstract
namespace Go.Proofs.YtfmecpembnmnkaaGreatDoor
section
set_option maxRecDepth 100000
set_option maxHeartbeats 6400000
open Go.RowKit
attribute [local go_sem] bG
structure ChX (X:List Nat) (w w':World):Prop where
 os:w'.os=w.os
 tape:w'.tape=w.tape
 output:w'.output=w.output
 size:w.heap.size≤w'.heap.size
 block:∀k,k<w.heap.size→k∉X→w'.heap[k]? =w.heap[k]?
theorem ChX.of_below {X:List Nat}{w w':World}(h:Below w.heap.size w w'):ChX X w w':=⟨h.os,h.tape,h.output,h.size,fun k hk _=>h.block k hk⟩
theorem ChX.aIf {X:List Nat}{w w':World}{row:Option Nat}(h:w.grownBy w' row) (hr:∀k,row=some k→k∈X):ChX X w w':=
 ⟨h.os,h.tape,h.output,h.size,fun k hk hn=>h.block k hk (fun e=>hn (hr k e.symm))⟩
theorem ChX.set {X:List Nat}{w:World}{x i:Nat}{v:Value}(hx:x∈X):ChX X w (w.setCell ⟨x,i,none⟩ v):=by
 have h:=Upd.set (b:=x) (i:=i) (w:=w) v
 exact⟨h.os,h.tape,h.output,h.size,fun k hk hn=>h.block k hk (fun e=>hn (e▸hx))⟩
theorem ChX.below {X:List Nat}{w0 w w':World}{B:Nat}(h:ChX X w w') (hb:Below B w0 w) (hB:B≤w.heap.size) (hX:∀x∈X,B≤x):Below B w0 w':=
 hb.trans ⟨h.os,h.tape,h.output,h.size,fun k hk=>h.block k (by omega) (fun m=>by have:=hX k m;omega)⟩
structure Kps (X:List Nat) (w w':World):Prop where
 size:w.heap.size≤w'.heap.size
 block:∀x∈X,w'.heap[x]? =w.heap[x]?
theorem Kps.refl (X:List Nat) (w:World):Kps X w w:=⟨Nat.le_refl _,fun _ _=>rfl⟩
theorem Kps.trans {X:List Nat}{w u v:World}(h:Kps X w u) (k:Kps X u v):Kps X w v:=⟨Nat.le_trans h.size k.size,fun x m=>(k.block x m).trans (h.block x m)⟩
theorem Kps.aI4 {X:List Nat}{w u:World}{b:Nat}(h:Upd b w u) (hX:∀x∈X,x≠b∧x<w.heap.size):Kps X w u:=⟨h.size,fun x m=>h.block x (hX x m).2 (hX x m).1⟩
theorem Kps.of_below {X:List Nat}{w u:World}(h:Below w.heap.size w u) (hX:∀x∈X,x<w.heap.size):Kps X w u:=⟨h.size,fun x m=>h.block x (hX x m)⟩
structure Fac (W:Way Fo) (a:Nat→Nat→Fo) (n fk lk hk ok:Nat) (cf cl ch co:Array Value) (Inv:List Nat→Nat→(Nat→Fo)→Bool→World→Prop):Prop where
 ef:∀args w,(callFunc fk args).run Tryz.prog w= .ok (.enter fk args) w
 el:∀args w,(callFunc lk args).run Tryz.prog w= .ok (.enter lk args) w
 eh:∀args w,(callFunc hk args).run Tryz.prog w= .ok (.enter hk args) w
 eo:∀args w,(callFunc ok args).run Tryz.prog w= .ok (.enter ok args) w
 chg:∀{X j H f w w'},Inv X j H f w→ChX X w w'→Inv X j H f w'
 new:∀{X j H f w y},Inv X j H f w→w.heap.size≤y→Inv (y::X) j H f w
 sub:∀{X X' j H f w},Inv X j H f w→(∀x∈X',x∈X)→Inv X' j H f w
 first:∀{X j H f w}(i k:Nat),Inv X j H f w→(∀x∈X,x<w.heap.size)→i<n→k<n→Calls Tryz.prog fk (#[.int .i64 i,.int .i64 k]++cf) w fun e w'=>∃v,e= .returned (.float .f64 v)∧Rep (a i k) v∧Inv X j H f w'∧Kps X w w'
 less:∀{X j H f w t x y}(k tv xv yv:Nat),Inv X j H f w→(∀x∈X,x<w.heap.size)→k<j→Rep t tv→Rep x xv→Rep y yv→Calls Tryz.prog lk (#[.float .f64 tv,.float .f64 xv,.float .f64 yv,.int .i64 k]++cl) w fun e w'=>
  ∃v,e= .returned (.float .f64 v)∧Rep (W.less H (t,f) x y k).1 v∧Inv X j H (W.less H (t,f) x y k).2 w'∧Kps X w w'
 head:∀{X j H f w d}(dv:Nat),Inv X j H f w→(∀x∈X,x<w.heap.size)→j<n→Rep d dv→Calls Tryz.prog hk (#[.float .f64 dv]++ch) w fun e w'=>
  ∃v,e= .returned (.tuple #[.float .f64 v,.int .i64 (W.head (d,f)).2])∧Rep (W.head (d,f)).1 v∧Kps X w w'∧((W.head (d,f)).2=0→Inv X (j+1) (dJ H j (W.head (d,f)).1) f w')∧((W.head (d,f)).2≠0→Inv X j H f w')
 over:∀{X j H f w t x}(tv xv:Nat),Inv X j H f w→(∀x∈X,x<w.heap.size)→Rep t tv→Rep x xv→Calls Tryz.prog ok (#[.float .f64 tv,.float .f64 xv]++co) w fun e w'=>
  ∃v,e= .returned (.float .f64 v)∧Rep (W.over (t,f) x).1 v∧Inv X j H (W.over (t,f) x).2 w'∧Kps X w w'
structure WkR (B:Nat) (w:World) (n N:Nat) (fv lv hv ov:Value) (vs:Nat→Nat):Prop where
 n_:aJ w B 3 #[.int .i64 n]
 f_:aJ w (B+1) 97 #[fv]
 F_:aJ w (B+2) 102 #[lv,hv,ov]
 g_:FMs w (B+3) N vs
 l_:aJ w (B+4) 23 #[.slice (some ⟨B+3,0,none⟩) N N]
def WX (B:Nat) (v:Value):List Nat:=B::(B+1)::(B+2)::(B+3)::(B+4)::v.ownBlock.toList
theorem WX.low {B:Nat}{v:Value}{X:List Nat}(h:∀x∈WX B v,x∈X):∀x,B≤x→x<B+5→x∈X:=fun x h1 h2=>by
 apply h
 unfold WX
 rcases(by omega:x=B∨x=B+1∨x=B+2∨x=B+3∨x=B+4)with rfl|rfl|rfl|rfl|rfl<;>simp
theorem WkR.keep {B:Nat}{w w':World}{n N:Nat}{fv lv hv ov:Value}{vs:Nat→Nat}(h:WkR B w n N fv lv hv ov vs) (hk:∀x,B≤x→x<B+5→w'.heap[x]? =w.heap[x]?):WkR B w' n N fv lv hv ov vs:=
 ⟨(hk B (by omega) (by omega)).trans h.n_,(hk (B+1) (by omega) (by omega)).trans h.f_,(hk (B+2) (by omega) (by omega)).trans h.F_,h.g_.of_block (hk (B+3) (by omega) (by omega)),(hk (B+4) (by omega) (by omega)).trans h.l_⟩
theorem WkR.kps {B:Nat}{w w':World}{n N:Nat}{fv lv hv ov:Value}{vs:Nat→Nat}{X:List Nat}(h:WkR B w n N fv lv hv ov vs) (hk:Kps X w w') (hX:∀x,B≤x→x<B+5→x∈X):WkR B w' n N fv lv hv ov vs:=h.keep fun x h1 h2=>hk.block x (hX x h1 h2)
theorem WkR.lt {B:Nat}{w:World}{n N:Nat}{fv lv hv ov:Value}{vs:Nat→Nat}(h:WkR B w n N fv lv hv ov vs):B+4<w.heap.size:=h.l_.lt
theorem WkR.below {B:Nat}{w w':World}{n N:Nat}{fv lv hv ov:Value}{vs:Nat→Nat}(h:WkR B w n N fv lv hv ov vs) (hb:Below w.heap.size w w'):WkR B w' n N fv lv hv ov vs:=h.keep fun x h1 h2=>hb.block x (by have:=h.lt;omega)
theorem WkR.set {B:Nat}{w:World}{n N i v:Nat}{fv lv hv ov:Value}{vs:Nat→Nat}(h:WkR B w n N fv lv hv ov vs) (hi:i<N):WkR B (w.setCell ⟨B+3,i,none⟩ (.float .f64 v)) n N fv lv hv ov (dJ vs i v):=
 ⟨h.n_.setOther (by omega) _,h.f_.setOther (by omega) _,h.F_.setOther (by omega) _,h.g_.set hi,h.l_.setOther (by omega) _⟩
def aA5 (n:Nat) (L:Nat→Nat→Fo) (vs:Nat→Nat):Prop:=∀i j,i<n→j<n→Rep (L i j) (vs (i*n+j))
theorem aA5.set {n i j v:Nat}{L:Nat→Nat→Fo}{vs:Nat→Nat}{x:Fo}(h:aA5 n L vs) (hj:j<n) (hv:Rep x v):aA5 n (aFt L i j x) (dJ vs (i*n+j) v):=fun a b ha hb=>by
 by_cases e:a=i∧b=j
 ·obtain⟨rfl,rfl⟩:=e
  rw [vT,eP];exact hv
 ·rw [aBi e,iO ?_]
  ·exact h a b ha hb
  ·intro t
   apply e
   have h1:(a*n+b)/n=a:=by rw [Nat.mul_comm,Nat.mul_add_div (by omega),Nat.div_eq_of_lt hb];rfl
   have h2:(i*n+j)/n=i:=by rw [Nat.mul_comm,Nat.mul_add_div (by omega),Nat.div_eq_of_lt hj];rfl
   rw [t,h2]at h1
   subst h1
   exact⟨rfl,by omega⟩
structure WkS (Inv:List Nat→Nat→(Nat→Fo)→Bool→World→Prop) (X:List Nat) (j:Nat) (H:Nat→Fo) (f:Bool) (w0 w:World) (B n N:Nat) (fv lv hv ov:Value) (vs:Nat→Nat):Prop where
 c:∀{w w'},Inv X j H f w→ChX X w w'→Inv X j H f w'
 i:Inv X j H f w
 x:∀x∈X,x<w.heap.size
 r:WkR B w n N fv lv hv ov vs
 k:Kps X w0 w
section
variable {Inv : List Nat → Nat → (Nat → Fo) → Bool → World → Prop} {X : List Nat} {j : Nat} {H : Nat → Fo} {f : Bool} {w0 w w' : World} {B n N : Nat} {fv lv hv ov : Value} {vs : Nat → Nat}
theorem WkS.below (h:WkS Inv X j H f w0 w B n N fv lv hv ov vs) (hb:Below w.heap.size w w'):WkS Inv X j H f w0 w' B n N fv lv hv ov vs:=
 ⟨h.c,h.c h.i (.of_below hb),fun x hx=>Nat.lt_of_lt_of_le (h.x x hx) hb.size,h.r.below hb,h.k.trans (.of_below hb h.x)⟩
theorem WkS.step {f':Bool}(h:WkS Inv X j H f w0 w B n N fv lv hv ov vs) (hc:∀{w w'},Inv X j H f' w→ChX X w w'→Inv X j H f' w') (hi:Inv X j H f' w') (hk:Kps X w w') (hXB:∀x,B≤x→x<B+5→x∈X):WkS Inv X j H f' w0 w' B n N fv lv hv ov vs:=
 ⟨hc,hi,fun x hx=>Nat.lt_of_lt_of_le (h.x x hx) hk.size,h.r.kps hk hXB,h.k.trans hk⟩
theorem WkS.cells5 (h:WkS Inv X j H f w0 w B n N fv lv hv ov vs):
  w.cell? ⟨B,0,none⟩=some (.int .i64 n)∧w.cell? ⟨B+1,0,none⟩=some fv∧w.cell? ⟨B+2,0,none⟩=some lv∧w.cell? ⟨B+2,1,none⟩=some hv∧w.cell? ⟨B+2,2,none⟩=some ov∧w.cell? ⟨B+4,0,none⟩=some (.slice (some ⟨B+3,0,none⟩) N N):=
 ⟨h.r.n_.cell 0,h.r.f_.cell 0,h.r.F_.cell 0,h.r.F_.cell 1,h.r.F_.cell 2,h.r.l_.cell 0⟩
end
theorem at_eq {n i j:Nat}(hn:n≤12) (hi:i<n) (hj:j<n):IntKind.i64.wrap ((i:Int)*(n:Int))=((i*n:Nat):Int)∧IntKind.i64.wrap (((i*n:Nat):Int)+(j:Int))=((i*n+j:Nat):Int):=by
 have h1:i*n≤12*12:=Nat.mul_le_mul (by omega) hn
 exact⟨by rw [←Int.natCast_mul];exact IntWalk.i64_in _ (by omega),by rw [←Int.natCast_add];exact IntWalk.i64_in _ (by omega)⟩
theorem aDx {W:Way Fo}{a:Nat→Nat→Fo}{n fk lk hk ok:Nat}{cf cl ch co:Array Value}{Inv:List Nat→Nat→(Nat→Fo)→Bool→World→Prop}(hF:Fac W a n fk lk hk ok cf cl ch co Inv)
  {X:List Nat}{j:Nat}{H:Nat→Fo}{f:Bool}{w:World}{B N:Nat}{vs:Nat→Nat}{L:Nat→Nat→Fo}(i m:Nat) (hn:n≤12) (hN:N=n*n) (hI:Inv X j H f w) (hX:∀x∈X,x<w.heap.size) (hXB:∀x,B≤x→x<B+5→x∈X)
  (hR:WkR B w n N (.func (.func fk) #[] cf) (.func (.func lk) #[] cl) (.func (.func hk) #[] ch) (.func (.func ok) #[] co) vs) (hL:aA5 n L vs) (hi:i<n) (hm:m≤j) (hmn:m<n):
  Calls Tryz.prog 114 #[.int .i64 i,.int .i64 m,.pointer (some ⟨B+1,0,none⟩),.pointer (some ⟨B+4,0,none⟩),.pointer (some ⟨B,0,none⟩),.pointer (some ⟨B+2,0,none⟩)] w fun e w'=>
   ∃v,e= .returned (.float .f64 v)∧Rep (W.dw L H i m (a i m,f) m).1 v∧Inv X j H (W.dw L H i m (a i m,f) m).2 w'∧Kps X w w':=by
 have HFA:=jH hF
 have HXB:=jH hXB
 have HS:Hid (WkS Inv X j H f w w B n N (.func (.func fk) #[] cf) (.func (.func lk) #[] cl) (.func (.func hk) #[] ch) (.func (.func ok) #[] co) vs):=jH ⟨hF.chg,hI,hX,hR,Kps.refl X w⟩
 have HL:=jH hL
 have HPS:Hid (∀k,k<n→(i*n+k<N∧m*n+k<N)):=jH fun k hk=>by rw [hN];exact⟨jZ hi hk,jZ hmn hk⟩
 have HAE:=jH fun k (hk:k<n)=>And.intro (at_eq hn hi hk) (at_eq hn hmn hk)
 have HN:Hid (N≤144):=jH (by rw [hN];exact Nat.mul_le_mul hn hn)
 have ef:=hF.ef
 have el:=hF.el
 clear hF hI hX hXB hR hL hN
 obtain⟨q0,q1,q2,q3,q4,q5⟩:=HS.out.cells5
 go_enter Tryz.func114,Tryz.ntmps114
 go_wp2_with fail
 refine(HFA.out.first i m HS.out.i HS.out.x hi hmn).mono ?_
 rintro e1 w1 ⟨t0,rfl,ht,hi1,hk1⟩
 replace HS:=jH (HS.out.step HFA.out.chg hi1 hk1 HXB.out)
 have HT:=jH ht
 clear ht hi1 hk1 q0 q1 q2 q3 q4 q5
 go_wp2
 go_loopw [9,18] (fun t k wr=>∃q u:Nat,q≤m∧k= .int .i64 q∧t= .float .f64 u∧Hid (Rep (W.dw L H i m (a i m,f) q).1 u)∧Hid (WkS Inv X j H (W.dw L H i m (a i m,f) q).2 w wr B n N (.func (.func fk) #[] cf) (.func (.func lk) #[] cl) (.func (.func hk) #[] ch) (.func (.func ok) #[] co) vs)) (fun _ k _=>m-(intOf k).toNat)
 case atStart=>exact⟨0,t0,Nat.zero_le _,rfl,rfl,HT,HS⟩
 case round=>
  clear HT HS
  obtain⟨wo,rfl⟩:∃wo:World,wo=wr:=⟨_,rfl⟩
  obtain⟨q,u,hq,rfl,rfl,HT,HS⟩:=hrel
  by_cases hql:q<m
  ·have hqn:q<n:=by omega
   have HSQ:Hid (W.dw L H i m (a i m,f) (q+1)=W.less H ((W.dw L H i m (a i m,f) q).1,(W.dw L H i m (a i m,f) q).2) (L i q) (L m q) q):=jH rfl
   generalize W.dw L H i m (a i m,f) q=s0 at*
   obtain⟨⟨e1,e2⟩,e3,e4⟩:=HAE.out q hqn
   have HP:=jH (HPS.out q hqn).1
   have HQ:=jH (HPS.out q hqn).2
   have HLP:=jH (HL.out i q hi hqn)
   have HLS:=jH (HL.out m q hmn hqn)
   generalize hpp:i*n+q=p at*
   generalize hss:m*n+q=s at*
   clear hpp hss
   generalize ((i*n:Nat):Int)=pi at*
   generalize ((m*n:Nat):Int)=si at*
   have hp1:=HP.out
   have hs1:=HQ.out
   have hN1:=HN.out
   go_upto_region 5 with fail
   refine aC (fun w':World=>(w'.cell? ⟨B,0,none⟩=some (.int .i64 n)∧w'.cell? ⟨B+4,0,none⟩=some (.slice (some ⟨B+3,0,none⟩) N N))∧w'.cell? ⟨B+3,p,none⟩=some (.float .f64 (vs p))∧w'.cell? ⟨B+3,s,none⟩=some (.float .f64 (vs s))) 17 (.take 0 (.take 1 (.take 2 (.take 3 (.take 4 (.take 5 (.take 6 (.take 7 (.take 8 (.take 9 (.take 10 (.take 11 (.take 12 (.take 13 (.take 14 (.take 15 (.take 16 .nil))))))))))))))))) (by kernel_rfl) (by kernel_rfl) ?_
   replace HS:=jH (HS.out.below (aB _))
   generalize World.drew _=W5 at HS ⊢
   repeat (refine tkL (v:= ?_) rfl rfl rfl (fun w' hSw=> ?_) (And.intro ⟨HS.out.r.n_.cell 0,HS.out.r.l_.cell 0⟩ ⟨HS.out.r.g_.cell HP.out,HS.out.r.g_.cell HQ.out⟩) ?_;rotate_left;(focus (go_simp;with_reducible rfl));simp only [aF])
   refine aN ?_
   simp only [drL]
   clear e1 e2 e3 e4
   obtain⟨q0,q1,q2,q3,q4,q5⟩:=HS.out.cells5
   go_wp2_with fail
   refine(HFA.out.less q u (vs p) (vs s) HS.out.i HS.out.x (by omega) HT.out HLP.out HLS.out).mono ?_
   rintro e7 w7 ⟨u2,rfl,hr,hi1,hk1⟩
   replace HS:=jH (HS.out.step HFA.out.chg hi1 hk1 HXB.out)
   have HT2:=jH hr
   rw [←HSQ.out]at HT2 HS
   clear hr hi1 hk1 HT HSQ q0 q1 q2 q3 q4 q5
   go_wp2
   go_roundw
   case rel=>exact⟨q+1,u2,by omega,by go_num,rfl,HT2,HS⟩
   case measure=>simp [intOf];omega
  ·obtain rfl:q=m:=by omega
   go_wp2
   refine bodyPost_ret (v:= .float .f64 u) (by simp [results,Tryz.results114,go_sem]) rfl ⟨u,rfl,HT.out,HS.out.i,HS.out.k⟩
theorem aJ.at {w:World}{b:Nat}(cs:Array Value) (t:Nat) (e:w.heap.size=b):aJ (w.alloc (.cells cs t)) b t cs:=e▸aJ.new w cs t
theorem size_alloc (w:World) (o:_root_.Go.Obj):(w.alloc o).heap.size=w.heap.size+1:=by simp
theorem WkR.start (w:World) (n N:Nat) (fv lv hv ov:Value):WkR w.heap.size (((((w.alloc (.cells #[.int .i64 n] 3)).alloc (.cells #[fv] 97)).alloc (.cells #[lv,hv,ov] 102)).alloc (.cells (madeCells #[.float .f64 0] N) 35)).alloc (.cells #[.slice (some ⟨w.heap.size+3,0,none⟩) N N] 23)) n N fv lv hv ov (fun _=>0):=by
 refine⟨((((aJ.new w _ _).alloc _).alloc _).alloc _).alloc _,(((aJ.at _ _ (size_alloc _ _)).alloc _).alloc _).alloc _,((aJ.at _ _ (by rw [size_alloc,size_alloc])).alloc _).alloc _,?_,aJ.at _ _ (by rw [size_alloc,size_alloc,size_alloc,size_alloc])⟩
 have h:=FMs.made (((w.alloc (.cells #[.int .i64 n] 3)).alloc (.cells #[fv] 97)).alloc (.cells #[lv,hv,ov] 102)) N
 rw [size_alloc,size_alloc,size_alloc]at h
 exact h.below (Below.aA _ _)
theorem WkR.aV8 (w:World) (n N:Nat) (fv lv hv ov:Value):WkR w.heap.size (((((w.alloc (.cells #[.int .i64 n] 3)).alloc (.cells #[fv] 97)).alloc (.cells #[lv,hv,ov] 102)).alloc (.cells (madeCells #[.float .f64 0] N) 35)).alloc (.cells #[.slice (some ⟨w.heap.size+3,0,none⟩) N N] 23)) n N fv lv hv ov (fun _=>0)∧Below w.heap.size w (((((w.alloc (.cells #[.int .i64 n] 3)).alloc (.cells #[fv] 97)).alloc (.cells #[lv,hv,ov] 102)).alloc (.cells (madeCells #[.float .f64 0] N) 35)).alloc (.cells #[.slice (some ⟨w.heap.size+3,0,none⟩) N N] 23)):=
 ⟨WkR.start w n N fv lv hv ov,((below3 w _ _ _).alloc (below3 w _ _ _).size _).alloc ((below3 w _ _ _).alloc (below3 w _ _ _).size _).size _⟩
theorem OwF.base {W:World}{B B' k:Nat}{v:Value}{vs:Nat→Nat}(h:OwF W B v k vs) (hb:B'≤B):OwF W B' v k vs:=by
 obtain⟨h1,h2⟩:=h
 refine⟨h1,?_⟩
 rcases h2 with h2|⟨g,cap,cur,rfl,h3,h4,h5⟩
 ·exact .inl h2
 ·exact .inr ⟨g,cap,cur,rfl,Nat.le_trans hb h3,h4,h5⟩
theorem aPq (B:Nat):WX B (.slice none 0 0)=[B,B+1,B+2,B+3,B+4]:=rfl
theorem aF3 {B g:Nat}{v:Value}(h:v.ownBlock=some g):g∈WX B v:=by unfold WX;rw [h];simp
theorem aXo {B k:Nat}{v:Value}{vs:Nat→Nat}{w:World}(h:OwF w (B+5) v k vs) (hb:B+4<w.heap.size):∀x∈WX B v,x<w.heap.size:=fun x hx=>by
 unfold WX at hx
 simp only [List.mem_cons,Option.mem_toList]at hx
 rcases hx with rfl|rfl|rfl|rfl|rfl|hx
 ·omega
 ·omega
 ·omega
 ·omega
 ·omega
 ·exact(h.lt x hx).2
theorem OwF.kps {W V:World}{B k:Nat}{v:Value}{vs:Nat→Nat}(h:OwF W (B+5) v k vs) (hk:Kps (WX B v) W V):OwF V (B+5) v k vs:=h.dY fun g hg=>hk.block g (aF3 hg)
structure WkT (Inv:List Nat→Nat→(Nat→Fo)→Bool→World→Prop) (j:Nat) (H:Nat→Fo) (f:Bool) (w:World) (B n N:Nat) (fv lv hv ov:Value) (vs:Nat→Nat) (v:Value) (hs:Nat→Nat):Prop where
 s:WkS Inv (WX B v) j H f w w B n N fv lv hv ov vs
 o:OwF w (B+5) v j hs
 h:xJ j H hs
section
variable {Inv : List Nat → Nat → (Nat → Fo) → Bool → World → Prop} {j : Nat} {H : Nat → Fo} {f : Bool} {w w' : World} {B n N : Nat} {fv lv hv ov : Value} {vs : Nat → Nat} {v : Value} {hs : Nat → Nat}
theorem WkT.below (h:WkT Inv j H f w B n N fv lv hv ov vs v hs) (hb:Below w.heap.size w w'):WkT Inv j H f w' B n N fv lv hv ov vs v hs:=
 ⟨⟨h.s.c,(h.s.below hb).i,(h.s.below hb).x,(h.s.below hb).r,Kps.refl _ _⟩,h.o.later hb,h.h⟩
theorem WkT.step {f':Bool}(h:WkT Inv j H f w B n N fv lv hv ov vs v hs) (hc:∀{w w'},Inv (WX B v) j H f' w→ChX (WX B v) w w'→Inv (WX B v) j H f' w') (hi:Inv (WX B v) j H f' w') (hk:Kps (WX B v) w w'):WkT Inv j H f' w' B n N fv lv hv ov vs v hs:=
 ⟨⟨hc,hi,fun x hx=>Nat.lt_of_lt_of_le (h.s.x x hx) hk.size,h.s.r.kps hk (WX.low fun _ m=>m),Kps.refl _ _⟩,h.o.kps hk,h.h⟩
theorem WkT.set {i x:Nat}(h:WkT Inv j H f w B n N fv lv hv ov vs v hs) (hi:i<N):WkT Inv j H f (w.setCell ⟨B+3,i,none⟩ (.float .f64 x)) B n N fv lv hv ov (dJ vs i x) v hs:=by
 have hc:ChX (WX B v) w (w.setCell ⟨B+3,i,none⟩ (.float .f64 x)):=ChX.set (WX.low (fun _ m=>m) (B+3) (by omega) (by omega))
 refine⟨⟨h.s.c,h.s.c h.s.i hc,fun y hy=>Nat.lt_of_lt_of_le (h.s.x y hy) hc.size,h.s.r.set hi,Kps.refl _ _⟩,h.o.dY fun g hg=> ?_,h.h⟩
 have h1:=(h.o.lt g hg).1
 exact(Upd.set (b:=B+3) (i:=i) (w:=w) (.float .f64 x)).block g (h.o.lt g hg).2 (by omega)
theorem WkT.push {f':Bool}{U V:World}{v':Value}{x:Fo}{z:Nat}(h:WkT Inv j H f w B n N fv lv hv ov vs v hs) (hc:∀{X w w'},Inv X (j+1) (dJ H j x) f' w→ChX X w w'→Inv X (j+1) (dJ H j x) f' w')
  (hnw:∀{X w y},Inv X (j+1) (dJ H j x) f' w→w.heap.size≤y→Inv (y::X) (j+1) (dJ H j x) f' w) (hsb:∀{X X' w},Inv X (j+1) (dJ H j x) f' w→(∀x∈X',x∈X)→Inv X' (j+1) (dJ H j x) f' w)
  (hi:Inv (WX B v) (j+1) (dJ H j x) f' w') (hk:Kps (WX B v) w w') (hb:Below w'.heap.size w' U) (hg:U.grownBy V v.ownBlock)
  (ho:V.ownsRow (B+5) 35 1 v' (j+1) (((List.range j).map fun i=>Value.float .f64 (hs i))++[.float .f64 z])) (hv':v'.ownBlock=v.ownBlock∨v'.ownBlock=some U.heap.size) (hr:Rep x z):
  WkT Inv (j+1) (dJ H j x) f' V B n N fv lv hv ov vs v' (dJ hs j z):=by
 have h1:WkR B U n N fv lv hv ov vs:=(h.s.r.kps hk (WX.low fun _ m=>m)).below hb
 have h2:OwF U (B+5) v j hs:=(h.o.kps hk).later hb
 have hO:=OwF.push ho
 have hR:WkR B V n N fv lv hv ov vs:=h1.keep fun y y1 y2=>hg.block y (by have:=h1.lt;omega) fun e=>by have:=(h2.lt y e.symm).1;omega
 refine⟨⟨hc,?_,aXo hO (Nat.lt_of_lt_of_le h1.lt hg.size),hR,Kps.refl _ _⟩,hO,?_⟩
 ·refine hsb (hc (hnw (hc hi (.of_below hb)) (Nat.le_refl _)) (.aIf hg fun k hk2=>List.mem_cons_of_mem _ (aF3 hk2))) fun y hy=> ?_
  unfold WX at hy ⊢
  simp only [List.mem_cons,Option.mem_toList]at hy ⊢
  rcases hy with e|e|e|e|e|e
  ·exact .inr (.inl e)
  ·exact .inr (.inr (.inl e))
  ·exact .inr (.inr (.inr (.inl e)))
  ·exact .inr (.inr (.inr (.inr (.inl e))))
  ·exact .inr (.inr (.inr (.inr (.inr (.inl e)))))
  ·rcases hv' with h3|h3
   ·rw [h3]at e;exact .inr (.inr (.inr (.inr (.inr (.inr e)))))
   ·rw [h3]at e;exact .inl (Option.some.inj e).symm
 ·intro i hi2
  by_cases e:i=j
  ·subst e;rw [eP,eP];exact hr
  ·rw [iO e,iO e];exact h.h i (by omega)
end
def WalkA (W:Way Fo) (a:Nat→Nat→Fo) (n:Nat) (Inv:List Nat→Nat→(Nat→Fo)→Bool→World→Prop) (w:World) (e:Ending) (w':World):Prop:=
 ((W.all a n n).e=0∧∃g hv vs hs,e= .returned (.tuple #[.slice (some ⟨g,0,none⟩) (n*n) (n*n),hv,.int .i64 0,.int .i64 0])∧FMs w' g (n*n) vs∧aA5 n (W.all a n n).L vs∧OwF w' (g+1) hv n hs∧xJ n (W.all a n n).H hs∧w.heap.size≤g∧Inv [g] n (W.all a n n).H (W.all a n n).f w')∨
 ((W.all a n n).e≠0∧∃ho hl hc j H f,e= .returned (.tuple #[.slice none 0 0,.slice ho hl hc,.int .i64 (W.all a n n).p,.int .i64 (W.all a n n).e])∧Inv [] j H f w')
theorem walk_any {W:Way Fo}{a:Nat→Nat→Fo}{n fk lk hk ok:Nat}{cf cl ch co:Array Value}{Inv:List Nat→Nat→(Nat→Fo)→Bool→World→Prop}(hF:Fac W a n fk lk hk ok cf cl ch co Inv) (w:World) (hz:W.zero=some 0) (hn:n≤12) (hI:Inv [] 0 (fun _=>some 0) false w):
  Calls Tryz.prog 55 #[.int .i64 n,.func (.func fk) #[] cf,.agg #[.func (.func lk) #[] cl,.func (.func hk) #[] ch,.func (.func ok) #[] co]] w (WalkA W a n Inv w):=by
 obtain⟨i0,hi,hz0,hz1,hz2⟩:=info_parts Tryz.info35
 have HFA:=jH hF
 have ef:=hF.ef
 have el:=hF.el
 have eh:=hF.eh
 have eo:=hF.eo
 obtain⟨N,hN⟩:∃N,n*n=N:=⟨_,rfl⟩
 have hN2:N≤144:=by rw [←hN];exact Nat.mul_le_mul hn hn
 have hw:IntKind.i64.wrap ((n:Int)*(n:Int))=(N:Int):=by rw [←Int.natCast_mul,hN];exact IntWalk.i64_in _ (by omega)
 have hmk:=run_make_row' (P:=Tryz.prog) 23 35 (.float .f64 0) 8 Tryz.underlying23 Tryz.aE4 rfl .i64 .i64 N (by omega) (by omega)
 have HN:=jH hN
 have HS0:=WkR.aV8 w n N (.func (.func fk) #[] cf) (.func (.func lk) #[] cl) (.func (.func hk) #[] ch) (.func (.func ok) #[] co)
 obtain⟨b0,h0⟩:∃b,w.heap.size=b:=⟨_,rfl⟩
 obtain⟨b1,h1⟩:∃b,b0+1=b:=⟨_,rfl⟩
 obtain⟨b2,h2⟩:∃b,b1+1=b:=⟨_,rfl⟩
 obtain⟨b3,h3⟩:∃b,b2+1=b:=⟨_,rfl⟩
 obtain⟨b4,h4⟩:∃b,b3+1=b:=⟨_,rfl⟩
 have p0:(((w.alloc (.cells #[.int .i64 n] 3)).alloc (.cells #[.func (.func fk) #[] cf] 97)).alloc (.cells #[.func (.func lk) #[] cl,.func (.func hk) #[] ch,.func (.func ok) #[] co] 102)).cell? ⟨b0,0,none⟩=some (.int .i64 n):=by rw [←h0];exact(((aJ.new w _ _).alloc _).alloc _).cell 0
 rw [h0]at HS0
 have HIN:Hid (Inv [b0,b0+1,b0+2,b0+3,b0+4] 0 (fun _=>some 0) false w):=jH (hF.new (hF.new (hF.new (hF.new (hF.new hI (by omega)) (by omega)) (by omega)) (by omega)) (by omega))
 rw [show b0+3=b3 by omega]at HS0
 replace HS0:=jH HS0
 clear hI hN
 go_enter Tryz.func55,Tryz.ntmps55
 go_upto_region 3 with fail
 clear p0 hmk hw
 generalize World.alloc (World.alloc (World.alloc (World.alloc (World.alloc w _) _) _) _) _=W0 at HS0 ⊢
 obtain rfl:b4=b0+4:=by omega
 obtain rfl:b3=b0+3:=by omega
 obtain rfl:b2=b0+2:=by omega
 obtain rfl:b1=b0+1:=by omega
 clear h1 h2 h3 h4
 have HT:Hid (WkT Inv 0 (fun _=>some 0) false W0 b0 n N (.func (.func fk) #[] cf) (.func (.func lk) #[] cl) (.func (.func hk) #[] ch) (.func (.func ok) #[] co) (fun _=>0) (.slice none 0 0) (fun _=>0)):=jH ⟨⟨HFA.out.chg,HFA.out.chg HIN.out (.of_below (by rw [h0];exact HS0.out.2)),fun x hx=>by have:=HS0.out.1.lt;rw [aPq]at hx;simp only [List.mem_cons,List.not_mem_nil,or_false]at hx;omega,HS0.out.1,Kps.refl _ _⟩,OwF.nil _ _ _,fun i h=>absurd h (Nat.not_lt_zero _)⟩
 have HL0:Hid (aA5 n (fun _ _=>some 0) (fun _=>0)):=jH fun i j _ _=>⟨show 0<18446744073709551616 by decide,rfl⟩
 have HA0:Hid (W.all a n 0=⟨fun _ _=>some 0,fun _=>some 0,false,0,0⟩):=jH (by unfold Way.all itr;rw [hz])
 have HBS:Hid (b0=w.heap.size):=jH h0.symm
 generalize b0=B at*
 clear HS0 HIN h0 hz
 obtain⟨q0,q1,q2,q3,q4,q5⟩:=HT.out.s.cells5
 go_wp2
 go_loopw [11,23] (fun hvv i wr=>∃(k:Nat) (vs hs:Nat→Nat),k≤n∧i= .int .i64 k∧Hid ((W.all a n k).e=0)∧Hid (aA5 n (W.all a n k).L vs)∧Hid (WkT Inv k (W.all a n k).H (W.all a n k).f wr B n N (.func (.func fk) #[] cf) (.func (.func lk) #[] cl) (.func (.func hk) #[] ch) (.func (.func ok) #[] co) vs hvv hs)) (fun _ i _=>n-(intOf i).toNat)
 case atStart=>exact⟨0,_,_,Nat.zero_le _,rfl,jH (by rw [HA0.out]),jH (by rw [HA0.out];exact HL0.out),jH (by rw [HA0.out];exact HT.out)⟩
 case round=>
  clear HT HL0 HA0 q0 q1 q2 q3 q4 q5
  obtain⟨wo,rfl⟩:∃wo:World,wo=wr:=⟨_,rfl⟩
  obtain⟨k,vs,hs,hkn,rfl,HE0,HL,HT⟩:=hrel
  obtain⟨ho,hc,rfl⟩:=HT.out.o.shape
  obtain⟨q0,q1,q2,q3,q4,q5⟩:=HT.out.s.cells5
  by_cases hlt:k<n
  ·have HBAD:=jH fun h=>W.vX HE0.out h
   have HGOOD:=jH fun h=>W.all_good HE0.out h
   have HSTOP:Hid ((W.all a n (k+1)).e≠0→W.all a n n=W.all a n (k+1)):=jH fun h=>by have:=W.rC a n (k+1) h (n-(k+1));rwa [show k+1+(n-(k+1))=n by omega]at this
   generalize W.all a n k=st at*
   have HPV:Hid (W.pv a k st=W.dw st.L st.H k k (a k k,st.f) k):=jH rfl
   have HRK:=jH HT.out.s.r
   clear q1 q2 q3 q4 q5
   go_wp2
   go_step3
   go_upto_region 7 with fail
   clear q0
   refine aC (fun w':World=>w'.cell? ⟨B+2,1,none⟩=some (.func (.func hk) #[] ch)) 11 (.take 0 (.take 1 (.take 2 (.take 3 (.take 4 (.run 5 (.run 6 (.take 7 (.take 8 (.take 9 (.take 10 .nil))))))))))) (by kernel_rfl) (by kernel_rfl) ?_
   replace HT:=jH (HT.out.below (aB _))
   replace HRK:=jH (HRK.out.below (aB _))
   generalize World.drew _=W5 at HT HRK ⊢
   repeat (refine tkL (v:= ?_) rfl rfl rfl (fun w' hSw=> ?_) (HRK.out.F_.cell 1) ?_;rotate_left;(focus (go_simp;with_reducible rfl));simp only [aF])
   refine aI rfl rfl fun K' hK=> ?_
   go_simp
   refine(aDx HFA.out k k hn HN.out.symm HT.out.s.i HT.out.s.x (WX.low fun _ m=>m) HT.out.s.r HL.out hlt (Nat.le_refl _) hlt).mono ?_
   rintro e1 W5v1 ⟨d,rfl,hd,hi1,hk1⟩
   rw [←HPV.out]at hd hi1
   replace HRK:=jH (HRK.out.kps hk1 (WX.low fun _ m=>m))
   replace HT:=jH (HT.out.step HFA.out.chg hi1 hk1)
   have HD:=jH hd
   clear hd hi1 hk1 HPV
   generalize W.pv a k st=pv at*
   obtain⟨dd,ff⟩:=pv
   try dsimp only at HD HT HBAD HGOOD
   refine hK _ _ (HRK.out.F_.cell 1) ?_
   clear hK K'
   try simp only [Act.put,aF]
   repeat (refine tkL (v:= ?_) rfl rfl rfl (fun w' hSw=> ?_) (HRK.out.F_.cell 1) ?_;rotate_left;(focus (go_simp;with_reducible rfl));simp only [aF])
   refine aI rfl rfl fun K' hK=> ?_
   go_simp
   refine(HFA.out.head d HT.out.s.i HT.out.s.x hlt HD.out).mono ?_
   rintro e1 W5v2 ⟨hv1,rfl,hr,hk1,hg1,hb1⟩
   generalize W.head (dd,ff)=hd at*
   obtain⟨hh,er⟩:=hd
   try dsimp only at hr hg1 hb1 HBAD HGOOD
   have HRH:=jH hr
   have HK1:=jH hk1
   have HG1:=jH hg1
   have HB1:=jH hb1
   replace HRK:=jH (HRK.out.kps hk1 (WX.low fun _ m=>m))
   clear hr hk1 hg1 hb1 HD
   refine hK _ _ (HRK.out.F_.cell 1) ?_
   clear hK K'
   try simp only [Act.put,aF]
   repeat (refine tkL (v:= ?_) rfl rfl rfl (fun w' hSw=> ?_) (HRK.out.F_.cell 1) ?_;rotate_left;(focus (go_simp;with_reducible rfl));simp only [aF])
   refine aN ?_
   simp only [drL]
   obtain⟨p,hp⟩:∃p,(er==0)=p:=⟨_,rfl⟩
   cases p
   ·have hne:er≠0:=by simpa using hp
    have HEND:Hid (W.all a n n=⟨st.L,st.H,ff,er,k⟩):=jH ((HSTOP.out (by rw [HBAD.out hne];exact hne)).trans (HBAD.out hne))
    clear HRK HG1
    go_wp2
    try rw [Exit.noGoto_ret]
    refine bodyPost_ret (v:= .tuple #[.slice none 0 0,.slice ho k hc,.int .i64 k,.int .i64 er]) (by simp [results,Tryz.results55,go_sem]) rfl (.inr ⟨by rw [HEND.out];exact hne,_,_,_,_,_,_,by rw [HEND.out],HFA.out.sub (HB1.out hne) (fun x hx=>by cases hx)⟩)
   ·obtain rfl:er=0:=by simpa using hp
    have HNX:=jH (HGOOD.out rfl)
    replace HG1:=jH (HG1.out rfl)
    clear hp HSTOP HBAD HGOOD HB1
    have HOW:=jH fun o=>(HT.out.o.kps HK1.out).later (Below.aA W5v2 o)
    have HNW:=jH fun W=>cell_one_new W (.float .f64 hv1) 35
    have HSZ:Hid (B+5≤W5v2.heap.size):=jH HRK.out.lt
    go_wp2_with (at_builtin;refine wpList_append_own_at _ rfl _ _ 23 rfl (B+5) 35 i0 (.float .f64 0) 1 8 Tryz.underlying23 hi hz0 hz1 hz2 rfl (by decide) _ _ _ rfl (HOW.out _) ⟨_,0,none⟩ 1 1 [.float .f64 hv1] rfl rfl (HNW.out _) ?c2 ?c3 ?c4 ?c5 ?_)
    case c2=>first|rfl|intro u hu;simp only [List.mem_singleton]at hu;subst hu;rfl
    case c3=>unfold maxLen;omega
    case c4=>omega
    case c5=>have:=HSZ.out;simp;omega
    intro v' U4 hown hgrow _ hat
    have HT2:=jH (HT.out.push HFA.out.chg HFA.out.new HFA.out.sub HG1.out HK1.out (Below.aA _ _) hgrow hown (by rw [size_alloc];exact hat) HRH.out)
    obtain⟨ao',cap',hv'⟩:=iM hown
    rw [hv']at HT2 ⊢
    clear hown hgrow hat hv' HNW HOW HSZ HT HK1 HG1 HRK
    generalize dJ st.H k hh=H1 at*
    generalize dJ hs k hv1=hs1 at*
    obtain⟨q0,q1,q2,q3,q4,q5⟩:=HT2.out.s.cells5
    go_wp2
    go_step3
    go_wp2
    go_loopw [46] (fun i wr=>∃(q:Nat) (vs:Nat→Nat),q≤n∧i= .int .i64 q∧Hid (aA5 n (W.rows a H1 hh k q (st.L,ff)).1 vs)∧Hid (WkT Inv (k+1) H1 (W.rows a H1 hh k q (st.L,ff)).2 wr B n N (.func (.func fk) #[] cf) (.func (.func lk) #[] cl) (.func (.func hk) #[] ch) (.func (.func ok) #[] co) vs (.slice ao' (k+1) cap') hs1)) (fun i _=>n-(intOf i).toNat)
    case atStart=>exact⟨0,vs,Nat.zero_le _,rfl,HL,HT2⟩
    case round=>
     clear HL HT2 q0 q1 q2 q3 q4 q5
     obtain⟨wo2,rfl⟩:∃wo:World,wo=wr:=⟨_,rfl⟩
     obtain⟨q,vs,hq,rfl,HL,HT⟩:=hrel
     obtain⟨q0,q1,q2,q3,q4,q5⟩:=HT.out.s.cells5
     by_cases hql:q<n
     ·by_cases hqk:q≤k
      ·have hd:decide ((q:Int)≤(k:Int))=true:=decide_eq_true (by omega)
       have hdn:decide (q≤k)=true:=decide_eq_true hqk
       have HSK:Hid (W.rows a H1 hh k (q+1) (st.L,ff)=W.rows a H1 hh k q (st.L,ff)):=jH ((W.oI a H1 hh k (st.L,ff) (q+1) (by omega)).trans (W.oI a H1 hh k (st.L,ff) q (by omega)).symm)
       clear hqk
       go_wp2
       go_roundw
       case rel=>exact⟨q+1,vs,by omega,by go_num,jH (by rw [HSK.out];exact HL.out),jH (by rw [HSK.out];exact HT.out)⟩
       case measure=>simp [intOf]<;>omega
      ·have hd:decide ((q:Int)≤(k:Int))=false:=decide_eq_false (by omega)
       have hdn:decide (q≤k)=false:=decide_eq_false hqk
       have HSS:=jH (W.zZ (a:=a) (H:=H1) (h:=hh) (s:=(st.L,ff)) (show k<q by omega))
       obtain⟨e1,e2⟩:=at_eq hn hql hlt
       have HP:Hid (q*n+k<N):=jH (by rw [←HN.out];exact jZ hql hlt)
       generalize W.rows a H1 hh k q (st.L,ff)=rs at*
       obtain⟨L2,f2⟩:=rs
       try dsimp only at HL HT HSS
       have HLS:=jH fun x v (h:Rep x v)=>HL.out.set (i:=q) hlt h
       generalize q*n+k=p at*
       generalize ((q*n:Nat):Int)=pi at*
       have HRK:=jH HT.out.s.r
       clear q1 q2 q3 hqk
       go_upto_region 15 with fail
       clear q0 q4 q5
       refine aC (fun w':World=>(w'.cell? ⟨B,0,none⟩=some (.int .i64 n)∧w'.cell? ⟨B+4,0,none⟩=some (.slice (some ⟨B+3,0,none⟩) N N))∧w'.cell? ⟨B+2,2,none⟩=some (.func (.func ok) #[] co)) 14 (.take 0 (.take 1 (.take 2 (.take 3 (.take 4 (.take 5 (.take 6 (.take 7 (.take 8 (.take 9 (.take 10 (.take 12 (.run 11 (.run 13 .nil)))))))))))))) (by kernel_rfl) (by kernel_rfl) ?_
       replace HT:=jH (HT.out.below (aB _))
       replace HRK:=jH (HRK.out.below (aB _))
       generalize World.drew _=W9 at HT HRK ⊢
       repeat (refine tkL (v:= ?_) rfl rfl rfl (fun w' hSw=> ?_) (And.intro ⟨HRK.out.n_.cell 0,HRK.out.l_.cell 0⟩ (HRK.out.F_.cell 2)) ?_;rotate_left;(focus (go_simp;with_reducible rfl));simp only [aF])
       refine aI rfl rfl fun K' hK=> ?_
       go_simp
       refine(aDx HFA.out q k hn HN.out.symm HT.out.s.i HT.out.s.x (WX.low fun _ m=>m) HT.out.s.r HL.out hql (Nat.le_succ _) hlt).mono ?_
       rintro e1 W9v1 ⟨d,rfl,hd2,hi1,hk1⟩
       replace HRK:=jH (HRK.out.kps hk1 (WX.low fun _ m=>m))
       replace HT:=jH (HT.out.step HFA.out.chg hi1 hk1)
       have HD:=jH hd2
       clear hd2 hi1 hk1
       generalize W.dw L2 H1 q k (a q k,f2) k=dw at*
       obtain⟨t0,f3⟩:=dw
       try dsimp only at HD HT HSS
       refine hK _ _ (And.intro ⟨HRK.out.n_.cell 0,HRK.out.l_.cell 0⟩ (HRK.out.F_.cell 2)) ?_
       clear hK K'
       try simp only [Act.put,aF]
       repeat (refine tkL (v:= ?_) rfl rfl rfl (fun w' hSw=> ?_) (And.intro ⟨HRK.out.n_.cell 0,HRK.out.l_.cell 0⟩ (HRK.out.F_.cell 2)) ?_;rotate_left;(focus (go_simp;with_reducible rfl));simp only [aF])
       refine aI rfl rfl fun K' hK=> ?_
       go_simp
       refine(HFA.out.over d hv1 HT.out.s.i HT.out.s.x HD.out HRH.out).mono ?_
       rintro e1 W9v2 ⟨y,rfl,hr,hi1,hk1⟩
       replace HRK:=jH (HRK.out.kps hk1 (WX.low fun _ m=>m))
       replace HT:=jH (HT.out.step HFA.out.chg hi1 hk1)
       have HY:=jH hr
       clear hr hi1 hk1 HD
       generalize W.over (t0,f3) hh=ov at*
       obtain⟨y0,f4⟩:=ov
       try dsimp only at HY HT HSS
       refine hK _ _ (And.intro ⟨HRK.out.n_.cell 0,HRK.out.l_.cell 0⟩ (HRK.out.F_.cell 2)) ?_
       clear hK K'
       try simp only [Act.put,aF]
       repeat (refine tkL (v:= ?_) rfl rfl rfl (fun w' hSw=> ?_) (And.intro ⟨HRK.out.n_.cell 0,HRK.out.l_.cell 0⟩ (HRK.out.F_.cell 2)) ?_;rotate_left;(focus (go_simp;with_reducible rfl));simp only [aF])
       refine aN ?_
       simp only [drL]
       clear e1 e2 hd hdn
       have p0:=HRK.out.g_.cell HP.out
       have p1:=HRK.out.g_.frozen p
       have HP1:=HP.out
       clear HRK
       go_wp2
       go_roundw
       case rel=>exact⟨q+1,dJ vs p y,by omega,by go_num,jH (by rw [HSS.out];exact HLS.out _ _ HY.out),jH (by rw [HSS.out];exact HT.out.set HP.out)⟩
       case measure=>simp [intOf]<;>omega
     ·obtain rfl:q=n:=by omega
      go_wp2
      go_simp
      go_wp2
      go_roundw
      case rel=>exact⟨k+1,vs,hs1,by omega,by go_num,jH (by rw [HNX.out]),jH (by rw [HNX.out];exact HL.out),jH (by rw [HNX.out];exact HT.out)⟩
      case measure=>simp [intOf]<;>omega
  ·obtain rfl:k=n:=by omega
   have hN:=HN.out
   subst hN
   go_wp2
   refine bodyPost_ret (v:= .tuple #[.slice (some ⟨B+3,0,none⟩) (k*k) (k*k),.slice ho k hc,.int .i64 0,.int .i64 0]) (by simp [results,Tryz.results55,go_sem]) rfl (.inl ⟨HE0.out,B+3,_,vs,hs,rfl,HT.out.s.r.g_,HL.out,HT.out.o.base (by omega),HT.out.h,by have:=HBS.out;omega,HFA.out.sub HT.out.s.i (fun x hx=>by rw [List.mem_singleton.1 hx];exact WX.low (fun _ m=>m) _ (by omega) (by omega))⟩)
end
section
open Go.RowKit
structure Way.Fit (W:Way Fo) (R:Fo→Prop):Prop where
 z:R W.zero∧iP W.zero=true
 less:∀H s a b k,R s.1→R a→R b→R (H k)→R (W.less H s a b k).1
 lessF:∀H s a b k,(W.less H s a b k).2=false→s.2=false∧iP (W.less H s a b k).1=true
 over:∀s h,R s.1→R h→R (W.over s h).1
 overF:∀s h,(W.over s h).2=false→s.2=false∧iP (W.over s h).1=true
 head:∀s,R s.1→(W.head s).2=0→R (W.head s).1∧(iP s.1=true→iP (W.head s).1=true)
section
variable {W : Way Fo} {R : Fo → Prop}
theorem Way.Fit.dw (h:W.Fit R) {L:Nat→Nat→Fo}{H:Nat→Fo}(hL:∀i j,R (L i j)) (hH:∀j,R (H j)) (i j:Nat) (s:Sp) (hs:R s.1):
  ∀m,R (W.dw L H i j s m).1∧((W.dw L H i j s m).2=false→s.2=false∧(iP s.1=true→iP (W.dw L H i j s m).1=true))
 |0=>⟨hs,fun e=>⟨e,fun e=>e⟩⟩
 | m+1=>by
  obtain⟨h1,h2⟩:=h.dw hL hH i j s hs m
  refine⟨h.less _ _ _ _ _ h1 (hL _ _) (hL _ _) (hH _),fun e=> ?_⟩
  obtain⟨e1,e2⟩:=h.lessF _ _ _ _ _ e
  exact⟨(h2 e1).1,fun _=>e2⟩
theorem Way.Fit.rows (h:W.Fit R) {a:Nat→Nat→Fo}{H:Nat→Fo}{v:Fo}(ha:∀i j,R (a i j)) (hH:∀j,R (H j)) (hv:R v) (j:Nat) (s:(Nat→Nat→Fo)×Bool) (hs:∀i j,R (s.1 i j)):
  ∀m,(∀i k,R ((W.rows a H v j m s).1 i k))∧((W.rows a H v j m s).2=false→s.2=false∧((∀i k,iP (s.1 i k)=true)→∀i k,iP ((W.rows a H v j m s).1 i k)=true))
 |0=>⟨hs,fun e=>⟨e,fun e=>e⟩⟩
 | m+1=>by
  obtain⟨h1,h2⟩:=h.rows ha hH hv j s hs m
  show(∀i k,R ((W.row a H v j m (W.rows a H v j m s)).1 i k))∧((W.row a H v j m (W.rows a H v j m s)).2=false→s.2=false∧((∀i k,iP (s.1 i k)=true)→∀i k,iP ((W.row a H v j m (W.rows a H v j m s)).1 i k)=true))
  generalize W.rows a H v j m s=q at*
  unfold Way.row
  by_cases hm:m≤j
  ·rw [if_pos hm];exact⟨h1,h2⟩
  ·rw [if_neg hm]
   obtain⟨d1,d2⟩:=h.dw h1 hH m j (a m j,q.2) (ha m j) j
   generalize W.dw q.1 H m j (a m j,q.2) j=d at*
   have h4:=h.over d v d1 hv
   have h5:=h.overF d v
   generalize W.over d v=o at*
   refine⟨fun i k=> ?_,fun e=> ?_⟩
   ·show R (aFt q.1 m j o.1 i k)
    by_cases hh:i=m∧k=j
    ·obtain⟨rfl,rfl⟩:=hh;rw [vT];exact h4
    ·rw [aBi hh];exact h1 i k
   ·obtain⟨e1,e2⟩:=h5 e
    have e3:=(d2 e1).1
    refine⟨(h2 e3).1,fun hf i k=> ?_⟩
    show iP (aFt q.1 m j o.1 i k)=true
    by_cases hh:i=m∧k=j
    ·obtain⟨rfl,rfl⟩:=hh;rw [vT];exact e2
    ·rw [aBi hh];exact(h2 e3).2 hf i k
theorem Way.Fit.all (h:W.Fit R) {a:Nat→Nat→Fo}(ha:∀i j,R (a i j)∧iP (a i j)=true) (n:Nat):
  ∀m,(W.all a n m).e=0→(∀i k,R ((W.all a n m).L i k))∧(∀k,R ((W.all a n m).H k))∧((W.all a n m).f=false→(∀i k,iP ((W.all a n m).L i k)=true)∧∀k,iP ((W.all a n m).H k)=true)
 |0,_=>⟨fun _ _=>h.z.1,fun _=>h.z.1,fun _=>⟨fun _ _=>h.z.2,fun _=>h.z.2⟩⟩
 | m+1,e=>by
  have h0:(W.all a n m).e=0:=by
   rw [W.all_succ]at e
   unfold Way.col at e
   by_cases h0:(W.all a n m).e=0
   ·exact h0
   ·rw [if_pos h0]at e;exact e
  obtain⟨h1,h2,h3⟩:=h.all ha n m h0
  by_cases hb:(W.head (W.pv a m (W.all a n m))).2=0
  ·have hg:=W.all_good h0 hb
   obtain⟨p1,p2⟩:=h.dw h1 h2 m m (a m m,(W.all a n m).f) (ha m m).1 m
   change R (W.pv a m (W.all a n m)).1 at p1
   change (W.pv a m (W.all a n m)).2=false→(W.all a n m).f=false∧(iP (a m m)=true→iP (W.pv a m (W.all a n m)).1=true)at p2
   obtain⟨q1,q2⟩:=h.head _ p1 hb
   rw [hg]
   generalize W.all a n m=st at*
   generalize W.pv a m st=pv at*
   generalize (W.head pv).1=hd at*
   have hH:∀j,R (dJ st.H m hd j):=fun j=>by
    by_cases e:j=m
    ·subst e;rw [eP];exact q1
    ·rw [iO e];exact h2 j
   obtain⟨r1,r2⟩:=h.rows (fun i j=>(ha i j).1) hH q1 m (st.L,pv.2) h1 n
   refine⟨r1,hH,fun hf=> ?_⟩
   obtain⟨f1,f2⟩:=r2 hf
   obtain⟨g1,g2⟩:=p2 f1
   obtain⟨k1,k2⟩:=h3 g1
   refine⟨f2 k1,fun k=> ?_⟩
   show iP (dJ st.H m hd k)=true
   by_cases e:k=m
   ·subst e;rw [eP];exact q2 (g2 (ha _ _).2)
   ·rw [iO e];exact k2 k
  ·rw [W.vX h0 hb]at e;exact absurd e hb
end
def wQ (o:Fo):Prop:=∃v,Rep o v
theorem wQ.op {op:BinOp}{a b:Fo}(w:World) (ha:wQ a) (hb:wQ b):wQ (oA op a b):=by
 obtain⟨u,hu⟩:=ha
 obtain⟨v,hv⟩:=hb
 exact⟨_,hu.op (op:=op) hv w⟩
theorem aMc {x:Nat}(h:posB x=true):aU x=false:=by
 cases hn:aU x
 ·rfl
 ·unfold posB at h
  rw [kT hn]at h;cases h
theorem aWe {x:Nat}(hx:W64 x) (h:posB x=true):0<ky x:=by
 have h2:=zQ hx (show W64 0 by decide) (aMc h) (by decide)
 have h3:(FloatKind.f64.format.order x 0==some Ordering.gt)=true:=h
 rw [h3]at h2
 have:=of_decide_eq_true h2.symm
 rwa [show ky 0=0 by decide]at this
theorem aKy {x:Nat}(hx:W64 x) (h:posB x=true):∃r,F6.sqrt x=some r∧W64 r∧aU r=false∧(aK x=true→aK r=true):=by
 have hn:=aMc h
 have hk:=aWe hx h
 cases hf:aK x
 ·obtain rfl:=aU0 hx hn hf (by omega)
  exact⟨aG,by decide,by decide,by decide,fun h=>by cases h⟩
 ·obtain⟨q,h1,h2,h3,-⟩:=aR5 hx hf (by omega)
  exact⟨q,h1,h2,jC h3,fun _=>h3⟩
theorem aUy {o:Fo}(hr:wQ o) (h:gtO o=true):wQ (sqO o)∧(iP o=true→iP (sqO o)=true):=by
 cases o with
 |none=>cases h
 | some x=>
  obtain⟨v,hv⟩:=hr
  have hx:W64 x:=by rw [←show v=x from hv.2];exact hv.1
  obtain⟨r,h1,h2,-,h4⟩:=aKy hx h
  have e:sqO (some x)=some r:=h1
  rw [e]
  exact⟨⟨r,h2,rfl⟩,h4⟩
theorem aVe :wQ (some 0):=⟨0,show 0<18446744073709551616 by decide,rfl⟩
theorem aUg {s:Sp}{a b:Fo}(h:(aAi s a b).2=false):s.2=false∧iP (aAi s a b).1=true:=⟨(kU (kU h).1).1,(kU h).2⟩
theorem aRb (w:World) {s:Sp}{a b:Fo}(h1:wQ s.1) (h2:wQ a) (h3:wQ b):wQ (aAi s a b).1:=wQ.op w h1 (wQ.op w h2 h3)
theorem aU1 (w:World):chW.Fit wQ where
 z:=⟨aVe,rfl⟩
 less:=fun _ _ _ _ _ h1 h2 h3 _=>aRb w h1 h2 h3
 lessF:=fun _ _ _ _ _ h=>aUg h
 over:=fun _ _ h1 h2=>wQ.op w h1 h2
 overF:=fun _ _ h=>kU h
 head:=fun s h1 h=>by
  have e:chW.head s=if s.2 then(some 0,5)else if gtO s.1 then(sqO s.1,0)else(some 0,90):=rfl
  rw [e]at h ⊢
  cases hs:s.2
  ·rw [hs]at h
   cases hg:gtO s.1
   ·rw [hg]at h;cases h
   ·exact aUy h1 hg
  ·rw [hs]at h;cases h
theorem aUw {n:Nat}{l:List Nat}(hx:∀x∈l,x<18446744073709551616) (hf:l.all aK=true) (i j:Nat):wQ (atO n l i j)∧iP (atO n l i j)=true:=by
 have h:atN n l i j=0∨atN n l i j∈l:=by
  unfold atN
  rw [List.getD_eq_getElem?_getD]
  rcases Nat.lt_or_ge (i*n+j) l.length with h|h
  ·rw [List.getElem?_eq_getElem h];exact .inr (List.getElem_mem h)
  ·rw [List.getElem?_eq_none h];exact .inl rfl
 rcases h with h|h
 ·unfold atO;rw [h];exact⟨aVe,rfl⟩
 ·exact⟨⟨_,hx _ h,rfl⟩,List.all_eq_true.1 hf _ h⟩
end
section
set_option maxRecDepth 100000
set_option maxHeartbeats 6400000
open Go.RowKit
attribute [local go_sem] bG
structure PsR (w0 W:World) (sb pb:Nat) (f:Bool):Prop where
 p:aJ W pb 92 #[.pointer (some ⟨sb,0,none⟩)]
 s:aJ W sb 94 #[.bool f]
 u:Upd sb w0 W
 ne:pb≠sb
theorem PsR.new {w:World}{sb pb:Nat}{f:Bool}(hp:aJ w pb 92 #[.pointer (some ⟨sb,0,none⟩)]) (hs:aJ w sb 94 #[.bool f]) (hn:pb≠sb):PsR w w sb pb f:=⟨hp,hs,Upd.refl _ _,hn⟩
theorem PsR.step {w0 W V:World}{sb pb:Nat}{f g:Bool}(h:PsR w0 W sb pb f) (hu:Upd sb W V) (hs:aJ V sb 94 #[.bool g]):PsR w0 V sb pb g:=⟨h.p.upd hu h.ne,hs,h.u.trans hu,h.ne⟩
theorem PsR.below {w0 W V:World}{sb pb:Nat}{f:Bool}(h:PsR w0 W sb pb f) (hb:Below W.heap.size W V):PsR w0 V sb pb f:=h.step (Upd.of_below hb) (h.s.below hb)
theorem aNc (sb pb k:Nat) (f:Bool) (z x y:Fo) (t u v:Nat) (w:World) (hp:aJ w pb 92 #[.pointer (some ⟨sb,0,none⟩)]) (hn:pb≠sb) (hs:aJ w sb 94 #[.bool f]) (ht:Rep z t) (hx:Rep x u) (hy:Rep y v):
  Calls Tryz.prog 115 #[.float .f64 t,.float .f64 u,.float .f64 v,.int .i64 k,.pointer (some ⟨pb,0,none⟩)] w (aC3 94 sb (aAi (z,f) x y).2 (aAi (z,f) x y).1 w):=by
 have HP:=jH (PsR.new hp hs hn)
 have HT:=jH ht
 have HX:=jH hx
 have HY:=jH hy
 have HO:Hid (aAi (z,f) x y=(oA .sub z (oA .mul x y),ovr (ovr f (oA .mul x y)) (oA .sub z (oA .mul x y)))):=jH rfl
 generalize aAi (z,f) x y=o at*
 clear hp hs hn ht hx hy
 go_enter Tryz.func115,Tryz.ntmps115
 go_upto_region 1 with fail
 refine aC (fun w':World=>w'.cell? ⟨pb,0,none⟩=some (.pointer (some ⟨sb,0,none⟩))) 6 (.take 0 (.take 1 (.take 2 (.take 3 (.take 4 (.run 5 .nil)))))) (by kernel_rfl) (by kernel_rfl) ?_
 replace HP:=jH (HP.out.below (aB _))
 generalize World.drew _=W5 at HP ⊢
 repeat (refine tkL (v:= ?_) rfl rfl rfl (fun w' hSw=> ?_) (HP.out.p.cell 0) ?_;rotate_left;(focus (go_simp;with_reducible rfl));simp only [aF])
 refine aI rfl rfl fun K' hK=> ?_
 go_simp
 refine(uG sb _ x y u v _ HP.out.s HX.out HY.out).mono ?_
 rintro e1 W5v1 ⟨p,rfl,hp,hs1,hu1⟩
 replace HP:=jH (HP.out.step hu1 hs1)
 have HM:=jH hp
 clear hp hs1 hu1
 refine hK _ _ (HP.out.p.cell 0) ?_
 clear hK K'
 try simp only [Act.put,aF]
 repeat (refine tkL (v:= ?_) rfl rfl rfl (fun w' hSw=> ?_) (HP.out.p.cell 0) ?_;rotate_left;(focus (go_simp;with_reducible rfl));simp only [aF])
 refine aN ?_
 simp only [drL]
 go_wp2_with fail
 refine(xI sb _ z _ t p _ HP.out.s HT.out HM.out).mono ?_
 rintro e7 w7 ⟨u2,rfl,hr,hs1,hu1⟩
 have HP2:=jH (HP.out.step hu1 hs1)
 have HR:=jH hr
 clear hr hs1 hu1
 go_wp2
 refine bodyPost_ret (v:= .float .f64 u2) (by simp [results,Tryz.results115,go_sem]) rfl ⟨u2,rfl,by rw [HO.out];exact HR.out,by rw [HO.out];exact HP2.out.s,HP2.out.u⟩
theorem aO3 (sb pb:Nat) (f:Bool) (z x:Fo) (t u:Nat) (w:World) (hp:aJ w pb 92 #[.pointer (some ⟨sb,0,none⟩)]) (hn:pb≠sb) (hs:aJ w sb 94 #[.bool f]) (ht:Rep z t) (hx:Rep x u):
  Calls Tryz.prog 117 #[.float .f64 t,.float .f64 u,.pointer (some ⟨pb,0,none⟩)] w (aC3 94 sb (ovr f (oA .quo z x)) (oA .quo z x) w):=by
 have hqo:∀ty,(binOp .quo ty (.float .f64 t) (.float .f64 u)).run Tryz.prog w= .ok (.float .f64 (fV .quo t u w)) (fN .quo t u w):=fun ty=>jA .quo (.inr (.inr (.inr rfl))) ty t u w
 have HQ:=jH (ht.op (op:= .quo) hx w)
 have HP:=jH ((PsR.new hp hs hn).below (rG .quo t u w))
 have q0:=hp.cell 0
 clear hp hs hn ht hx
 go_enter Tryz.func117,Tryz.ntmps117
 go_wp2_with fail
 clear hqo q0
 generalize fN .quo t u w=w1 at*
 generalize fV .quo t u w=q at*
 refine(uK sb _ _ q _ HP.out.s HQ.out).mono ?_
 rintro e7 w7 ⟨u2,rfl,hr,hs1,hu1⟩
 have HP2:=jH (HP.out.step hu1 hs1)
 have HR:=jH hr
 clear hr hs1 hu1
 go_wp2
 refine bodyPost_ret (v:= .float .f64 u2) (by simp [results,Tryz.results117,go_sem]) rfl ⟨u2,rfl,HR.out,HP2.out.s,HP2.out.u⟩
theorem aWb {d:Fo}{v:Nat}(h:Rep d v):(FloatKind.f64.format.order v 0==some Ordering.gt)=gtO d:=by
 cases d with
 |some x=>rw [show v=x from h.2];rfl
 | none=>
  have h2:aU v=true:=h.2
  have h3:FloatKind.f64.format.order v 0=none:=kT h2
  rw [h3];rfl
theorem aQ3 {d:Fo}{v:Nat}(h:Rep d v) (hg:gtO d=true):∃r,F6.sqrt v=some r∧Rep (sqO d) r:=by
 cases d with
 |none=>cases hg
 | some x=>
  have e:v=x:=h.2
  subst e
  obtain⟨r,h1,h2,-⟩:=aKy h.1 hg
  exact⟨r,h1,by rw [show sqO (some v)=some r from h1];exact⟨h2,rfl⟩⟩
theorem aXw :Rep (some 0) 0:=⟨show 0<18446744073709551616 by decide,rfl⟩
theorem aO1 (sb pb:Nat) (f:Bool) (d:Fo) (dv:Nat) (w:World) (hp:aJ w pb 92 #[.pointer (some ⟨sb,0,none⟩)]) (hs:aJ w sb 94 #[.bool f]) (hd:Rep d dv):
  Calls Tryz.prog 116 #[.float .f64 dv,.pointer (some ⟨pb,0,none⟩)] w fun e w'=>∃v,e= .returned (.tuple #[.float .f64 v,.int .i64 (chW.head (d,f)).2])∧Rep (chW.head (d,f)).1 v∧Below w.heap.size w w':=by
 have q0:=hp.cell 0
 have q1:=hs.cell 0
 have HG:=jH (aWb hd)
 have HSQ:=jH (fun h=>aQ3 hd h)
 have HO:Hid (chW.head (d,f)=if f then(some 0,5)else if gtO d then(sqO d,0)else(some 0,90)):=jH rfl
 generalize chW.head (d,f)=o at*
 generalize gtO d=g at*
 generalize sqO d=s at*
 clear hp hs hd
 cases f
 ·have hg:=HG.out
  cases g
  ·replace HO:Hid (o=(some 0,90)):=jH (by rw [HO.out];rfl)
   go_enter Tryz.func116,Tryz.ntmps116
   go_wp2
   refine bodyPost_ret (v:= .tuple #[.float .f64 0,.int .i64 90]) (by simp [results,Tryz.results116,go_sem]) rfl ⟨_,by rw [HO.out],by rw [HO.out];exact aXw,Below.refl _ _⟩
  ·replace HO:Hid (o=(s,0)):=jH (by rw [HO.out];rfl)
   obtain⟨r,h1,h2⟩:=HSQ.out rfl
   have HQ:=jH fun W=>aRo dv r h1 W
   have HR:=jH h2
   clear h1 h2 HSQ
   go_enter Tryz.func116,Tryz.ntmps116
   go_wp2_with fail
   refine(HQ.out _).mono ?_
   rintro e1 w1 ⟨rfl,hb1⟩
   have HB:=jH hb1
   clear hb1 q0 q1
   go_wp2
   refine bodyPost_ret (v:= .tuple #[.float .f64 r,.int .i64 0]) (by simp [results,Tryz.results116,go_sem]) rfl ⟨_,by rw [HO.out],by rw [HO.out];exact HR.out,HB.out⟩
 ·replace HO:Hid (o=(some 0,5)):=jH (by rw [HO.out];rfl)
  go_enter Tryz.func116,Tryz.ntmps116
  go_wp2
  refine bodyPost_ret (v:= .tuple #[.float .f64 0,.int .i64 5]) (by simp [results,Tryz.results116,go_sem]) rfl ⟨_,by rw [HO.out],by rw [HO.out];exact aXw,Below.refl _ _⟩
theorem aJi (n i k mb:Nat) (lv:Value) (l:List Nat) (w:World) (hm:aJ w mb 25 #[.int .i64 n,.int .i64 n,lv]) (hl:FSl w lv l) (hll:l.length=n*n) (hi:i<n) (hk:k<n):
  Calls Tryz.prog 56 #[.int .i64 i,.int .i64 k,.pointer (some ⟨mb,0,none⟩)] w (Gives (.float .f64 (atN n l i k)) w):=by
 have HA:=jH (aCt hl hll aA8 i k w hi hk (Below.refl _ _))
 obtain⟨q0,q1,q2,-⟩:=hm.cells3
 clear hm hl hll
 go_enter Tryz.func56,Tryz.ntmps56
 go_wp2_with fail
 refine HA.out.mono ?_
 rintro e1 w1 ⟨rfl,hb1⟩
 have HB:=jH hb1
 clear hb1 q0 q1 q2
 go_wp2
 go_ret
 exact⟨rfl,HB.out⟩
structure ChI (w0:World) (sb pb mb n:Nat) (lv:Value) (X:List Nat) (f:Bool) (W:World):Prop where
 s:aJ W sb 94 #[.bool f]
 p:aJ W pb 92 #[.pointer (some ⟨sb,0,none⟩)]
 m:aJ W mb 25 #[.int .i64 n,.int .i64 n,lv]
 b:Below w0.heap.size w0 W
 x:∀x∈X,w0.heap.size≤x∧x≠sb∧x≠pb∧x≠mb
 ne:pb≠sb∧mb≠sb∧w0.heap.size≤sb
theorem ChI.chg {w0:World}{sb pb mb n:Nat}{lv:Value}{X:List Nat}{f:Bool}{W V:World}(h:ChI w0 sb pb mb n lv X f W) (hc:ChX X W V):ChI w0 sb pb mb n lv X f V:=
 ⟨(hc.block sb h.s.lt (fun m=>(h.x sb m).2.1 rfl)).trans h.s,(hc.block pb h.p.lt (fun m=>(h.x pb m).2.2.1 rfl)).trans h.p,(hc.block mb h.m.lt (fun m=>(h.x mb m).2.2.2 rfl)).trans h.m,
  hc.below h.b h.b.size (fun x m=>(h.x x m).1),h.x,h.ne⟩
theorem ChI.new {w0:World}{sb pb mb n:Nat}{lv:Value}{X:List Nat}{f:Bool}{W:World}{y:Nat}(h:ChI w0 sb pb mb n lv X f W) (hy:W.heap.size≤y):ChI w0 sb pb mb n lv (y::X) f W:=
 ⟨h.s,h.p,h.m,h.b,fun x m=>by
  rcases List.mem_cons.1 m with rfl|m
  ·have h1:=h.s.lt
   have h2:=h.p.lt
   have h3:=h.m.lt
   have h4:=h.b.size
   omega
  ·exact h.x x m,h.ne⟩
theorem ChI.sub {w0:World}{sb pb mb n:Nat}{lv:Value}{X X':List Nat}{f:Bool}{W:World}(h:ChI w0 sb pb mb n lv X f W) (hs:∀x∈X',x∈X):ChI w0 sb pb mb n lv X' f W:=⟨h.s,h.p,h.m,h.b,fun x m=>h.x x (hs x m),h.ne⟩
theorem ChI.step {w0:World}{sb pb mb n:Nat}{lv:Value}{X:List Nat}{f g:Bool}{W V:World}(h:ChI w0 sb pb mb n lv X f W) (hX:∀x∈X,x<W.heap.size) (hu:Upd sb W V) (hs:aJ V sb 94 #[.bool g]):ChI w0 sb pb mb n lv X g V∧Kps X W V:=
 ⟨⟨hs,h.p.upd hu h.ne.1,h.m.upd hu h.ne.2.1,hu.below h.b h.ne.2.2 h.b.size,h.x,h.ne⟩,Kps.aI4 hu fun x m=>⟨(h.x x m).2.1,hX x m⟩⟩
theorem ChI.later {w0:World}{sb pb mb n:Nat}{lv:Value}{X:List Nat}{f:Bool}{W V:World}(h:ChI w0 sb pb mb n lv X f W) (hX:∀x∈X,x<W.heap.size) (hb:Below W.heap.size W V):ChI w0 sb pb mb n lv X f V∧Kps X W V:=h.step hX (Upd.of_below hb) (h.s.below hb)
theorem aC3.get {t sb:Nat}{f:Bool}{o:Fo}{w:World}{e:Ending}{w':World}(h:aC3 t sb f o w e w'):∃v,e= .returned (.float .f64 v)∧Rep o v∧aJ w' sb t #[.bool f]∧Upd sb w w':=h
theorem aWk {w0:World}{sb pb mb n:Nat}{lv:Value}{l:List Nat}(hl:FSl w0 lv l) (hll:l.length=n*n):
  Fac chW (atO n l) n 56 115 116 117 #[.pointer (some ⟨mb,0,none⟩)] #[.pointer (some ⟨pb,0,none⟩)] #[.pointer (some ⟨pb,0,none⟩)] #[.pointer (some ⟨pb,0,none⟩)] (fun X _ _ f W=>ChI w0 sb pb mb n lv X f W) where
 ef:=enters_of Tryz.func56 (by kernel_rfl) rfl
 el:=enters_of Tryz.func115 (by kernel_rfl) rfl
 eh:=enters_of Tryz.func116 (by kernel_rfl) rfl
 eo:=enters_of Tryz.func117 (by kernel_rfl) rfl
 chg:=fun h hc=>h.chg hc
 new:=fun h hy=>h.new hy
 sub:=fun h hs=>h.sub hs
 first:=fun {X j H f w} i k h hX hi hk=>(aJi n i k mb lv l w h.m (hl.below h.b) hll hi hk).mono fun e w' ⟨h1,h2⟩=>by
  obtain⟨a,b⟩:=h.later hX h2
  have hlt:atN n l i k<18446744073709551616:=by
   have hp:i*n+k<l.length:=by rw [hll];exact jZ hi hk
   rw [←zJ hp]
   obtain⟨_,_,_,_,_,hx,_⟩:=hl
   exact hx _ (List.getElem_mem hp)
  exact⟨_,h1,⟨hlt,rfl⟩,a,b⟩
 less:=fun {X j H f w t x y} k tv xv yv h hX _ ht hx hy=>(aNc sb pb k f t x y tv xv yv w h.p h.ne.1 h.s ht hx hy).mono fun e w' h2=>by
  obtain⟨v,h1,h3,h4,h5⟩:=h2.get
  obtain⟨a,b⟩:=h.step hX h5 h4
  exact⟨v,h1,h3,a,b⟩
 head:=fun {X j H f w d} dv h hX _ hd=>(aO1 sb pb f d dv w h.p h.s hd).mono fun e w' ⟨v,h1,h2,h3⟩=>by
  obtain⟨a,b⟩:=h.later hX h3
  exact⟨v,h1,h2,b,fun _=>a,fun _=>a⟩
 over:=fun {X j H f w t x} tv xv h hX ht hx=>(aO3 sb pb f t x tv xv w h.p h.ne.1 h.s ht hx).mono fun e w' h2=>by
  obtain⟨v,h1,h3,h4,h5⟩:=h2.get
  obtain⟨a,b⟩:=h.step hX h5 h4
  exact⟨v,h1,h3,a,b⟩
end
section
set_option maxRecDepth 100000
set_option maxHeartbeats 6400000
open Go.RowKit
theorem tJ {P:Program}(a:Addr) (fn:Fn) (x y:Array Value) (w:World) {m:Mode}:(store a (.func fn x y) m).run P w=stored P w a (.func fn x y) m:=run_store P w a _ m rfl
attribute [local go_sem] bG tJ
def aA1 (r:Int) (l:List Nat):WSt Fo:=chW.all (atO r.toNat l) r.toNat r.toNat
def jR (r c:Int) (l:List Nat):Int:=if iC r c l≠0 then iC r c l else((aA1 r l).res 5).1
def uM (r c:Int) (l:List Nat):Nat:=if iC r c l≠0 then 0 else((aA1 r l).res 5).2
def aOn (n:Nat) (L:Nat→Nat→Fo):List Nat:=(List.range (n*n)).map fun p=>aS3 (L (p/n) (p%n))
def nD (r c:Int) (l:List Nat):List Nat:=if jR r c l=0 then aOn r.toNat (dgL (aA1 r l).L (aA1 r l).H r.toNat)else []
def wY (r c:Int) (l:List Nat):Int:=if jR r c l=0 then r else 0
def ChA (E:Int) (P:Nat) (N:Int) (l:List Nat) (w:World) (e:Ending) (w':World):Prop:=
 ∃u,e= .returned (.tuple #[kG N N u,.int .i64 P,.int .i64 E])∧FSl w' u l∧(∀a c d,u= .slice (some a) c d→w.heap.size≤a.block)∧Below w.heap.size w w'
theorem FSl.none (w:World):FSl w (.slice none 0 0) []:=⟨_,0,rfl,Nat.le_refl _,Nat.zero_le _,fun _ h=>(by cases h),fun h=>absurd h (Nat.lt_irrefl _)⟩
structure ChB (w0 W:World) (r c:Int) (sl:Value):Prop where
 m:aJ W w0.heap.size 25 #[.int .i64 r,.int .i64 c,sl]
 q:aJ W (w0.heap.size+1) 25 #[.int .i64 0,.int .i64 0,.slice none 0 0]
 b:Below w0.heap.size w0 W
theorem ChB.new (w:World) (r c:Int) (sl:Value):ChB w ((w.alloc (.cells #[.int .i64 r,.int .i64 c,sl] 25)).alloc (.cells #[.int .i64 0,.int .i64 0,.slice none 0 0] 25)) r c sl:=⟨(aJ.new w _ _).alloc _,aJ.new1 w _ _ _,below2 w _ _⟩
theorem ChB.later {w0 W V:World}{r c:Int}{sl:Value}(h:ChB w0 W r c sl) (hb:Below W.heap.size W V):ChB w0 V r c sl:=⟨h.m.below hb,h.q.below hb,h.b.trans (hb.mono h.b.size)⟩
theorem ChB.aW8 {w0 W V:World}{B:Nat}{r c:Int}{sl:Value}(h:ChB w0 W r c sl) (hb:Below B W V) (hB:w0.heap.size+1<B):ChB w0 V r c sl:=
 ⟨(hb.block _ (by omega)).trans h.m,(hb.block _ (by omega)).trans h.q,h.b.trans (hb.mono (by omega))⟩
theorem ChB.cells {w0 W:World}{r c:Int}{sl:Value}(h:ChB w0 W r c sl):(W.cell? ⟨w0.heap.size,0,none⟩=some (.int .i64 r)∧W.cell? ⟨w0.heap.size,1,none⟩=some (.int .i64 c)∧W.cell? ⟨w0.heap.size,2,none⟩=some sl)∧
  (W.cell? ⟨w0.heap.size+1,0,none⟩=some (.int .i64 0)∧W.cell? ⟨w0.heap.size+1,1,none⟩=some (.int .i64 0)∧W.cell? ⟨w0.heap.size+1,2,none⟩=some (.slice none 0 0))∧W.frozen? ⟨w0.heap.size+1,0,none⟩=false∧W.frozen? ⟨w0.heap.size+1,1,none⟩=false∧W.frozen? ⟨w0.heap.size+1,2,none⟩=false:=
 ⟨⟨h.m.cell 0,h.m.cell 1,h.m.cell 2⟩,⟨h.q.cell 0,h.q.cell 1,h.q.cell 2⟩,h.q.frozen 0,h.q.frozen 1,h.q.frozen 2⟩
theorem uP {w0 W:World}{B:Nat}(h:Below B w0 W) (x:Nat) (hx:B≤x) (a b c:Value):Below B w0 (((W.setCell ⟨x,0,none⟩ a).setCell ⟨x,1,none⟩ b).setCell ⟨x,2,none⟩ c):=
 ((h.setCell (p:=⟨x,0,none⟩) hx a).setCell (p:=⟨x,1,none⟩) hx b).setCell (p:=⟨x,2,none⟩) hx c
theorem ChB.err {w0 W:World}{r c E:Int}{P:Nat}{sl:Value}(h:ChB w0 W r c sl):ChA E P 0 [] w0 (.returned (.tuple #[kG 0 0 (.slice none 0 0),.int .i64 P,.int .i64 E])) (((W.setCell ⟨w0.heap.size+1,0,none⟩ (.int .i64 0)).setCell ⟨w0.heap.size+1,1,none⟩ (.int .i64 0)).setCell ⟨w0.heap.size+1,2,none⟩ (.slice none 0 0)):=
 ⟨_,rfl,FSl.none _,(by intro a c d e;cases e),uP h.b _ (Nat.le_succ _) _ _ _⟩
theorem aRn {V:Type}(L:Nat→Nat→V) (D:Nat→V):dgL L D 0=L:=by
 funext i j
 exact if_neg (fun h=>Nat.not_lt_zero _ h.2)
theorem aQ2 {V:Type}(L:Nat→Nat→V) (D:Nat→V) (k:Nat):dgL L D (k+1)=aFt (dgL L D k) k k (D k):=by
 funext i j
 show(if i=j∧i<k+1 then D i else L i j)=if i=k∧j=k then D k else(if i=j∧i<k then D i else L i j)
 by_cases h:i=k∧j=k
 ·obtain⟨rfl,rfl⟩:=h
  rw [if_pos ⟨rfl,Nat.lt_succ_self _⟩,if_pos ⟨rfl,rfl⟩]
 ·rw [if_neg h]
  by_cases h2:i=j∧i<k
  ·rw [if_pos h2,if_pos ⟨h2.1,by omega⟩]
  ·rw [if_neg h2,if_neg (by omega)]
theorem aPm {W:World}{g i:Nat}{v:Value}{B:Nat}(hg:B≤g):Below B W (W.setCell ⟨g,i,none⟩ v):=Below.setCell (Below.refl B W) (p:=⟨g,i,none⟩) hg v
structure ChE (w0 W:World) (n g:Nat) (lv hv:Value) (hs vs:Nat→Nat) (L:Nat→Nat→Fo) (D:Nat→Fo) (k:Nat):Prop where
 B:ChB w0 W n n lv
 gm:FMs W g (n*n) vs
 low:aA5 n (dgL L D k) vs
 o:OwF W (g+1) hv n hs
 ne:w0.heap.size+1<g
theorem ChE.set {w0 W:World}{n g z:Nat}{lv hv:Value}{hs vs:Nat→Nat}{L:Nat→Nat→Fo}{D:Nat→Fo}{k:Nat}(h:ChE w0 W n g lv hv hs vs L D k) (hk:k<n) (hz:Rep (D k) z):ChE w0 (W.setCell ⟨g,k*n+k,none⟩ (.float .f64 z)) n g lv hv hs (dJ vs (k*n+k) z) L D (k+1):=by
 refine⟨h.B.aW8 (aPm (Nat.le_refl g)) h.ne,h.gm.set (jZ hk hk),by rw [aQ2];exact h.low.set hk hz,h.o.dY fun b hb=> ?_,h.ne⟩
 have h1:=(h.o.lt b hb).1
 exact(Upd.set (b:=g) (i:=k*n+k) (w:=W) (.float .f64 z)).block b (h.o.lt b hb).2 (by omega)
theorem aP2 {n:Nat}{L:Nat→Nat→Fo}{vs:Nat→Nat}(h:aA5 n L vs) (hf:∀i j,iP (L i j)=true):(List.range (n*n)).map vs=aOn n L:=by
 refine List.map_congr_left fun p hp=> ?_
 have hp:=List.mem_range.1 hp
 have hn:0<n:=by
  rcases Nat.eq_zero_or_pos n with h0|h0
  ·subst h0;simp at hp
  ·exact h0
 have h1:p/n<n:=Nat.div_lt_of_lt_mul hp
 have h2:=Nat.mod_lt p hn
 have h3:=(h (p/n) (p%n) h1 h2).bits (hf _ _)
 rwa [Nat.mul_comm,Nat.div_add_mod]at h3
theorem FMs.aX9 {W:World}{g n:Nat}{vs:Nat→Nat}{L:Nat→Nat→Fo}(h:FMs W g (n*n) vs) (hl:aA5 n L vs) (hf:∀i j,iP (L i j)=true) (hn:n≤12):FSl W (.slice (some ⟨g,0,none⟩) (n*n) (n*n)) (aOn n L):=by
 rw [←aP2 hl hf]
 refine h.fsl (by have:n*n≤12*12:=Nat.mul_le_mul hn hn;omega) fun p hp=> ?_
 have hn:0<n:=by
  rcases Nat.eq_zero_or_pos n with h0|h0
  ·subst h0;simp at hp
  ·exact h0
 have h1:p/n<n:=Nat.div_lt_of_lt_mul hp
 have h3:=(hl (p/n) (p%n) h1 (Nat.mod_lt p hn)).lt
 rwa [Nat.mul_comm,Nat.div_add_mod]at h3
theorem ChE.done {w0 W:World}{n g:Nat}{lv hv:Value}{hs vs:Nat→Nat}{L:Nat→Nat→Fo}{D:Nat→Fo}(h:ChE w0 W n g lv hv hs vs L D n) (hf:∀i j,iP (dgL L D n i j)=true) (hn:n≤12):
  ChA 0 0 n (aOn n (dgL L D n)) w0 (.returned (.tuple #[kG n n (.slice (some ⟨g,0,none⟩) (n*n) (n*n)),.int .i64 0,.int .i64 0])) (((W.setCell ⟨w0.heap.size+1,0,none⟩ (.int .i64 n)).setCell ⟨w0.heap.size+1,1,none⟩ (.int .i64 n)).setCell ⟨w0.heap.size+1,2,none⟩ (.slice (some ⟨g,0,none⟩) (n*n) (n*n))):=by
 have hne:=h.ne
 have hg:FMs (((W.setCell ⟨w0.heap.size+1,0,none⟩ (.int .i64 n)).setCell ⟨w0.heap.size+1,1,none⟩ (.int .i64 n)).setCell ⟨w0.heap.size+1,2,none⟩ (.slice (some ⟨g,0,none⟩) (n*n) (n*n))) g (n*n) vs:=
  ((h.gm.upd (Upd.set (b:=w0.heap.size+1) _) (by omega)).upd (Upd.set (b:=w0.heap.size+1) _) (by omega)).upd (Upd.set (b:=w0.heap.size+1) _) (by omega)
 exact⟨_,rfl,hg.aX9 h.low hf hn,(by intro a c d e;cases e;show w0.heap.size≤g;omega),uP h.B.b _ (Nat.le_succ _) _ _ _⟩
theorem aMw {r c:Int}{l:List Nat}(h:iC r c l≠0):jR r c l=iC r c l∧uM r c l=0∧nD r c l=[]∧wY r c l=0:=by
 have h1:jR r c l=iC r c l:=if_pos h
 refine⟨h1,if_pos h,?_,?_⟩
 ·unfold nD;rw [h1,if_neg h]
 ·unfold wY;rw [h1,if_neg h]
theorem aCw {r c:Int}{l:List Nat}(h:iC r c l=0):∃n:Nat,r=n∧c=n∧Sq n n n l∧wI n l:=by
 rw [aVt]at h
 cases h1:lQ r c l==0
 ·rw [h1]at h
  have:=beq_eq_false_iff_ne.1 h1
  exact absurd h this
 ·rw [h1]at h
  cases h2:r==c
  ·rw [h2]at h;cases h
  ·rw [h2]at h
   obtain⟨n,rfl,rfl,hq⟩:=aVr h1 h2
   refine⟨n,rfl,rfl,hq,?_⟩
   by_cases h4:wI n l
   ·exact h4
   ·rw [show((n:Int).toNat)=n from rfl,decide_eq_false h4]at h;cases h
theorem aQa {n:Nat}{l:List Nat}(h:iC n n l=0) (er:Int) (pl:Nat) (he:((chW.all (atO n l) n n).res 5)=(er,pl)):
  jR n n l=er∧uM n n l=pl∧(er≠0→nD n n l=[]∧wY n n l=0)∧(er=0→nD n n l=aOn n (dgL (chW.all (atO n l) n n).L (chW.all (atO n l) n n).H n)∧wY n n l=n):=by
 have h1:jR n n l=er:=by unfold jR aA1;rw [if_neg (fun t=>t h)];simp only [Int.toNat_natCast];rw [he]
 refine⟨h1,?_,fun h2=>⟨?_,?_⟩,fun h2=>⟨?_,?_⟩⟩
 ·unfold uM aA1;rw [if_neg (fun t=>t h)];simp only [Int.toNat_natCast];rw [he]
 ·unfold nD;rw [h1,if_neg h2]
 ·unfold wY;rw [h1,if_neg h2]
 ·unfold nD;rw [h1,if_pos h2];rfl
 ·unfold wY;rw [h1,if_pos h2]
theorem aXc {L:Nat→Nat→Fo}{D:Nat→Fo}{n:Nat}(h1:∀i k,iP (L i k)=true) (h2:∀k,iP (D k)=true) (i j:Nat):iP (dgL L D n i j)=true:=by
 unfold dgL;split
 ·exact h2 i
 ·exact h1 i j
theorem FSl.aKv {w:World}{v:Value}{l:List Nat}(h:FSl w v l):∀x∈l,x<18446744073709551616:=by obtain⟨_,_,_,_,_,hx,_⟩:=h;exact hx
theorem aGc (p:Nat) (e:Int) (w:World):Calls Tryz.prog 58 #[.int .i64 p,.int .i64 e] w (Gives (.tuple #[.int .i64 (((if e=5 then 0 else p):Nat):Int),.int .i64 e]) w):=by
 by_cases h:e=5
 ·subst h
  go_enter Tryz.func58,Tryz.ntmps58
  go_wp2
  go_ret2
  exact⟨rfl,Below.refl _ _⟩
 ·have h1:=beq_eq_false_iff_ne.2 h
  rw [if_neg h]
  clear h
  go_enter Tryz.func58,Tryz.ntmps58
  go_wp2
  go_ret2
  exact⟨rfl,Below.refl _ _⟩
theorem aR7 (sb:Nat) (w:World):Calls Tryz.prog 57 #[.pointer (some ⟨sb,0,none⟩)] w fun e w'=>e= .returned (.agg #[.func (.func 115) #[] #[.pointer (some ⟨w.heap.size,0,none⟩)],.func (.func 116) #[] #[.pointer (some ⟨w.heap.size,0,none⟩)],.func (.func 117) #[] #[.pointer (some ⟨w.heap.size,0,none⟩)]])∧aJ w' w.heap.size 92 #[.pointer (some ⟨sb,0,none⟩)]∧Below w.heap.size w w':=by
 go_enter Tryz.func57,Tryz.ntmps57
 go_wp2
 refine bodyPost_ret (v:= .agg #[.func (.func 115) #[] #[.pointer (some ⟨w.heap.size,0,none⟩)],.func (.func 116) #[] #[.pointer (some ⟨w.heap.size,0,none⟩)],.func (.func 117) #[] #[.pointer (some ⟨w.heap.size,0,none⟩)]]) (by simp [results,Tryz.results57,go_sem]) rfl ⟨rfl,(aJ.new w _ _).alloc _,below2 w _ _⟩
theorem WalkA.shape {W:Way Fo}{a:Nat→Nat→Fo}{n:Nat}{Inv:List Nat→Nat→(Nat→Fo)→Bool→World→Prop}{w:World}{e:Ending}{w':World}(h:WalkA W a n Inv w e w'):
  ∃(lo:Option Addr) (ll lc:Nat) (ho:Option Addr) (hl hc pl:Nat),e= .returned (.tuple #[.slice lo ll lc,.slice ho hl hc,.int .i64 pl,.int .i64 (W.all a n n).e])∧(∃X j H f,Inv X j H f w')∧
   (((W.all a n n).e=0∧∃g vs hs,lo=some ⟨g,0,none⟩∧ll=n*n∧lc=n*n∧n=hl∧pl=0∧FMs w' g (n*n) vs∧aA5 n (W.all a n n).L vs∧OwF w' (g+1) (.slice ho n hc) n hs∧xJ n (W.all a n n).H hs∧w.heap.size≤g∧Inv [g] n (W.all a n n).H (W.all a n n).f w')∨((W.all a n n).e≠0∧(W.all a n n).p=pl)):=by
 rcases h with ⟨h0,g,hv,vs,hs,rfl,h1,h2,h3,h4,h5,h6⟩|⟨h0,ho,hl,hc,j,H,f,rfl,h2⟩
 ·obtain⟨ho,hc,rfl⟩:=h3.shape
  exact⟨_,_,_,ho,n,hc,0,by rw [h0];rfl,⟨_,_,_,_,h6⟩,.inl ⟨h0,g,vs,hs,rfl,rfl,rfl,rfl,rfl,h1,h2,h3,h4,h5,h6⟩⟩
 ·exact⟨_,_,_,ho,hl,hc,_,rfl,⟨_,_,_,_,h2⟩,.inr ⟨h0,rfl⟩⟩
theorem aUz {V:Type}{s:WSt V}(h:s.e≠0):s.res 5=(s.e,if s.e=5 then 0 else s.p):=by unfold WSt.res;rw [if_neg h]
theorem aQr {V:Type}{s:WSt V}(h:s.e=0) (hf:s.f=true):s.res 5=(5,0):=by unfold WSt.res;rw [if_pos h,hf];rfl
theorem aWd {V:Type}{s:WSt V}(h:s.e=0) (hf:s.f=false):s.res 5=(0,0):=by unfold WSt.res;rw [if_pos h,hf];rfl
theorem aGe (r c:Int) (sl:Value) (l:List Nat) (w:World) (hl:FSl w sl l):
  Calls Tryz.prog 15 #[kG r c sl] w (ChA (jR r c l) (uM r c l) (wY r c l) (nD r c l) w):=by
 have HB:=jH (ChB.new w r c sl)
 have HLW:=jH fun W (hb:Below w.heap.size w W)=>hl.below hb
 have HSQ:=jH (tY r c sl l _ (hl.below (below2 w (.cells #[.int .i64 r,.int .i64 c,sl] 25) (.cells #[.int .i64 0,.int .i64 0,.slice none 0 0] 25))))
 by_cases h0:iC r c l=0
 ·obtain⟨n,rfl,rfl,hq,-⟩:=aCw h0
  have HEND:=jH (fun er pl he=>aQa h0 er pl he)
  rw [h0]at HSQ
  have HFA:=jH fun W (sb pb:Nat) (hb:Below w.heap.size w W)=>aWk (w0:=W) (sb:=sb) (pb:=pb) (mb:=w.heap.size) (hl.below hb) hq.len
  have HFIT:=jH ((aU1 w).all (a:=atO n l) (fun i j=>aUw hl.aKv hq.fin i j) n n)
  have hn:=hq.hn
  clear h0 hq hl HLW
  generalize jR n n l=E at*
  generalize uM n n l=P at*
  generalize wY n n l=N at*
  generalize nD n n l=R at*
  generalize atO n l=a at*
  obtain⟨⟨m0,m1,m2⟩,⟨q0,q1,q2⟩,f0,f1,f2⟩:=HB.out.cells
  go_enter Tryz.func15,Tryz.ntmps15
  go_wp2_with fail
  refine HSQ.out.mono ?_
  rintro e1 w1 ⟨rfl,hb1⟩
  replace HB:=jH (HB.out.later hb1)
  clear hb1 m0 m1 m2 q0 q1 q2 f0 f1 f2 HSQ
  have HB1:=jH HB.out
  obtain⟨⟨m0,m1,m2⟩,⟨q0,q1,q2⟩,f0,f1,f2⟩:=HB.out.cells
  go_upto_region 5 with fail
  clear m0 m1 m2 q0 q1 q2 f0 f1 f2
  have HSB:=jH (aJ.new w1 #[.bool false] 94)
  have HSS:Hid (w.heap.size+1<w1.heap.size):=jH HB.out.q.lt
  have HBL:=jH (Below.aA w1 (.cells #[.bool false] 94))
  replace HB:=jH (HB.out.later (Below.aA w1 (.cells #[.bool false] 94)))
  obtain⟨sb,hsb⟩:∃b,w1.heap.size=b:=⟨_,rfl⟩
  have HSN:=jH hsb
  rw [hsb]at HSB HSS ⊢
  generalize World.alloc w1 _=W1 at*
  clear hsb
  refine aC (fun w':World=>w'.cell? ⟨w.heap.size,0,none⟩=some (.int .i64 n)) 14 (.take 0 (.take 1 (.take 2 (.take 3 (.run 4 (.run 5 (.take 6 (.take 7 (.take 8 (.take 9 (.take 10 (.take 11 (.take 12 (.take 13 .nil)))))))))))))) (by kernel_rfl) (by kernel_rfl) ?_
  replace HB:=jH (HB.out.later (aB _))
  replace HSB:=jH (HSB.out.below (aB _))
  replace HBL:=jH (HBL.out.trans ((aB _).mono HBL.out.size))
  generalize World.drew _=W5 at HB HSB HBL ⊢
  repeat (refine tkL (v:= ?_) rfl rfl rfl (fun w' hSw=> ?_) (HB.out.m.cell 0) ?_;rotate_left;(focus (go_simp;with_reducible rfl));simp only [aF])
  refine aI rfl rfl fun K' hK=> ?_
  go_simp
  refine(aR7 sb _).mono ?_
  have HPN:=jH HSB.out.lt
  obtain⟨pb,hpe⟩:∃b,W5.heap.size=b:=⟨_,rfl⟩
  rw [hpe]at HPN
  rintro e1 W5v1 ⟨rfl,hpb,hb1⟩
  rw [hpe]at hpb ⊢
  clear hpe
  replace HBL:=jH (HBL.out.trans (hb1.mono HBL.out.size))
  replace HB:=jH (HB.out.later hb1)
  replace HSB:=jH (HSB.out.below hb1)
  have HPB:=jH hpb
  clear hpb
  refine hK _ _ (HB.out.m.cell 0) ?_
  clear hK K' hb1
  try simp only [Act.put,aF]
  repeat (refine tkL (v:= ?_) rfl rfl rfl (fun w' hSw=> ?_) (HB.out.m.cell 0) ?_;rotate_left;(focus (go_simp;with_reducible rfl));simp only [aF])
  refine aI rfl rfl fun K' hK=> ?_
  go_simp
  have HI:Hid (ChI w1 sb pb w.heap.size n sl [] false W5v1):=jH ⟨HSB.out,HPB.out,HB.out.m,HBL.out,fun x h=>(by cases h),by have:=HPN.out;omega,by have:=HSS.out;omega,by rw [HSN.out];exact Nat.le_refl _⟩
  have hw2:=HFA.out w1 sb pb HB1.out.b
  refine(walk_any (HFA.out w1 sb pb HB1.out.b) _ rfl hn HI.out).mono ?_
  rintro e1 W5v2 hA
  obtain⟨lo,ll,lc,ho,hl,hc,pl,rfl,⟨X,j0,H0,f0,hI⟩,hO⟩:=hA.shape
  replace HB:=jH (HB1.out.later hI.b)
  have HO:=jH hO
  have HSN2:Hid (w.heap.size+1<W5v1.heap.size):=jH (by have:=HSS.out;have:=HSB.out.lt;omega)
  clear hA hI hO X j0 H0 f0 HI HSB HPB HPN
  generalize chW.all a n n=st at*
  refine hK _ _ (HB.out.m.cell 0) ?_
  clear hK K'
  try simp only [Act.put,aF]
  repeat (refine tkL (v:= ?_) rfl rfl rfl (fun w' hSw=> ?_) (HB.out.m.cell 0) ?_;rotate_left;(focus (go_simp;with_reducible rfl));simp only [aF])
  refine aN ?_
  simp only [drL]
  clear HFA HBL HSS HSN HB1 hw2
  obtain⟨L0,H0,f0,e0,p0⟩:=st
  rcases HO.out with ⟨h0,g,vs,hs,rfl,rfl,rfl,rfl,rfl,hg,hL,hOw,hR,hge,hI⟩|⟨h0,rfl⟩
  ·obtain rfl:e0=0:=h0
   have hsc:=hI.s.cell 0
   clear HO
   cases f0
   ·obtain⟨rfl,rfl,-,hE⟩:=HEND.out 0 0 (aWd rfl rfl)
    obtain⟨rfl,rfl⟩:=hE rfl
    have HF:=jH ((HFIT.out rfl).2.2 rfl)
    have HRH:=jH hR
    have HD:Hid (ChE w W5v2 n g sl (.slice ho n hc) hs vs L0 H0 0):=jH ⟨HB.out,hg,by rw [aRn];exact hL,hOw,by have:=HSN2.out;omega⟩
    clear HEND HFIT hg hL hOw hR hge hI HB
    go_wp2
    clear hsc
    go_loopw [53] (fun i wr=>∃(k:Nat) (vs:Nat→Nat),k≤n∧i= .int .i64 k∧Hid (ChE w wr n g sl (.slice ho n hc) hs vs L0 H0 k)) (fun i _=>n-(intOf i).toNat)
    case atStart=>exact⟨0,vs,Nat.zero_le _,rfl,HD⟩
    case round=>
     clear HD
     obtain⟨k,vs,hk,rfl,HD⟩:=hrel
     by_cases hlt:k<n
     ·obtain⟨g2,rfl,hck,-⟩:=HD.out.o.cell hlt
      obtain⟨e1,e2⟩:=at_eq hn hlt hlt
      have m0:=HD.out.B.m.cell 0
      have HP:=jH (jZ hlt hlt)
      have HZ:=jH (HRH.out k hlt)
      have hp1:k*n+k<n*n:=HP.out
      have p0:=HD.out.gm.cell hp1
      have p1:=HD.out.gm.frozen (k*n+k)
      have HSE:=jH (HD.out.set hlt HZ.out)
      generalize hNN:n*n=NN at*
      generalize hpp:k*n+k=p at*
      generalize ((k*n:Nat):Int)=pi at*
      generalize hs k=hz at*
      go_wp2
      go_roundw
      case rel=>exact⟨k+1,_,by omega,by go_num,HSE⟩
      case measure=>simp [intOf]<;>omega
     ·obtain rfl:k=n:=by omega
      have HDN:=jH (HD.out.done (aXc HF.out.1 HF.out.2) hn)
      obtain⟨⟨m0,m1,m2⟩,⟨q0,q1,q2⟩,f0,f1,f2⟩:=HD.out.B.cells
      clear HD
      go_wp2
      exact bodyPost_ret (v:= .tuple #[kG k k (.slice (some ⟨g,0,none⟩) (k*k) (k*k)),.int .i64 0,.int .i64 0]) (by simp [results,Tryz.results15,go_sem,q0,q1,q2]) rfl HDN.out
   ·obtain⟨rfl,rfl,hE,-⟩:=HEND.out 5 0 (aQr rfl rfl)
    obtain⟨rfl,rfl⟩:=hE (by decide)
    clear HEND HFIT hg hL hOw hR hge hI
    obtain⟨⟨m0,m1,m2⟩,⟨q0,q1,q2⟩,f0,f1,f2⟩:=HB.out.cells
    clear m0 m1 m2 q0 q1 q2 f0 f1 f2
    go_wp2_with fail
    refine(aGc 0 5 _).mono ?_
    rintro e9 w9 ⟨rfl,hb1⟩
    replace HB:=jH (HB.out.later hb1)
    clear hb1
    obtain⟨⟨m0,m1,m2⟩,⟨q0,q1,q2⟩,f0,f1,f2⟩:=HB.out.cells
    go_wp2
    exact bodyPost_ret (v:= .tuple #[kG 0 0 (.slice none 0 0),.int .i64 ((0:Nat):Int),.int .i64 5]) (by simp [results,Tryz.results15,go_sem,q0,q1,q2]) rfl HB.out.err
  ·have hp:(e0==0)=false:=beq_eq_false_iff_ne.2 h0
   obtain⟨hE1,hP,hE,-⟩:=HEND.out _ _ (aUz h0)
   obtain⟨rfl,rfl⟩:=hE h0
   change E=e0 at hE1
   change P=(if e0=5 then 0 else p0)at hP
   subst hE1
   have HTO:Hid (∀W,Calls Tryz.prog 58 #[.int .i64 p0,.int .i64 E] W (Gives (.tuple #[.int .i64 P,.int .i64 E]) W)):=jH fun W=>by rw [hP];exact aGc p0 E W
   clear HEND HFIT HO h0 hP
   obtain⟨⟨m0,m1,m2⟩,⟨q0,q1,q2⟩,f0,f1,f2⟩:=HB.out.cells
   clear m0 m1 m2 q0 q1 q2 f0 f1 f2
   go_wp2_with fail
   refine(HTO.out _).mono ?_
   rintro e9 w9 ⟨rfl,hb1⟩
   replace HB:=jH (HB.out.later hb1)
   clear hb1
   obtain⟨⟨m0,m1,m2⟩,⟨q0,q1,q2⟩,f0,f1,f2⟩:=HB.out.cells
   go_wp2
   exact bodyPost_ret (v:= .tuple #[kG 0 0 (.slice none 0 0),.int .i64 P,.int .i64 E]) (by simp [results,Tryz.results15,go_sem,q0,q1,q2]) rfl HB.out.err
 ·obtain⟨e1,e2,e3,e4⟩:=aMw h0
  rw [e1,e2,e3,e4]
  have hp:=beq_eq_false_iff_ne.2 h0
  generalize iC r c l=k at*
  clear hl h0 e1 e2 e3 e4 HLW
  obtain⟨⟨m0,m1,m2⟩,⟨q0,q1,q2⟩,f0,f1,f2⟩:=HB.out.cells
  go_enter Tryz.func15,Tryz.ntmps15
  go_wp2_with fail
  refine HSQ.out.mono ?_
  rintro e1 w1 ⟨rfl,hb1⟩
  replace HB:=jH (HB.out.later hb1)
  clear hb1 m0 m1 m2 q0 q1 q2 f0 f1 f2 HSQ
  obtain⟨⟨m0,m1,m2⟩,⟨q0,q1,q2⟩,f0,f1,f2⟩:=HB.out.cells
  go_wp2
  exact bodyPost_ret (v:= .tuple #[kG 0 0 (.slice none 0 0),.int .i64 ((0:Nat):Int),.int .i64 k]) (by simp [results,Tryz.results15,go_sem,q0,q1,q2]) rfl HB.out.err
end
end Go.Proofs.YtfmecpembnmnkaaGreatDoor
