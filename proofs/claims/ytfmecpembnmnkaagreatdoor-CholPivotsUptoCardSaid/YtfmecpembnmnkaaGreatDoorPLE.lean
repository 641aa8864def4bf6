/- Walk: the closure of the walk over intervals. Printed by wip/gen/ch13.py. -/
import Derived.Test.YtfmecpembnmnkaaGreatDoorPLC
import Derived.Test.YtfmecpembnmnkaaGreatDoorPIM
import Derived.Deep.CutRange
import Derived.WalkMore
namespace Go.Proofs.YtfmecpembnmnkaaGreatDoor
section
set_option maxRecDepth 100000
set_option maxHeartbeats 6400000
open Go.RowKit
attribute [local go_sem] bG
abbrev Iv :=Nat×Nat
abbrev IvV (x:Iv):Value:= .agg #[.float .f64 x.1,.float .f64 x.2]
def IW (x:Iv):Prop:=W64 x.1∧W64 x.2
abbrev IB (w:World) (b:Nat) (x:Iv):Prop:=aJ w b 37 #[.float .f64 x.1,.float .f64 x.2]
theorem IB.two {w:World}{b:Nat}{x:Iv}(h:IB w b x):w.cell? ⟨b,0,none⟩=some (.float .f64 x.1)∧w.cell? ⟨b,1,none⟩=some (.float .f64 x.2):=⟨aJ.cell h 0,aJ.cell h 1⟩
theorem IB.thaw {w:World}{b:Nat}{x:Iv}(h:IB w b x):w.frozen? ⟨b,0,none⟩=false∧w.frozen? ⟨b,1,none⟩=false:=⟨aJ.frozen h 0,aJ.frozen h 1⟩
abbrev jD (w:World) (b:Nat) (y:Iv):World:=(w.setCell ⟨b,0,none⟩ (.float .f64 y.1)).setCell ⟨b,1,none⟩ (.float .f64 y.2)
theorem IB.put {w:World}{b:Nat}{x:Iv}(h:IB w b x) (y:Iv):IB (jD w b y) b y:=(aJ.set (i:=0) h (.float .f64 y.1)).set (i:=1) (.float .f64 y.2)
theorem jL (w:World) (b:Nat) (y:Iv):Upd b w (jD w b y):=Upd.set (b:=b) (i:=0) (.float .f64 y.1)|>.trans (Upd.set (b:=b) (i:=1) (.float .f64 y.2))
def FM2 (W:World) (g N:Nat) (us:Nat→Iv):Prop:=∃cur:Array Value,W.heap[g]? =some (.cells cur 37 (0,0))∧cur.size=N*2∧∀i,i<N→cur[i*2]? =some (.float .f64 (us i).1)∧cur[i*2+1]? =some (.float .f64 (us i).2)
theorem FM2.lt {W:World}{g n:Nat}{us:Nat→Iv}(h:FM2 W g n us):g<W.heap.size:=by
 obtain⟨cur,h1,-⟩:=h
 exact(Array.getElem?_eq_some_iff.1 h1).1
theorem FM2.cell {W:World}{g n i:Nat}{us:Nat→Iv}(h:FM2 W g n us) (hi:i<n):W.cell? ⟨g,i*2,none⟩=some (.float .f64 (us i).1)∧W.cell? ⟨g,i*2+1,none⟩=some (.float .f64 (us i).2):=by
 obtain⟨cur,h1,-,h5⟩:=h
 rw [cell_of_row W g _ cur _ _ h1,cell_of_row W g _ cur _ _ h1]
 exact h5 i hi
theorem FM2.frozen {W:World}{g n:Nat}{us:Nat→Iv}(h:FM2 W g n us) (i:Nat):W.frozen? ⟨g,i,none⟩=false:=by
 obtain⟨cur,h1,-⟩:=h
 exact frozen_of_row W g i cur _ h1
theorem FM2.set {W:World}{g n i:Nat}{x:Iv}{us:Nat→Iv}(h:FM2 W g n us) (hi:i<n):FM2 ((W.setCell ⟨g,i*2,none⟩ (.float .f64 x.1)).setCell ⟨g,i*2+1,none⟩ (.float .f64 x.2)) g n (dJ us i x):=by
 obtain⟨cur,h1,h2,h5⟩:=h
 refine⟨(cur.setIfInBounds (i*2) (.float .f64 x.1)).setIfInBounds (i*2+1) (.float .f64 x.2),heap_setCell_same _ g _ _ _ _ (heap_setCell_same W g _ cur _ _ h1),by simpa using h2,fun j hj=> ?_⟩
 obtain⟨a,b⟩:=h5 j hj
 simp only [Array.getElem?_setIfInBounds,Array.size_setIfInBounds]
 by_cases e:j=i
 ·subst e
  rw [eP,if_neg (by omega),if_pos rfl,if_pos (by omega),if_pos rfl,if_pos (by omega)]
  exact⟨rfl,rfl⟩
 ·rw [iO e,if_neg (by omega),if_neg (by omega),if_neg (by omega),if_neg (by omega)]
  exact⟨a,b⟩
theorem FM2.of_block {W V:World}{g n:Nat}{us:Nat→Iv}(h:FM2 W g n us) (e:V.heap[g]? =W.heap[g]?):FM2 V g n us:=by
 obtain⟨cur,h1,h2⟩:=h
 exact⟨cur,e.trans h1,h2⟩
theorem FM2.made (W:World) (n:Nat):FM2 (W.alloc (.cells (madeCells #[.float .f64 0,.float .f64 0] (n*2)) 37)) W.heap.size n (fun _=>(0,0)):=
 ⟨_,heap_alloc_new W _,size_madeCells _ _,fun i hi=>by
  have e:∀j,j<n*2→(madeCells #[.float .f64 0,.float .f64 0] (n*2))[j]? =some (.float .f64 0):=fun j hj=>by
   unfold madeCells
   rw [Array.getElem?_map,Array.getElem?_range,if_pos hj]
   rcases Nat.mod_two_eq_zero_or_one j with h|h<;>simp [h]
  exact⟨e _ (by omega),e _ (by omega)⟩⟩
structure aWq (W:Way Iv) (a:Nat→Nat→Iv) (n fk lk hk ok:Nat) (cf cl ch co:Array Value) (Inv:List Nat→Nat→(Nat→Iv)→Bool→World→Prop):Prop where
 ef:∀args w,(callFunc fk args).run Tryz.prog w= .ok (.enter fk args) w
 el:∀args w,(callFunc lk args).run Tryz.prog w= .ok (.enter lk args) w
 eh:∀args w,(callFunc hk args).run Tryz.prog w= .ok (.enter hk args) w
 eo:∀args w,(callFunc ok args).run Tryz.prog w= .ok (.enter ok args) w
 chg:∀{X j H f w w'},Inv X j H f w→ChX X w w'→Inv X j H f w'
 new:∀{X j H f w y},Inv X j H f w→w.heap.size≤y→Inv (y::X) j H f w
 sub:∀{X X' j H f w},Inv X j H f w→(∀x∈X',x∈X)→Inv X' j H f w
 first:∀{X j H f w}(i k:Nat),Inv X j H f w→(∀x∈X,x<w.heap.size)→i<n→k<n→Calls Tryz.prog fk (#[.int .i64 i,.int .i64 k]++cf) w fun e w'=>e= .returned (IvV (a i k))∧IW (a i k)∧Inv X j H f w'∧Kps X w w'
 less:∀{X j H f w t x y}(k:Nat),Inv X j H f w→(∀x∈X,x<w.heap.size)→k<j→IW t→IW x→IW y→Calls Tryz.prog lk (#[IvV t,IvV x,IvV y,.int .i64 k]++cl) w fun e w'=>
  e= .returned (IvV (W.less H (t,f) x y k).1)∧IW (W.less H (t,f) x y k).1∧Inv X j H (W.less H (t,f) x y k).2 w'∧Kps X w w'
 head:∀{X j H f w d},Inv X j H f w→(∀x∈X,x<w.heap.size)→j<n→IW d→Calls Tryz.prog hk (#[IvV d]++ch) w fun e w'=>
  e= .returned (.tuple #[IvV (W.head (d,f)).1,.int .i64 (W.head (d,f)).2])∧IW (W.head (d,f)).1∧Kps X w w'∧((W.head (d,f)).2=0→Inv X (j+1) (dJ H j (W.head (d,f)).1) f w')∧((W.head (d,f)).2≠0→Inv X j H f w')
 over:∀{X j H f w t x},Inv X j H f w→(∀x∈X,x<w.heap.size)→IW t→IW x→Calls Tryz.prog ok (#[IvV t,IvV x]++co) w fun e w'=>
  e= .returned (IvV (W.over (t,f) x).1)∧IW (W.over (t,f) x).1∧Inv X j H (W.over (t,f) x).2 w'∧Kps X w w'
structure qB (B:Nat) (w:World) (n N:Nat) (fv lv hv ov:Value) (us:Nat→Iv):Prop where
 n_:aJ w B 3 #[.int .i64 n]
 f_:aJ w (B+1) 82 #[fv]
 F_:aJ w (B+2) 90 #[lv,hv,ov]
 g_:FM2 w (B+3) N us
 l_:aJ w (B+4) 27 #[.slice (some ⟨B+3,0,none⟩) N N]
section
variable {B : Nat} {w w' : World} {n N : Nat} {fv lv hv ov : Value} {us : Nat → Iv}
theorem qB.keep (h:qB B w n N fv lv hv ov us) (hk:∀x,B≤x→x<B+5→w'.heap[x]? =w.heap[x]?):qB B w' n N fv lv hv ov us:=
 ⟨(hk B (by omega) (by omega)).trans h.n_,(hk (B+1) (by omega) (by omega)).trans h.f_,(hk (B+2) (by omega) (by omega)).trans h.F_,h.g_.of_block (hk (B+3) (by omega) (by omega)),(hk (B+4) (by omega) (by omega)).trans h.l_⟩
theorem qB.kps {X:List Nat}(h:qB B w n N fv lv hv ov us) (hk:Kps X w w') (hX:∀x,B≤x→x<B+5→x∈X):qB B w' n N fv lv hv ov us:=h.keep fun x h1 h2=>hk.block x (hX x h1 h2)
theorem qB.lt (h:qB B w n N fv lv hv ov us):B+4<w.heap.size:=h.l_.lt
theorem qB.below (h:qB B w n N fv lv hv ov us) (hb:Below w.heap.size w w'):qB B w' n N fv lv hv ov us:=h.keep fun x h1 h2=>hb.block x (by have:=h.lt;omega)
theorem qB.set {i:Nat}{x:Iv}(h:qB B w n N fv lv hv ov us) (hi:i<N):qB B ((w.setCell ⟨B+3,i*2,none⟩ (.float .f64 x.1)).setCell ⟨B+3,i*2+1,none⟩ (.float .f64 x.2)) n N fv lv hv ov (dJ us i x):=
 ⟨(h.n_.setOther (by omega) _).setOther (by omega) _,(h.f_.setOther (by omega) _).setOther (by omega) _,(h.F_.setOther (by omega) _).setOther (by omega) _,h.g_.set hi,(h.l_.setOther (by omega) _).setOther (by omega) _⟩
end
def aB0 (n:Nat) (L:Nat→Nat→Iv) (us:Nat→Iv):Prop:=∀i j,i<n→j<n→us (i*n+j)=L i j∧IW (L i j)
theorem aB0.set {n i j:Nat}{L:Nat→Nat→Iv}{us:Nat→Iv}{x:Iv}(h:aB0 n L us) (hj:j<n) (hv:IW x):aB0 n (aFt L i j x) (dJ us (i*n+j) x):=fun a b ha hb=>by
 by_cases e:a=i∧b=j
 ·obtain⟨rfl,rfl⟩:=e
  rw [vT,eP];exact⟨rfl,hv⟩
 ·rw [aBi e,iO ?_]
  ·exact h a b ha hb
  ·intro t
   apply e
   have h1:(a*n+b)/n=a:=by rw [Nat.mul_comm,Nat.mul_add_div (by omega),Nat.div_eq_of_lt hb];rfl
   have h2:(i*n+j)/n=i:=by rw [Nat.mul_comm,Nat.mul_add_div (by omega),Nat.div_eq_of_lt hj];rfl
   rw [t,h2]at h1
   subst h1
   exact⟨rfl,by omega⟩
structure yU (Inv:List Nat→Nat→(Nat→Iv)→Bool→World→Prop) (X:List Nat) (j:Nat) (H:Nat→Iv) (f:Bool) (w:World) (B n N:Nat) (fv lv hv ov:Value) (us:Nat→Iv):Prop where
 c:∀{w w'},Inv X j H f w→ChX X w w'→Inv X j H f w'
 i:Inv X j H f w
 x:∀x∈X,x<w.heap.size
 r:qB B w n N fv lv hv ov us
section
variable {Inv : List Nat → Nat → (Nat → Iv) → Bool → World → Prop} {X : List Nat} {j : Nat} {H : Nat → Iv} {f : Bool} {w w' : World} {B n N : Nat} {fv lv hv ov : Value} {us : Nat → Iv}
theorem yU.below (h:yU Inv X j H f w B n N fv lv hv ov us) (hb:Below w.heap.size w w'):yU Inv X j H f w' B n N fv lv hv ov us:=
 ⟨h.c,h.c h.i (.of_below hb),fun x hx=>Nat.lt_of_lt_of_le (h.x x hx) hb.size,h.r.below hb⟩
theorem yU.step {f':Bool}(h:yU Inv X j H f w B n N fv lv hv ov us) (hc:∀{w w'},Inv X j H f' w→ChX X w w'→Inv X j H f' w') (hi:Inv X j H f' w') (hk:Kps X w w') (hXB:∀x,B≤x→x<B+5→x∈X):yU Inv X j H f' w' B n N fv lv hv ov us:=
 ⟨hc,hi,fun x hx=>Nat.lt_of_lt_of_le (h.x x hx) hk.size,h.r.kps hk hXB⟩
theorem yU.upd {b:Nat}(h:yU Inv X j H f w B n N fv lv hv ov us) (hu:Upd b w w') (hb:b∈X) (hn:b<B∨B+5≤b):yU Inv X j H f w' B n N fv lv hv ov us:=
 ⟨h.c,h.c h.i ⟨hu.os,hu.tape,hu.output,hu.size,fun k hk hm=>hu.block k hk (fun e=>hm (e▸hb))⟩,fun x hx=>Nat.lt_of_lt_of_le (h.x x hx) hu.size,h.r.keep fun x h1 h2=>hu.block x (by have:=h.r.lt;omega) (by omega)⟩
theorem yU.cells5 (h:yU Inv X j H f w B n N fv lv hv ov us):
  w.cell? ⟨B,0,none⟩=some (.int .i64 n)∧w.cell? ⟨B+1,0,none⟩=some fv∧w.cell? ⟨B+2,0,none⟩=some lv∧w.cell? ⟨B+2,1,none⟩=some hv∧w.cell? ⟨B+2,2,none⟩=some ov∧w.cell? ⟨B+4,0,none⟩=some (.slice (some ⟨B+3,0,none⟩) N N):=
 ⟨h.r.n_.cell 0,h.r.f_.cell 0,h.r.F_.cell 0,h.r.F_.cell 1,h.r.F_.cell 2,h.r.l_.cell 0⟩
end
structure DnI (Inv:List Nat→Nat→(Nat→Iv)→Bool→World→Prop) (X:List Nat) (j:Nat) (H:Nat→Iv) (f:Bool) (w0 w:World) (B n N:Nat) (fv lv hv ov:Value) (us:Nat→Iv) (tb:Nat) (t:Iv):Prop where
 s:yU Inv (tb::w0.heap.size::X) j H f w B n N fv lv hv ov us
 b:IB w tb t
 r:IB w w0.heap.size (0,0)
 k:Kps X w0 w
 ne:w0.heap.size<tb∧B+5≤w0.heap.size
 iw:IW t
section
variable {Inv : List Nat → Nat → (Nat → Iv) → Bool → World → Prop} {X : List Nat} {j : Nat} {H : Nat → Iv} {f : Bool} {w0 w w' : World} {B n N : Nat} {fv lv hv ov : Value} {us : Nat → Iv} {tb : Nat} {t : Iv}
theorem DnI.below (h:DnI Inv X j H f w0 w B n N fv lv hv ov us tb t) (hb:Below w.heap.size w w'):DnI Inv X j H f w0 w' B n N fv lv hv ov us tb t:=
 ⟨h.s.below hb,aJ.below h.b hb,aJ.below h.r hb,h.k.trans (.of_below hb fun x m=>h.s.x x (List.mem_cons_of_mem _ (List.mem_cons_of_mem _ m))),h.ne,h.iw⟩
theorem DnI.step {f':Bool}(h:DnI Inv X j H f w0 w B n N fv lv hv ov us tb t) (hc:∀{w w'},Inv (tb::w0.heap.size::X) j H f' w→ChX (tb::w0.heap.size::X) w w'→Inv (tb::w0.heap.size::X) j H f' w') (hi:Inv (tb::w0.heap.size::X) j H f' w') (hk:Kps (tb::w0.heap.size::X) w w') (hXB:∀x,B≤x→x<B+5→x∈X):
  DnI Inv X j H f' w0 w' B n N fv lv hv ov us tb t:=
 ⟨h.s.step hc hi hk (fun x a b=>List.mem_cons_of_mem _ (List.mem_cons_of_mem _ (hXB x a b))),(hk.block tb (.head _)).trans h.b,(hk.block _ (.tail _ (.head _))).trans h.r,h.k.trans ⟨hk.size,fun x m=>hk.block x (List.mem_cons_of_mem _ (List.mem_cons_of_mem _ m))⟩,h.ne,h.iw⟩
theorem DnI.rd {p s:Nat}{x y:Iv}(h:DnI Inv X j H f w0 w B n N fv lv hv ov us tb t) (hp:p<N) (hs:s<N) (hx:us p=x) (hy:us s=y):((w.cell? ⟨B,0,none⟩=some (.int .i64 n)∧w.cell? ⟨B+4,0,none⟩=some (.slice (some ⟨B+3,0,none⟩) N N))∧w.cell? ⟨B+3,p*2,none⟩=some (.float .f64 x.1)∧w.cell? ⟨B+3,p*2+1,none⟩=some (.float .f64 x.2))∧w.cell? ⟨B+3,s*2,none⟩=some (.float .f64 y.1)∧w.cell? ⟨B+3,s*2+1,none⟩=some (.float .f64 y.2):=by
 subst hx hy
 exact⟨⟨⟨h.s.r.n_.cell 0,h.s.r.l_.cell 0⟩,h.s.r.g_.cell hp⟩,h.s.r.g_.cell hs⟩
theorem DnI.done (h:DnI Inv X j H f w0 w B n N fv lv hv ov us tb t) (hX:∀x∈X,x<w0.heap.size) (hsub:∀{X X' j H f w},Inv X j H f w→(∀x∈X',x∈X)→Inv X' j H f w) {y:Iv}:Inv X j H f (jD w w0.heap.size y)∧Kps X w0 (jD w w0.heap.size y):=by
 have hu:=jL w w0.heap.size y
 have hn:=h.ne
 exact⟨hsub (h.s.upd hu (.tail _ (.head _)) (.inr hn.2)).i (fun x hx=>List.mem_cons_of_mem _ (List.mem_cons_of_mem _ hx)),h.k.trans (.aI4 hu fun x m=>⟨by have:=hX x m;omega,h.s.x x (List.mem_cons_of_mem _ (List.mem_cons_of_mem _ m))⟩)⟩
theorem DnI.put (h:DnI Inv X j H f w0 w B n N fv lv hv ov us tb t) (hX:∀x∈X,x<w0.heap.size) {y:Iv}(hy:IW y):DnI Inv X j H f w0 (jD w tb y) B n N fv lv hv ov us tb y:=by
 have hu:=jL w tb y
 have hn:=h.ne
 exact⟨h.s.upd hu (.head _) (.inr (by omega)),IB.put h.b y,aJ.upd h.r hu (by omega),h.k.trans (.aI4 hu fun x m=>⟨by have:=hX x m;omega,h.s.x x (List.mem_cons_of_mem _ (List.mem_cons_of_mem _ m))⟩),h.ne,hy⟩
end
theorem xC {W:Way Iv}{a:Nat→Nat→Iv}{n fk lk hk ok:Nat}{cf cl ch co:Array Value}{Inv:List Nat→Nat→(Nat→Iv)→Bool→World→Prop}(hF:aWq W a n fk lk hk ok cf cl ch co Inv)
  {X:List Nat}{j:Nat}{H:Nat→Iv}{f:Bool}{w:World}{B N:Nat}{us:Nat→Iv}{L:Nat→Nat→Iv}(i m:Nat) (hn:n≤12) (hN:N=n*n) (hI:Inv X j H f w) (hX:∀x∈X,x<w.heap.size) (hXB:∀x,B≤x→x<B+5→x∈X)
  (hR:qB B w n N (.func (.func fk) #[] cf) (.func (.func lk) #[] cl) (.func (.func hk) #[] ch) (.func (.func ok) #[] co) us) (hL:aB0 n L us) (hi:i<n) (hm:m≤j) (hmn:m<n):
  Calls Tryz.prog 95 #[.int .i64 i,.int .i64 m,.pointer (some ⟨B+1,0,none⟩),.pointer (some ⟨B+4,0,none⟩),.pointer (some ⟨B,0,none⟩),.pointer (some ⟨B+2,0,none⟩)] w fun e w'=>
   e= .returned (IvV (W.dw L H i m (a i m,f) m).1)∧IW (W.dw L H i m (a i m,f) m).1∧Inv X j H (W.dw L H i m (a i m,f) m).2 w'∧Kps X w w':=by
 have HFA:=jH hF
 have HXB:=jH hXB
 have HX0:=jH hX
 have HS0:Hid (yU Inv (w.heap.size::X) j H f (w.alloc (.cells #[.float .f64 0,.float .f64 0] 37)) B n N (.func (.func fk) #[] cf) (.func (.func lk) #[] cl) (.func (.func hk) #[] ch) (.func (.func ok) #[] co) us):=jH ⟨hF.chg,hF.chg (hF.new hI (Nat.le_refl _)) (.of_below (Below.aA w _)),fun x hx=>by rcases List.mem_cons.1 hx with rfl|hx;(simp);have:=hX x hx;simp;omega,hR.below (Below.aA w _)⟩
 have HRB:Hid (IB (w.alloc (.cells #[.float .f64 0,.float .f64 0] 37)) w.heap.size (0,0)):=jH (aJ.new w _ _)
 have HK0:Hid (Kps X w (w.alloc (.cells #[.float .f64 0,.float .f64 0] 37))):=jH (.of_below (Below.aA w _) hX)
 have HBN:Hid (B+5≤w.heap.size):=jH hR.lt
 have HWZ:Hid (w.heap.size<(w.alloc (.cells #[.float .f64 0,.float .f64 0] 37)).heap.size):=jH (by simp)
 have HL:=jH hL
 have HPS:Hid (∀k,k<n→(i*n+k<N∧m*n+k<N)):=jH fun k hk=>by rw [hN];exact⟨jZ hi hk,jZ hmn hk⟩
 have HAE:=jH fun k (hk:k<n)=>And.intro (at_eq hn hi hk) (at_eq hn hmn hk)
 have HN:Hid (N≤144):=jH (by rw [hN];exact Nat.mul_le_mul hn hn)
 have ef:=hF.ef
 have el:=hF.el
 obtain⟨q0,q1,q2,q3,q4,q5⟩:=HS0.out.cells5
 clear hF hI hX hXB hR hL hN
 go_enter Tryz.func95,Tryz.ntmps95
 go_wp2_with fail
 generalize World.alloc w _=W0 at*
 refine(HFA.out.first i m HS0.out.i HS0.out.x hi hmn).mono ?_
 rintro e1 w1 ⟨rfl,ht,hi1,hk1⟩
 have HS1:=jH (HS0.out.step HFA.out.chg hi1 hk1 (fun x a b=>List.mem_cons_of_mem _ (HXB.out x a b)))
 have HRB1:Hid (IB w1 w.heap.size (0,0)):=jH ((hk1.block _ (.head _)).trans HRB.out)
 have HK1:Hid (Kps X w w1):=jH (HK0.out.trans ⟨hk1.size,fun x m=>hk1.block x (List.mem_cons_of_mem _ m)⟩)
 have HT:=jH ht
 have HTB:Hid (w.heap.size<w1.heap.size):=jH (Nat.lt_of_lt_of_le HWZ.out hk1.size)
 clear ht hi1 hk1 q0 q1 q2 q3 q4 q5 HS0 HRB HK0 HWZ
 go_upto_region 2 with fail
 have HS:Hid (DnI Inv X j H f w (w1.alloc (.cells #[.float .f64 (a i m).1,.float .f64 (a i m).2] 37)) B n N (.func (.func fk) #[] cf) (.func (.func lk) #[] cl) (.func (.func hk) #[] ch) (.func (.func ok) #[] co) us w1.heap.size (a i m)):=jH ⟨⟨HFA.out.chg,HFA.out.chg (HFA.out.new HS1.out.i (Nat.le_refl _)) (.of_below (Below.aA w1 _)),fun x hx=>by rcases List.mem_cons.1 hx with rfl|hx;(simp);have:=HS1.out.x x hx;simp;omega,HS1.out.r.below (Below.aA w1 _)⟩,aJ.new w1 _ _,aJ.below HRB1.out (Below.aA w1 _),HK1.out.trans (.of_below (Below.aA w1 _) fun x hx=>HS1.out.x x (List.mem_cons_of_mem _ hx)),⟨HTB.out,HBN.out⟩,HT.out⟩
 clear HS1 HRB1 HK1 HT HTB
 obtain⟨tb,htb⟩:∃b,w1.heap.size=b:=⟨_,rfl⟩
 rw [htb]at HS ⊢
 generalize World.alloc w1 _=W1 at*
 clear htb
 go_wp2
 go_loopw [18] (fun k wr=>∃q:Nat,q≤m∧k= .int .i64 q∧Hid (DnI Inv X j H (W.dw L H i m (a i m,f) q).2 w wr B n N (.func (.func fk) #[] cf) (.func (.func lk) #[] cl) (.func (.func hk) #[] ch) (.func (.func ok) #[] co) us tb (W.dw L H i m (a i m,f) q).1)) (fun k _=>m-(intOf k).toNat)
 case atStart=>exact⟨0,Nat.zero_le _,rfl,HS⟩
 case round=>
  clear HS
  obtain⟨wo,rfl⟩:∃wo:World,wo=wr:=⟨_,rfl⟩
  obtain⟨q,hq,rfl,HS⟩:=hrel
  by_cases hql:q<m
  ·have hqn:q<n:=by omega
   have HSQ:Hid (W.dw L H i m (a i m,f) (q+1)=W.less H ((W.dw L H i m (a i m,f) q).1,(W.dw L H i m (a i m,f) q).2) (L i q) (L m q) q):=jH rfl
   generalize W.dw L H i m (a i m,f) q=s0 at*
   obtain⟨t0,f0⟩:=s0
   dsimp only at HS HSQ
   obtain⟨⟨e1,e2⟩,e3,e4⟩:=HAE.out q hqn
   have HP:=jH (HPS.out q hqn).1
   have HQ:=jH (HPS.out q hqn).2
   have HLP:=jH (HL.out i q hi hqn)
   have HLS:=jH (HL.out m q hmn hqn)
   generalize hpp:i*n+q=p at*
   generalize hss:m*n+q=s at*
   clear hpp hss
   generalize ((i*n:Nat):Int)=pi at*
   generalize ((m*n:Nat):Int)=si at*
   generalize L i q=x at*
   generalize L m q=y at*
   have hp1:=HP.out
   have hs1:=HQ.out
   have hN1:=HN.out
   have HRD:=jH fun W' (h:Hid (DnI Inv X j H f0 w W' B n N (.func (.func fk) #[] cf) (.func (.func lk) #[] cl) (.func (.func hk) #[] ch) (.func (.func ok) #[] co) us tb t0))=>h.out.rd HP.out HQ.out HLP.out.1 HLS.out.1
   go_upto_region 5 with fail
   go_cut [11,12]from 21 to 36 (fun u v wx=>∃xb yb:Nat,u= .pointer (some ⟨xb,0,none⟩)∧v= .pointer (some ⟨yb,0,none⟩)∧Hid (IB wx xb x)∧Hid (IB wx yb y)∧Hid (DnI Inv X j H f0 w wx B n N (.func (.func fk) #[] cf) (.func (.func lk) #[] cl) (.func (.func hk) #[] ch) (.func (.func ok) #[] co) us tb t0))
   case first=>
    have HBL:=jH (aB wo)
    refine aC (fun w':World=>((w'.cell? ⟨B,0,none⟩=some (.int .i64 n)∧w'.cell? ⟨B+4,0,none⟩=some (.slice (some ⟨B+3,0,none⟩) N N))∧w'.cell? ⟨B+3,p*2,none⟩=some (.float .f64 x.1)∧w'.cell? ⟨B+3,p*2+1,none⟩=some (.float .f64 x.2))∧w'.cell? ⟨B+3,s*2,none⟩=some (.float .f64 y.1)∧w'.cell? ⟨B+3,s*2+1,none⟩=some (.float .f64 y.2)) 19 (.take 0 (.take 1 (.take 2 (.take 3 (.take 4 (.take 5 (.take 6 (.take 7 (.take 8 (.take 9 (.take 10 (.take 11 (.take 12 (.take 13 (.take 14 (.take 15 (.fork 16 (.run 17 (.run 18 .nil)) 17 (.run 16 (.run 18 .nil))))))))))))))))))) (by kernel_rfl) (by kernel_rfl) ?_
    generalize World.drew wo=W5 at HBL ⊢
    repeat (refine tkL (v:= ?_) rfl rfl rfl (fun w' hSw=> ?_) (HRD.out _ (jH (HS.out.below HBL.out))) ?_;rotate_left;(focus (go_simp;with_reducible rfl));simp only [aF])
    clear e1 e2 e3 e4
    refine kR ?_ ?_
    ·refine aI rfl rfl fun K' hK=> ?_
     go_simp
     have HX:Hid (IB (W5.alloc (.cells #[.float .f64 0,.float .f64 0] 37)) W5.heap.size (0,0)):=jH (aJ.new W5 _ _)
     have HXL:=jH HBL.out.size
     replace HBL:=jH (HBL.out.alloc HBL.out.size (.cells #[.float .f64 0,.float .f64 0] 37))
     obtain⟨xb,hXb⟩:∃i,W5.heap.size=i:=⟨_,rfl⟩
     rw [hXb]at HX HXL
     try rw [hXb]
     generalize World.alloc W5 _=W6 at*
     clear hXb
     refine hK _ _ (HRD.out _ (jH (HS.out.below HBL.out))) ?_
     clear hK K'
     try simp only [Act.put,aF]
     refine aI rfl rfl fun K' hK=> ?_
     go_simp
     have HY:Hid (IB (W6.alloc (.cells #[.float .f64 0,.float .f64 0] 37)) W6.heap.size (0,0)):=jH (aJ.new W6 _ _)
     have HYL:=jH HBL.out.size
     have HNE:=jH (aJ.lt HX.out)
     replace HX:Hid (IB (W6.alloc (.cells #[.float .f64 0,.float .f64 0] 37)) _ (0,0)):=jH (aJ.alloc HX.out _)
     replace HBL:=jH (HBL.out.alloc HBL.out.size (.cells #[.float .f64 0,.float .f64 0] 37))
     obtain⟨yb,hYb⟩:∃i,W6.heap.size=i:=⟨_,rfl⟩
     rw [hYb]at HY HYL HNE
     try rw [hYb]
     generalize World.alloc W6 _=W7 at*
     clear hYb
     refine hK _ _ (HRD.out _ (jH (HS.out.below HBL.out))) ?_
     clear hK K'
     try simp only [Act.put,aF]
     obtain⟨x0,x1⟩:=IB.two HX.out
     obtain⟨x2,x3⟩:=IB.thaw HX.out
     refine aI rfl rfl fun K' hK=> ?_
     go_simp
     clear x0 x1 x2 x3
     replace HY:Hid (IB (jD W7 xb x) yb (0,0)):=jH (aJ.upd HY.out (jL W7 xb x) (by have:=HNE.out;omega))
     have HX2:Hid (IB (jD W7 xb x) xb x):=jH (IB.put HX.out x)
     replace HBL:Hid (Below wo.heap.size wo (jD W7 xb x)):=jH ((HBL.out.setCell (p:=⟨xb,0,none⟩) HXL.out _).setCell (p:=⟨xb,1,none⟩) HXL.out _)
     clear HX
     unfold jD at HY HX2 HBL
     generalize World.setCell (World.setCell W7 ⟨xb,0,none⟩ _) _ _=W8 at*
     refine hK _ _ (HRD.out _ (jH (HS.out.below HBL.out))) ?_
     clear hK K'
     try simp only [Act.put,aF]
     refine aN ?_
     simp only [drL]
     obtain⟨x0,x1⟩:=IB.two HY.out
     obtain⟨x2,x3⟩:=IB.thaw HY.out
     go_wp2
     clear x0 x1 x2 x3
     have HY2:Hid (IB (jD W8 yb y) yb y):=jH (IB.put HY.out y)
     replace HX2:Hid (IB (jD W8 yb y) xb x):=jH (aJ.upd HX2.out (jL W8 yb y) (by have:=HNE.out;omega))
     replace HBL:Hid (Below wo.heap.size wo (jD W8 yb y)):=jH ((HBL.out.setCell (p:=⟨yb,0,none⟩) HYL.out _).setCell (p:=⟨yb,1,none⟩) HYL.out _)
     go_meet
     exact⟨xb,yb,rfl,rfl,HX2,HY2,jH (HS.out.below HBL.out)⟩
    ·refine aI rfl rfl fun K' hK=> ?_
     go_simp
     have HY:Hid (IB (W5.alloc (.cells #[.float .f64 0,.float .f64 0] 37)) W5.heap.size (0,0)):=jH (aJ.new W5 _ _)
     have HYL:=jH HBL.out.size
     replace HBL:=jH (HBL.out.alloc HBL.out.size (.cells #[.float .f64 0,.float .f64 0] 37))
     obtain⟨yb,hYb⟩:∃i,W5.heap.size=i:=⟨_,rfl⟩
     rw [hYb]at HY HYL
     try rw [hYb]
     generalize World.alloc W5 _=W6 at*
     clear hYb
     refine hK _ _ (HRD.out _ (jH (HS.out.below HBL.out))) ?_
     clear hK K'
     try simp only [Act.put,aF]
     refine aI rfl rfl fun K' hK=> ?_
     go_simp
     have HX:Hid (IB (W6.alloc (.cells #[.float .f64 0,.float .f64 0] 37)) W6.heap.size (0,0)):=jH (aJ.new W6 _ _)
     have HXL:=jH HBL.out.size
     have HNE:=jH (aJ.lt HY.out)
     replace HY:Hid (IB (W6.alloc (.cells #[.float .f64 0,.float .f64 0] 37)) _ (0,0)):=jH (aJ.alloc HY.out _)
     replace HBL:=jH (HBL.out.alloc HBL.out.size (.cells #[.float .f64 0,.float .f64 0] 37))
     obtain⟨xb,hXb⟩:∃i,W6.heap.size=i:=⟨_,rfl⟩
     rw [hXb]at HX HXL HNE
     try rw [hXb]
     generalize World.alloc W6 _=W7 at*
     clear hXb
     refine hK _ _ (HRD.out _ (jH (HS.out.below HBL.out))) ?_
     clear hK K'
     try simp only [Act.put,aF]
     obtain⟨x0,x1⟩:=IB.two HX.out
     obtain⟨x2,x3⟩:=IB.thaw HX.out
     refine aI rfl rfl fun K' hK=> ?_
     go_simp
     clear x0 x1 x2 x3
     replace HY:Hid (IB (jD W7 xb x) yb (0,0)):=jH (aJ.upd HY.out (jL W7 xb x) (by have:=HNE.out;omega))
     have HX2:Hid (IB (jD W7 xb x) xb x):=jH (IB.put HX.out x)
     replace HBL:Hid (Below wo.heap.size wo (jD W7 xb x)):=jH ((HBL.out.setCell (p:=⟨xb,0,none⟩) HXL.out _).setCell (p:=⟨xb,1,none⟩) HXL.out _)
     clear HX
     unfold jD at HY HX2 HBL
     generalize World.setCell (World.setCell W7 ⟨xb,0,none⟩ _) _ _=W8 at*
     refine hK _ _ (HRD.out _ (jH (HS.out.below HBL.out))) ?_
     clear hK K'
     try simp only [Act.put,aF]
     refine aN ?_
     simp only [drL]
     obtain⟨x0,x1⟩:=IB.two HY.out
     obtain⟨x2,x3⟩:=IB.thaw HY.out
     go_wp2
     clear x0 x1 x2 x3
     have HY2:Hid (IB (jD W8 yb y) yb y):=jH (IB.put HY.out y)
     replace HX2:Hid (IB (jD W8 yb y) xb x):=jH (aJ.upd HX2.out (jL W8 yb y) (by have:=HNE.out;omega))
     replace HBL:Hid (Below wo.heap.size wo (jD W8 yb y)):=jH ((HBL.out.setCell (p:=⟨yb,0,none⟩) HYL.out _).setCell (p:=⟨yb,1,none⟩) HYL.out _)
     go_meet
     exact⟨xb,yb,rfl,rfl,HX2,HY2,jH (HS.out.below HBL.out)⟩
   case rest=>
    obtain⟨xb,yb,rfl,rfl,HX,HY,HS2⟩:=hcut
    clear HS HRD e1 e2 e3 e4
    obtain⟨q0,q1,q2,q3,q4,q5⟩:=HS2.out.s.cells5
    obtain⟨x0,x1⟩:=IB.two HX.out
    obtain⟨y0,y1⟩:=IB.two HY.out
    obtain⟨t2,t3⟩:=IB.two HS2.out.b
    go_wp2_with fail
    refine(HFA.out.less q HS2.out.s.i HS2.out.s.x (by omega) HS2.out.iw HLP.out.2 HLS.out.2).mono ?_
    rintro e7 w7 ⟨rfl,hr,hi1,hk1⟩
    clear x0 x1 y0 y1 t2 t3 q0 q1 q2 q3 q4 q5 HX HY
    have HS3:=jH ((HS2.out.step HFA.out.chg hi1 hk1 HXB.out).put HX0.out hr)
    have HTB:=jH (HS2.out.step HFA.out.chg hi1 hk1 HXB.out).b
    rw [←HSQ.out]at HS3 ⊢
    clear hr hi1 hk1 HSQ HS2
    obtain⟨s1,hs1⟩:∃x,W.dw L H i m (a i m,f) (q+1)=x:=⟨_,rfl⟩
    rw [hs1]at HS3 ⊢
    obtain⟨t1,f1⟩:=s1
    have HSE:=jH hs1
    clear hs1
    dsimp only at HS3 ⊢
    obtain⟨t2,t3⟩:=IB.two HTB.out
    obtain⟨t4,t5⟩:=IB.thaw HTB.out
    clear HTB
    go_wp2
    go_roundw
    case rel=>exact⟨q+1,by omega,by go_num,by rw [HSE.out];exact HS3⟩
    case measure=>simp [intOf]<;>omega
  ·obtain rfl:q=m:=by omega
   obtain⟨s1,hs1⟩:∃x,W.dw L H i q (a i q,f) q=x:=⟨_,rfl⟩
   rw [hs1]at HS
   obtain⟨t1,f1⟩:=s1
   have HSE:=jH hs1
   clear hs1
   dsimp only at HS
   obtain⟨t2,t3⟩:=IB.two HS.out.b
   obtain⟨r0,r1⟩:=IB.two HS.out.r
   obtain⟨r2,r3⟩:=IB.thaw HS.out.r
   have HE:Hid (Inv X j H f1 (jD wo w.heap.size t1)∧Kps X w (jD wo w.heap.size t1)):=jH (HS.out.done HX0.out HFA.out.sub)
   have HIW:=jH HS.out.iw
   clear HS
   go_wp2
   refine bodyPost_ret (v:=IvV t1) (by simp [results,Tryz.results95,go_sem,r0,r1]) rfl (by rw [HSE.out];exact⟨rfl,HIW.out,HE.out.1,HE.out.2⟩)
end
section
set_option maxRecDepth 100000
set_option maxHeartbeats 6400000
open Go.RowKit
attribute [local go_sem] bG
def prH (H:Nat→Iv) (k:Nat):List Value:=(List.range k).flatMap fun i=>[Value.float .f64 (H i).1,Value.float .f64 (H i).2]
def OwI (W:World) (B:Nat) (v:Value) (k:Nat) (H:Nat→Iv):Prop:=W.ownsRow B 37 2 v k (prH H k)
theorem OwI.nil (W:World) (B:Nat) (H:Nat→Iv):OwI W B (.slice none 0 0) 0 H:=World.ownsRow_nil _ _ _ _
theorem OwI.dY {W V:World}{B k:Nat}{v:Value}{H:Nat→Iv}(h:OwI W B v k H) (hb:∀g,v.ownBlock=some g→V.heap[g]? =W.heap[g]?):OwI V B v k H:=by
 obtain⟨h1,h2⟩:=h
 refine⟨h1,?_⟩
 rcases h2 with h2|⟨g,cap,cur,rfl,h3,h4,h5⟩
 ·exact .inl h2
 ·exact .inr ⟨g,cap,cur,rfl,h3,(hb g rfl).trans h4,h5⟩
theorem OwI.later {W V:World}{B k:Nat}{v:Value}{H:Nat→Iv}(h:OwI W B v k H) (hb:Below W.heap.size W V):OwI V B v k H:=h.dY fun g hg=>hb.block g (h.lt g hg).2
theorem OwI.shape {W:World}{B k:Nat}{v:Value}{H:Nat→Iv}(h:OwI W B v k H):∃ao cap,v= .slice ao k cap:=qC h
theorem aG0 (H:Nat→Iv) (k:Nat) (x:Iv):prH (dJ H k x) (k+1)=prH H k++[.float .f64 x.1,.float .f64 x.2]:=by
 unfold prH
 rw [List.range_succ,List.flatMap_append]
 congr 1
 ·rw [List.flatMap_def,List.flatMap_def]
  congr 1
  refine List.map_congr_left fun i hi=> ?_
  rw [iO (by have:=List.mem_range.1 hi;omega)]
 ·simp [eP]
theorem OwI.push {W:World}{B k:Nat}{x:Iv}{v:Value}{H:Nat→Iv}(h:W.ownsRow B 37 2 v (k+1) (prH H k++[.float .f64 x.1,.float .f64 x.2])):OwI W B v (k+1) (dJ H k x):=by
 unfold OwI;rw [aG0];exact h
theorem aWm {B k:Nat}{v:Value}{H:Nat→Iv}{w:World}(h:OwI w (B+5) v k H) (hb:B+4<w.heap.size):∀x∈WX B v,x<w.heap.size:=fun x hx=>by
 unfold WX at hx
 simp only [List.mem_cons,Option.mem_toList]at hx
 rcases hx with rfl|rfl|rfl|rfl|rfl|hx
 ·omega
 ·omega
 ·omega
 ·omega
 ·omega
 ·exact(h.lt x hx).2
structure PrI (Inv:List Nat→Nat→(Nat→Iv)→Bool→World→Prop) (X:List Nat) (j:Nat) (H:Nat→Iv) (f:Bool) (w:World) (B n N:Nat) (fv lv hv ov:Value) (us:Nat→Iv) (v:Value):Prop where
 s:yU Inv X j H f w B n N fv lv hv ov us
 o:OwI w (B+5) v j H
 m:∀x∈WX B v,x∈X
structure PhI (Inv:List Nat→Nat→(Nat→Iv)→Bool→World→Prop) (X:List Nat) (j:Nat) (H H':Nat→Iv) (f:Bool) (er:Int) (w:World) (B n N:Nat) (fv lv hv ov:Value) (us:Nat→Iv) (v:Value):Prop where
 c:∀{j H w w'},Inv X j H f w→ChX X w w'→Inv X j H f w'
 x:∀x∈X,x<w.heap.size
 r:qB B w n N fv lv hv ov us
 o:OwI w (B+5) v j H
 m:∀x∈WX B v,x∈X
 g:er=0→Inv X (j+1) H' f w
 e:er≠0→Inv X j H f w
section
variable {Inv : List Nat → Nat → (Nat → Iv) → Bool → World → Prop} {X : List Nat} {j : Nat} {H H' : Nat → Iv} {f : Bool} {w w' : World} {B n N : Nat} {fv lv hv ov : Value} {us : Nat → Iv} {v : Value} {hb : Nat} {h : Iv} {er : Int}
theorem PrI.xb (h:PrI Inv X j H f w B n N fv lv hv ov us v):∀x,B≤x→x<B+5→x∈X:=WX.low h.m
theorem PrI.own (h:PrI Inv X j H f w B n N fv lv hv ov us v) (g:Nat) (e:v.ownBlock=some g):g∈X:=h.m g (aF3 e)
theorem PrI.below (h:PrI Inv X j H f w B n N fv lv hv ov us v) (hb:Below w.heap.size w w'):PrI Inv X j H f w' B n N fv lv hv ov us v:=⟨h.s.below hb,h.o.later hb,h.m⟩
theorem PrI.step {f':Bool}(h:PrI Inv X j H f w B n N fv lv hv ov us v) (hc:∀{w w'},Inv X j H f' w→ChX X w w'→Inv X j H f' w') (hi:Inv X j H f' w') (hk:Kps X w w'):PrI Inv X j H f' w' B n N fv lv hv ov us v:=
 ⟨h.s.step hc hi hk h.xb,h.o.dY fun g e=>hk.block g (h.own g e),h.m⟩
theorem PrI.alloc (h:PrI Inv X j H f w B n N fv lv hv ov us v) (hc:∀{X w w'},Inv X j H f w→ChX X w w'→Inv X j H f w') (hn:∀{X w y},Inv X j H f w→w.heap.size≤y→Inv (y::X) j H f w) (ob:_root_.Go.Obj) (e:w.heap.size=hb):PrI Inv (hb::X) j H f (w.alloc ob) B n N fv lv hv ov us v:=by
 have hbl:=Below.aA w ob
 refine⟨⟨hc,hc (hn h.s.i (by omega)) (.of_below hbl),fun x hx=> ?_,h.s.r.below hbl⟩,h.o.later hbl,fun x hx=>List.mem_cons_of_mem _ (h.m x hx)⟩
 rcases List.mem_cons.1 hx with rfl|hx
 ·rw [size_alloc];omega
 ·have:=h.s.x x hx;rw [size_alloc];omega
theorem PrI.head (h:PrI Inv X j H f w B n N fv lv hv ov us v) (hc:∀{j H w w'},Inv X j H f w→ChX X w w'→Inv X j H f w') (hk:Kps X w w') (g:er=0→Inv X (j+1) H' f w') (e:er≠0→Inv X j H f w'):PhI Inv X j H H' f er w' B n N fv lv hv ov us v:=
 ⟨hc,fun x hx=>Nat.lt_of_lt_of_le (h.s.x x hx) hk.size,h.s.r.kps hk h.xb,h.o.dY fun g e=>hk.block g (h.own g e),h.m,g,e⟩
theorem PhI.alloc (h:PhI Inv X j H H' f er w B n N fv lv hv ov us v) (hc:∀{X j H w w'},Inv X j H f w→ChX X w w'→Inv X j H f w') (hn:∀{X j H w y},Inv X j H f w→w.heap.size≤y→Inv (y::X) j H f w) (ob:_root_.Go.Obj) (e:w.heap.size=hb):PhI Inv (hb::X) j H H' f er (w.alloc ob) B n N fv lv hv ov us v:=by
 have hbl:=Below.aA w ob
 refine⟨hc,fun x hx=> ?_,h.r.below hbl,h.o.later hbl,fun x hx=>List.mem_cons_of_mem _ (h.m x hx),fun q=>hc (hn (h.g q) (by omega)) (.of_below hbl),fun q=>hc (hn (h.e q) (by omega)) (.of_below hbl)⟩
 rcases List.mem_cons.1 hx with rfl|hx
 ·rw [size_alloc];omega
 ·have:=h.x x hx;rw [size_alloc];omega
theorem PhI.put (h:PhI Inv (hb::X) j H H' f er w B n N fv lv hv ov us v) (ne:B+5≤hb∧v.ownBlock≠some hb) (y:Iv):PhI Inv (hb::X) j H H' f er (jD w hb y) B n N fv lv hv ov us v:=by
 have hu:=jL w hb y
 have hch:ChX (hb::X) w (jD w hb y):=⟨hu.os,hu.tape,hu.output,hu.size,fun k hk hm=>hu.block k hk (fun e=>hm (e▸ .head _))⟩
 exact⟨h.c,fun x hx=>Nat.lt_of_lt_of_le (h.x x hx) hu.size,h.r.keep fun x a b=>hu.block x (by have:=h.r.lt;omega) (by omega),h.o.dY fun g e=>hu.block g (h.o.lt g e).2 (fun q=>ne.2 (q▸e)),h.m,fun q=>h.c (h.g q) hch,fun q=>h.c (h.e q) hch⟩
end
structure HdI (Inv:List Nat→Nat→(Nat→Iv)→Bool→World→Prop) (X:List Nat) (j:Nat) (H H':Nat→Iv) (f:Bool) (er:Int) (w:World) (B n N:Nat) (fv lv hv ov:Value) (us:Nat→Iv) (v:Value) (hb:Nat) (h:Iv):Prop where
 p:PhI Inv (hb::X) j H H' f er w B n N fv lv hv ov us v
 b:IB w hb h
 iw:IW h
 ne:B+5≤hb∧v.ownBlock≠some hb
structure xH (Inv:List Nat→Nat→(Nat→Iv)→Bool→World→Prop) (j:Nat) (H:Nat→Iv) (f:Bool) (w:World) (B n N:Nat) (fv lv hv ov:Value) (us:Nat→Iv) (v:Value) (hb:Nat) (h:Iv):Prop where
 p:PrI Inv (hb::WX B v) j H f w B n N fv lv hv ov us v
 b:IB w hb h
 iw:IW h
 ne:B+5≤hb∧v.ownBlock≠some hb
section
variable {Inv : List Nat → Nat → (Nat → Iv) → Bool → World → Prop} {X : List Nat} {j : Nat} {H H' : Nat → Iv} {f : Bool} {w w' : World} {B n N : Nat} {fv lv hv ov : Value} {us : Nat → Iv} {v : Value} {hb : Nat} {h : Iv} {er : Int}
theorem xH.below (q:xH Inv j H f w B n N fv lv hv ov us v hb h) (hbl:Below w.heap.size w w'):xH Inv j H f w' B n N fv lv hv ov us v hb h:=⟨q.p.below hbl,aJ.below q.b hbl,q.iw,q.ne⟩
theorem xH.step {f':Bool}(q:xH Inv j H f w B n N fv lv hv ov us v hb h) (hc:∀{w w'},Inv (hb::WX B v) j H f' w→ChX (hb::WX B v) w w'→Inv (hb::WX B v) j H f' w') (hi:Inv (hb::WX B v) j H f' w') (hk:Kps (hb::WX B v) w w'):xH Inv j H f' w' B n N fv lv hv ov us v hb h:=
 ⟨q.p.step hc hi hk,(hk.block hb (.head _)).trans q.b,q.iw,q.ne⟩
theorem xH.rd (q:xH Inv j H f w B n N fv lv hv ov us v hb h):((w.cell? ⟨B,0,none⟩=some (.int .i64 n)∧w.cell? ⟨B+4,0,none⟩=some (.slice (some ⟨B+3,0,none⟩) N N))∧w.cell? ⟨B+2,2,none⟩=some ov)∧w.cell? ⟨hb,0,none⟩=some (.float .f64 h.1)∧w.cell? ⟨hb,1,none⟩=some (.float .f64 h.2):=
 ⟨⟨⟨q.p.s.r.n_.cell 0,q.p.s.r.l_.cell 0⟩,q.p.s.r.F_.cell 2⟩,IB.two q.b⟩
theorem xH.set {i:Nat}{x:Iv}(q:xH Inv j H f w B n N fv lv hv ov us v hb h) (hi:i<N):xH Inv j H f ((w.setCell ⟨B+3,i*2,none⟩ (.float .f64 x.1)).setCell ⟨B+3,i*2+1,none⟩ (.float .f64 x.2)) B n N fv lv hv ov (dJ us i x) v hb h:=by
 have hu:Upd (B+3) w ((w.setCell ⟨B+3,i*2,none⟩ (.float .f64 x.1)).setCell ⟨B+3,i*2+1,none⟩ (.float .f64 x.2)):=(Upd.set (b:=B+3) (i:=i*2) (.float .f64 x.1)).trans (Upd.set (b:=B+3) (i:=i*2+1) (.float .f64 x.2))
 have hne:=q.ne
 have hch:ChX (hb::WX B v) w _:=⟨hu.os,hu.tape,hu.output,hu.size,fun k hk hm=>hu.block k hk (fun e=>hm (e▸List.mem_cons_of_mem _ (WX.low (fun _ m=>m) (B+3) (by omega) (by omega))))⟩
 exact⟨⟨⟨q.p.s.c,q.p.s.c q.p.s.i hch,fun y hy=>Nat.lt_of_lt_of_le (q.p.s.x y hy) hu.size,q.p.s.r.set hi⟩,q.p.o.dY fun g e=>hu.block g (q.p.o.lt g e).2 (by have:=(q.p.o.lt g e).1;omega),q.p.m⟩,aJ.upd q.b hu (by omega),q.iw,hne⟩
theorem HdI.push {U V:World}{v':Value}(q:HdI Inv (WX B v) j H (dJ H j h) f 0 w B n N fv lv hv ov us v hb h) (hc:∀{X w w'},Inv X (j+1) (dJ H j h) f w→ChX X w w'→Inv X (j+1) (dJ H j h) f w')
  (hnw:∀{X w y},Inv X (j+1) (dJ H j h) f w→w.heap.size≤y→Inv (y::X) (j+1) (dJ H j h) f w) (hsb:∀{X X' w},Inv X (j+1) (dJ H j h) f w→(∀x∈X',x∈X)→Inv X' (j+1) (dJ H j h) f w)
  (hbl:Below w.heap.size w U) (hg:U.grownBy V v.ownBlock)
  (ho:V.ownsRow (B+5) 37 2 v' (j+1) (prH H j++[.float .f64 h.1,.float .f64 h.2])) (hv':v'.ownBlock=v.ownBlock∨v'.ownBlock=some U.heap.size):
  xH Inv (j+1) (dJ H j h) f V B n N fv lv hv ov us v' hb h:=by
 have h1:qB B U n N fv lv hv ov us:=q.p.r.below hbl
 have h2:OwI U (B+5) v j H:=q.p.o.later hbl
 have hO:=OwI.push ho
 have hlt:hb<U.heap.size:=Nat.lt_of_lt_of_le (q.p.x hb (.head _)) hbl.size
 have hR:qB B V n N fv lv hv ov us:=h1.keep fun y y1 y2=>hg.block y (by have:=h1.lt;omega) fun e=>by have:=(h2.lt y e.symm).1;omega
 have hne2:v'.ownBlock≠some hb:=fun e=>by
  rcases hv' with h3|h3
  ·rw [h3]at e;exact q.ne.2 e
  ·rw [h3]at e;have:=Option.some.inj e;omega
 refine⟨⟨⟨hc,?_,fun x hx=> ?_,hR⟩,hO,fun x hx=>List.mem_cons_of_mem _ hx⟩,(hg.block hb hlt fun e=>q.ne.2 e.symm).trans (aJ.below q.b hbl),q.iw,q.ne.1,hne2⟩
 ·refine hsb (hc (hnw (hc (q.p.g rfl) (.of_below hbl)) (Nat.le_refl _)) (.aIf hg fun k hk2=>List.mem_cons_of_mem _ (List.mem_cons_of_mem _ (aF3 hk2)))) fun y hy=> ?_
  unfold WX at hy ⊢
  simp only [List.mem_cons,Option.mem_toList]at hy ⊢
  rcases hy with e|e|e|e|e|e|e
  ·exact .inr (.inl e)
  ·exact .inr (.inr (.inl e))
  ·exact .inr (.inr (.inr (.inl e)))
  ·exact .inr (.inr (.inr (.inr (.inl e))))
  ·exact .inr (.inr (.inr (.inr (.inr (.inl e)))))
  ·exact .inr (.inr (.inr (.inr (.inr (.inr (.inl e))))))
  ·rcases hv' with h3|h3
   ·rw [h3]at e;exact .inr (.inr (.inr (.inr (.inr (.inr (.inr e))))))
   ·rw [h3]at e;exact .inl (Option.some.inj e).symm
 ·rcases List.mem_cons.1 hx with rfl|hx
  ·exact Nat.lt_of_lt_of_le hlt hg.size
  ·exact aWm hO (Nat.lt_of_lt_of_le h1.lt hg.size) x hx
theorem xH.out (q:xH Inv j H f w B n N fv lv hv ov us v hb h) (hc:∀{X w w'},Inv X j H f w→ChX X w w'→Inv X j H f w') (hsb:∀{X X' w},Inv X j H f w→(∀x∈X',x∈X)→Inv X' j H f w):PrI Inv (WX B v) j H f w B n N fv lv hv ov us v:=
 ⟨⟨hc,hsb q.p.s.i (fun x hx=>List.mem_cons_of_mem _ hx),fun x hx=>q.p.s.x x (List.mem_cons_of_mem _ hx),q.p.s.r⟩,q.p.o,fun _ m=>m⟩
end
theorem qB.start (w:World) (n N:Nat) (fv lv hv ov:Value) (W:World) (hW:W=(((((w.alloc (.cells #[.int .i64 n] 3)).alloc (.cells #[fv] 82)).alloc (.cells #[lv,hv,ov] 90)).alloc (.cells (madeCells #[.float .f64 0,.float .f64 0] (N*2)) 37)).alloc (.cells #[.slice (some ⟨w.heap.size+3,0,none⟩) N N] 27))):qB w.heap.size W n N fv lv hv ov (fun _=>(0,0))∧Below w.heap.size w W:=by
 subst hW
 refine⟨⟨((((aJ.new w _ _).alloc _).alloc _).alloc _).alloc _,(((aJ.at _ _ (size_alloc _ _)).alloc _).alloc _).alloc _,((aJ.at _ _ (by rw [size_alloc,size_alloc])).alloc _).alloc _,?_,aJ.at _ _ (by rw [size_alloc,size_alloc,size_alloc,size_alloc])⟩,((below3 w _ _ _).alloc (below3 w _ _ _).size _).alloc ((below3 w _ _ _).alloc (below3 w _ _ _).size _).size _⟩
 have h:=FM2.made (((w.alloc (.cells #[.int .i64 n] 3)).alloc (.cells #[fv] 82)).alloc (.cells #[lv,hv,ov] 90)) N
 rw [size_alloc,size_alloc,size_alloc]at h
 exact h.of_block (heap_alloc_old _ _ (by rw [size_alloc,size_alloc,size_alloc,size_alloc];omega))
theorem Way.aVa {V:Type}(W:Way V) (a:Nat→Nat→V) (n:Nat):∀m,(W.all a n m).e=0→(W.all a n m).p=0
 |0,_=>rfl
 | m+1,h=>by
  by_cases h0:(W.all a n m).e=0
  ·by_cases hb:(W.head (W.pv a m (W.all a n m))).2=0
   ·rw [W.all_good h0 hb]
   ·rw [W.vX h0 hb]at h;exact absurd h hb
  ·have:=W.rC a n m h0 1
   rw [this]at h;exact absurd h h0
def aXy (W:Way Iv) (a:Nat→Nat→Iv) (n:Nat) (Inv:List Nat→Nat→(Nat→Iv)→Bool→World→Prop) (e:Ending) (w':World):Prop:=
 ∃(lo:Option Addr) (ll lc:Nat) (ho:Option Addr) (hl hc:Nat),e= .returned (.tuple #[.slice lo ll lc,.slice ho hl hc,.int .i64 (W.all a n n).p,.int .i64 (W.all a n n).e])∧(∃j H f,Inv [] j H f w')∧((W.all a n n).e=0→Inv [] n (W.all a n n).H (W.all a n n).f w')
theorem aOx {W:Way Iv}{a:Nat→Nat→Iv}{n fk lk hk ok:Nat}{cf cl ch co:Array Value}{Inv:List Nat→Nat→(Nat→Iv)→Bool→World→Prop}(hF:aWq W a n fk lk hk ok cf cl ch co Inv) (w:World) (hz:W.zero=(0,0)) (hn:n≤12) (hI:Inv [] 0 (fun _=>(0,0)) false w):
  Calls Tryz.prog 43 #[.int .i64 n,.func (.func fk) #[] cf,.agg #[.func (.func lk) #[] cl,.func (.func hk) #[] ch,.func (.func ok) #[] co]] w (aXy W a n Inv):=by
 obtain⟨i0,hi,hz0,hz1,hz2⟩:=info_parts Tryz.info37
 have HFA:=jH hF
 have ef:=hF.ef
 have el:=hF.el
 have eh:=hF.eh
 have eo:=hF.eo
 obtain⟨N,hN⟩:∃N,n*n=N:=⟨_,rfl⟩
 have hN2:N≤144:=by rw [←hN];exact Nat.mul_le_mul hn hn
 have hw:IntKind.i64.wrap ((n:Int)*(n:Int))=(N:Int):=by rw [←Int.natCast_mul,hN];exact IntWalk.i64_in _ (by omega)
 have hmk:∀W,(Instr.makeSlice 27 (.int .i64 (N:Int)) (.int .i64 (N:Int))).run Tryz.prog W= .ok (.slice (some ⟨W.heap.size,0,none⟩) N N) (W.alloc (.cells (madeCells #[.float .f64 0,.float .f64 0] (N*2)) 37)):=fun W=>by
  have h:=run_make (P:=Tryz.prog) W 27 37 i0 _ Tryz.underlying27 hi hz0 .i64 .i64 N N (by omega) (Int.le_refl _) (by rw [hz2];omega) (by omega)
  rw [hz1]at h
  simp only [Int.toNat_natCast]at h
  exact h
 have HN:=jH hN
 have HS0:=qB.start w n N (.func (.func fk) #[] cf) (.func (.func lk) #[] cl) (.func (.func hk) #[] ch) (.func (.func ok) #[] co) _ rfl
 obtain⟨b0,h0⟩:∃b,w.heap.size=b:=⟨_,rfl⟩
 obtain⟨b1,h1⟩:∃b,b0+1=b:=⟨_,rfl⟩
 obtain⟨b2,h2⟩:∃b,b1+1=b:=⟨_,rfl⟩
 obtain⟨b3,h3⟩:∃b,b2+1=b:=⟨_,rfl⟩
 obtain⟨b4,h4⟩:∃b,b3+1=b:=⟨_,rfl⟩
 have p0:(((w.alloc (.cells #[.int .i64 n] 3)).alloc (.cells #[.func (.func fk) #[] cf] 82)).alloc (.cells #[.func (.func lk) #[] cl,.func (.func hk) #[] ch,.func (.func ok) #[] co] 90)).cell? ⟨b0,0,none⟩=some (.int .i64 n):=by rw [←h0];exact(((aJ.new w _ _).alloc _).alloc _).cell 0
 rw [h0]at HS0
 have HIN:Hid (Inv [b0,b0+1,b0+2,b0+3,b0+4] 0 (fun _=>(0,0)) false w):=jH (hF.new (hF.new (hF.new (hF.new (hF.new hI (by omega)) (by omega)) (by omega)) (by omega)) (by omega))
 rw [show b0+3=b3 by omega]at HS0
 replace HS0:=jH HS0
 clear hI hN
 go_enter Tryz.func43,Tryz.ntmps43
 go_upto_region 3 with fail
 clear p0 hmk hw
 generalize World.alloc (World.alloc (World.alloc (World.alloc (World.alloc w _) _) _) _) _=W0 at HS0 ⊢
 obtain rfl:b4=b0+4:=by omega
 obtain rfl:b3=b0+3:=by omega
 obtain rfl:b2=b0+2:=by omega
 obtain rfl:b1=b0+1:=by omega
 clear h1 h2 h3 h4
 have HT:Hid (PrI Inv (WX b0 (.slice none 0 0)) 0 (fun _=>(0,0)) false W0 b0 n N (.func (.func fk) #[] cf) (.func (.func lk) #[] cl) (.func (.func hk) #[] ch) (.func (.func ok) #[] co) (fun _=>(0,0)) (.slice none 0 0)):=jH ⟨⟨HFA.out.chg,HFA.out.chg HIN.out (.of_below (by rw [h0];exact HS0.out.2)),fun x hx=>by have:=HS0.out.1.lt;rw [aPq]at hx;simp only [List.mem_cons,List.not_mem_nil,or_false]at hx;omega,HS0.out.1⟩,OwI.nil _ _ _,fun _ m=>m⟩
 have HL0:Hid (aB0 n (fun _ _=>(0,0)) (fun _=>(0,0))):=jH fun i j _ _=>⟨rfl,show 0<18446744073709551616 by decide,show 0<18446744073709551616 by decide⟩
 have HA0:Hid (W.all a n 0=⟨fun _ _=>(0,0),fun _=>(0,0),false,0,0⟩):=jH (by unfold Way.all itr;rw [hz])
 generalize b0=B at*
 clear HS0 HIN h0 hz
 obtain⟨q0,q1,q2,q3,q4,q5⟩:=HT.out.s.cells5
 go_wp2
 go_loopw [11,23] (fun hvv i wr=>∃(k:Nat) (us:Nat→Iv),k≤n∧i= .int .i64 k∧Hid ((W.all a n k).e=0)∧Hid (aB0 n (W.all a n k).L us)∧Hid (PrI Inv (WX B hvv) k (W.all a n k).H (W.all a n k).f wr B n N (.func (.func fk) #[] cf) (.func (.func lk) #[] cl) (.func (.func hk) #[] ch) (.func (.func ok) #[] co) us hvv)) (fun _ i _=>n-(intOf i).toNat)
 case atStart=>exact⟨0,_,Nat.zero_le _,rfl,jH (by rw [HA0.out]),jH (by rw [HA0.out];exact HL0.out),jH (by rw [HA0.out];exact HT.out)⟩
 case round=>
  clear HT HL0 HA0 q0 q1 q2 q3 q4 q5
  obtain⟨wo,rfl⟩:∃wo:World,wo=wr:=⟨_,rfl⟩
  obtain⟨k,us,hkn,rfl,HE0,HL,HT⟩:=hrel
  obtain⟨ho,hc,rfl⟩:=HT.out.o.shape
  obtain⟨q0,q1,q2,q3,q4,q5⟩:=HT.out.s.cells5
  by_cases hlt:k<n
  ·have HBAD:=jH fun h=>W.vX HE0.out h
   have HGOOD:=jH fun h=>W.all_good HE0.out h
   have HSTOP:Hid ((W.all a n (k+1)).e≠0→W.all a n n=W.all a n (k+1)):=jH fun h=>by have:=W.rC a n (k+1) h (n-(k+1));rwa [show k+1+(n-(k+1))=n by omega]at this
   generalize W.all a n k=st at*
   obtain⟨pv,hpv⟩:∃x,W.pv a k st=x:=⟨_,rfl⟩
   rw [hpv]at HBAD HGOOD
   have HPV:Hid (W.dw st.L st.H k k (a k k,st.f) k=pv):=jH hpv
   clear hpv
   obtain⟨dd,ff⟩:=pv
   obtain⟨hd,hhd⟩:∃x,W.head (dd,ff)=x:=⟨_,rfl⟩
   rw [hhd]at HBAD HGOOD
   have HHD:=jH hhd
   clear hhd
   obtain⟨hh,er⟩:=hd
   dsimp only at HBAD HGOOD
   clear q0 q1 q2 q4 q5
   go_wp2
   go_step3
   go_upto_region 7 with fail
   clear q3
   go_cut [14,15]from 26 to 35 (fun u e wx=>∃hb:Nat,u= .pointer (some ⟨hb,0,none⟩)∧e= .int .i64 er∧Hid (HdI Inv (WX B (.slice ho k hc)) k st.H (dJ st.H k hh) ff er wx B n N (.func (.func fk) #[] cf) (.func (.func lk) #[] cl) (.func (.func hk) #[] ch) (.func (.func ok) #[] co) us (.slice ho k hc) hb hh))
   case first=>
    refine aC (fun w':World=>w'.cell? ⟨B+2,1,none⟩=some (.func (.func hk) #[] ch)) 12 (.take 0 (.take 1 (.take 2 (.take 3 (.take 4 (.fork 5 (.fork 6 (.take 7 (.take 8 (.take 9 (.run 10 (.run 11 .nil))))) 10 (.run 6 (.take 7 (.take 8 (.take 9 (.run 11 .nil)))))) 10 (.run 5 (.run 6 (.take 7 (.take 8 (.take 9 (.run 11 .nil)))))))))))) (by kernel_rfl) (by kernel_rfl) ?_
    have HP:=jH (HT.out.below (aB wo))
    clear HT
    generalize World.drew wo=W1 at*
    repeat (refine tkL (v:= ?_) rfl rfl rfl (fun w' hSw=> ?_) (HP.out.s.r.F_.cell 1) ?_;rotate_left;(focus (go_simp;with_reducible rfl));simp only [aF])
    refine kR ?_ ?_
    ·refine aI rfl rfl fun K' hK=> ?_
     go_simp
     refine(xC HFA.out k k hn HN.out.symm HP.out.s.i HP.out.s.x HP.out.xb HP.out.s.r HL.out hlt (Nat.le_refl _) hlt).mono ?_
     rintro e1 W2 ⟨rfl,hd,hi1,hk1⟩
     rw [HPV.out]at hd hi1 ⊢
     dsimp only at hd hi1 ⊢
     replace HP:=jH (HP.out.step HFA.out.chg hi1 hk1)
     have HD:=jH hd
     clear hd hi1 hk1
     refine hK _ _ (HP.out.s.r.F_.cell 1) ?_
     clear hK K'
     try simp only [Act.put,aF]
     refine kR ?_ ?_
     ·refine aI rfl rfl fun K' hK=> ?_
      go_simp
      refine(HFA.out.head HP.out.s.i HP.out.s.x hlt HD.out).mono ?_
      rintro e1 W3 ⟨rfl,hr,hk1,hg1,hb1⟩
      rw [HHD.out]at hr hg1 hb1 ⊢
      dsimp only at hr hg1 hb1 ⊢
      replace HP:=jH (HP.out.head (er:=er) (H':=dJ st.H k hh) HFA.out.chg hk1 hg1 hb1)
      have HW:=jH hr
      clear hr hk1 hg1 hb1 HD
      refine hK _ _ (HP.out.r.F_.cell 1) ?_
      clear hK K'
      try simp only [Act.put,aF]
      repeat (refine tkL (v:= ?_) rfl rfl rfl (fun w' hSw=> ?_) (HP.out.r.F_.cell 1) ?_;rotate_left;(focus (go_simp;with_reducible rfl));simp only [aF])
      refine aI rfl rfl fun K' hK=> ?_
      go_simp
      obtain⟨hb,hhb⟩:∃i,W3.heap.size=i:=⟨_,rfl⟩
      have HB:Hid (IB (W3.alloc (.cells #[.float .f64 0,.float .f64 0] 37)) hb (0,0)):=jH (hhb▸aJ.new W3 _ _)
      have HNE:Hid (B+5≤hb∧(Value.slice ho k hc).ownBlock≠some hb):=jH ⟨by have:=HP.out.r.lt;omega,fun e=>by have:=(HP.out.o.lt hb e).2;omega⟩
      replace HP:=jH (HP.out.alloc HFA.out.chg HFA.out.new (.cells #[.float .f64 0,.float .f64 0] 37) hhb)
      try rw [hhb]
      generalize World.alloc W3 _=W4 at*
      clear hhb
      refine hK _ _ (HP.out.r.F_.cell 1) ?_
      clear hK K'
      try simp only [Act.put,aF]
      obtain⟨x0,x1⟩:=IB.two HB.out
      obtain⟨x2,x3⟩:=IB.thaw HB.out
      refine aI rfl rfl fun K' hK=> ?_
      go_simp
      clear x0 x1 x2 x3
      have HQ:Hid (HdI Inv (WX B (.slice ho k hc)) k st.H (dJ st.H k hh) ff er (jD W4 hb hh) B n N (.func (.func fk) #[] cf) (.func (.func lk) #[] cl) (.func (.func hk) #[] ch) (.func (.func ok) #[] co) us (.slice ho k hc) hb hh):=jH ⟨HP.out.put HNE.out hh,IB.put HB.out hh,HW.out,HNE.out⟩
      unfold jD at HQ
      clear HP HB
      generalize World.setCell (World.setCell W4 _ _) _ _=W9 at*
      refine hK _ _ (HQ.out.p.r.F_.cell 1) ?_
      clear hK K'
      try simp only [Act.put,aF]
      refine aN ?_
      simp only [drL]
      go_wp2
      go_meet
      exact⟨hb,rfl,rfl,HQ⟩
     ·refine aI rfl rfl fun K' hK=> ?_
      go_simp
      obtain⟨hb,hhb⟩:∃i,W2.heap.size=i:=⟨_,rfl⟩
      have HB:Hid (IB (W2.alloc (.cells #[.float .f64 0,.float .f64 0] 37)) hb (0,0)):=jH (hhb▸aJ.new W2 _ _)
      have HNE:Hid (B+5≤hb∧(Value.slice ho k hc).ownBlock≠some hb):=jH ⟨by have:=HP.out.s.r.lt;omega,fun e=>by have:=(HP.out.o.lt hb e).2;omega⟩
      replace HP:=jH (HP.out.alloc HFA.out.chg HFA.out.new (.cells #[.float .f64 0,.float .f64 0] 37) hhb)
      try rw [hhb]
      generalize World.alloc W2 _=W3 at*
      clear hhb
      refine hK _ _ (HP.out.s.r.F_.cell 1) ?_
      clear hK K'
      try simp only [Act.put,aF]
      refine aI rfl rfl fun K' hK=> ?_
      go_simp
      refine(HFA.out.head HP.out.s.i HP.out.s.x hlt HD.out).mono ?_
      rintro e1 W4 ⟨rfl,hr,hk1,hg1,hb1⟩
      rw [HHD.out]at hr hg1 hb1 ⊢
      dsimp only at hr hg1 hb1 ⊢
      replace HB:=jH ((hk1.block _ (.head _)).trans HB.out)
      replace HP:=jH (HP.out.head (er:=er) (H':=dJ st.H k hh) HFA.out.chg hk1 hg1 hb1)
      have HW:=jH hr
      clear hr hk1 hg1 hb1 HD
      refine hK _ _ (HP.out.r.F_.cell 1) ?_
      clear hK K'
      try simp only [Act.put,aF]
      repeat (refine tkL (v:= ?_) rfl rfl rfl (fun w' hSw=> ?_) (HP.out.r.F_.cell 1) ?_;rotate_left;(focus (go_simp;with_reducible rfl));simp only [aF])
      obtain⟨x0,x1⟩:=IB.two HB.out
      obtain⟨x2,x3⟩:=IB.thaw HB.out
      refine aI rfl rfl fun K' hK=> ?_
      go_simp
      clear x0 x1 x2 x3
      have HQ:Hid (HdI Inv (WX B (.slice ho k hc)) k st.H (dJ st.H k hh) ff er (jD W4 hb hh) B n N (.func (.func fk) #[] cf) (.func (.func lk) #[] cl) (.func (.func hk) #[] ch) (.func (.func ok) #[] co) us (.slice ho k hc) hb hh):=jH ⟨HP.out.put HNE.out hh,IB.put HB.out hh,HW.out,HNE.out⟩
      unfold jD at HQ
      clear HP HB
      generalize World.setCell (World.setCell W4 _ _) _ _=W9 at*
      refine hK _ _ (HQ.out.p.r.F_.cell 1) ?_
      clear hK K'
      try simp only [Act.put,aF]
      refine aN ?_
      simp only [drL]
      go_wp2
      go_meet
      exact⟨hb,rfl,rfl,HQ⟩
    ·refine aI rfl rfl fun K' hK=> ?_
     go_simp
     obtain⟨hb,hhb⟩:∃i,W1.heap.size=i:=⟨_,rfl⟩
     have HB:Hid (IB (W1.alloc (.cells #[.float .f64 0,.float .f64 0] 37)) hb (0,0)):=jH (hhb▸aJ.new W1 _ _)
     have HNE:Hid (B+5≤hb∧(Value.slice ho k hc).ownBlock≠some hb):=jH ⟨by have:=HP.out.s.r.lt;omega,fun e=>by have:=(HP.out.o.lt hb e).2;omega⟩
     replace HP:=jH (HP.out.alloc HFA.out.chg HFA.out.new (.cells #[.float .f64 0,.float .f64 0] 37) hhb)
     try rw [hhb]
     generalize World.alloc W1 _=W2 at*
     clear hhb
     refine hK _ _ (HP.out.s.r.F_.cell 1) ?_
     clear hK K'
     try simp only [Act.put,aF]
     refine aI rfl rfl fun K' hK=> ?_
     go_simp
     refine(xC HFA.out k k hn HN.out.symm HP.out.s.i HP.out.s.x HP.out.xb HP.out.s.r HL.out hlt (Nat.le_refl _) hlt).mono ?_
     rintro e1 W3 ⟨rfl,hd,hi1,hk1⟩
     rw [HPV.out]at hd hi1 ⊢
     dsimp only at hd hi1 ⊢
     replace HB:=jH ((hk1.block _ (.head _)).trans HB.out)
     replace HP:=jH (HP.out.step HFA.out.chg hi1 hk1)
     have HD:=jH hd
     clear hd hi1 hk1
     refine hK _ _ (HP.out.s.r.F_.cell 1) ?_
     clear hK K'
     try simp only [Act.put,aF]
     refine aI rfl rfl fun K' hK=> ?_
     go_simp
     refine(HFA.out.head HP.out.s.i HP.out.s.x hlt HD.out).mono ?_
     rintro e1 W4 ⟨rfl,hr,hk1,hg1,hb1⟩
     rw [HHD.out]at hr hg1 hb1 ⊢
     dsimp only at hr hg1 hb1 ⊢
     replace HB:=jH ((hk1.block _ (.head _)).trans HB.out)
     replace HP:=jH (HP.out.head (er:=er) (H':=dJ st.H k hh) HFA.out.chg hk1 hg1 hb1)
     have HW:=jH hr
     clear hr hk1 hg1 hb1 HD
     refine hK _ _ (HP.out.r.F_.cell 1) ?_
     clear hK K'
     try simp only [Act.put,aF]
     repeat (refine tkL (v:= ?_) rfl rfl rfl (fun w' hSw=> ?_) (HP.out.r.F_.cell 1) ?_;rotate_left;(focus (go_simp;with_reducible rfl));simp only [aF])
     obtain⟨x0,x1⟩:=IB.two HB.out
     obtain⟨x2,x3⟩:=IB.thaw HB.out
     refine aI rfl rfl fun K' hK=> ?_
     go_simp
     clear x0 x1 x2 x3
     have HQ:Hid (HdI Inv (WX B (.slice ho k hc)) k st.H (dJ st.H k hh) ff er (jD W4 hb hh) B n N (.func (.func fk) #[] cf) (.func (.func lk) #[] cl) (.func (.func hk) #[] ch) (.func (.func ok) #[] co) us (.slice ho k hc) hb hh):=jH ⟨HP.out.put HNE.out hh,IB.put HB.out hh,HW.out,HNE.out⟩
     unfold jD at HQ
     clear HP HB
     generalize World.setCell (World.setCell W4 _ _) _ _=W9 at*
     refine hK _ _ (HQ.out.p.r.F_.cell 1) ?_
     clear hK K'
     try simp only [Act.put,aF]
     refine aN ?_
     simp only [drL]
     go_wp2
     go_meet
     exact⟨hb,rfl,rfl,HQ⟩
   case rest=>
    obtain⟨hb,rfl,rfl,HQ⟩:=hcut
    clear HT
    obtain⟨p,hp⟩:∃p,(er==0)=p:=⟨_,rfl⟩
    cases p
    ·have hne:er≠0:=by simpa using hp
     have HEND:Hid (W.all a n n=⟨st.L,st.H,ff,er,k⟩):=jH ((HSTOP.out (by rw [HBAD.out hne];exact hne)).trans (HBAD.out hne))
     have HIE:=jH (HFA.out.sub (X':=[]) (HQ.out.p.e hne) (fun x hx=>by cases hx))
     clear HQ HBAD HGOOD HSTOP
     go_wp2
     try rw [Exit.noGoto_ret]
     refine bodyPost_ret (v:= .tuple #[.slice none 0 0,.slice ho k hc,.int .i64 k,.int .i64 er]) (by simp [results,Tryz.results43,go_sem]) rfl ⟨_,_,_,_,_,_,by rw [HEND.out],⟨_,_,_,HIE.out⟩,fun h=>by rw [HEND.out]at h;exact absurd h hne⟩
    ·obtain rfl:er=0:=by simpa using hp
     have HNX:=jH (HGOOD.out rfl)
     clear hp HSTOP HBAD HGOOD
     have HOW:=jH fun o=>HQ.out.p.o.later (Below.aA wc o)
     have HNW:=jH fun W=>cell_two_new W (.float .f64 hh.1) (.float .f64 hh.2) 37
     have HSZ:Hid (B+5≤wc.heap.size):=jH HQ.out.p.r.lt
     obtain⟨b0,b1⟩:=IB.two HQ.out.b
     go_wp2_with (at_builtin;refine wpList_append_own_at _ rfl _ _ 27 rfl (B+5) 37 i0 (.agg #[.float .f64 0,.float .f64 0]) 2 16 Tryz.underlying27 hi hz0 hz1 hz2 rfl (by decide) _ _ _ rfl (HOW.out _) ⟨_,0,none⟩ 1 1 [.float .f64 hh.1,.float .f64 hh.2] rfl rfl (HNW.out _) ?c2 ?c3 ?c4 ?c5 ?_)
     case c2=>first|rfl|(intro u hu;simp only [List.mem_cons,List.not_mem_nil,or_false]at hu;rcases hu with rfl|rfl<;>rfl)|(refine⟨rfl,rfl⟩)
     case c3=>unfold maxLen;omega
     case c4=>omega
     case c5=>have:=HSZ.out;simp;omega
     intro v' U4 hown hgrow _ hat
     have HT2:=jH (HQ.out.push HFA.out.chg HFA.out.new HFA.out.sub (Below.aA _ _) hgrow hown (by rw [size_alloc];exact hat))
     obtain⟨ao',cap',hv'⟩:=qC hown
     rw [hv']at HT2 ⊢
     clear hown hgrow hat hv' HNW HOW HSZ HQ b0 b1
     generalize dJ st.H k hh=H1 at*
     obtain⟨q0,q1,q2,q3,q4,q5⟩:=HT2.out.p.s.cells5
     go_wp2
     go_step3
     go_wp2
     go_loopw [46] (fun i wr=>∃(q:Nat) (us:Nat→Iv),q≤n∧i= .int .i64 q∧Hid (aB0 n (W.rows a H1 hh k q (st.L,ff)).1 us)∧Hid (xH Inv (k+1) H1 (W.rows a H1 hh k q (st.L,ff)).2 wr B n N (.func (.func fk) #[] cf) (.func (.func lk) #[] cl) (.func (.func hk) #[] ch) (.func (.func ok) #[] co) us (.slice ao' (k+1) cap') hb hh)) (fun i _=>n-(intOf i).toNat)
     case atStart=>exact⟨0,us,Nat.zero_le _,rfl,HL,HT2⟩
     case round=>
      clear HL HT2 q0 q1 q2 q3 q4 q5
      obtain⟨wo2,rfl⟩:∃wo:World,wo=wr:=⟨_,rfl⟩
      obtain⟨q,us,hq,rfl,HL,HT⟩:=hrel
      obtain⟨q0,q1,q2,q3,q4,q5⟩:=HT.out.p.s.cells5
      by_cases hql:q<n
      ·by_cases hqk:q≤k
       ·have hd:decide ((q:Int)≤(k:Int))=true:=decide_eq_true (by omega)
        have hdn:decide (q≤k)=true:=decide_eq_true hqk
        have HSK:Hid (W.rows a H1 hh k (q+1) (st.L,ff)=W.rows a H1 hh k q (st.L,ff)):=jH ((W.oI a H1 hh k (st.L,ff) (q+1) (by omega)).trans (W.oI a H1 hh k (st.L,ff) q (by omega)).symm)
        clear hqk
        go_wp2
        go_roundw
        case rel=>exact⟨q+1,us,by omega,by go_num,jH (by rw [HSK.out];exact HL.out),jH (by rw [HSK.out];exact HT.out)⟩
        case measure=>simp [intOf]<;>omega
       ·have hd:decide ((q:Int)≤(k:Int))=false:=decide_eq_false (by omega)
        have hdn:decide (q≤k)=false:=decide_eq_false hqk
        have HSS:=jH (W.zZ (a:=a) (H:=H1) (h:=hh) (s:=(st.L,ff)) (show k<q by omega))
        obtain⟨e1,e2⟩:=at_eq hn hql hlt
        have HP:Hid (q*n+k<N):=jH (by rw [←HN.out];exact jZ hql hlt)
        generalize W.rows a H1 hh k q (st.L,ff)=rs at*
        obtain⟨L2,f2⟩:=rs
        try dsimp only at HL HT HSS
        have HLS:=jH fun x (h:IW x)=>HL.out.set (i:=q) hlt h
        generalize q*n+k=p at*
        generalize ((q*n:Nat):Int)=pi at*
        clear q1 q2 q3 hqk
        go_upto_region 15 with fail
        clear q0 q4 q5
        refine aC (fun w':World=>((w'.cell? ⟨B,0,none⟩=some (.int .i64 n)∧w'.cell? ⟨B+4,0,none⟩=some (.slice (some ⟨B+3,0,none⟩) N N))∧w'.cell? ⟨B+2,2,none⟩=some (.func (.func ok) #[] co))∧w'.cell? ⟨hb,0,none⟩=some (.float .f64 hh.1)∧w'.cell? ⟨hb,1,none⟩=some (.float .f64 hh.2)) 14 (.take 0 (.take 1 (.take 2 (.take 3 (.take 4 (.take 5 (.take 6 (.take 7 (.take 8 (.take 9 (.take 10 (.take 12 (.run 11 (.run 13 .nil)))))))))))))) (by kernel_rfl) (by kernel_rfl) ?_
        replace HT:=jH (HT.out.below (aB _))
        generalize World.drew _=W9 at HT ⊢
        repeat (refine tkL (v:= ?_) rfl rfl rfl (fun w' hSw=> ?_) HT.out.rd ?_;rotate_left;(focus (go_simp;with_reducible rfl));simp only [aF])
        refine aI rfl rfl fun K' hK=> ?_
        go_simp
        refine(xC HFA.out q k hn HN.out.symm HT.out.p.s.i HT.out.p.s.x HT.out.p.xb HT.out.p.s.r HL.out hql (Nat.le_succ _) hlt).mono ?_
        rintro e1 W9v1 ⟨rfl,hd2,hi1,hk1⟩
        replace HT:=jH (HT.out.step HFA.out.chg hi1 hk1)
        have HD:=jH hd2
        clear hd2 hi1 hk1
        generalize W.dw L2 H1 q k (a q k,f2) k=dw at*
        obtain⟨t0,f3⟩:=dw
        try dsimp only at HD HT HSS
        try dsimp only
        refine hK _ _ HT.out.rd ?_
        clear hK K'
        try simp only [Act.put,aF]
        repeat (refine tkL (v:= ?_) rfl rfl rfl (fun w' hSw=> ?_) HT.out.rd ?_;rotate_left;(focus (go_simp;with_reducible rfl));simp only [aF])
        refine aI rfl rfl fun K' hK=> ?_
        go_simp
        refine(HFA.out.over HT.out.p.s.i HT.out.p.s.x HD.out HT.out.iw).mono ?_
        rintro e1 W9v2 ⟨rfl,hr,hi1,hk1⟩
        replace HT:=jH (HT.out.step HFA.out.chg hi1 hk1)
        have HY:=jH hr
        clear hr hi1 hk1 HD
        generalize W.over (t0,f3) hh=ov at*
        obtain⟨y0,f4⟩:=ov
        try dsimp only at HY HT HSS
        try dsimp only
        refine hK _ _ HT.out.rd ?_
        clear hK K'
        try simp only [Act.put,aF]
        repeat (refine tkL (v:= ?_) rfl rfl rfl (fun w' hSw=> ?_) HT.out.rd ?_;rotate_left;(focus (go_simp;with_reducible rfl));simp only [aF])
        refine aN ?_
        simp only [drL]
        clear e1 e2 hd hdn
        obtain⟨p0,p2⟩:=HT.out.p.s.r.g_.cell HP.out
        have p1:=HT.out.p.s.r.g_.frozen (p*2)
        have p3:=HT.out.p.s.r.g_.frozen (p*2+1)
        have HP1:=HP.out
        go_wp2
        go_roundw
        case rel=>exact⟨q+1,dJ us p y0,by omega,by go_num,jH (by rw [HSS.out];exact HLS.out _ HY.out),jH (by rw [HSS.out];exact HT.out.set HP.out)⟩
        case measure=>simp [intOf]<;>omega
      ·obtain rfl:q=n:=by omega
       go_wp2
       go_simp
       go_wp2
       go_roundw
       case rel=>exact⟨k+1,us,by omega,by go_num,jH (by rw [HNX.out]),jH (by rw [HNX.out];exact HL.out),jH (by rw [HNX.out];exact HT.out.out HFA.out.chg HFA.out.sub)⟩
       case measure=>simp [intOf]<;>omega
  ·obtain rfl:k=n:=by omega
   have HAP:=jH (W.aVa a k k HE0.out)
   have HIE:=jH (HFA.out.sub (X':=[]) HT.out.s.i (fun x hx=>by cases hx))
   go_wp2
   refine bodyPost_ret (v:= .tuple #[.slice (some ⟨B+3,0,none⟩) N N,.slice ho k hc,.int .i64 0,.int .i64 0]) (by simp [results,Tryz.results43,go_sem]) rfl ⟨_,_,_,_,_,_,by rw [HAP.out,HE0.out];rfl,⟨_,_,_,HIE.out⟩,fun _=>HIE.out⟩
end
end Go.Proofs.YtfmecpembnmnkaaGreatDoor
