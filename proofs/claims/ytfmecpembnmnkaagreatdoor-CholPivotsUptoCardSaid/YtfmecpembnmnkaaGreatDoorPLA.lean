/- Plain: root triangles, step by step: what is computed, and whether a step was not finite. No program. -/
import Derived.Test.YtfmecpembnmnkaaGreatDoorPGV
import Derived.Test.YtfmecpembnmnkaaGreatDoorPGJ
import Derived.Test.YtfmecpembnmnkaaGreatDoorPGM
import Derived.Test.YtfmecpembnmnkaaGreatDoorPGR
import Derived.Test.YtfmecpembnmnkaaGreatDoorPGC
import Derived.Deep.CutRange
import Derived.Test.YtfmecpembnmnkaaGreatDoorPIB
namespace Go.Proofs.YtfmecpembnmnkaaGreatDoor
section
open Go.RowKit
abbrev Fo :=Option Nat
def iP (o:Fo):Bool:=match o with|some x=>aK x|none=>false
theorem Rep.fin {o:Fo}{v:Nat}(h:Rep o v):aK v=iP o:=by
 obtain⟨-,h⟩:=h
 cases o with
 |some x=>rw [show v=x from h];rfl
 | none=>
  have h2:aU v=true:=h
  cases hf:aK v
  ·rfl
  ·rw [jC hf]at h2;cases h2
theorem Rep.lt {o:Fo}{v:Nat}(h:Rep o v):v<18446744073709551616:=h.1
def aS3 (o:Fo):Nat:=match o with|some x=>x|none=>0
theorem Rep.bits {o:Fo}{v:Nat}(h:Rep o v) (hf:iP o=true):v=aS3 o:=by
 cases o with
 |some x=>exact h.2
 |none=>cases hf
def itr {σ:Type}(g:Nat→σ→σ):Nat→σ→σ
 |0,s=>s
 |k+1,s=>g k (itr g k s)
abbrev Sp :=Fo×Bool
def ovr (f:Bool) (o:Fo):Bool:=f|| !iP o
def aAi (s:Sp) (a b:Fo):Sp:=(oA .sub s.1 (oA .mul a b),ovr (ovr s.2 (oA .mul a b)) (oA .sub s.1 (oA .mul a b)))
theorem kU {f:Bool}{o:Fo}(h:ovr f o=false):f=false∧iP o=true:=by
 unfold ovr at h
 cases f
 ·exact⟨rfl,by simpa using h⟩
 ·cases h
def dJ {α:Type}(x:Nat→α) (i:Nat) (v:α):Nat→α:=fun j=>if j=i then v else x j
theorem eP {α:Type}(x:Nat→α) (i:Nat) (v:α):dJ x i v i=v:=by unfold dJ;rw [if_pos rfl]
theorem iO {α:Type}{x:Nat→α}{i j:Nat}{v:α}(h:j≠i):dJ x i v j=x j:=by unfold dJ;rw [if_neg h]
def dnT (L:Nat→Nat→Fo) (x:Nat→Fo) (i:Nat) (b:Fo) (f:Bool) (k:Nat):Sp:=itr (fun k s=>aAi s (L i k) (x k)) k (b,f)
def dnS (L:Nat→Nat→Fo) (b:Nat→Fo) (i:Nat) (s:(Nat→Fo)×Bool):(Nat→Fo)×Bool:=
 (dJ s.1 i (oA .quo (dnT L s.1 i (b i) s.2 i).1 (L i i)),ovr (dnT L s.1 i (b i) s.2 i).2 (oA .quo (dnT L s.1 i (b i) s.2 i).1 (L i i)))
def dn (L:Nat→Nat→Fo) (b:Nat→Fo) (f:Bool) (k:Nat):(Nat→Fo)×Bool:=itr (dnS L b) k (fun _=>some 0,f)
def upT (L:Nat→Nat→Fo) (x:Nat→Fo) (i:Nat) (b:Fo) (f:Bool) (q:Nat):Sp:=itr (fun q s=>aAi s (L (i+1+q) i) (x (i+1+q))) q (b,f)
def upS (L:Nat→Nat→Fo) (b:Nat→Fo) (n:Nat) (m:Nat) (s:(Nat→Fo)×Bool):(Nat→Fo)×Bool:=
 (dJ s.1 (n-1-m) (oA .quo (upT L s.1 (n-1-m) (b (n-1-m)) s.2 m).1 (L (n-1-m) (n-1-m))),
  ovr (upT L s.1 (n-1-m) (b (n-1-m)) s.2 m).2 (oA .quo (upT L s.1 (n-1-m) (b (n-1-m)) s.2 m).1 (L (n-1-m) (n-1-m))))
def up (L:Nat→Nat→Fo) (b:Nat→Fo) (f:Bool) (n:Nat) (m:Nat):(Nat→Fo)×Bool:=itr (upS L b n) m (fun _=>some 0,f)
theorem aIu {g:Nat→Sp→Sp}(hg:∀k s,(g k s).2=false→s.2=false):∀k s,(itr g k s).2=false→s.2=false
 |0,_,h=>h
 |k+1,s,h=>aIu hg k s (hg k _ h)
theorem aO8 {s:Sp}{a b:Fo}(h:(aAi s a b).2=false):s.2=false:=(kU (kU h).1).1
theorem aTj {L:Nat→Nat→Fo}{b:Nat→Fo}{n m:Nat}{s:(Nat→Fo)×Bool}(h:(upS L b n m s).2=false):s.2=false:=
 aIu (fun _ _ h=>aO8 h) _ _ (kU h).1
theorem aRv {L:Nat→Nat→Fo}{b:Nat→Fo}{f:Bool}{n:Nat}:∀m,m≤n→(up L b f n m).2=false→∀j,n-m≤j→j<n→iP ((up L b f n m).1 j)=true
 |0,_,_,_,h1,h2=>absurd h1 (by omega)
 | m+1,hm,h,j,h1,h2=>by
  have h3:(upS L b n m (up L b f n m)).2=false:=h
  show iP (dJ (up L b f n m).1 (n-1-m) _ j)=true
  by_cases e:j=n-1-m
  ·subst e
   rw [eP]
   exact(kU h3).2
  ·rw [iO e]
   exact aRv m (by omega) (aTj h3) j (by omega) h2
def atN (c:Nat) (l:List Nat) (i j:Nat):Nat:=l.getD (i*c+j) 0
def atO (c:Nat) (l:List Nat) (i j:Nat):Fo:=some (atN c l i j)
theorem jZ {n i j:Nat}(hi:i<n) (hj:j<n):i*n+j<n*n:=by
 have:=Nat.mul_le_mul_right n (show i+1≤n from hi)
 rw [Nat.add_mul,Nat.one_mul]at this
 omega
theorem zJ {n:Nat}{l:List Nat}{i j:Nat}(h:i*n+j<l.length):l[i*n+j]=atN n l i j:=by
 unfold atN
 rw [List.getD_eq_getElem?_getD,List.getElem?_eq_getElem h];rfl
def lQ (r c:Int) (l:List Nat):Int:=if 0≤r∧r≤12∧0≤c∧c≤12 then(if(l.length:Int)=r*c then(if l.all aK then 0 else 4)else 3)else 1
def kN (r c:Int) (l:List Nat):Int:=if lQ r c l≠0 then lQ r c l else if r=c then 0 else 3
structure Sq (n:Nat) (r c:Int) (l:List Nat):Prop where
 hr:r=n
 hc:c=n
 hn:n≤12
 len:l.length=n*n
 fin:l.all aK=true
theorem aR0 {r c:Int}{l:List Nat}(h:lQ r c l=0):(0≤r∧r≤12∧0≤c∧c≤12)∧(l.length:Int)=r*c∧l.all aK=true:=by
 unfold lQ at h
 split at h
 ·rename_i h1
  split at h
  ·rename_i h2
   split at h
   ·rename_i h3;exact⟨h1,h2,h3⟩
   ·cases h
  ·cases h
 ·cases h
theorem rM {r c:Int}{l:List Nat}(h:kN r c l=0):Sq r.toNat r c l:=by
 unfold kN at h
 split at h
 ·rename_i h1;exact absurd h h1
 ·rename_i h1
  split at h
  ·rename_i h2
   obtain⟨h3,h4,h5⟩:=aR0 (Decidable.not_not.1 h1)
   subst h2
   refine⟨by omega,by omega,by omega,?_,h5⟩
   have h6:(r.toNat:Int)=r:=by omega
   have:(l.length:Int)=((r.toNat*r.toNat:Nat):Int):=by rw [Int.natCast_mul,h6];exact h4
   omega
  ·cases h
def wI (n:Nat) (l:List Nat):Prop:=∀i,i<n→∀j,j<i→atN n l i j=atN n l j i
instance (n :Nat) (l:List Nat):Decidable (wI n l):=by unfold wI;infer_instance
def iC (r c:Int) (l:List Nat):Int:=if kN r c l≠0 then kN r c l else if wI r.toNat l then 0 else 91
def posB (x:Nat):Bool:=F6.order x 0==some Ordering.gt
def xU (r:Int) (b:List Nat):Int:=if(b.length:Int)≠r then 3 else if b.all aK then 0 else 4
end
section
set_option maxRecDepth 100000
set_option maxHeartbeats 6400000
open Go.RowKit
structure Upd (b:Nat) (w w':World):Prop where
 os:w'.os=w.os
 tape:w'.tape=w.tape
 output:w'.output=w.output
 size:w.heap.size≤w'.heap.size
 block:∀k,k<w.heap.size→k≠b→w'.heap[k]? =w.heap[k]?
theorem Upd.of_below {b:Nat}{w w':World}(h:Below w.heap.size w w'):Upd b w w':=⟨h.os,h.tape,h.output,h.size,fun k hk _=>h.block k hk⟩
theorem Upd.refl (b:Nat) (w:World):Upd b w w:= .of_below (Below.refl _ _)
theorem Upd.trans {b:Nat}{w u v:World}(h:Upd b w u) (k:Upd b u v):Upd b w v:=
 ⟨k.os.trans h.os,k.tape.trans h.tape,k.output.trans h.output,Nat.le_trans h.size k.size,fun i hi hn=>(k.block i (Nat.lt_of_lt_of_le hi h.size) hn).trans (h.block i hi hn)⟩
theorem Upd.below {b B:Nat}{u w w':World}(h:Upd b w w') (hu:Below B u w) (hb:B≤b) (hs:B≤w.heap.size):Below B u w':=
 hu.trans ⟨h.os,h.tape,h.output,h.size,fun k hk=>h.block k (by omega) (by omega)⟩
theorem Upd.set {b i:Nat}{w:World}(v:Value):Upd b w (w.setCell ⟨b,i,none⟩ v):=by
 have h:=Below.setCell (Below.refl b w) (p:=⟨b,i,none⟩) (Nat.le_refl b) v
 exact⟨h.os,h.tape,h.output,h.size,fun k _ hn=>by
  show(w.heap.modify b _)[k]? =_
  rw [Array.getElem?_modify,if_neg (fun e=>hn e.symm)]⟩
theorem aJ.upd {w w':World}{b x t:Nat}{cs:Array Value}(h:aJ w x t cs) (hu:Upd b w w') (hn:x≠b):aJ w' x t cs:=(hu.block x h.lt hn).trans h
def FSn (w:World) (v:Value) (l:List Nat) (b:Nat):Prop:=FSl w v l∧(0<l.length→∀a n c,v= .slice (some a) n c→a.block≠b)
theorem FSn.upd {w w':World}{v:Value}{l:List Nat}{b:Nat}(h:FSn w v l b) (hu:Upd b w w'):FSn w' v l b:=by
 obtain⟨⟨ao,cap,h1,h2,h3,h4,h5⟩,h6⟩:=h
 refine⟨⟨ao,cap,h1,h2,h3,h4,fun h0=> ?_⟩,h6⟩
 obtain⟨x,off,e,hlt,hc⟩:=h5 h0
 have hn:x≠b:=h6 h0 ⟨x,off,none⟩ _ _ (by rw [h1,e])
 exact⟨x,off,e,Nat.lt_of_lt_of_le hlt hu.size,fun i hi=>(World.cell?_of_block (a:=⟨x,off+i,none⟩) (hu.block x hlt hn)).trans (hc i hi)⟩
theorem FSn.below {w w':World}{v:Value}{l:List Nat}{b:Nat}(h:FSn w v l b) (hb:Below w.heap.size w w'):FSn w' v l b:=⟨h.1.below hb,h.2⟩
theorem FSn.of {w:World}{v:Value}{l:List Nat}{b:Nat}(h:FSl w v l) (hb:w.heap.size≤b):FSn w v l b:=⟨h,fun h0 a n c e=>by
 obtain⟨ao,cap,h1,-,-,-,h5⟩:=h
 obtain⟨x,off,e2,hlt,-⟩:=h5 h0
 rw [h1,e2]at e
 obtain rfl:(⟨x,off,none⟩:Addr)=a:=by injection e with e;exact Option.some.inj e
 show x≠b
 omega⟩
abbrev kG (r c:Int) (sl:Value):Value:= .agg #[.int .i64 r,.int .i64 c,sl]
theorem size_any (n:Int) (w:World):Calls Tryz.prog 122 #[.int .i64 n] w (Gives (.bool (decide (0≤n∧n≤12))) w):=by
 by_cases h1:0≤n
 ·have g1:decide (0≤n)=true:=decide_eq_true h1
  by_cases h2:n≤12
  ·have g2:decide (n≤12)=true:=decide_eq_true h2
   rw [decide_eq_true ⟨h1,h2⟩]
   clear h1 h2
   go_enter Tryz.func122,Tryz.ntmps122
   go_wp2
   go_ret
   exact⟨rfl,Below.refl _ _⟩
  ·have g2:decide (n≤12)=false:=decide_eq_false h2
   rw [decide_eq_false (fun h=>h2 h.2)]
   clear h1 h2
   go_enter Tryz.func122,Tryz.ntmps122
   go_wp2
   go_ret
   exact⟨rfl,Below.refl _ _⟩
 ·have g1:decide (0≤n)=false:=decide_eq_false h1
  rw [decide_eq_false (fun h=>h1 h.1)]
  clear h1
  go_enter Tryz.func122,Tryz.ntmps122
  go_wp2
  go_ret
  exact⟨rfl,Below.refl _ _⟩
def aC3 (t sb:Nat) (f:Bool) (o:Fo) (w:World) (e:Ending) (w':World):Prop:=
 ∃v,e= .returned (.float .f64 v)∧Rep o v∧aJ w' sb t #[.bool f]∧Upd sb w w'
theorem uK (sb:Nat) (f:Bool) (o:Fo) (v:Nat) (w:World) (hs:aJ w sb 94 #[.bool f]) (hv:Rep o v):
  Calls Tryz.prog 77 #[.pointer (some ⟨sb,0,none⟩),.float .f64 v] w (aC3 94 sb (ovr f o) o w):=by
 have HV:=jH hv
 have HS:=jH hs
 have HF1:=jH (FSl.one w v 35 hv.lt)
 have HFI:=jH fun sl W (h:FSl W sl [v])=>sD sl [v] W h
 rw [show [v].all aK=aK v by simp,hv.fin]at HFI
 have HO:Hid (ovr f o=(f|| !iP o)):=jH rfl
 clear hv hs
 go_enter Tryz.func77,Tryz.ntmps77
 go_wp2_with fail
 refine(HFI.out _ _ HF1.out).mono ?_
 rintro e1 w1 ⟨rfl,hb1⟩
 have HB:=jH ((Below.aA w (.cells #[.float .f64 v] 35)).trans (hb1.mono (Below.aA w (.cells #[.float .f64 v] 35)).size))
 replace HS:=jH (HS.out.below HB.out)
 clear hb1 HF1
 have q0:=HS.out.cell 0
 have q1:=HS.out.frozen 0
 cases hf:iP o
 ·rw [hf,Bool.not_false,Bool.or_true]at HO
  go_wp2
  refine bodyPost_ret (v:= .float .f64 v) (by simp [results,Tryz.results77,go_sem]) rfl ⟨v,rfl,HV.out,?_,(Upd.of_below HB.out).trans (Upd.set _)⟩
  rw [HO.out]
  exact HS.out.set (i:=0) (.bool true)
 ·rw [hf,Bool.not_true,Bool.or_false]at HO
  go_wp2
  refine bodyPost_ret (v:= .float .f64 v) (by simp [results,Tryz.results77,go_sem]) rfl ⟨v,rfl,HV.out,?_,Upd.of_below HB.out⟩
  rw [HO.out]
  exact HS.out
theorem uG (sb:Nat) (f:Bool) (a b:Fo) (u v:Nat) (w:World) (hs:aJ w sb 94 #[.bool f]) (ha:Rep a u) (hb:Rep b v):
  Calls Tryz.prog 65 #[.pointer (some ⟨sb,0,none⟩),.float .f64 u,.float .f64 v] w (aC3 94 sb (ovr f (oA .mul a b)) (oA .mul a b) w):=by
 have hm:∀t,(binOp .mul t (.float .f64 u) (.float .f64 v)).run Tryz.prog w= .ok (.float .f64 (fV .mul u v w)) (fN .mul u v w):=fun t=>jA .mul (.inr (.inr (.inl rfl))) t u v w
 have HR:=jH (ha.op (op:= .mul) hb w)
 have HB:=jH (rG .mul u v w)
 have HS:=jH (hs.below HB.out)
 clear ha hb hs
 generalize fV .mul u v w=x at*
 generalize fN .mul u v w=w1 at*
 generalize oA .mul a b=o at*
 go_enter Tryz.func65,Tryz.ntmps65
 go_wp2_with fail
 refine(uK sb f o x w1 HS.out HR.out).mono ?_
 rintro e2 w2 ⟨y,rfl,h1,h2,h3⟩
 have HA:=jH (And.intro h1 (And.intro h2 ((Upd.of_below HB.out).trans h3)))
 clear h1 h2 h3
 go_wp2
 refine bodyPost_ret (v:= .float .f64 y) (by simp [results,Tryz.results65,go_sem]) rfl ⟨y,rfl,HA.out.1,HA.out.2.1,HA.out.2.2⟩
theorem xI (sb:Nat) (f:Bool) (a b:Fo) (u v:Nat) (w:World) (hs:aJ w sb 94 #[.bool f]) (ha:Rep a u) (hb:Rep b v):
  Calls Tryz.prog 64 #[.pointer (some ⟨sb,0,none⟩),.float .f64 u,.float .f64 v] w (aC3 94 sb (ovr f (oA .sub a b)) (oA .sub a b) w):=by
 have hm:∀t,(binOp .sub t (.float .f64 u) (.float .f64 v)).run Tryz.prog w= .ok (.float .f64 (fV .sub u v w)) (fN .sub u v w):=fun t=>jA .sub (.inr (.inl rfl)) t u v w
 have HR:=jH (ha.op (op:= .sub) hb w)
 have HB:=jH (rG .sub u v w)
 have HS:=jH (hs.below HB.out)
 clear ha hb hs
 generalize fV .sub u v w=x at*
 generalize fN .sub u v w=w1 at*
 generalize oA .sub a b=o at*
 go_enter Tryz.func64,Tryz.ntmps64
 go_wp2_with fail
 refine(uK sb f o x w1 HS.out HR.out).mono ?_
 rintro e2 w2 ⟨y,rfl,h1,h2,h3⟩
 have HA:=jH (And.intro h1 (And.intro h2 ((Upd.of_below HB.out).trans h3)))
 clear h1 h2 h3
 go_wp2
 refine bodyPost_ret (v:= .float .f64 y) (by simp [results,Tryz.results64,go_sem]) rfl ⟨y,rfl,HA.out.1,HA.out.2.1,HA.out.2.2⟩
theorem aA8 (i j c k:Nat) (r:Int) (sl:Value) (l:List Nat) (w:World) (hl:FSl w sl l) (hk:i*c+j=k) (h:k<l.length):
  Calls Tryz.prog 42 #[kG r c sl,.int .i64 i,.int .i64 j] w (Gives (.float .f64 l[k]) w):=by
 obtain⟨ao,cap,rfl,hcap,hn,-,hc⟩:=hl
 obtain⟨b,off,rfl,hb,hcc⟩:=hc (by omega)
 obtain⟨m,hm⟩:∃m,i*c=m:=⟨_,rfl⟩
 rw [hm]at hk
 have hw1:IntKind.i64.wrap ((i:Int)*(c:Int))=(m:Int):=by rw [←Int.natCast_mul,hm];exact IntWalk.i64_in _ (by omega)
 have hw2:IntKind.i64.wrap ((m:Int)+(j:Int))=(k:Int):=by rw [show(m:Int)+(j:Int)=(k:Int) by omega];exact IntWalk.i64_in _ (by omega)
 have HB:=jH (Below.aA w (.cells #[.int .i64 r,.int .i64 c,.slice (some ⟨b,off,none⟩) l.length cap] 25))
 have hck:=(HB.out.cell (p:=⟨b,off+k,none⟩) hb).trans (hcc k h)
 obtain⟨q0,q1,q2,-⟩:=(aJ.new w #[.int .i64 r,.int .i64 c,.slice (some ⟨b,off,none⟩) l.length cap] 25).cells3
 clear hcc hc hm hb
 generalize l[k]=x at*
 go_enter Tryz.func42,Tryz.ntmps42
 go_wp2
 go_ret
 exact⟨rfl,HB.out⟩
theorem aLl (i j c k:Nat) (r:Int) (sl:Value) (l:List Nat) (w:World) (hl:FSl w sl l) (hk:i*c+j=k) (h:k<l.length):
  Calls Tryz.prog 51 #[kG r c sl,.int .i64 i,.int .i64 j] w (Gives (.float .f64 l[k]) w):=by
 obtain⟨ao,cap,rfl,hcap,hn,-,hc⟩:=hl
 obtain⟨b,off,rfl,hb,hcc⟩:=hc (by omega)
 obtain⟨m,hm⟩:∃m,i*c=m:=⟨_,rfl⟩
 rw [hm]at hk
 have hw1:IntKind.i64.wrap ((i:Int)*(c:Int))=(m:Int):=by rw [←Int.natCast_mul,hm];exact IntWalk.i64_in _ (by omega)
 have hw2:IntKind.i64.wrap ((m:Int)+(j:Int))=(k:Int):=by rw [show(m:Int)+(j:Int)=(k:Int) by omega];exact IntWalk.i64_in _ (by omega)
 have HB:=jH (Below.aA w (.cells #[.int .i64 r,.int .i64 c,.slice (some ⟨b,off,none⟩) l.length cap] 25))
 have hck:=(HB.out.cell (p:=⟨b,off+k,none⟩) hb).trans (hcc k h)
 obtain⟨q0,q1,q2,-⟩:=(aJ.new w #[.int .i64 r,.int .i64 c,.slice (some ⟨b,off,none⟩) l.length cap] 25).cells3
 clear hcc hc hm hb
 generalize l[k]=x at*
 go_enter Tryz.func51,Tryz.ntmps51
 go_wp2
 go_ret
 exact⟨rfl,HB.out⟩
end
section
open Go.RowKit
theorem Tryz.aE4 :(Tryz.prog.info? 35).map (fun i=>(i.zero,i.size,i.bytes))=some (some (.float .f64 0),1,8):=by kernel_rfl
theorem Upd.store {b x i:Nat}{w0 W:World}{v:Value}(h:Upd b w0 W) (hx:w0.heap.size≤x):Upd b w0 (W.setCell ⟨x,i,none⟩ v):=by
 have h3:=Below.setCell (Below.refl w0.heap.size W) (p:=⟨x,i,none⟩) hx v
 exact⟨h3.os.trans h.os,h3.tape.trans h.tape,h3.output.trans h.output,Nat.le_trans h.size h3.size,fun k hk hn=>(h3.block k hk).trans (h.block k hk hn)⟩
def FMs (W:World) (g n:Nat) (vs:Nat→Nat):Prop:=W.rowIs g 35 n (fun i=> .float .f64 (vs i))
theorem FMs.lt {W:World}{g n:Nat}{vs:Nat→Nat}(h:FMs W g n vs):g<W.heap.size:=by
 obtain⟨cur,h1,-⟩:=h
 exact(Array.getElem?_eq_some_iff.1 h1).1
theorem FMs.cell {W:World}{g n i:Nat}{vs:Nat→Nat}(h:FMs W g n vs) (hi:i<n):W.cell? ⟨g,i,none⟩=some (.float .f64 (vs i)):=by
 obtain⟨cur,h1,-,h5⟩:=h
 rw [cell_of_row W g i cur _ _ h1]
 exact h5 i hi
theorem FMs.frozen {W:World}{g n:Nat}{vs:Nat→Nat}(h:FMs W g n vs) (i:Nat):W.frozen? ⟨g,i,none⟩=false:=by
 obtain⟨cur,h1,-⟩:=h
 exact frozen_of_row W g i cur _ h1
theorem FMs.set {W:World}{g n i v:Nat}{vs:Nat→Nat}(h:FMs W g n vs) (hi:i<n):FMs (W.setCell ⟨g,i,none⟩ (.float .f64 v)) g n (dJ vs i v):=by
 obtain⟨cur,h1,h2,h5⟩:=h
 refine⟨cur.setIfInBounds i (.float .f64 v),heap_setCell_same W g i cur _ _ h1,by simpa using h2,fun j hj=> ?_⟩
 rw [Array.getElem?_setIfInBounds]
 by_cases e:i=j
 ·subst e
  rw [if_pos rfl,if_pos (by omega)]
  exact congrArg some (congrArg _ (eP vs i v).symm)
 ·rw [if_neg e]
  exact(h5 j hj).trans (congrArg some (congrArg _ (iO (fun t=>e t.symm)).symm))
theorem FMs.of_block {W V:World}{g n:Nat}{vs:Nat→Nat}(h:FMs W g n vs) (e:V.heap[g]? =W.heap[g]?):FMs V g n vs:=by
 obtain⟨cur,h1,h2⟩:=h
 exact⟨cur,e.trans h1,h2⟩
theorem FMs.below {W V:World}{g n:Nat}{vs:Nat→Nat}(h:FMs W g n vs) (hb:Below W.heap.size W V):FMs V g n vs:=h.of_block (hb.block g h.lt)
theorem FMs.upd {W V:World}{g n b:Nat}{vs:Nat→Nat}(h:FMs W g n vs) (hu:Upd b W V) (hn:g≠b):FMs V g n vs:=h.of_block (hu.block g h.lt hn)
theorem FMs.made (W:World) (n:Nat):FMs (W.alloc (.cells (madeCells #[.float .f64 0] n) 35)) W.heap.size n (fun _=>0):=World.rowIs_made _ _ _ _
theorem FMs.made1 (W:World) (o:_root_.Go.Obj) (n:Nat):FMs ((W.alloc o).alloc (.cells (madeCells #[.float .f64 0] n) 35)) (W.heap.size+1) n (fun _=>0):=by
 have:=FMs.made (W.alloc o) n
 simpa using this
theorem FMs.fsl {W:World}{g n:Nat}{vs:Nat→Nat}(h:FMs W g n vs) (hn:n≤1099511627776) (hx:∀i,i<n→vs i<18446744073709551616):FSl W (.slice (some ⟨g,0,none⟩) n n) ((List.range n).map vs):=by
 have hl:((List.range n).map vs).length=n:=by simp
 refine⟨_,n,by rw [hl],by rw [hl];exact Nat.le_refl _,by rw [hl];exact hn,fun x hx2=> ?_,fun _=>⟨g,0,rfl,h.lt,fun i hi=> ?_⟩⟩
 ·simp only [List.mem_map,List.mem_range]at hx2
  obtain⟨i,hi,rfl⟩:=hx2
  exact hx i hi
 ·rw [Nat.zero_add,h.cell (by rw [hl]at hi;exact hi)]
  simp
def xJ (n:Nat) (x:Nat→Fo) (vs:Nat→Nat):Prop:=∀i,i<n→Rep (x i) (vs i)
theorem xJ.set {n i v:Nat}{x:Nat→Fo}{vs:Nat→Nat}{o:Fo}(h:xJ n x vs) (hv:Rep o v):xJ n (dJ x i o) (dJ vs i v):=fun j hj=>by
 by_cases e:j=i
 ·subst e;rw [eP,eP];exact hv
 ·rw [iO e,iO e];exact h j hj
theorem xJ.zero (n:Nat):xJ n (fun _=>some 0) (fun _=>0):=fun _ _=>⟨show 0<18446744073709551616 by decide,rfl⟩
structure DwR (t:Nat) (w0 W:World) (mb xb sb n:Nat) (lv:Value) (f:Bool) (vs:Nat→Nat):Prop where
 s:aJ W sb t #[.bool f]
 m:aJ W mb 25 #[.int .i64 n,.int .i64 n,lv]
 x:FMs W xb n vs
 u:Upd sb w0 W
 ne:w0.heap.size≤mb∧w0.heap.size≤xb∧mb≠xb∧sb<w0.heap.size
theorem DwR.step {t:Nat}{w0 W V:World}{mb xb sb n:Nat}{lv:Value}{f g:Bool}{vs:Nat→Nat}(h:DwR t w0 W mb xb sb n lv f vs) (hu:Upd sb W V) (hs:aJ V sb t #[.bool g]):DwR t w0 V mb xb sb n lv g vs:=by
 have hn:=h.ne
 exact⟨hs,h.m.upd hu (by omega),h.x.upd hu (by omega),h.u.trans hu,hn⟩
theorem DwR.later {t:Nat}{w0 W V:World}{mb xb sb n:Nat}{lv:Value}{f:Bool}{vs:Nat→Nat}(h:DwR t w0 W mb xb sb n lv f vs) (hb:Below W.heap.size W V):DwR t w0 V mb xb sb n lv f vs:=
 h.step (Upd.of_below hb) (h.s.below hb)
theorem DwR.m3 {t:Nat}{w0 W:World}{mb xb sb n:Nat}{lv:Value}{f:Bool}{vs:Nat→Nat}(h:DwR t w0 W mb xb sb n lv f vs):W.cell? ⟨mb,0,none⟩=some (.int .i64 n)∧W.cell? ⟨mb,1,none⟩=some (.int .i64 n)∧W.cell? ⟨mb,2,none⟩=some lv:=
 ⟨h.m.cell 0,h.m.cell 1,h.m.cell 2⟩
theorem DwR.set {t:Nat}{w0 W:World}{mb xb sb n i v:Nat}{lv:Value}{f:Bool}{vs:Nat→Nat}(h:DwR t w0 W mb xb sb n lv f vs) (hi:i<n):DwR t w0 (W.setCell ⟨xb,i,none⟩ (.float .f64 v)) mb xb sb n lv f (dJ vs i v):=by
 have hn:=h.ne
 exact⟨h.s.setOther (by omega) _,h.m.setOther hn.2.2.1 _,h.x.set hi,h.u.store hn.2.1,hn⟩
end
section
set_option maxRecDepth 100000
set_option maxHeartbeats 6400000
open Go.RowKit
attribute [local go_sem] bG
def aOr (t sb n:Nat) (m:(Nat→Fo)×Bool) (w:World) (e:Ending) (w':World):Prop:=
 ∃v l,e= .returned v∧FSl w' v l∧l.length=n∧(∀i (h:i<l.length),Rep (m.1 i) l[i])∧(∀a c d,v= .slice (some a) c d→w.heap.size≤a.block)∧aJ w' sb t #[.bool m.2]∧Upd sb w w'
theorem aOr.of {t sb n g:Nat}{m:(Nat→Fo)×Bool}{w W:World}{vs:Nat→Nat}(hx:FMs W g n vs) (hr:xJ n m.1 vs) (hn:n≤12) (hg:w.heap.size≤g) (hs:aJ W sb t #[.bool m.2]) (hu:Upd sb w W):
  aOr t sb n m w (.returned (.slice (some ⟨g,0,none⟩) n n)) W:=
 ⟨_,_,rfl,hx.fsl (by omega) (fun i hi=>(hr i hi).1),by simp,fun i hi=>by simpa using hr i (by simpa using hi),fun a c d e=>by injection e with e;obtain rfl:=Option.some.inj e;exact hg,hs,hu⟩
def AtF (F sb n:Nat) (lv:Value) (L:Nat→Nat→Fo) (w:World):Prop:=∀i j W,i<n→j<n→Upd sb w W→Calls Tryz.prog F #[kG n n lv,.int .i64 i,.int .i64 j] W fun e W'=>∃v,e= .returned (.float .f64 v)∧Rep (L i j) v∧Below W.heap.size W W'
theorem aQm {F sb n:Nat}{lv:Value}{l:List Nat}{w:World}(hl:FSn w lv l sb) (hll:l.length=n*n)
  (hF:∀(i j c k:Nat) (r:Int) (sl:Value) (l:List Nat) (w:World) (_:FSl w sl l) (_:i*c+j=k) (h:k<l.length),Calls Tryz.prog F #[kG r c sl,.int .i64 i,.int .i64 j] w (Gives (.float .f64 l[k]) w)):AtF F sb n lv (atO n l) w:=fun i j W hi hj hu=>by
 have hk:i*n+j<l.length:=by rw [hll];exact jZ hi hj
 refine(hF i j n _ n lv l W (hl.upd hu).1 rfl hk).mono ?_
 rintro e W' ⟨rfl,hb⟩
 refine⟨_,rfl,⟨?_,zJ hk⟩,hb⟩
 obtain⟨⟨_,_,_,_,_,hx,_⟩,-⟩:=hl
 exact hx _ (List.getElem_mem hk)
def BF (sb n:Nat) (ao:Option Addr) (B:Nat→Fo) (w:World):Prop:=0<n→∃b off,ao=some ⟨b,off,none⟩∧∀i W,i<n→Upd sb w W→∃v,Rep (B i) v∧W.cell? ⟨b,off+i,none⟩=some (.float .f64 v)
theorem aVp {sb n:Nat}{ao:Option Addr}{c d:Nat}{B:Nat→Fo}{w:World}{b:List Nat}(hb:FSn w (.slice ao c d) b sb) (hn:b.length=n) (hB:∀i (h:i<b.length),Rep (B i) b[i]):BF sb n ao B w:=fun h0=>by
 obtain⟨⟨ao2,cap,h1,h2,h3,h4,h5⟩,h6⟩:=hb
 obtain⟨x,off,e,hlt,hc⟩:=h5 (by omega)
 injection h1 with h1
 subst h1
 have hne:x≠sb:=h6 (by omega) ⟨x,off,none⟩ _ _ (by rw [e])
 exact⟨x,off,e,fun i W hi hu=>⟨b[i],hB i (by omega),(World.cell?_of_block (a:=⟨x,off+i,none⟩) (hu.block x hlt hne)).trans (hc i (by omega))⟩⟩
theorem aQ6 (sb:Nat) (f:Bool) (n:Nat) (lv:Value) (l:List Nat) (bv:Value) (b:List Nat) (B:Nat→Fo) (w:World) (hn:n≤12) (hl:FSn w lv l sb) (hll:l.length=n*n) (hb:FSn w bv b sb) (hbl:b.length=n) (hB:∀i (h:i<b.length),Rep (B i) b[i]) (hs:aJ w sb 94 #[.bool f]):
  Calls Tryz.prog 70 #[.pointer (some ⟨sb,0,none⟩),kG n n lv,bv] w (aOr 94 sb n (dn (atO n l) B f n) w):=by
 have HAT:=jH (aQm (n:=n) hl hll aA8)
 obtain⟨ao,cap,rfl,-⟩:=id hb.1
 rw [hbl]at hb ⊢
 have HBF:=jH (aVp hb hbl hB)
 have hmk:=run_make_row' (P:=Tryz.prog) 23 35 (.float .f64 0) 8 Tryz.underlying23 Tryz.aE4 rfl .i64 .i64 n (by omega) (by omega)
 have hsb:=hs.lt
 have HD0:Hid (DwR 94 w ((w.alloc (.cells #[.int .i64 n,.int .i64 n,lv] 25)).alloc (.cells (madeCells #[.float .f64 0] n) 35)) w.heap.size (w.heap.size+1) sb n lv f (fun _=>0)):=
  jH ⟨(hs.alloc _).alloc _,(aJ.new w _ _).alloc _,FMs.made1 w _ n,Upd.of_below (below2 w _ _),by omega⟩
 have HR0:Hid (xJ n (dn (atO n l) B f 0).1 (fun _=>0)):=jH (xJ.zero n)
 obtain⟨mb,hmb⟩:∃b,w.heap.size=b:=⟨_,rfl⟩
 rw [hmb]at HD0
 obtain⟨xb,hxb⟩:∃b,mb+1=b:=⟨_,rfl⟩
 rw [hxb]at HD0
 clear hl hll hb hB hs hsb hbl
 generalize atO n l=L at*
 go_enter Tryz.func70,Tryz.ntmps70
 go_upto_region 2 with fail
 generalize World.alloc (World.alloc w _) _=W0 at HD0 ⊢
 clear hmk
 go_wp2
 go_loopw [16] (fun i wr=>∃(k:Nat) (vs:Nat→Nat),k≤n∧i= .int .i64 k∧Hid (xJ n (dn (L) B f k).1 vs)∧Hid (DwR 94 w wr mb xb sb n lv (dn (L) B f k).2 vs)) (fun i _=>n-(intOf i).toNat)
 case atStart=>exact⟨0,_,Nat.zero_le _,rfl,HR0,HD0⟩
 case round=>
  clear HR0 HD0
  obtain⟨wo,rfl⟩:∃wo:World,wo=wr:=⟨_,rfl⟩
  obtain⟨k,vs,hk,rfl,HR,HD⟩:=hrel
  by_cases hlt:k<n
  ·obtain⟨bb,off,rfl,hcc⟩:=HBF.out (by omega)
   obtain⟨v0,hv0,hck⟩:=hcc k wo hlt HD.out.u
   have HV0:=jH hv0
   have HST:Hid (dn (L) B f (k+1)=dnS L B k (dn (L) B f k)):=jH rfl
   clear hcc hv0
   generalize dn (L) B f k=s0 at*
   go_wp2
   clear hck
   go_loopw [9,24] (fun t j wr=>∃(q u:Nat),q≤k∧j= .int .i64 q∧t= .float .f64 u∧Hid (Rep (dnT L s0.1 k (B k) s0.2 q).1 u)∧Hid (DwR 94 w wr mb xb sb n lv (dnT L s0.1 k (B k) s0.2 q).2 vs)) (fun _ j _=>k-(intOf j).toNat)
   case atStart=>exact⟨0,_,Nat.zero_le _,rfl,rfl,HV0,HD⟩
   case round=>
    clear HV0 HD
    obtain⟨q,u,hq,rfl,rfl,HU,HD⟩:=hrel
    by_cases hql:q<k
    ·have hqn:q<n:=by omega
     have HX:=jH (HR.out q (by omega))
     have HSQ:Hid (dnT L s0.1 k (B k) s0.2 (q+1)=aAi (dnT L s0.1 k (B k) s0.2 q) (L k q) (s0.1 q)):=jH rfl
     generalize dnT L s0.1 k (B k) s0.2 q=t0 at*
     go_upto_region 9 with fail
     refine aC (fun w':World=>(w'.cell? ⟨mb,0,none⟩=some (.int .i64 n)∧w'.cell? ⟨mb,1,none⟩=some (.int .i64 n)∧w'.cell? ⟨mb,2,none⟩=some lv)∧w'.cell? ⟨xb,q,none⟩=some (.float .f64 (vs q))) 12 (.take 0 (.take 1 (.take 2 (.take 3 (.take 4 (.take 5 (.take 7 (.take 8 (.take 9 (.take 10 (.run 6 (.run 11 .nil)))))))))))) (by kernel_rfl) (by kernel_rfl) ?_
     replace HD:=jH (HD.out.later (aB _))
     generalize World.drew _=W5 at HD ⊢
     repeat (refine tkL (v:= ?_) rfl rfl rfl (fun w' hSw=> ?_) (And.intro HD.out.m3 (HD.out.x.cell (by omega))) ?_;rotate_left;(focus (go_simp;with_reducible rfl));simp only [aF])
     refine aI rfl rfl fun K' hK=> ?_
     go_simp
     refine(HAT.out k q _ (by omega) (by omega) HD.out.u).mono ?_
     rintro e1 W5v1 ⟨a,rfl,ha,hb1⟩
     replace HD:=jH (HD.out.later hb1)
     have HA:=jH ha
     clear ha
     refine hK _ _ (And.intro HD.out.m3 (HD.out.x.cell (by omega))) ?_
     clear hK K' hb1
     try simp only [Act.put,aF]
     repeat (refine tkL (v:= ?_) rfl rfl rfl (fun w' hSw=> ?_) (And.intro HD.out.m3 (HD.out.x.cell (by omega))) ?_;rotate_left;(focus (go_simp;with_reducible rfl));simp only [aF])
     refine aI rfl rfl fun K' hK=> ?_
     go_simp
     refine(uG sb _ _ _ a (vs q) _ HD.out.s HA.out HX.out).mono ?_
     rintro e1 W5v2 ⟨p,rfl,hp,hs1,hu1⟩
     replace HD:=jH (HD.out.step hu1 hs1)
     have HP:=jH hp
     clear hp hs1 hu1 HA HX
     refine hK _ _ (And.intro HD.out.m3 (HD.out.x.cell (by omega))) ?_
     clear hK K'
     try simp only [Act.put,aF]
     repeat (refine tkL (v:= ?_) rfl rfl rfl (fun w' hSw=> ?_) (And.intro HD.out.m3 (HD.out.x.cell (by omega))) ?_;rotate_left;(focus (go_simp;with_reducible rfl));simp only [aF])
     refine aN ?_
     simp only [drL]
     go_wp2_with fail
     refine(xI sb _ _ _ u p _ HD.out.s HU.out HP.out).mono ?_
     rintro e7 w7 ⟨u2,rfl,hr,hs1,hu1⟩
     replace HD:=jH (HD.out.step hu1 hs1)
     have HU2:=jH hr
     clear hr hs1 hu1 HU HP
     go_wp2
     go_roundw
     case rel=>exact⟨q+1,u2,by omega,by go_num,rfl,jH (by rw [HSQ.out];exact HU2.out),jH (by rw [HSQ.out];exact HD.out)⟩
     case measure=>simp [intOf];omega
    ·obtain rfl:q=k:=by omega
     have HS1:Hid ((dn (L) B f (q+1)).1=dJ s0.1 q (oA .quo (dnT L s0.1 q (B q) s0.2 q).1 (L q q))∧(dn (L) B f (q+1)).2=ovr (dnT L s0.1 q (B q) s0.2 q).2 (oA .quo (dnT L s0.1 q (B q) s0.2 q).1 (L q q))):=jH (by rw [HST.out];exact⟨rfl,rfl⟩)
     generalize dnT L s0.1 q (B q) s0.2 q=t0 at*
     clear HST
     obtain⟨m0,m1,m2,-⟩:=HD.out.m.cells3
     go_wp2_with fail
     refine(HAT.out q q _ (by omega) (by omega) HD.out.u).mono ?_
     rintro e6 w6 ⟨a,rfl,ha,hb1⟩
     replace HD:=jH (HD.out.later hb1)
     have HA:=jH ha
     clear ha hb1 m0 m1 m2
     have hqo:∀t,(binOp .quo t (.float .f64 u) (.float .f64 a)).run Tryz.prog w6= .ok (.float .f64 (fV .quo u a w6)) (fN .quo u a w6):=fun t=>jA .quo (.inr (.inr (.inr rfl))) t u a w6
     have HQ:=jH (HU.out.op (op:= .quo) HA.out w6)
     have HDQ:=jH (HD.out.later (rG .quo u a w6))
     go_wp2_with fail
     clear hqo HD HA HU
     generalize fN .quo u a w6=w7 at*
     generalize fV .quo u a w6=z at*
     refine(uK sb _ _ z _ HDQ.out.s HQ.out).mono ?_
     rintro e8 w8 ⟨y,rfl,hy,hs1,hu1⟩
     have HD:=jH (HDQ.out.step hu1 hs1)
     have HY:=jH hy
     clear hy hs1 hu1 HDQ HQ
     have q0:=HD.out.x.cell hlt
     have q1:=HD.out.x.frozen q
     go_wp2
     go_roundw
     case rel=>exact⟨q+1,dJ vs q y,by omega,by go_num,jH (by rw [HS1.out.1];exact HR.out.set HY.out),jH (by rw [HS1.out.2];exact HD.out.set hlt)⟩
     case measure=>simp [intOf];omega
  ·obtain rfl:k=n:=by omega
   go_wp2
   refine bodyPost_ret (v:= .slice (some ⟨xb,0,none⟩) k k) (by simp [results,Tryz.results70,go_sem]) rfl (aOr.of HD.out.x HR.out hn HD.out.ne.2.1 HD.out.s HD.out.u)
end
section
set_option maxRecDepth 100000
set_option maxHeartbeats 6400000
open Go.RowKit
attribute [local go_sem] bG
def OwF (W:World) (B:Nat) (v:Value) (k:Nat) (vs:Nat→Nat):Prop:=W.ownsRow B 35 1 v k ((List.range k).map fun i=>Value.float .f64 (vs i))
theorem OwF.nil (W:World) (B:Nat) (vs:Nat→Nat):OwF W B (.slice none 0 0) 0 vs:=World.ownsRow_nil _ _ _ _
theorem OwF.dY {W V:World}{B k:Nat}{v:Value}{vs:Nat→Nat}(h:OwF W B v k vs) (hb:∀g,v.ownBlock=some g→V.heap[g]? =W.heap[g]?):OwF V B v k vs:=by
 obtain⟨h1,h2⟩:=h
 refine⟨h1,?_⟩
 rcases h2 with h2|⟨g,cap,cur,rfl,h3,h4,h5⟩
 ·exact .inl h2
 ·exact .inr ⟨g,cap,cur,rfl,h3,(hb g rfl).trans h4,h5⟩
theorem OwF.later {W V:World}{B k:Nat}{v:Value}{vs:Nat→Nat}(h:OwF W B v k vs) (hb:Below W.heap.size W V):OwF V B v k vs:=
 h.dY fun g hg=>hb.block g (h.lt g hg).2
theorem OwF.shape {W:World}{B k:Nat}{v:Value}{vs:Nat→Nat}(h:OwF W B v k vs):∃ao cap,v= .slice ao k cap:=iM h
theorem OwF.cell {W:World}{B k i cap:Nat}{ao:Option Addr}{vs:Nat→Nat}(h:OwF W B (.slice ao k cap) k vs) (hi:i<k):∃g,ao=some ⟨g,0,none⟩∧W.cell? ⟨g,i,none⟩=some (.float .f64 (vs i))∧B≤g:=by
 obtain⟨h1,⟨h2,h3⟩|⟨g,cap2,cur,h2,h3,h4⟩⟩:=id h
 ·omega
 ·injection h2 with e
  subst e
  refine⟨g,rfl,?_,h3⟩
  have:=World.ownsRow.cells h (g:=g) rfl i (.float .f64 (vs i)) (by rw [List.getElem?_map,List.getElem?_range hi];rfl)
  rwa [Addr.add_lit,Nat.zero_add]at this
theorem OwF.push {W:World}{B k z:Nat}{v:Value}{vs:Nat→Nat}(h:W.ownsRow B 35 1 v (k+1) (((List.range k).map fun i=>Value.float .f64 (vs i))++[.float .f64 z])):OwF W B v (k+1) (dJ vs k z):=by
 unfold OwF
 have e:((List.range (k+1)).map fun i=>Value.float .f64 (dJ vs k z i))=((List.range k).map fun i=>Value.float .f64 (vs i))++[.float .f64 z]:=by
  rw [List.range_succ,List.map_append]
  congr 1
  ·refine List.map_congr_left fun i hi=> ?_
   rw [iO (by have:=List.mem_range.1 hi;omega)]
  ·simp [eP]
 rw [e];exact h
theorem aV6 (sb:Nat) (f:Bool) (n:Nat) (lv:Value) (l:List Nat) (bv:Value) (b:List Nat) (B:Nat→Fo) (w:World) (hn:n≤12) (hl:FSn w lv l sb) (hll:l.length=n*n) (hb:FSn w bv b sb) (hbl:b.length=n) (hB:∀i (h:i<b.length),Rep (B i) b[i]) (hs:aJ w sb 94 #[.bool f]):
  Calls Tryz.prog 74 #[.pointer (some ⟨sb,0,none⟩),kG n n lv,bv] w (aOr 94 sb n (up (atO n l) B f n n) w):=by
 have HAT:=jH (aQm (n:=n) hl hll aA8)
 obtain⟨ao,cap,rfl,-⟩:=id hb.1
 rw [hbl]at hb ⊢
 have HBF:=jH (aVp hb hbl hB)
 have hmk:=run_make_row' (P:=Tryz.prog) 23 35 (.float .f64 0) 8 Tryz.underlying23 Tryz.aE4 rfl .i64 .i64 n (by omega) (by omega)
 have hsb:=hs.lt
 have HD0:Hid (DwR 94 w ((w.alloc (.cells #[.int .i64 n,.int .i64 n,lv] 25)).alloc (.cells (madeCells #[.float .f64 0] n) 35)) w.heap.size (w.heap.size+1) sb n lv f (fun _=>0)):=
  jH ⟨(hs.alloc _).alloc _,(aJ.new w _ _).alloc _,FMs.made1 w _ n,Upd.of_below (below2 w _ _),by omega⟩
 have HR0:Hid (xJ n (up (atO n l) B f n (n-n)).1 (fun _=>0)):=jH (by rw [Nat.sub_self];exact xJ.zero n)
 replace HD0:Hid (DwR 94 w ((w.alloc (.cells #[.int .i64 n,.int .i64 n,lv] 25)).alloc (.cells (madeCells #[.float .f64 0] n) 35)) w.heap.size (w.heap.size+1) sb n lv (up (atO n l) B f n (n-n)).2 (fun _=>0)):=by rw [Nat.sub_self];exact HD0
 obtain⟨mb,hmb⟩:∃b,w.heap.size=b:=⟨_,rfl⟩
 rw [hmb]at HD0
 obtain⟨xb,hxb⟩:∃b,mb+1=b:=⟨_,rfl⟩
 rw [hxb]at HD0
 clear hl hll hb hB hs hsb hbl
 generalize atO n l=L at*
 go_enter Tryz.func74,Tryz.ntmps74
 go_upto_region 2 with fail
 generalize World.alloc (World.alloc w _) _=W0 at HD0 ⊢
 clear hmk
 go_wp2
 go_loopw [8] (fun i wr=>∃(k:Nat) (vs:Nat→Nat),k≤n∧i= .int .i64 ((k:Int)-1)∧Hid (xJ n (up L B f n (n-k)).1 vs)∧Hid (DwR 94 w wr mb xb sb n lv (up L B f n (n-k)).2 vs)) (fun i _=>((intOf i)+1).toNat)
 case atStart=>exact⟨n,_,Nat.le_refl _,by go_num,HR0,HD0⟩
 case round=>
  clear HR0 HD0
  obtain⟨wo,rfl⟩:∃wo:World,wo=wr:=⟨_,rfl⟩
  obtain⟨k,vs,hk,rfl,HR,HD⟩:=hrel
  cases k with
  | succ k=>
   have hlt:k<n:=by omega
   rw [show(((k+1:Nat):Int)-1)=(k:Int) by omega]
   have HKI:Hid ((((k:Nat):Int)-1)=((k:Int)-1)):=jH rfl
   obtain⟨m,hm⟩:∃m,n-(k+1)=m:=⟨_,rfl⟩
   rw [hm]at HR HD
   have hnm:n-1-m=k:=by omega
   have hnk:n-k=m+1:=by omega
   obtain⟨bb,off,rfl,hcc⟩:=HBF.out (by omega)
   obtain⟨v0,hv0,hck⟩:=hcc k wo hlt HD.out.u
   have HV0:=jH hv0
   have HST:Hid (up L B f n (m+1)=upS L B n m (up L B f n m)):=jH rfl
   unfold upS at HST
   rw [hnm]at HST
   clear hcc hv0
   generalize up L B f n m=s0 at*
   go_wp2
   clear hck
   go_loopw [9,10] (fun t j wr=>∃(q u:Nat),q≤m∧j= .int .i64 ((k+1+q:Nat):Int)∧t= .float .f64 u∧Hid (Rep (upT L s0.1 k (B k) s0.2 q).1 u)∧Hid (DwR 94 w wr mb xb sb n lv (upT L s0.1 k (B k) s0.2 q).2 vs)) (fun _ j _=>n-(intOf j).toNat)
   case atStart=>exact⟨0,_,Nat.zero_le _,by go_num,rfl,HV0,HD⟩
   case round=>
    clear HV0 HD
    obtain⟨q,u,hq,rfl,rfl,HU,HD⟩:=hrel
    by_cases hql:q<m
    ·have hqn:(k+1+q)<n:=by omega
     have HX:=jH (HR.out (k+1+q) (by omega))
     have HSQ:Hid (upT L s0.1 k (B k) s0.2 (q+1)=aAi (upT L s0.1 k (B k) s0.2 q) (L (k+1+q) k) (s0.1 (k+1+q))):=jH rfl
     generalize upT L s0.1 k (B k) s0.2 q=t0 at*
     obtain⟨x,hx⟩:∃x,k+1+q=x:=⟨_,rfl⟩
     rw [hx]at hqn HX HSQ ⊢
     have hx1:((x:Nat):Int)<n:=by omega
     have hdx:decide ((x:Int)<(n:Int))=true:=decide_eq_true hx1
     go_upto_region 9 with fail
     refine aC (fun w':World=>(w'.cell? ⟨mb,0,none⟩=some (.int .i64 n)∧w'.cell? ⟨mb,1,none⟩=some (.int .i64 n)∧w'.cell? ⟨mb,2,none⟩=some lv)∧w'.cell? ⟨xb,x,none⟩=some (.float .f64 (vs x))) 12 (.take 0 (.take 1 (.take 2 (.take 3 (.take 4 (.take 5 (.take 7 (.take 8 (.take 9 (.take 10 (.run 6 (.run 11 .nil)))))))))))) (by kernel_rfl) (by kernel_rfl) ?_
     replace HD:=jH (HD.out.later (aB _))
     generalize World.drew _=W5 at HD ⊢
     repeat (refine tkL (v:= ?_) rfl rfl rfl (fun w' hSw=> ?_) (And.intro HD.out.m3 (HD.out.x.cell (by omega))) ?_;rotate_left;(focus (go_simp;with_reducible rfl));simp only [aF])
     refine aI rfl rfl fun K' hK=> ?_
     go_simp
     refine(HAT.out x k _ (by omega) (by omega) HD.out.u).mono ?_
     rintro e1 W5v1 ⟨a,rfl,ha,hb1⟩
     replace HD:=jH (HD.out.later hb1)
     have HA:=jH ha
     clear ha
     refine hK _ _ (And.intro HD.out.m3 (HD.out.x.cell (by omega))) ?_
     clear hK K' hb1
     try simp only [Act.put,aF]
     repeat (refine tkL (v:= ?_) rfl rfl rfl (fun w' hSw=> ?_) (And.intro HD.out.m3 (HD.out.x.cell (by omega))) ?_;rotate_left;(focus (go_simp;with_reducible rfl));simp only [aF])
     refine aI rfl rfl fun K' hK=> ?_
     go_simp
     refine(uG sb _ _ _ a (vs x) _ HD.out.s HA.out HX.out).mono ?_
     rintro e1 W5v2 ⟨p,rfl,hp,hs1,hu1⟩
     replace HD:=jH (HD.out.step hu1 hs1)
     have HP:=jH hp
     clear hp hs1 hu1 HA HX
     refine hK _ _ (And.intro HD.out.m3 (HD.out.x.cell (by omega))) ?_
     clear hK K'
     try simp only [Act.put,aF]
     repeat (refine tkL (v:= ?_) rfl rfl rfl (fun w' hSw=> ?_) (And.intro HD.out.m3 (HD.out.x.cell (by omega))) ?_;rotate_left;(focus (go_simp;with_reducible rfl));simp only [aF])
     refine aN ?_
     simp only [drL]
     go_wp2_with fail
     refine(xI sb _ _ _ u p _ HD.out.s HU.out HP.out).mono ?_
     rintro e7 w7 ⟨u2,rfl,hr,hs1,hu1⟩
     replace HD:=jH (HD.out.step hu1 hs1)
     have HU2:=jH hr
     clear hr hs1 hu1 HU HP
     clear hdx hx1
     subst hx
     go_wp2
     go_roundw
     case rel=>exact⟨q+1,u2,by omega,by go_num,rfl,jH (by rw [HSQ.out];exact HU2.out),jH (by rw [HSQ.out];exact HD.out)⟩
     case measure=>simp [intOf]<;>omega
    ·obtain rfl:q=m:=by omega
     have hdx:decide (((k+1+q:Nat):Int)<(n:Int))=false:=decide_eq_false (by omega)
     have HS1:Hid ((up L B f n (q+1)).1=dJ s0.1 k (oA .quo (upT L s0.1 k (B k) s0.2 q).1 (L k k))∧(up L B f n (q+1)).2=ovr (upT L s0.1 k (B k) s0.2 q).2 (oA .quo (upT L s0.1 k (B k) s0.2 q).1 (L k k))):=jH (by rw [HST.out];exact⟨rfl,rfl⟩)
     generalize upT L s0.1 k (B k) s0.2 q=t0 at*
     clear HST
     obtain⟨m0,m1,m2,-⟩:=HD.out.m.cells3
     go_wp2_with fail
     refine(HAT.out k k _ (by omega) (by omega) HD.out.u).mono ?_
     rintro e6 w6 ⟨a,rfl,ha,hb1⟩
     replace HD:=jH (HD.out.later hb1)
     have HA:=jH ha
     clear ha hb1 m0 m1 m2 hdx
     have hqo:∀t,(binOp .quo t (.float .f64 u) (.float .f64 a)).run Tryz.prog w6= .ok (.float .f64 (fV .quo u a w6)) (fN .quo u a w6):=fun t=>jA .quo (.inr (.inr (.inr rfl))) t u a w6
     have HQ:=jH (HU.out.op (op:= .quo) HA.out w6)
     have HDQ:=jH (HD.out.later (rG .quo u a w6))
     go_wp2_with fail
     clear hqo HD HA HU
     generalize fN .quo u a w6=w7 at*
     generalize fV .quo u a w6=z at*
     refine(uK sb _ _ z _ HDQ.out.s HQ.out).mono ?_
     rintro e8 w8 ⟨y,rfl,hy,hs1,hu1⟩
     have HD:=jH (HDQ.out.step hu1 hs1)
     have HY:=jH hy
     clear hy hs1 hu1 HDQ HQ
     have p0:=HD.out.x.cell hlt
     have p1:=HD.out.x.frozen k
     go_wp2
     go_roundw
     case rel=>exact⟨k,dJ vs k y,by omega,by go_num,jH (by rw [hnk,HS1.out.1];exact HR.out.set HY.out),jH (by rw [hnk,HS1.out.2];exact HD.out.set hlt)⟩
     case measure=>simp [intOf]<;>omega
  | zero=>
   have hneg:decide ((0:Int)≤((0:Nat):Int)-1)=false:=rfl
   rw [Nat.sub_zero]at HR HD
   go_wp2
   refine bodyPost_ret (v:= .slice (some ⟨xb,0,none⟩) n n) (by simp [results,Tryz.results74,go_sem]) rfl (aOr.of HD.out.x HR.out hn HD.out.ne.2.1 HD.out.s HD.out.u)
end
end Go.Proofs.YtfmecpembnmnkaaGreatDoor
