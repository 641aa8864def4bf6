/- Walks: the references' Point, Pivots. Printed by wip/gen/ch37.py. -/
import Derived.Test.YtfmecpembnmnkaaGreatDoorPLF
import Derived.Test.YtfmecpembnmnkaaGreatDoorPKI
import Derived.Test.YtfmecpembnmnkaaGreatDoorPLI
namespace Go.Proofs.YtfmecpembnmnkaaGreatDoor
section
set_option maxRecDepth 100000
set_option maxHeartbeats 6400000
open Go.RowKit
attribute [local go_sem] bG
def IvO (d:Iv):Prop:=∃K,Iok K∧d=(ivL K,ivH K)
theorem IvO.w {d:Iv}(h:IvO d):IW d:=by obtain⟨K,hK,rfl⟩:=h;exact⟨qU hK,qV hK⟩
theorem IvO.sub {x y:Iv}(hx:IW x) (hy:IW y):IvO (aDi x y):=⟨_,aF8 hx.ok (yN hy.ok),rfl⟩
theorem IvO.pt {x:Nat}(hx:W64 x) (fx:aK x=true):IvO (ptI x):=by
 have hn:=jC fx
 have h: -(aG:Int)<ky x∧ky x<aG:=(gW hx (dH hn)).1 fx
 exact⟨some (ky x,ky x),fun a b e=>by cases e;omega,rfl⟩
def zrI (d:Iv):Bool:=(FloatKind.f64.format.order d.1 0==some Ordering.lt||FloatKind.f64.format.order d.1 0==some Ordering.eq)&&(FloatKind.f64.format.order d.2 0==some Ordering.gt||FloatKind.f64.format.order d.2 0==some Ordering.eq)
theorem IvO.has {d:Iv}(h:IvO d):zrI d=zA d:=by
 obtain⟨K,hK,rfl⟩:=h
 unfold zA
 rw [oU hK]
 rcases K with _|⟨l,k⟩
 ·decide
 ·obtain⟨h1,h2,h3,h4,h5⟩:=hK l k rfl
  obtain⟨a1,a2,a3⟩:=jY (show-(aG:Int)≤l by omega) (show l≤aG by omega)
  obtain⟨b1,b2,b3⟩:=jY (show-(aG:Int)≤k by omega) (show k≤aG by omega)
  show((_||_)&&(_||_))=_
  rw [show(ivL (some (l,k)),ivH (some (l,k))).1=kb l from rfl,show(ivL (some (l,k)),ivH (some (l,k))).2=kb k from rfl,yR a1 (by decide) (dF.2 a2) (by decide),aEr b1 (by decide) (dF.2 b2) (by decide),a3,b3]
  rfl
theorem aLg (x y:Iv) (W:World) (hx:IW x) (hy:IW y):Calls Tryz.prog 53 #[IvV x,IvV y] W (Gives (IvV (lU x y)) W):=aUv x.1 x.2 y.1 y.2 W hx.1 hx.2 hy.1 hy.2
theorem aVu (x y:Iv) (W:World) (hx:IW x) (hy:IW y):Calls Tryz.prog 52 #[IvV x,IvV y] W (Gives (IvV (aDi x y)) W):=aS7 x.1 x.2 y.1 y.2 W hx.1 hx.2 hy.1 hy.2
theorem aXh (x y:Iv) (W:World) (hx:IW x) (hy:IW y):Calls Tryz.prog 54 #[IvV x,IvV y] W (Gives (IvV (aP7 x y)) W):=aTo x.1 x.2 y.1 y.2 W hx.1 hx.2 hy.1 hy.2
theorem aHj (x:Nat) (w:World) (hx:W64 x) (fx:aK x=true):Calls Tryz.prog 50 #[.float .f64 x] w (Gives (IvV (ptI x)) w):=by
 have hadd:∀t w,(binOp .add t (.float .f64 x) (.float .f64 0)).run Tryz.prog w= .ok (.float .f64 (kb (ky x))) w:=fun t w=>run_float_arith w .add t .f64 _ _ _ (lN hx (dH (jC fx)))
 have HR:Hid (IB (w.alloc (.cells #[.float .f64 0,.float .f64 0] 37)) w.heap.size (0,0)):=jH (aJ.new w _ _)
 have HB:=jH (Below.aA w (.cells #[.float .f64 0,.float .f64 0] 37))
 unfold ptI
 generalize kb (ky x)=y at*
 clear hx fx
 go_enter Tryz.func50,Tryz.ntmps50
 go_upto_region 1 with fail
 generalize World.alloc w _=W0 at*
 obtain⟨r0,r1⟩:=IB.two HR.out
 obtain⟨r2,r3⟩:=IB.thaw HR.out
 go_wp2
 refine bodyPost_ret (v:=IvV (y,y)) (by simp [results,Tryz.results50,go_sem,r0,r1]) rfl ⟨rfl,(HB.out.setCell (p:=⟨_,0,none⟩) (Nat.le_refl _) _).setCell (p:=⟨_,1,none⟩) (Nat.le_refl _) _⟩
structure RpR (w0 W:World) (g n N:Nat) (lv:Value) (us:Nat→Iv) (v:Value) (j:Nat) (F:Nat→Iv):Prop where
 m:aJ W w0.heap.size 25 #[.int .i64 n,.int .i64 n,lv]
 gm:FM2 W g N us
 o:OwI W (g+1) v j F
 b:Below w0.heap.size w0 W
 lt:w0.heap.size<g
 iw:∀i,i<j→IvO (F i)
structure RpD (w0 W:World) (g n N:Nat) (lv:Value) (us:Nat→Iv) (v:Value) (j:Nat) (F:Nat→Iv) (db:Nat) (d:Iv):Prop where
 r:RpR w0 W g n N lv us v j F
 d:IB W db d
 gt:g<db
 ne:∀x,v.ownBlock=some x→x≠db
structure RpT (w0 W:World) (g n N:Nat) (lv:Value) (us:Nat→Iv) (v:Value) (j:Nat) (F:Nat→Iv) (db:Nat) (d:Iv) (tb:Nat) (t:Iv):Prop where
 D:RpD w0 W g n N lv us v j F db d
 t:IB W tb t
 gt:db<tb
 ne:∀x,v.ownBlock=some x→x≠tb
section
variable {w0 W V U : World} {g n N j db tb : Nat} {lv v v' : Value} {us : Nat → Iv} {F : Nat → Iv} {d t : Iv}
theorem RpR.later (h:RpR w0 W g n N lv us v j F) (hb:Below W.heap.size W V):RpR w0 V g n N lv us v j F:=⟨h.m.below hb,h.gm.of_block (hb.block g h.gm.lt),h.o.later hb,h.b.trans (hb.mono h.b.size),h.lt,h.iw⟩
theorem RpR.upd {b:Nat}(h:RpR w0 W g n N lv us v j F) (hu:Upd b W V) (hg:g<b) (hne:∀x,v.ownBlock=some x→x≠b):RpR w0 V g n N lv us v j F:=by
 have hlt:=h.lt
 exact⟨h.m.upd hu (by omega),h.gm.of_block (hu.block g h.gm.lt (by omega)),h.o.dY fun x hx=>hu.block x (h.o.lt x hx).2 (hne x hx),hu.below h.b (by omega) h.b.size,hlt,h.iw⟩
theorem RpD.start (h:RpR w0 W g n N lv us v j F) (d:Iv):RpD w0 (W.alloc (.cells #[.float .f64 d.1,.float .f64 d.2] 37)) g n N lv us v j F W.heap.size d:=
 ⟨h.later (Below.aA _ _),aJ.new W _ _,h.gm.lt,fun x hx=>Nat.ne_of_lt (h.o.lt x hx).2⟩
theorem RpD.later (h:RpD w0 W g n N lv us v j F db d) (hb:Below W.heap.size W V):RpD w0 V g n N lv us v j F db d:=⟨h.r.later hb,aJ.below h.d hb,h.gt,h.ne⟩
theorem RpD.put (h:RpD w0 W g n N lv us v j F db d) (y:Iv):RpD w0 (jD W db y) g n N lv us v j F db y:=⟨h.r.upd (jL W db y) h.gt h.ne,IB.put h.d y,h.gt,h.ne⟩
theorem RpD.upd {b:Nat}(h:RpD w0 W g n N lv us v j F db d) (hu:Upd b W V) (hg:db<b) (hne:∀x,v.ownBlock=some x→x≠b):RpD w0 V g n N lv us v j F db d:=by
 have hgt:=h.gt
 exact⟨h.r.upd hu (by omega) hne,aJ.upd h.d hu (by omega),hgt,h.ne⟩
theorem RpT.start (h:RpD w0 W g n N lv us v j F db d) (t:Iv):RpT w0 (W.alloc (.cells #[.float .f64 t.1,.float .f64 t.2] 37)) g n N lv us v j F db d W.heap.size t:=
 ⟨h.later (Below.aA _ _),aJ.new W _ _,aJ.lt h.d,fun x hx=>Nat.ne_of_lt (h.r.o.lt x hx).2⟩
theorem RpT.later (h:RpT w0 W g n N lv us v j F db d tb t) (hb:Below W.heap.size W V):RpT w0 V g n N lv us v j F db d tb t:=⟨h.D.later hb,aJ.below h.t hb,h.gt,h.ne⟩
theorem RpT.put (h:RpT w0 W g n N lv us v j F db d tb t) (y:Iv):RpT w0 (jD W tb y) g n N lv us v j F db d tb y:=⟨h.D.upd (jL W tb y) h.gt h.ne,IB.put h.t y,h.gt,h.ne⟩
theorem RpD.aF {p:Nat}(h:RpD w0 W g n N lv us v j F db d) (hp:p<N) (x:Iv):RpD w0 ((W.setCell ⟨g,p*2,none⟩ (.float .f64 x.1)).setCell ⟨g,p*2+1,none⟩ (.float .f64 x.2)) g n N lv (dJ us p x) v j F db d:=by
 have hlt:=h.r.lt
 have hgt:=h.gt
 have hu:Upd g W ((W.setCell ⟨g,p*2,none⟩ (.float .f64 x.1)).setCell ⟨g,p*2+1,none⟩ (.float .f64 x.2)):=(Upd.set _).trans (Upd.set _)
 exact⟨⟨h.r.m.upd hu (by omega),h.r.gm.set hp,h.r.o.dY fun y hy=>hu.block y (h.r.o.lt y hy).2 (by have:=(h.r.o.lt y hy).1;omega),hu.below h.r.b (by omega) h.r.b.size,hlt,h.r.iw⟩,aJ.upd h.d hu (by omega),hgt,h.ne⟩
theorem RpR.rd {gg cap q p s:Nat}(h:RpR w0 W g n N lv us (.slice (some ⟨gg,0,none⟩) j cap) j F) (hq:q<j) (hp:p<N) (hs:s<N):
  (W.cell? ⟨g,p*2,none⟩=some (.float .f64 (us p).1)∧W.cell? ⟨g,p*2+1,none⟩=some (.float .f64 (us p).2))∧(W.cell? ⟨g,s*2,none⟩=some (.float .f64 (us s).1)∧W.cell? ⟨g,s*2+1,none⟩=some (.float .f64 (us s).2))∧W.cell? ⟨gg,q*2,none⟩=some (.float .f64 (F q).1)∧W.cell? ⟨gg,q*2+1,none⟩=some (.float .f64 (F q).2):=by
 obtain⟨_,e,h1,h2⟩:=h.o.cell hq
 cases e
 exact⟨h.gm.cell hp,h.gm.cell hs,h1,h2⟩
theorem RpD.grown (h:RpD w0 W g n N lv us v j F db d) (hd:IvO d) (hb:Below W.heap.size W V) (hg:V.grownBy U v.ownBlock)
  (ho:U.ownsRow (g+1) 37 2 v' (j+1) (prH F j++[.float .f64 d.1,.float .f64 d.2])) (hat:v'.ownBlock=v.ownBlock∨v'.ownBlock=some V.heap.size):RpD w0 U g n N lv us v' (j+1) (dJ F j d) db d:=by
 have h2:=h.later hb
 have hx:=h2.r.o.lt
 have hr:∀k,k<g+1→k<V.heap.size→U.heap[k]? =V.heap[k]? :=fun k h1 h3=>hg.block k h3 fun e=>by have:=(hx k e.symm).1;omega
 have hB:Below (g+1) V U:=⟨hg.os,hg.tape,hg.output,hg.size,fun k hk=>hr k hk (by have:=h2.r.gm.lt;omega)⟩
 have hlt:=h2.r.lt
 refine⟨⟨(hB.block _ (by omega)).trans h2.r.m,h2.r.gm.of_block (hB.block g (by omega)),OwI.push ho,h2.r.b.trans (hB.mono (by omega)),hlt,fun i hi=> ?_⟩,(hg.block db (aJ.lt h2.d) fun e=>h.ne _ e.symm rfl).trans h2.d,h.gt,fun x e=> ?_⟩
 ·by_cases e:i=j
  ·subst e;rw [eP];exact hd
  ·rw [iO e];exact h.r.iw i (by omega)
 ·rcases hat with h1|h1
  ·exact h.ne x (by rw [←h1];exact e)
  ·rw [h1]at e
   have h3:=Option.some.inj e
   have h4:=aJ.lt h2.d
   omega
end
theorem aVi (L:Nat→Nat→Iv) (F:Nat→Iv) (i j:Nat) (s:Iv×Bool) (k:Nat):(pvW.dw L F i j s (k+1)).1=aDi (pvW.dw L F i j s k).1 (lU (lU (L i k) (L j k)) (F k)):=rfl
theorem aWv {a:Nat→Nat→Iv}{n m:Nat}(hm:m<n) (h0:(pvW.all a n m).e=0) (h:(pvW.head (pvW.pv a m (pvW.all a n m))).2≠0):(pvW.all a n n).e=(pvW.head (pvW.pv a m (pvW.all a n m))).2∧(pvW.all a n n).p=m:=by
 have h3:=pvW.vX h0 h
 have:=pvW.rC a n (m+1) (by rw [h3];exact h) (n-(m+1))
 rw [show m+1+(n-(m+1))=n by omega]at this
 rw [this,h3]
 exact⟨rfl,rfl⟩
theorem aAu (r c:Int) (sl:Value) (l:List Nat) (w:World) (hl:FSl w sl l):
  Calls Tryz.prog 10 #[kG r c sl] w (aX5 (sO r c l) (aDj r c l) (wO r c l) w):=by
 have HM:=jH (MBx.new w r c sl)
 have HSQ:=jH (aNm r c sl l _ (hl.below (Below.aA w (.cells #[.int .i64 r,.int .i64 c,sl] 25))))
 by_cases h0:iC r c l=0
 ·obtain⟨n,rfl,rfl,hq,-⟩:=aCw h0
  have HPS:=jH fun st hs=>aR2 h0 st hs
  rw [h0]at HSQ
  obtain⟨i0,hi,hz0,hz1,hz2⟩:=info_parts Tryz.info37
  have hn:=hq.hn
  have HAT:=jH fun i j W (hi:i<n) (hj:j<n) (hb:Below w.heap.size w W)=>aCt hl hq.len aLl i j W hi hj hb
  have HPT:=jH fun i j W (hi:i<n) (hj:j<n)=>aHj (atN n l i j) W (hl.jZ hq hi hj) (hq.fin_at hi hj)
  have HA:=jH fun i j (hi:i<n) (hj:j<n)=>IvO.pt (hl.jZ hq hi hj) (hq.fin_at hi hj)
  obtain⟨N,hN⟩:∃N,n*n=N:=⟨_,rfl⟩
  have hN2:N≤144:=by rw [←hN];exact Nat.mul_le_mul hn hn
  have hw:IntKind.i64.wrap ((n:Int)*(n:Int))=(N:Int):=by rw [←Int.natCast_mul,hN];exact IntWalk.i64_in _ (by omega)
  have hmk:∀W,(Instr.makeSlice 27 (.int .i64 (N:Int)) (.int .i64 (N:Int))).run Tryz.prog W= .ok (.slice (some ⟨W.heap.size,0,none⟩) N N) (W.alloc (.cells (madeCells #[.float .f64 0,.float .f64 0] (N*2)) 37)):=fun W=>by
   have h:=run_make (P:=Tryz.prog) W 27 37 i0 _ Tryz.underlying27 hi hz0 .i64 .i64 N N (by omega) (Int.le_refl _) (by rw [hz2];omega) (by omega)
   rw [hz1]at h
   simp only [Int.toNat_natCast]at h
   exact h
  have HLT:Hid (∀i j,i<n→j<n→i*n+j<N):=jH fun i j hi hj=>by rw [←hN];exact jZ hi hj
  clear h0 hq hl hN
  generalize sO n n l=E at*
  generalize aDj n n l=P at*
  generalize wO n n l=R at*
  obtain⟨m0,m1,m2⟩:=HM.out.m3
  go_enter Tryz.func10,Tryz.ntmps10
  go_wp2_with fail
  refine HSQ.out.mono ?_
  rintro e1 w1 ⟨rfl,hb1⟩
  replace HM:=jH (HM.out.later hb1)
  clear hb1 m0 m1 m2 HSQ
  obtain⟨m0,m1,m2⟩:=HM.out.m3
  go_upto_region 6 with fail
  have HD0:Hid (RpR w (w1.alloc (.cells (madeCells #[.float .f64 0,.float .f64 0] (N*2)) 37)) w1.heap.size n N sl (fun _=>(0,0)) (.slice none 0 0) 0 (fun _=>(0,0))):=jH ⟨HM.out.m.alloc _,FM2.made w1 N,OwI.nil _ _ _,HM.out.b.alloc HM.out.b.size _,HM.out.m.lt,fun i h=>absurd h (Nat.not_lt_zero i)⟩
  obtain⟨g,hg⟩:∃b,w1.heap.size=b:=⟨_,rfl⟩
  rw [hg]at HD0 ⊢
  generalize World.alloc w1 _=W1 at*
  clear hg HM m0 m1 m2 hmk hw
  generalize hat:(fun i j=>ptI (atN n l i j))=a at*
  have HAE:Hid (∀i j,ptI (atN n l i j)=a i j):=jH fun i j=>by rw [←hat]
  clear hat
  have HL0:Hid (aB0 n (pvW.all a n 0).L (fun _=>(0,0))):=jH fun i j _ _=>⟨rfl,by show IW (0,0);exact⟨by decide,by decide⟩⟩
  have HE0:Hid ((pvW.all a n 0).e=0∧(pvW.all a n 0).p=0):=jH ⟨rfl,rfl⟩
  replace HD0:Hid (RpR w W1 g n N sl (fun _=>(0,0)) (.slice none 0 0) 0 (pvW.all a n 0).H):=HD0
  go_wp2
  go_loopw [8,9] (fun pv jv wr=>∃(k:Nat) (us:Nat→Iv) (po:Option Addr) (pc:Nat),k≤n∧jv= .int .i64 k∧pv= .slice po k pc∧Hid ((pvW.all a n k).e=0∧(pvW.all a n k).p=0)∧Hid (aB0 n (pvW.all a n k).L us)∧Hid (RpR w wr g n N sl us (.slice po k pc) k (pvW.all a n k).H)) (fun _ jv _=>n-(intOf jv).toNat)
  case atStart=>exact⟨0,_,_,_,Nat.zero_le _,rfl,rfl,HE0,HL0,HD0⟩
  case round=>
   clear HL0 HD0 HE0
   obtain⟨k,us,po,pc,hk,rfl,rfl,HE,HL,HD⟩:=hrel
   obtain⟨m0,m1,m2,-⟩:=HD.out.m.cells3
   by_cases hlt:k<n
   ·have HBAD:=jH fun h=>aWv hlt HE.out.1 h
    have HGOOD:=jH fun h=>pvW.all_good HE.out.1 h
    have HAO:Hid (IvO (a k k)):=jH (by rw [←HAE.out];exact HA.out k k hlt hlt)
    clear HE
    generalize pvW.all a n k=st at*
    go_wp2_with fail
    refine(HAT.out k k _ hlt hlt HD.out.b).mono ?_
    rintro e3 w3 ⟨rfl,hb3⟩
    replace HD:=jH (HD.out.later hb3)
    clear hb3 m0 m1 m2
    go_wp2_with fail
    refine(HPT.out k k _ hlt hlt).mono ?_
    rintro e4 w4 ⟨rfl,hb3⟩
    rw [HAE.out]
    replace HD:=jH (HD.out.later hb3)
    clear hb3
    go_upto_region 11 with fail
    have HD1:=jH (RpD.start HD.out (a k k))
    obtain⟨db,hdb⟩:∃b,w4.heap.size=b:=⟨_,rfl⟩
    rw [hdb]at HD1
    try rw [hdb]
    generalize World.alloc w4 _=W4 at*
    clear hdb HD
    have HT0:Hid (IvO (pvW.dw st.L st.H k k (a k k,st.f) 0).1):=HAO
    replace HD1:Hid (RpD w W4 g n N sl us (.slice po k pc) k st.H db (pvW.dw st.L st.H k k (a k k,st.f) 0).1):=HD1
    clear HAO
    go_wp2
    go_loopw [11] (fun qv wr=>∃q:Nat,q≤k∧qv= .int .i64 q∧Hid (IvO (pvW.dw st.L st.H k k (a k k,st.f) q).1)∧Hid (RpD w wr g n N sl us (.slice po k pc) k st.H db (pvW.dw st.L st.H k k (a k k,st.f) q).1)) (fun qv _=>k-(intOf qv).toNat)
    case atStart=>exact⟨0,Nat.zero_le _,rfl,HT0,HD1⟩
    case round=>
     clear HT0 HD1
     obtain⟨q,hq,rfl,HT,HD⟩:=hrel
     by_cases hql:q<k
     ·have hqn:q<n:=by omega
      have hqj:q<k:=by omega
      have HSQ:=jH (aVi st.L st.H k k (a k k,st.f) q)
      generalize (pvW.dw st.L st.H k k (a k k,st.f) q).1=t0 at*
      obtain⟨e1,e2⟩:=at_eq hn hlt hqn
      obtain⟨hup,hwp⟩:=HL.out k q hlt hqn
      rw [←hup]at HSQ hwp
      have hp1:=HLT.out k q hlt hqn
      have HWP:=jH hwp
      have HPR:=jH (HD.out.r.iw q hqj).w
      obtain⟨gg,hgg,-⟩:=HD.out.r.o.cell hqj
      subst hgg
      clear hup hwp
      generalize k*n+q=p at*
      generalize ((k*n:Nat):Int)=pi at*
      go_upto_region 14 with fail
      refine aC (fun w':World=>(w'.cell? ⟨db,0,none⟩=some (.float .f64 (t0).1)∧w'.cell? ⟨db,1,none⟩=some (.float .f64 (t0).2))∧(w'.cell? ⟨g,p*2,none⟩=some (.float .f64 (us p).1)∧w'.cell? ⟨g,p*2+1,none⟩=some (.float .f64 (us p).2))∧(w'.cell? ⟨g,p*2,none⟩=some (.float .f64 (us p).1)∧w'.cell? ⟨g,p*2+1,none⟩=some (.float .f64 (us p).2))∧w'.cell? ⟨gg,q*2,none⟩=some (.float .f64 (st.H q).1)∧w'.cell? ⟨gg,q*2+1,none⟩=some (.float .f64 (st.H q).2)) 23 (.take 0 (.take 1 (.take 2 (.take 3 (.take 4 (.take 5 (.take 6 (.take 7 (.take 8 (.take 9 (.take 10 (.take 11 (.take 12 (.take 13 (.take 14 (.take 15 (.take 16 (.take 18 (.take 19 (.take 20 (.take 21 (.run 17 (.run 22 .nil))))))))))))))))))))))) (by kernel_rfl) (by kernel_rfl) ?_
      replace HD:=jH (HD.out.later (aB _))
      generalize World.drew _=W5 at HD ⊢
      repeat (refine tkL (v:= ?_) rfl rfl rfl (fun w' hSw=> ?_) (And.intro (IB.two HD.out.d) (HD.out.r.rd hqj hp1 hp1)) ?_;rotate_left;(focus (go_simp;with_reducible rfl));simp only [aF])
      refine aI rfl rfl fun K' hK=> ?_
      go_simp
      refine(aLg (us p) (us p) _ HWP.out HWP.out).mono ?_
      rintro e1 W5v1 ⟨rfl,hb1⟩
      replace HD:=jH (HD.out.later hb1)
      have HM1:=jH (HWP.out.mul HWP.out)
      generalize lU (us p) (us p)=m1 at*
      refine hK _ _ (And.intro (IB.two HD.out.d) (HD.out.r.rd hqj hp1 hp1)) ?_
      clear hK K' hb1
      try simp only [Act.put,aF]
      repeat (refine tkL (v:= ?_) rfl rfl rfl (fun w' hSw=> ?_) (And.intro (IB.two HD.out.d) (HD.out.r.rd hqj hp1 hp1)) ?_;rotate_left;(focus (go_simp;with_reducible rfl));simp only [aF])
      refine aI rfl rfl fun K' hK=> ?_
      go_simp
      refine(aLg m1 (st.H q) _ HM1.out HPR.out).mono ?_
      rintro e1 W5v2 ⟨rfl,hb1⟩
      replace HD:=jH (HD.out.later hb1)
      have HM2:=jH (HM1.out.mul HPR.out)
      generalize lU m1 (st.H q)=m2 at*
      refine hK _ _ (And.intro (IB.two HD.out.d) (HD.out.r.rd hqj hp1 hp1)) ?_
      clear hK K' hb1
      try simp only [Act.put,aF]
      repeat (refine tkL (v:= ?_) rfl rfl rfl (fun w' hSw=> ?_) (And.intro (IB.two HD.out.d) (HD.out.r.rd hqj hp1 hp1)) ?_;rotate_left;(focus (go_simp;with_reducible rfl));simp only [aF])
      refine aN ?_
      simp only [drL]
      go_wp2_with fail
      refine(aVu t0 m2 _ HT.out.w HM2.out).mono ?_
      rintro e7 w7 ⟨rfl,hb1⟩
      replace HD:=jH (HD.out.later hb1)
      have HT2:=jH (IvO.sub HT.out.w HM2.out)
      generalize aDi t0 m2=t1 at*
      clear hb1 HT HM1 HM2 HWP HPR
      obtain⟨r0,r1⟩:=IB.two HD.out.d
      obtain⟨r2,r3⟩:=IB.thaw HD.out.d
      replace HD:=jH (HD.out.put t1)
      go_wp2
      go_roundw
      case rel=>exact⟨q+1,by omega,by go_num,by rw [HSQ.out];exact HT2,by rw [HSQ.out];exact HD⟩
      case measure=>simp [intOf]<;>omega
     ·obtain rfl:q=k:=by omega
      obtain⟨pv,hpv⟩:∃x,pvW.dw st.L st.H q q (a q q,st.f) q=x:=⟨_,rfl⟩
      have hpv2:pvW.pv a q st=pv:=hpv
      rw [hpv]at HT HD
      rw [hpv2]at HBAD HGOOD
      clear hpv hpv2
      obtain⟨d,f⟩:=pv
      dsimp only at HT HD
      rw [aMd]at HBAD HGOOD
      have hz:=HT.out.has
      obtain⟨x0,x1⟩:=IB.two HD.out.d
      cases hh:zA d
      ·rw [hh]at hz
       unfold zrI at hz
       have HGD:=jH (HGOOD.out (by rw [aK3 hh]))
       rw [aK3 hh]at HGD
       dsimp only at HGD
       clear HBAD HGOOD hh
       obtain⟨A,hA⟩:∃b,(FloatKind.f64.format.order d.1 0==some Ordering.lt||FloatKind.f64.format.order d.1 0==some Ordering.eq)=b:=⟨_,rfl⟩
       obtain⟨B,hB⟩:∃b,(FloatKind.f64.format.order d.2 0==some Ordering.gt||FloatKind.f64.format.order d.2 0==some Ordering.eq)=b:=⟨_,rfl⟩
       rw [hA,hB]at hz
       go_upto_region 15 with fail
       go_cut [72]from 65 to 72 (fun cv wx=>cv= .bool false∧wx=wr)
       case first=>
        cases A
        ·go_wp2
         go_meet
         exact⟨rfl,rfl⟩
        ·cases B
         ·go_wp2
          go_meet
          exact⟨rfl,rfl⟩
         ·cases hz
       case rest=>
       obtain⟨rfl,rfl⟩:=hcut
       clear hz hA hB
       have HOW:=jH fun o=>HD.out.r.o.later (Below.aA _ o)
       have HNW:=jH fun W=>cell_two_new W (.float .f64 d.1) (.float .f64 d.2) 37
       have HSZ:Hid (g+1≤wc.heap.size):=jH HD.out.r.gm.lt
       go_wp2_with (at_builtin;refine wpList_append_own_at _ rfl _ _ 27 rfl (g+1) 37 i0 (.agg #[.float .f64 0,.float .f64 0]) 2 16 Tryz.underlying27 hi hz0 hz1 hz2 rfl (by decide) _ _ _ rfl (HOW.out _) ⟨_,0,none⟩ 1 1 [.float .f64 d.1,.float .f64 d.2] rfl rfl (HNW.out _) ?c2 ?c3 ?c4 ?c5 ?_)
       case c2=>first|rfl|(intro u hu;simp only [List.mem_cons,List.not_mem_nil,or_false]at hu;rcases hu with rfl|rfl<;>rfl)|(refine⟨rfl,rfl⟩)
       case c3=>unfold maxLen;omega
       case c4=>omega
       case c5=>have:=HSZ.out;simp;omega
       intro v' U4 hown hgrow _ hat
       have HDW:=jH HT.out.w
       have HD2:=jH (HD.out.grown HT.out (Below.aA _ _) hgrow hown (hat.imp id fun e=>by rw [size_alloc];exact e))
       obtain⟨po2,pc2,hv'⟩:=qC hown
       rw [hv']at HD2 ⊢
       clear hown hgrow hat hv' HNW HOW HSZ HD x0 x1
       have HL1:Hid (aB0 n (pvW.rows a (dJ st.H q d) d q (q+1) (st.L,f)).1 us):=jH (by rw [pvW.oI _ _ _ _ _ _ (Nat.le_refl _)];exact HL.out)
       clear HL
       generalize dJ st.H q d=H1 at*
       go_wp2
       go_loopw [12] (fun iv wr=>∃(i:Nat) (us:Nat→Iv),q+1≤i∧i≤n∧iv= .int .i64 i∧Hid (aB0 n (pvW.rows a H1 d q i (st.L,f)).1 us)∧Hid (RpD w wr g n N sl us (.slice po2 (q+1) pc2) (q+1) H1 db d)) (fun iv _=>n-(intOf iv).toNat)
       case atStart=>exact⟨q+1,us,Nat.le_refl _,by omega,by go_num,HL1,HD2⟩
       case round=>
        clear HL1 HD2
        obtain⟨i,us,hi1,hi2,rfl,HL,HD⟩:=hrel
        obtain⟨m0,m1,m2,-⟩:=HD.out.r.m.cells3
        by_cases hin:i<n
        ·have HSS:=jH (pvW.zZ (a:=a) (H:=H1) (h:=d) (s:=(st.L,f)) (show q<i by omega))
         generalize pvW.rows a H1 d q i (st.L,f)=rs at*
         obtain⟨L2,f2⟩:=rs
         dsimp only at HL HSS
         have HAO:Hid (IvO (a i q)):=jH (by rw [←HAE.out];exact HA.out i q hin hlt)
         go_wp2_with fail
         refine(HAT.out i q _ hin hlt HD.out.r.b).mono ?_
         rintro e3 w3 ⟨rfl,hb3⟩
         replace HD:=jH (HD.out.later hb3)
         clear hb3 m0 m1 m2
         go_wp2_with fail
         refine(HPT.out i q _ hin hlt).mono ?_
         rintro e4 w4 ⟨rfl,hb3⟩
         rw [HAE.out]
         replace HD:=jH (HD.out.later hb3)
         clear hb3
         go_upto_region 22 with fail
         have HD1:=jH (RpT.start HD.out (a i q))
         obtain⟨tb,htb⟩:∃b,w4.heap.size=b:=⟨_,rfl⟩
         rw [htb]at HD1
         try rw [htb]
         generalize World.alloc w4 _=W4 at*
         clear htb HD
         have HT0:Hid (IvO (pvW.dw L2 H1 i q (a i q,f2) 0).1):=HAO
         replace HD1:Hid (RpT w W4 g n N sl us (.slice po2 (q+1) pc2) (q+1) H1 db d tb (pvW.dw L2 H1 i q (a i q,f2) 0).1):=HD1
         clear HAO
         go_wp2
         go_loopw [14] (fun qv wr=>∃z:Nat,z≤q∧qv= .int .i64 z∧Hid (IvO (pvW.dw L2 H1 i q (a i q,f2) z).1)∧Hid (RpT w wr g n N sl us (.slice po2 (q+1) pc2) (q+1) H1 db d tb (pvW.dw L2 H1 i q (a i q,f2) z).1)) (fun qv _=>q-(intOf qv).toNat)
         case atStart=>exact⟨0,Nat.zero_le _,rfl,HT0,HD1⟩
         case round=>
          clear HT0 HD1
          obtain⟨z,hq,rfl,HT,HD⟩:=hrel
          by_cases hql:z<q
          ·have hqn:z<n:=by omega
           have hqj:z<(q+1):=by omega
           have HSQ:=jH (aVi L2 H1 i q (a i q,f2) z)
           generalize (pvW.dw L2 H1 i q (a i q,f2) z).1=t0 at*
           obtain⟨e1,e2⟩:=at_eq hn hin hqn
           obtain⟨e3,e4⟩:=at_eq hn hlt hqn
           obtain⟨hup,hwp⟩:=HL.out i z hin hqn
           rw [←hup]at HSQ hwp
           have hp1:=HLT.out i z hin hqn
           obtain⟨hus,hws⟩:=HL.out q z hlt hqn
           rw [←hus]at HSQ hws
           have hs1:=HLT.out q z hlt hqn
           have HWP:=jH hwp
           have HPR:=jH (HD.out.D.r.iw z hqj).w
           obtain⟨gg,hgg,-⟩:=HD.out.D.r.o.cell hqj
           subst hgg
           clear hup hwp
           have HWS:=jH hws
           clear hus hws
           generalize i*n+z=p at*
           generalize ((i*n:Nat):Int)=pi at*
           generalize q*n+z=s at*
           generalize ((q*n:Nat):Int)=si at*
           go_upto_region 25 with fail
           generalize hj1:(q+1)=j1 at HD hqj ⊢
           refine aC (fun w':World=>(w'.cell? ⟨tb,0,none⟩=some (.float .f64 (t0).1)∧w'.cell? ⟨tb,1,none⟩=some (.float .f64 (t0).2))∧(w'.cell? ⟨g,p*2,none⟩=some (.float .f64 (us p).1)∧w'.cell? ⟨g,p*2+1,none⟩=some (.float .f64 (us p).2))∧(w'.cell? ⟨g,s*2,none⟩=some (.float .f64 (us s).1)∧w'.cell? ⟨g,s*2+1,none⟩=some (.float .f64 (us s).2))∧w'.cell? ⟨gg,z*2,none⟩=some (.float .f64 (H1 z).1)∧w'.cell? ⟨gg,z*2+1,none⟩=some (.float .f64 (H1 z).2)) 23 (.take 0 (.take 1 (.take 2 (.take 3 (.take 4 (.take 5 (.take 6 (.take 7 (.take 8 (.take 9 (.take 10 (.take 11 (.take 12 (.take 13 (.take 14 (.take 15 (.take 16 (.take 18 (.take 19 (.take 20 (.take 21 (.run 17 (.run 22 .nil))))))))))))))))))))))) (by kernel_rfl) (by kernel_rfl) ?_
           replace HD:=jH (HD.out.later (aB _))
           generalize World.drew _=W5 at HD ⊢
           repeat (refine tkL (v:= ?_) rfl rfl rfl (fun w' hSw=> ?_) (And.intro (IB.two HD.out.t) (HD.out.D.r.rd hqj hp1 hs1)) ?_;rotate_left;(focus (go_simp;with_reducible rfl));simp only [aF])
           refine aI rfl rfl fun K' hK=> ?_
           go_simp
           refine(aLg (us p) (us s) _ HWP.out HWS.out).mono ?_
           rintro e1 W5v1 ⟨rfl,hb1⟩
           replace HD:=jH (HD.out.later hb1)
           have HM1:=jH (HWP.out.mul HWS.out)
           generalize lU (us p) (us s)=m1 at*
           refine hK _ _ (And.intro (IB.two HD.out.t) (HD.out.D.r.rd hqj hp1 hs1)) ?_
           clear hK K' hb1
           try simp only [Act.put,aF]
           repeat (refine tkL (v:= ?_) rfl rfl rfl (fun w' hSw=> ?_) (And.intro (IB.two HD.out.t) (HD.out.D.r.rd hqj hp1 hs1)) ?_;rotate_left;(focus (go_simp;with_reducible rfl));simp only [aF])
           refine aI rfl rfl fun K' hK=> ?_
           go_simp
           refine(aLg m1 (H1 z) _ HM1.out HPR.out).mono ?_
           rintro e1 W5v2 ⟨rfl,hb1⟩
           replace HD:=jH (HD.out.later hb1)
           have HM2:=jH (HM1.out.mul HPR.out)
           generalize lU m1 (H1 z)=m2 at*
           refine hK _ _ (And.intro (IB.two HD.out.t) (HD.out.D.r.rd hqj hp1 hs1)) ?_
           clear hK K' hb1
           try simp only [Act.put,aF]
           repeat (refine tkL (v:= ?_) rfl rfl rfl (fun w' hSw=> ?_) (And.intro (IB.two HD.out.t) (HD.out.D.r.rd hqj hp1 hs1)) ?_;rotate_left;(focus (go_simp;with_reducible rfl));simp only [aF])
           refine aN ?_
           simp only [drL]
           go_wp2_with fail
           refine(aVu t0 m2 _ HT.out.w HM2.out).mono ?_
           rintro e7 w7 ⟨rfl,hb1⟩
           replace HD:=jH (HD.out.later hb1)
           have HT2:=jH (IvO.sub HT.out.w HM2.out)
           generalize aDi t0 m2=t1 at*
           clear hb1 HT HM1 HM2 HWP HPR HWS
           obtain⟨r0,r1⟩:=IB.two HD.out.t
           obtain⟨r2,r3⟩:=IB.thaw HD.out.t
           replace HD:=jH (HD.out.put t1)
           go_wp2
           subst hj1
           go_roundw
           case rel=>exact⟨z+1,by omega,by go_num,by rw [HSQ.out];exact HT2,by rw [HSQ.out];exact HD⟩
           case measure=>simp [intOf]<;>omega
          ·obtain rfl:z=q:=by omega
           obtain⟨pv,hpv⟩:∃x,pvW.dw L2 H1 i z (a i z,f2) z=x:=⟨_,rfl⟩
           rw [hpv]at HT HD HSS
           clear hpv
           obtain⟨t2,f3⟩:=pv
           dsimp only at HT HD HSS
           obtain⟨e1,e2⟩:=at_eq hn hin hlt
           have hp1:=HLT.out i z hin hlt
           obtain⟨x0,x1⟩:=IB.two HD.out.D.d
           obtain⟨y0,y1⟩:=IB.two HD.out.t
           have HLS:=jH fun x (hx:IW x)=>HL.out.set (i:=i) hlt hx
           clear HL
           generalize i*n+z=p at*
           generalize ((i*n:Nat):Int)=pi at*
           go_wp2_with fail
           refine(aXh t2 d _ HT.out.w HDW.out).mono ?_
           rintro e8 w8 ⟨rfl,hb1⟩
           replace HD:=jH (HD.out.D.later hb1)
           have HLF:=jH (HLS.out _ (HT.out.w.div HDW.out))
           have HX:Hid ((pvW.over (t2,f3) d).1=aP7 t2 d):=jH rfl
           rw [←HX.out]at HLF
           rw [←HX.out]
           generalize (pvW.over (t2,f3) d)=ov at*
           obtain⟨x,f4⟩:=ov
           dsimp only at HLF HSS ⊢
           clear hb1 x0 x1 y0 y1 HLS HX HT
           obtain⟨c0,c1⟩:=HD.out.r.gm.cell hp1
           have z0:=HD.out.r.gm.frozen (p*2)
           have z1:=HD.out.r.gm.frozen (p*2+1)
           have HD3:=jH (HD.out.aF hp1 x)
           clear HD
           go_wp2
           go_roundw
           case rel=>exact⟨i+1,_,by omega,by omega,by go_num,by rw [HSS.out];exact HLF,HD3⟩
           case measure=>simp [intOf]<;>omega
        ·obtain rfl:i=n:=by omega
         have HR2:=jH HD.out.r
         clear HD
         go_wp2
         go_roundw
         case rel=>exact⟨q+1,us,po2,pc2,by omega,by go_num,rfl,jH (by rw [HGD.out];exact⟨rfl,rfl⟩),jH (by rw [HGD.out];exact HL.out),jH (by rw [HGD.out];exact HR2.out)⟩
         case measure=>simp [intOf]<;>omega
      ·rw [hh]at hz
       unfold zrI at hz
       rw [aJm hh]at HBAD
       obtain⟨b1,b2⟩:=HBAD.out (show(92:Int)≠0 by decide)
       obtain⟨c1,c2,c3,-⟩:=HPS.out _ rfl
       rw [b1]at c1
       rw [b2]at c2
       have hRn:=c3 (by rw [b1];exact(show(92:Int)≠0 by decide))
       subst c1
       subst c2
       subst hRn
       have HB:=jH HD.out.r.b
       clear HBAD HGOOD HPS hh HD b1 b2 c3
       obtain⟨A,hA⟩:∃b,(FloatKind.f64.format.order d.1 0==some Ordering.lt||FloatKind.f64.format.order d.1 0==some Ordering.eq)=b:=⟨_,rfl⟩
       obtain⟨B,hB⟩:∃b,(FloatKind.f64.format.order d.2 0==some Ordering.gt||FloatKind.f64.format.order d.2 0==some Ordering.eq)=b:=⟨_,rfl⟩
       rw [hA,hB]at hz
       cases A
       ·cases hz
       cases B
       ·cases hz
       clear hz
       go_wp2
       refine bodyPost_ret (v:= .tuple #[.slice none 0 0,.int .i64 (P:Nat),.int .i64 92]) (by simp [results,Tryz.results10,go_sem]) rfl ⟨_,rfl,VSl.none _,HB.out⟩
   ·obtain rfl:k=n:=by omega
    obtain⟨c1,c2,-,c4⟩:=HPS.out _ rfl
    obtain⟨he,hpp⟩:=HE.out
    rw [he]at c1
    rw [hpp]at c2
    have hRn:=c4 he
    subst c1
    subst c2
    subst hRn
    have HV:=jH (HD.out.o.vsl hn fun i hi=>(HD.out.iw i hi).w)
    have HB:=jH HD.out.b
    clear HD HL HE HPS he hpp c4
    go_wp2
    refine bodyPost_ret (v:= .tuple #[.slice po k pc,.int .i64 ((0:Nat):Int),.int .i64 0]) (by simp [results,Tryz.results10,go_sem]) rfl ⟨_,rfl,HV.out,HB.out⟩
 ·obtain⟨e1,e2,e3⟩:=aBb h0
  rw [e1,e2,e3]
  have hp:=beq_eq_false_iff_ne.2 h0
  generalize iC r c l=k at*
  clear hl h0 e1 e2 e3
  obtain⟨m0,m1,m2⟩:=HM.out.m3
  go_enter Tryz.func10,Tryz.ntmps10
  go_wp2_with fail
  refine HSQ.out.mono ?_
  rintro e1 w1 ⟨rfl,hb1⟩
  replace HM:=jH (HM.out.later hb1)
  clear hb1 m0 m1 m2 HSQ
  obtain⟨m0,m1,m2⟩:=HM.out.m3
  go_wp2
  refine bodyPost_ret (v:= .tuple #[.slice none 0 0,.int .i64 ((0:Nat):Int),.int .i64 k]) (by simp [results,Tryz.results10,go_sem]) rfl ⟨_,rfl,VSl.none _,HM.out.b⟩
end
section
set_option maxRecDepth 100000
set_option maxHeartbeats 6400000
open Go.RowKit
attribute [local go_sem] bG
theorem aPy (r c:Int) (l:List Nat):iC r c l≠92:=by
 unfold iC
 by_cases h0:kN r c l=0
 ·rw [if_neg (fun t=>t h0)]
  by_cases h1:wI r.toNat l
  ·rw [if_pos h1];decide
  ·rw [if_neg h1];decide
 ·rw [if_pos h0]
  rcases aU4 r c l with h|h|h|h<;>rw [h]<;>decide
theorem aPi (a:Nat→Nat→Iv) (n:Nat):∀m,(pvW.all a n m).e=0∨(pvW.all a n m).e=92
 |0=> .inl rfl
 | m+1=>by
  rcases aPi a n m with h0|h0
  ·cases hh:zA (pvW.pv a m (pvW.all a n m)).1
   ·left
    have h1:(pvW.head (pvW.pv a m (pvW.all a n m))).2=0:=by show(if zA _ then _ else _:Iv×Int).2=0;rw [hh];rfl
    rw [pvW.all_good h0 h1]
   ·right
    have h1:(pvW.head (pvW.pv a m (pvW.all a n m))).2=92:=by show(if zA _ then _ else _:Iv×Int).2=92;rw [hh];rfl
    rw [pvW.vX h0 (by rw [h1];decide)]
    exact h1
  ·right
   rw [pvW.rC a n m (by rw [h0];decide) 1]
   exact h0
theorem aT2 {r c:Int}{l:List Nat}(h:iC r c l=0):sO r c l=0∨sO r c l=92:=by
 unfold sO
 rw [if_neg (fun t=>t h)]
 exact aPi _ _ _
theorem aDp (r c:Int) (sl:Value) (l:List Nat) (w:World) (hl:FSl w sl l):
  Calls Tryz.prog 13 #[kG r c sl] w (Gives (.tuple #[.bool (aHl r c l),.int .i64 (iC r c l)]) w):=by
 have HM:=jH (MBx.new w r c sl)
 have HPV:=jH (aAu r c sl l _ (hl.below (Below.aA w (.cells #[.int .i64 r,.int .i64 c,sl] 25))))
 have HVB:Hid (aHl r c l=((iC r c l==0)&&(sO r c l==0)&&(wO r c l).all wK)):=jH rfl
 have HPE:=jH (fun h=>aBb (r:=r) (c:=c) (l:=l) h)
 have HPN:=jH (fun h=>aT2 (r:=r) (c:=c) (l:=l) h)
 have HSN:=jH (aPy r c l)
 generalize aHl r c l=B at*
 generalize sO r c l=E at*
 generalize aDj r c l=P at*
 generalize wO r c l=L at*
 generalize iC r c l=k at*
 clear hl
 obtain⟨q0,q1,q2⟩:=HM.out.m3
 go_enter Tryz.func13,Tryz.ntmps13
 go_wp2_with fail
 refine HPV.out.mono ?_
 rintro e2 w2 ⟨u,rfl,hu,hb2⟩
 replace HM:=jH (HM.out.later hb2)
 have HU:=jH hu
 clear hb2 hu q0 q1 q2 HPV
 obtain⟨ao,cap,rfl,-,hll,-,hcc⟩:=id HU.out
 by_cases h0:k=0
 ·subst h0
  by_cases he:E=0
  ·subst he
   have HLL:=jH hll
   have HC:=jH hcc
   clear hcc hll
   have HB0:Hid (B=L.all wK):=jH (by rw [HVB.out];rfl)
   have HBE:=jH HM.out.b
   have HB2:=jH (Below.refl w2.heap.size w2)
   clear HVB HM HPE HPN HSN
   go_wp2
   go_loopw [22] (fun i wr=>∃k:Nat,k≤L.length∧i= .int .i64 k∧Hid ((L.take k).all wK=true)∧Hid (Below w2.heap.size w2 wr)) (fun i _=>L.length-(intOf i).toNat)
   case atStart=>exact⟨0,Nat.zero_le _,rfl,jH (by simp),HB2⟩
   case round=>
    clear HB2
    obtain⟨k,hk,rfl,HA,HB2⟩:=hrel
    have hll:=HLL.out
    by_cases hlt:k<L.length
    ·obtain⟨b,off,rfl,hb,hcc⟩:=HC.out (by omega)
     have c0:=(HB2.out.cell (p:=⟨b,off+k*2,none⟩) hb).trans (hcc k hlt).1
     have c1:=(HB2.out.cell (p:=⟨b,off+k*2+1,none⟩) hb).trans (hcc k hlt).2
     unfold wdF at c0 c1
     have HY:=jH fun e=>aCy hlt HA.out e
     have HN:=jH fun e=>aGw hlt e
     clear hcc hb
     generalize L[k]=x at*
     obtain⟨p,hp⟩:∃p,wK x=p:=⟨_,rfl⟩
     rw [hp]at HY HN
     have hp2:(FloatKind.f64.format.order x.1 0==some Ordering.gt)=p:=hp
     go_upto_region 9 with fail
     have HX:Hid (IB (wr.alloc (.cells #[.float .f64 x.1,.float .f64 x.2] 37)) wr.heap.size x):=jH (aJ.new wr _ _)
     have HB3:=jH (HB2.out.alloc HB2.out.size (.cells #[.float .f64 x.1,.float .f64 x.2] 37))
     clear c0 c1 HB2
     obtain⟨tb,htb⟩:∃b,wr.heap.size=b:=⟨_,rfl⟩
     rw [htb]at HX ⊢
     generalize World.alloc wr _=W3 at*
     clear htb
     obtain⟨c0,c1⟩:=IB.two HX.out
     clear HX hp
     cases p
     ·have HR:=jH (HN.out rfl)
      go_wp2
      refine bodyPost_ret (v:= .tuple #[.bool false,.int .i64 0]) (by simp [results,Tryz.results13,go_sem]) rfl ⟨by rw [HB0.out,HR.out],HBE.out.trans (HB3.out.mono HBE.out.size)⟩
     ·have HR:=jH (HY.out rfl)
      go_wp2
      go_roundw
      case rel=>exact⟨k+1,by omega,by go_num,HR,HB3⟩
      case measure=>simp [intOf]<;>omega
    ·obtain rfl:k=L.length:=by omega
     have HR:Hid (L.all wK=true):=jH (by have:=HA.out;rwa [List.take_length]at this)
     go_wp2
     refine bodyPost_ret (v:= .tuple #[.bool true,.int .i64 0]) (by simp [results,Tryz.results13,go_sem]) rfl ⟨by rw [HB0.out,HR.out],HBE.out.trans (HB2.out.mono HBE.out.size)⟩
  ·obtain rfl:E=92:=by rcases HPN.out rfl with h|h;exact absurd h he;exact h
   have HB0:Hid (B=false):=jH (by rw [HVB.out];rfl)
   clear HVB he HPE HPN HSN hcc hll
   go_wp2
   refine bodyPost_ret (v:= .tuple #[.bool false,.int .i64 0]) (by simp [results,Tryz.results13,go_sem]) rfl ⟨by rw [HB0.out],HM.out.b⟩
 ·have hp:(k==0)=false:=beq_eq_false_iff_ne.2 h0
  have hp9:(k==92)=false:=beq_eq_false_iff_ne.2 HSN.out
  have HB0:Hid (B=false):=jH (by rw [HVB.out,hp];rfl)
  obtain⟨rfl,-,-⟩:=HPE.out h0
  clear HVB HPE HPN HSN h0 hcc hll
  go_wp2
  refine bodyPost_ret (v:= .tuple #[.bool false,.int .i64 E]) (by simp [results,Tryz.results13,go_sem]) rfl ⟨by rw [HB0.out],HM.out.b⟩
theorem aCo (r c:Int) (vm:Value) (lm:List Nat) (w:World) (hm:USl w vm lm) (hT:dR w):Calls Tryz.prog 3 #[.int .i64 r,.int .i64 c,vm] w (Gives (.bool true) w):=by
 have HI:=jH fun W (h:Below w.heap.size w W)=>aTa r c vm lm W (hm.below h)
 have HT:=jH fun W (h:Below w.heap.size w W)=>hT.below h
 have hE1:∀E:Int,(E==E)=true:=fun E=>by simp
 have hE2:∀E:Int,(E !=E)=false:=fun E=>by simp
 clear hm hT
 go_enter Tryz.func3,Tryz.ntmps3
 go_wp2_with fail
 refine(HI.out _ (Below.refl _ _)).mono ?_
 rintro e0 w0 ⟨u,rfl,hu,hb0⟩
 obtain⟨ul,hul⟩:∃ul,ul=u:=⟨_,rfl⟩
 obtain⟨uo,uc,hue,-⟩:=id hu
 generalize List.length _=un at hue
 subst hul
 subst hue
 go_upto_region 2 with fail
 have HU:=jH (hu.below (Below.aA w0 (.cells #[.int .i64 r,.int .i64 c,.slice uo un uc] 25)))
 have HM:Hid (MBx w (w0.alloc (.cells #[.int .i64 r,.int .i64 c,.slice uo un uc] 25)) w0.heap.size r c (.slice uo un uc)):=jH ⟨aJ.new w0 _ _,hb0.alloc hb0.size _⟩
 obtain⟨mb,hmb⟩:∃b,w0.heap.size=b:=⟨_,rfl⟩
 rw [hmb]at HM ⊢
 generalize World.alloc w0 _=W0 at*
 clear hmb hb0 hu HI
 obtain⟨m0,m1,m2⟩:=HM.out.m3
 have HRP:=jH fun W (h:FSl W (.slice uo un uc) lm)=>aAu r c _ lm W h
 go_wp2_with fail
 refine(aCk r c _ lm _ HU.out (HT.out _ HM.out.b)).mono ?_
 rintro e1 w1 ⟨x,rfl,hx,hb1⟩
 replace HM:=jH (HM.out.later hb1)
 replace HU:=jH (HU.out.below hb1)
 have HX:=jH hx
 generalize sO r c lm=E at*
 generalize aDj r c lm=P at*
 generalize wO r c lm=L at*
 clear hb1 hx m0 m1 m2
 obtain⟨m0,m1,m2⟩:=HM.out.m3
 go_wp2_with fail
 refine(HRP.out _ HU.out).mono ?_
 rintro e2 w2 ⟨y,rfl,hy,hb1⟩
 replace HM:=jH (HM.out.later hb1)
 replace HU:=jH (HU.out.below hb1)
 replace HX:Hid (VSl w2 x L):=jH (PSl.below HX.out hb1)
 have HY:=jH hy
 clear hb1 hy m0 m1 m2 HRP
 obtain⟨xo,xc,rfl,-,hll,-,hxc⟩:=id HX.out
 obtain⟨yo,yc,rfl,-,-,-,hyc⟩:=id HY.out
 have HXC:=jH hxc
 have HYC:=jH hyc
 have HLL:=jH hll
 clear hxc hyc HX HY
 have HMW:=jH HM.out
 have HB2:=jH (Below.refl w2.heap.size w2)
 clear HM
 go_wp2
 go_loopw [50] (fun i wr=>∃k:Nat,k≤L.length∧i= .int .i64 k∧Hid (Below w2.heap.size w2 wr)) (fun i _=>L.length-(intOf i).toNat)
 case atStart=>exact⟨0,Nat.zero_le _,rfl,HB2⟩
 case round=>
   clear HB2
   obtain⟨k,hk,rfl,HB2⟩:=hrel
   have hll:=HLL.out
   by_cases hlt:k<L.length
   ·obtain⟨b,off,rfl,h1,h2⟩:=HXC.out (by omega)
    obtain⟨d,of2,rfl,h3,h4⟩:=HYC.out (by omega)
    have C0:=jH (fun W (hb:Below w2.heap.size w2 W)=>And.intro (And.intro ((hb.cell (p:=⟨b,off+k*2,none⟩) h1).trans (h2 k hlt).1) ((hb.cell (p:=⟨b,off+k*2+1,none⟩) h1).trans (h2 k hlt).2)) (And.intro ((hb.cell (p:=⟨d,of2+k*2,none⟩) h3).trans (h4 k hlt).1) ((hb.cell (p:=⟨d,of2+k*2+1,none⟩) h3).trans (h4 k hlt).2)))
    unfold wdF at C0
    clear h1 h2 h3 h4
    generalize L[k]=x at*
    have hf1:=gZ x.1
    have hf2:=gZ x.2
    go_upto_region 9 with fail
    refine aC (fun w':World=>(w'.cell? ⟨b,off+k*2,none⟩=some (.float .f64 x.1)∧w'.cell? ⟨b,off+k*2+1,none⟩=some (.float .f64 x.2))∧w'.cell? ⟨d,of2+k*2,none⟩=some (.float .f64 x.1)∧w'.cell? ⟨d,of2+k*2+1,none⟩=some (.float .f64 x.2)) 25 (.take 0 (.take 1 (.take 2 (.take 3 (.take 4 (.take 6 (.take 7 (.take 8 (.take 9 (.take 10 (.run 5 (.run 11 (.take 12 (.take 13 (.take 14 (.take 15 (.take 16 (.take 17 (.take 18 (.take 20 (.take 21 (.take 22 (.take 23 (.take 24 (.run 19 .nil))))))))))))))))))))))))) (by kernel_rfl) (by kernel_rfl) ?_
    replace HB2:=jH (HB2.out.trans ((aB _).mono HB2.out.size))
    generalize World.drew _=W5 at HB2 ⊢
    repeat (refine tkL (v:= ?_) rfl rfl rfl (fun w' hSw=> ?_) (C0.out _ HB2.out) ?_;rotate_left;(focus (go_simp;with_reducible rfl));simp only [aF])
    refine aI rfl rfl fun K' hK=> ?_
    go_simp
    generalize W5=W5v1 at*
    refine hK _ _ (C0.out _ HB2.out) ?_
    clear hK K'
    try simp only [Act.put,aF]
    repeat (refine tkL (v:= ?_) rfl rfl rfl (fun w' hSw=> ?_) (C0.out _ HB2.out) ?_;rotate_left;(focus (go_simp;with_reducible rfl));simp only [aF])
    refine aI rfl rfl fun K' hK=> ?_
    go_simp
    generalize W5v1=W5v2 at*
    refine hK _ _ (C0.out _ HB2.out) ?_
    clear hK K'
    try simp only [Act.put,aF]
    repeat (refine tkL (v:= ?_) rfl rfl rfl (fun w' hSw=> ?_) (C0.out _ HB2.out) ?_;rotate_left;(focus (go_simp;with_reducible rfl));simp only [aF])
    refine aI rfl rfl fun K' hK=> ?_
    go_simp
    generalize W5v2=W5v3 at*
    refine hK _ _ (C0.out _ HB2.out) ?_
    clear hK K'
    try simp only [Act.put,aF]
    repeat (refine tkL (v:= ?_) rfl rfl rfl (fun w' hSw=> ?_) (C0.out _ HB2.out) ?_;rotate_left;(focus (go_simp;with_reducible rfl));simp only [aF])
    refine aN ?_
    simp only [drL]
    go_wp2
    go_roundw
    case rel=>exact⟨k+1,by omega,by go_num,HB2⟩
    case measure=>simp [intOf]<;>omega
   ·obtain rfl:k=L.length:=by omega
    have HM:=jH (HMW.out.later HB2.out)
    replace HU:=jH (HU.out.below HB2.out)
    clear HMW HXC HYC HLL hll
    obtain⟨m0,m1,m2⟩:=HM.out.m3
    have HRV:=jH fun W (h:FSl W (.slice uo un uc) lm)=>aDp r c _ lm W h
    go_wp2_with fail
    refine(zB r c _ lm _ HU.out (HT.out _ HM.out.b)).mono ?_
    rintro e3 w3 ⟨rfl,hb1⟩
    replace HM:=jH (HM.out.later hb1)
    replace HU:=jH (HU.out.below hb1)
    generalize aHl r c lm=B at*
    generalize iC r c lm=E2 at*
    clear hb1 m0 m1 m2 HB2
    obtain⟨m0,m1,m2⟩:=HM.out.m3
    go_wp2_with fail
    refine(HRV.out _ HU.out).mono ?_
    rintro e4 w4 ⟨rfl,hb1⟩
    replace HM:=jH (HM.out.later hb1)
    clear hb1 m0 m1 m2 HU HRV
    have hbb:(B==B)=true:=by cases B<;>rfl
    go_wp2_with fail
    refine(aJ7 _ (HT.out _ HM.out.b)).mono ?_
    rintro e5 w5 ⟨rfl,hb1⟩
    replace HM:=jH (HM.out.later hb1)
    clear hb1
    go_wp2
    go_ret
    exact⟨rfl,HM.out.b⟩
end
end Go.Proofs.YtfmecpembnmnkaaGreatDoor
