/- Walks: the references' zeroSum and Add of a format. Printed by wip/gen/cx3.py. -/
import Derived.Test.YtfmecpembnmnkaaGreatDoorPKF
namespace Go.Proofs.YtfmecpembnmnkaaGreatDoor
section
set_option maxRecDepth 100000
set_option maxHeartbeats 6400000
open Go.RowKit
def aDo (k:Int) (w:World) (e:Ending) (w':World):Prop:=∃(R:Nat) (fl:Int),e= .returned (.tuple #[.int .u64 (R:Nat),.int .i64 fl])∧W64 R∧aU R=false∧ky R=k∧Below w.heap.size w w'
theorem iL (neg:Bool):W64 (dA neg 0 0)∧aU (dA neg 0 0)=false∧ky (dA neg 0 0)=0:=by cases neg<;>decide
theorem uH (neg:Bool):W64 (dA neg 2047 0)∧aU (dA neg 2047 0)=false∧ky (dA neg 2047 0)=if neg then-(aG:Int)else aG:=by cases neg<;>decide
def aMm (w:World) (e:Ending) (w':World):Prop:=∃neg:Bool,e= .returned (.int .u64 (dA neg 0 0:Nat))∧Below w.heap.size w w'
theorem aMq {x y:Nat}(fx:aK x=true) (fy:aK y=true) (mode:Int):
  ∃S m,aGj (aQ x) (bJ x) (bT x) (aQ y) (bJ y) (bT y)=S∧min (bT x) (bT y)=m∧bl S.natAbs≤1048576∧-100000≤m∧m≤100000∧ky (aV S m mode)=adK x y mode:=by
 have ex:=nG fx
 have ey:=nG fy
 have hb:=aUn (na:=aQ x) (nb:=aQ y) (ea:=bT x) (eb:=bT y) (nH x) (nH y)
 obtain⟨u1,u2⟩:=aWx fx fy
 have hs:sc 1074 (aGj (aQ x) (bJ x) (bT x) (aQ y) (bJ y) (bT y)) (min (bT x) (bT y))=fI x+fI y:=by
  rw [aU2 (by omega) (by omega),aBe fy (Int.le_refl _),aBe fx (Int.le_refl _)]
  rfl
 refine⟨_,_,rfl,rfl,by omega,by omega,by omega,?_⟩
 exact aE5 (M:=1074) mode (by omega) (by omega) u1 (by rw [hs,u2])
theorem oJ {x:Nat}(hx:W64 x) (n:aU x=false) (f:aK x=false):ky x=if aQ x then-(aG:Int)else aG:=by
 rw [lT hx]
 have h1:=dH n
 have h2:x<18446744073709551616:=hx
 have h3:x%aH=aG:=by
  unfold aK eF at f
  unfold aG aH aT at*
  have:=of_decide_eq_false f
  omega
 rw [h3]
theorem aFs (one neg:Bool) (mode:Int) (w:World):Calls Tryz.prog 165 #[iK,.bool one,.bool neg,.int .i64 mode] w (aMm w):=by
 have HN:=jH fun neg W=>aG6 neg W
 have HB:=jH ((Bks.nil w).alloc #[.int .i64 53,.int .i64 (-1022),.int .i64 1023,.int .i64 11] 144)
 unfold iK at*
 cases one
 ·go_enter Tryz.func165,Tryz.ntmps165
  obtain⟨⟨k0,k1,k2,k3⟩,-⟩:=(HB.out.get (.head _)).cells4
  go_wp2_with fail
  refine(HN.out _ _).mono ?_
  rintro e1 w1 ⟨rfl,hb1⟩
  replace HB:=jH (HB.out.later hb1)
  clear hb1
  go_wp2
  go_ret
  exact⟨_,rfl,HB.out.2⟩
 ·go_enter Tryz.func165,Tryz.ntmps165
  obtain⟨⟨k0,k1,k2,k3⟩,-⟩:=(HB.out.get (.head _)).cells4
  go_wp2_with fail
  refine(HN.out _ _).mono ?_
  rintro e1 w1 ⟨rfl,hb1⟩
  replace HB:=jH (HB.out.later hb1)
  clear hb1
  go_wp2
  go_ret
  exact⟨_,rfl,HB.out.2⟩
theorem Bks.bC {w0 W:World}{l:List (Nat×Nat×Array Value)}{c x y s t u:Nat}{a b d e a' b' d' e' f g h i:Value}(hh:Bks w0 W ((c,s,#[f,g,h,i])::(x,t,#[a,b,d,e])::(y,u,#[a',b',d',e'])::l)):
  (W.cell? ⟨c,0,none⟩=some f∧W.cell? ⟨c,1,none⟩=some g∧W.cell? ⟨c,2,none⟩=some h∧W.cell? ⟨c,3,none⟩=some i)∧(W.cell? ⟨x,0,none⟩=some a∧W.cell? ⟨x,1,none⟩=some b∧W.cell? ⟨x,2,none⟩=some d∧W.cell? ⟨x,3,none⟩=some e)∧W.cell? ⟨y,0,none⟩=some a'∧W.cell? ⟨y,1,none⟩=some b'∧W.cell? ⟨y,2,none⟩=some d'∧W.cell? ⟨y,3,none⟩=some e':=
 ⟨(hh.get (.head _)).cells4.1,hh.ab4⟩
theorem aIo (x y p q:Nat) (mode:Int) (w:World) (hx:W64 x) (hy:W64 y) (nx:aU x=false) (ny:aU y=false) (hop:aK x=false→aK y=false→aQ x=aQ y) (hmode:mode=3∨mode=4) (hp:fU w p (bJ x:Nat)) (hq:fU w q (bJ y:Nat)):
  Calls Tryz.prog 138 #[iK,iJ (dM x) (aQ x) p (bT x),iJ (dM y) (aQ y) q (bT y),.int .i64 mode] w (aDo (suK x y mode) w):=by
 have HP:=jH hp
 have HQ:=jH hq
 have HIN:=jH fun neg W=>iD neg W
 have HK:=jH (Bks.aH6 w 144 151 151 #[.int .i64 53,.int .i64 (-1022),.int .i64 1023,.int .i64 11] #[.int .i64 (dM x),.bool (aQ x),.pointer (some ⟨p,0,none⟩),.int .i64 (bT x)] #[.int .i64 (dM y),.bool (aQ y),.pointer (some ⟨q,0,none⟩),.int .i64 (bT y)])
 unfold suK
 cases fx:aK x
 ·rw [if_pos rfl]
  have HI:=jH fun W=>iD (aQ x) W
  have HJ:=jH (uH (aQ x))
  rw [←oJ hx nx fx]at HJ
  generalize ky x=KK at*
  generalize dA (aQ x) 2047 0=JJ at*
  clear HIN
  have hk:dM x=1:=by unfold dM;rw [fx];rfl
  rw [hk]at HK ⊢
  clear hk
  unfold iJ iK at*
  generalize bT x=xpx at*
  generalize bT y=xpy at*
  cases fy:aK y
  ·have hk:dM y=1:=by unfold dM;rw [fy];rfl
   rw [hk]at HK ⊢
   have hsg:=hop fx fy
   rw [←hsg]at HK ⊢
   clear hk hsg hop hx hy nx ny fx fy hmode hp hq HP HQ
   generalize aQ x=s at*
   have hne:(s !=s)=false:=by cases s<;>rfl
   go_enter Tryz.func138,Tryz.ntmps138
   obtain⟨⟨k0,k1,k2,k3⟩,-⟩:=(HK.out.get (.head _)).cells4
   obtain⟨⟨c0,c1,c2,c3⟩,g0,g1,g2,g3⟩:=HK.out.ab4
   go_wp2_with fail
   refine(HI.out _).mono ?_
   rintro e1 w1 ⟨rfl,hb1⟩
   replace HK:=jH (HK.out.later hb1)
   clear hb1
   clear k0 k1 k2 k3 c0 c1 c2 c3 g0 g1 g2 g3
   obtain⟨⟨k0,k1,k2,k3⟩,-⟩:=(HK.out.get (.head _)).cells4
   obtain⟨⟨c0,c1,c2,c3⟩,g0,g1,g2,g3⟩:=HK.out.ab4
   go_wp2
   refine bodyPost_ret (v:= .tuple #[.int .u64 (JJ:Nat),.int .i64 0]) (by simp [results,Tryz.results138,go_sem]) rfl ⟨_,_,rfl,HJ.out.1,HJ.out.2.1,HJ.out.2.2,HK.out.2⟩
  ·have hk:dM y=0:=nU fy
   rw [hk]at HK ⊢
   clear hk hop hx hy nx ny fx fy hmode hp hq HP HQ
   generalize aQ x=s at*
   generalize aQ y=s2 at*
   go_enter Tryz.func138,Tryz.ntmps138
   obtain⟨⟨k0,k1,k2,k3⟩,-⟩:=(HK.out.get (.head _)).cells4
   obtain⟨⟨c0,c1,c2,c3⟩,g0,g1,g2,g3⟩:=HK.out.ab4
   go_wp2_with fail
   refine(HI.out _).mono ?_
   rintro e1 w1 ⟨rfl,hb1⟩
   replace HK:=jH (HK.out.later hb1)
   clear hb1
   clear k0 k1 k2 k3 c0 c1 c2 c3 g0 g1 g2 g3
   obtain⟨⟨k0,k1,k2,k3⟩,-⟩:=(HK.out.get (.head _)).cells4
   obtain⟨⟨c0,c1,c2,c3⟩,g0,g1,g2,g3⟩:=HK.out.ab4
   go_wp2
   refine bodyPost_ret (v:= .tuple #[.int .u64 (JJ:Nat),.int .i64 0]) (by simp [results,Tryz.results138,go_sem]) rfl ⟨_,_,rfl,HJ.out.1,HJ.out.2.1,HJ.out.2.2,HK.out.2⟩
 rw [if_neg (by decide)]
 have hk:dM x=0:=nU fx
 rw [hk]at HK ⊢
 clear hk
 cases fy:aK y
 ·rw [if_pos rfl]
  have HI:=jH fun W=>iD (aQ y) W
  have HJ:=jH (uH (aQ y))
  rw [←oJ hy ny fy]at HJ
  generalize ky y=KK at*
  generalize dA (aQ y) 2047 0=JJ at*
  clear HIN
  have hk:dM y=1:=by unfold dM;rw [fy];rfl
  rw [hk]at HK ⊢
  clear hk hop hx hy nx ny fx fy hmode hp hq HP HQ
  unfold iJ iK at*
  generalize bT x=xpx at*
  generalize bT y=xpy at*
  generalize aQ x=s at*
  generalize aQ y=s2 at*
  go_enter Tryz.func138,Tryz.ntmps138
  obtain⟨⟨k0,k1,k2,k3⟩,-⟩:=(HK.out.get (.head _)).cells4
  obtain⟨⟨c0,c1,c2,c3⟩,g0,g1,g2,g3⟩:=HK.out.ab4
  go_wp2_with fail
  refine(HI.out _).mono ?_
  rintro e1 w1 ⟨rfl,hb1⟩
  replace HK:=jH (HK.out.later hb1)
  clear hb1
  clear k0 k1 k2 k3 c0 c1 c2 c3 g0 g1 g2 g3
  obtain⟨⟨k0,k1,k2,k3⟩,-⟩:=(HK.out.get (.head _)).cells4
  obtain⟨⟨c0,c1,c2,c3⟩,g0,g1,g2,g3⟩:=HK.out.ab4
  go_wp2
  refine bodyPost_ret (v:= .tuple #[.int .u64 (JJ:Nat),.int .i64 0]) (by simp [results,Tryz.results138,go_sem]) rfl ⟨_,_,rfl,HJ.out.1,HJ.out.2.1,HJ.out.2.2,HK.out.2⟩
 rw [if_neg (by decide)]
 have hk:dM y=0:=nU fy
 rw [hk]at HK ⊢
 clear hk HIN hop
 obtain⟨S,m,hS,hm,l1,l2,l3,hkk⟩:=aMq fx fy mode
 rw [←hkk]
 have ex:=nG fx
 have ey:=nG fy
 have cx:=nH x
 have cy:=nH y
 have hlA:=Nat.le_trans (dV 32 (bJ x) (by decide)) cx
 have hlB:=Nat.le_trans (dV 32 (bJ y) (by decide)) cy
 have HSA:=jH fun W h=>aAs 0 (aQ x) p (bJ x) (bT x) m W h (by omega) (by omega) (by omega)
 have HSB:=jH fun W h=>aAs 0 (aQ y) q (bJ y) (bT y) m W h (by omega) (by omega) (by omega)
 have HSS:S=sgI (aQ x) (bJ x)*2^(bT x-m).toNat+sgI (aQ y) (bJ y)*2^(bT y-m).toNat:=by rw [←hS,←hm];rfl
 have m1:=aHc (neg:=aQ x) (N:=bJ x) (s:=(bT x-m).toNat) (by omega) (by omega)
 have m2:=aHc (neg:=aQ y) (N:=bJ y) (s:=(bT y-m).toNat) (by omega) (by omega)
 have HAD:=jH fun b x' y' W h1 h2 h3=>aGo b 0 x' 0 y' 0 (sgI (aQ x) (bJ x)*2^(bT x-m).toNat) (sgI (aQ y) (bJ y)*2^(bT y-m).toNat) W h1 h2 h3 m1 m2
 rw [←HSS]at HAD
 have hmin:∀ts t w,(Builtin.min_ ts t #[.int .i64 (bT x),.int .i64 (bT y)]).run Tryz.prog w= .ok (.int .i64 m) w:=fun ts t w=>by rw [aQc,hm]
 generalize sgI (aQ x) (bJ x)*2^(bT x-m).toNat=ZA at*
 generalize sgI (aQ y) (bJ y)*2^(bT y-m).toNat=ZB at*
 have HSG:=jH fun r W h=>wH r 0 S W h
 have HZX:=jH fun W h=>qO (aQ x) p (bJ x) (bT x) W h
 have HZY:=jH fun W h=>qO (aQ y) q (bJ y) (bT y) W h
 have HZS:=jH fun one neg md W=>aFs one neg md W
 skip
 obtain⟨f0,hf0⟩:∃f,w.heap.size=f:=⟨_,rfl⟩
 rw [hf0]at HK
 skip
 obtain⟨b0,hs0⟩:∃b,(S.sign==0)=b:=⟨_,rfl⟩
 have hb0:b0=true↔S=0:=by rw [←hs0,beq_iff_eq,Int.sign_eq_zero_iff_zero]
 obtain⟨KK,hKK⟩:∃k,ky (aV S m mode)=k:=⟨_,rfl⟩
 rw [hKK]
 have HZK:Hid (b0=true→KK=0):=jH fun e=>by rw [←hKK,hb0.1 e,show aV 0 m mode=0 from if_pos rfl];decide
 have HJ:Hid (W64 (aV S m mode)∧aU (aV S m mode)=false∧ky (aV S m mode)=KK):=jH ⟨(bU S m mode).1,dF.2 (bU S m mode).2,hKK⟩
 have HRD:=jH fun(e:b0=false) p W h=>(show Calls Tryz.prog 167 #[iK,.bool (decide (S<0)),.pointer (some ⟨p,0,none⟩),.int .i64 m,.bool false,.int .i64 mode] W (aH3 (aV S m mode) W)from by
  have hn:S≠0:=fun t=>by rw [hb0.2 t]at e;cases e
  have:=xE (decide (S<0)) p S.natAbs m false mode W h (by omega) l1 l2 l3 (fun t=>by cases t) (by omega)
  rwa [show pX (decide (S<0)) S.natAbs m false mode=aV S m mode by unfold pX;rw [if_neg (by decide),aU6]]at this)
 have hsg:decide (S.sign<0)=decide (S<0):=decide_eq_decide.2 (aP4 S).2.2.1
 clear hKK hkk hb0
 generalize aV S m mode=R at*
 generalize decide (S<0)=sb at*
 generalize decide (bJ x=0)=bx at*
 generalize decide (bJ y=0)=by' at*
 generalize S.sign=sg at*
 clear hp hq hS hm l1 l2 l3 ex ey cx cy hlA hlB m1 m2 HSS hx hy nx ny fx fy hmode
 generalize aQ x=sgx at*
 generalize bJ x=mtx at*
 generalize bT x=xpx at*
 generalize aQ y=sgy at*
 generalize bJ y=mty at*
 generalize bT y=xpy at*
 unfold iJ iK at*
 go_enter Tryz.func138,Tryz.ntmps138
 obtain⟨⟨k0,k1,k2,k3⟩,-⟩:=(HK.out.get (.head _)).cells4
 obtain⟨⟨c0,c1,c2,c3⟩,g0,g1,g2,g3⟩:=HK.out.ab4
 go_upto_region 10 with fail
 clear k0 k1 k2 k3 c0 c1 c2 c3 g0 g1 g2 g3
 generalize World.alloc (World.alloc (World.alloc w _) _) _=W1 at HK ⊢
 refine aA0 (fun w':World=>(w'.cell? ⟨f0+1,0,none⟩=some (.int .i64 0)∧w'.cell? ⟨f0+1,1,none⟩=some (.bool sgx)∧w'.cell? ⟨f0+1,2,none⟩=some (.pointer (some ⟨p,0,none⟩))∧w'.cell? ⟨f0+1,3,none⟩=some (.int .i64 xpx))∧w'.cell? ⟨f0+1+1,0,none⟩=some (.int .i64 0)∧w'.cell? ⟨f0+1+1,1,none⟩=some (.bool sgy)∧w'.cell? ⟨f0+1+1,2,none⟩=some (.pointer (some ⟨q,0,none⟩))∧w'.cell? ⟨f0+1+1,3,none⟩=some (.int .i64 xpy)) 7 (.take 1 (.take 2 (.take 4 (.take 5 (.bag [(0,62,[]),(3,65,[]),(6,68,[])] .nil))))) (by kernel_rfl) (by kernel_rfl) ?_
 replace HK:=jH (HK.out.later (aB _))
 generalize World.drew _=W10 at HK ⊢
 have HSZ:Hid (aUr W10 W10.heap.size):=jH (Nat.le_refl _)
 have HLT:=jH HK.out.lt
 have HSW:Hid (f0≤W10.heap.size):=jH (by have:=HK.out.size;omega)
 generalize W10.heap.size=nB at HSZ HLT HSW
 have hS:(fun w':World=>(w'.cell? ⟨f0+1,0,none⟩=some (.int .i64 0)∧w'.cell? ⟨f0+1,1,none⟩=some (.bool sgx)∧w'.cell? ⟨f0+1,2,none⟩=some (.pointer (some ⟨p,0,none⟩))∧w'.cell? ⟨f0+1,3,none⟩=some (.int .i64 xpx))∧w'.cell? ⟨f0+1+1,0,none⟩=some (.int .i64 0)∧w'.cell? ⟨f0+1+1,1,none⟩=some (.bool sgy)∧w'.cell? ⟨f0+1+1,2,none⟩=some (.pointer (some ⟨q,0,none⟩))∧w'.cell? ⟨f0+1+1,3,none⟩=some (.int .i64 xpy)) W10:=HK.out.ab4
 repeat (refine aC4 (v:= ?_) rfl rfl (fun _ _ _ h=>h) rfl (fun w' hSw=> ?_) hS ?_;rotate_left;(focus (go_simp;with_reducible rfl));simp only [aF])
 clear hS
 refine aQp (pick [(0,fun v w'=>∃r,v= .pointer (some ⟨r,0,none⟩)∧nB≤r∧fU w' r 0),(3,fun v w'=>∃r,v= .pointer (some ⟨r,0,none⟩)∧fU w' r ZA),(6,fun v w'=>∃r,v= .pointer (some ⟨r,0,none⟩)∧fU w' r ZB)]) (aAm (gB (fun v w1 w2 ⟨r0,hv0,hl0,hp0⟩ hb=>⟨r0,hv0,hl0,hp0.below hb⟩) (gB (fun v w1 w2 ⟨r3,hv3,hp3⟩ hb=>⟨r3,hv3,hp3.below hb⟩) (gB (fun v w1 w2 ⟨r6,hv6,hp6⟩ hb=>⟨r6,hv6,hp6.below hb⟩) rV)))) (fun w' hb=>(HK.out.later hb).ab4) (by simp [prE]) (fun _ _ _ _ _ h=>h) (gB (aE0 rfl ?_) (gB (aE0 rfl ?_) (gB (aE0 rfl ?_) rV))) rV ?_
 ·intro a' V hdf hin hdep hb1 K hK
  clear hin hdep hdf
  have HK:=jH (HK.out.later hb1)
  have HSZ:=jH (HSZ.out.below hb1)
  go_simp
  exact hK _ _ ⟨_,rfl,HSZ.out,dB.zero (k:= .u32) (s:=32) V _ iZ⟩ (Below.aA _ _)
 ·intro a' V hdf hin hdep hb1 K hK
  have i63:a'.tmps[63]?.getD undef= .agg #[.int .i64 0,.bool sgx,.pointer (some ⟨p,0,none⟩),.int .i64 xpx]:=evT (hin 63 (by decide))
  have i64:a'.tmps[64]?.getD undef= .int .i64 m:=evT (hin 64 (by decide))
  clear hin hdep hdf
  have HK:=jH (HK.out.later hb1)
  have HSZ:=jH (HSZ.out.below hb1)
  go_simp
  refine(HSA.out _ (HP.out.below HK.out.2)).mono ?_
  rintro e1 V2 ⟨r,rfl,-,hr,hb2⟩
  exact hK _ _ ⟨r,rfl,hr⟩ hb2
 ·intro a' V hdf hin hdep hb1 K hK
  have i66:a'.tmps[66]?.getD undef= .agg #[.int .i64 0,.bool sgy,.pointer (some ⟨q,0,none⟩),.int .i64 xpy]:=evT (hin 66 (by decide))
  have i67:a'.tmps[67]?.getD undef= .int .i64 m:=evT (hin 67 (by decide))
  clear hin hdep hdf
  have HK:=jH (HK.out.later hb1)
  have HSZ:=jH (HSZ.out.below hb1)
  go_simp
  refine(HSB.out _ (HQ.out.below HK.out.2)).mono ?_
  rintro e1 V2 ⟨r,rfl,-,hr,hb2⟩
  exact hK _ _ ⟨r,rfl,hr⟩ hb2
 intro vals B1 hb1 hR
 replace HK:=jH (HK.out.later hb1)
 replace HSZ:=jH (HSZ.out.below hb1)
 obtain⟨r0,hv0,hl0,hp0⟩:(fun(v:Value) (w':World)=>∃r,v= .pointer (some ⟨r,0,none⟩)∧nB≤r∧fU w' r 0) (vals 0) B1:=hR (0,62) (by decide)
 obtain⟨r3,hv3,hp3⟩:(fun(v:Value) (w':World)=>∃r,v= .pointer (some ⟨r,0,none⟩)∧fU w' r ZA) (vals 3) B1:=hR (3,65) (by decide)
 obtain⟨r6,hv6,hp6⟩:(fun(v:Value) (w':World)=>∃r,v= .pointer (some ⟨r,0,none⟩)∧fU w' r ZB) (vals 6) B1:=hR (6,68) (by decide)
 clear hb1 hR
 simp only [prE,List.flatMap_cons,List.flatMap_nil,List.cons_append,List.nil_append,List.append_nil,mY,List.setIfInBounds_toArray,List.set_cons_zero,List.set_cons_succ,hv0,hv3,hv6]
 clear vals hv0 hv3 hv6
 refine aGk ?_
 simp only [drL]
 skip
 have HR0:Hid (f0+1+1<r0):=jH (by have:=HLT.out _ (.tail _ (.tail _ (.head _)));omega)
 have H0:=jH hp0
 have H3:=jH hp3
 have H6:=jH hp6
 clear hp0 hp3 hp6 hl0 HSZ HLT HSW
 obtain⟨⟨k0,k1,k2,k3⟩,-⟩:=(HK.out.get (.head _)).cells4
 obtain⟨⟨c0,c1,c2,c3⟩,g0,g1,g2,g3⟩:=HK.out.ab4
 go_wp2_with fail
 refine(HAD.out r0 r3 r6 _ H0.out.1 H3.out H6.out).mono ?_
 rintro e3 w3 ⟨rfl,hi3,hm3⟩
 have HI:=jH hi3
 have HK3:=jH (HK.out.mod hm3 (fun t m=>by have:=HR0.out;simp only [List.mem_cons,List.not_mem_nil,or_false]at m;rcases m with rfl|rfl|rfl<;>simp<;>omega) (by have:=HR0.out;omega))
 clear hi3 hm3 H0 H3 H6 HK HAD
 clear k0 k1 k2 k3 c0 c1 c2 c3 g0 g1 g2 g3
 have HK:=HK3
 clear HK3
 obtain⟨⟨k0,k1,k2,k3⟩,-⟩:=(HK.out.get (.head _)).cells4
 obtain⟨⟨c0,c1,c2,c3⟩,g0,g1,g2,g3⟩:=HK.out.ab4
 go_wp2_with fail
 refine(HSG.out r0 _ HI.out).mono ?_
 rintro e4 w4 ⟨rfl,rfl⟩
 cases b0
 ·replace HRD:=jH (HRD.out rfl)
  clear HZK HZX HZY HZS
  go_upto_region 13 with fail
  clear k0 k1 k2 k3 c0 c1 c2 c3 g0 g1 g2 g3
  refine aC (fun w':World=>w'.cell? ⟨f0,0,none⟩=some (.int .i64 53)∧w'.cell? ⟨f0,1,none⟩=some (.int .i64 (-1022))∧w'.cell? ⟨f0,2,none⟩=some (.int .i64 1023)∧w'.cell? ⟨f0,3,none⟩=some (.int .i64 11)) 12 (.take 0 (.take 1 (.take 4 (.take 5 (.take 7 (.take 8 (.run 2 (.take 3 (.run 6 (.run 9 (.take 10 (.take 11 (.nil))))))))))))) (by kernel_rfl) (by kernel_rfl) ?_
  replace HK:=jH (HK.out.later (aB _))
  replace HI:=jH (HI.out.below (aB _))
  generalize World.drew _=W13 at HK HI ⊢
  repeat (first|(refine tkL (v:= ?_) rfl rfl rfl (fun w' hSw=> ?_) (HK.out.get (.head _)).cells4.1 ?_;rotate_left;(focus (go_simp;with_reducible rfl));simp only [aF])|(refine skL rfl rfl rfl (HK.out.get (.head _)).cells4.1 ?_;simp only [aF]))
  refine aI rfl rfl fun K' hK=> ?_
  go_simp
  refine(HSG.out r0 _ HI.out).mono ?_
  rintro e1 W13v1 ⟨rfl,rfl⟩
  refine hK _ _ (HK.out.get (.head _)).cells4.1 ?_
  clear hK K'
  try simp only [Act.put,aF]
  repeat (first|(refine tkL (v:= ?_) rfl rfl rfl (fun w' hSw=> ?_) (HK.out.get (.head _)).cells4.1 ?_;rotate_left;(focus (go_simp;with_reducible rfl));simp only [aF])|(refine skL rfl rfl rfl (HK.out.get (.head _)).cells4.1 ?_;simp only [aF]))
  refine aI rfl rfl fun K' hK=> ?_
  go_simp
  refine(aPc r0 0 r0 0 S _ HI.out.1 HI.out).mono ?_
  rintro e1 W13v2 ⟨rfl,hi5,hm5⟩
  replace HI:=jH hi5
  replace HK:=jH (HK.out.mod hm5 (fun t m=>by have:=HR0.out;simp only [List.mem_cons,List.not_mem_nil,or_false]at m;rcases m with rfl|rfl|rfl<;>simp<;>omega) (by have:=HR0.out;omega))
  clear hi5 hm5
  refine hK _ _ (HK.out.get (.head _)).cells4.1 ?_
  clear hK K'
  try simp only [Act.put,aF]
  repeat (first|(refine tkL (v:= ?_) rfl rfl rfl (fun w' hSw=> ?_) (HK.out.get (.head _)).cells4.1 ?_;rotate_left;(focus (go_simp;with_reducible rfl));simp only [aF])|(refine skL rfl rfl rfl (HK.out.get (.head _)).cells4.1 ?_;simp only [aF]))
  refine aI rfl rfl fun K' hK=> ?_
  go_simp
  refine(HRD.out _ _ HI.out).mono ?_
  rintro e1 W13v3 ⟨fl,rfl,hb1⟩
  replace HK:=jH (HK.out.later hb1)
  replace HI:=jH (HI.out.below hb1)
  refine hK _ _ (HK.out.get (.head _)).cells4.1 ?_
  clear hK K' hb1
  try simp only [Act.put,aF]
  repeat (first|(refine tkL (v:= ?_) rfl rfl rfl (fun w' hSw=> ?_) (HK.out.get (.head _)).cells4.1 ?_;rotate_left;(focus (go_simp;with_reducible rfl));simp only [aF])|(refine skL rfl rfl rfl (HK.out.get (.head _)).cells4.1 ?_;simp only [aF]))
  refine aN ?_
  simp only [drL]
  go_wp2
  refine bodyPost_ret (v:= .tuple #[.int .u64 (R:Nat),.int .i64 fl]) (by simp [results,Tryz.results138,go_sem]) rfl ⟨_,_,rfl,HJ.out.1,HJ.out.2.1,HJ.out.2.2,HK.out.2⟩
 ·obtain rfl:KK=0:=HZK.out (by first|rfl|trivial)
  clear HRD HJ HZK
  cases bx
  ·go_upto_region 12 with fail
   clear k0 k1 k2 k3 c0 c1 c2 c3 g0 g1 g2 g3
   refine aC (fun w':World=>((w'.cell? ⟨f0,0,none⟩=some (.int .i64 53)∧w'.cell? ⟨f0,1,none⟩=some (.int .i64 (-1022))∧w'.cell? ⟨f0,2,none⟩=some (.int .i64 1023)∧w'.cell? ⟨f0,3,none⟩=some (.int .i64 11))∧(w'.cell? ⟨f0+1,0,none⟩=some (.int .i64 0)∧w'.cell? ⟨f0+1,1,none⟩=some (.bool sgx)∧w'.cell? ⟨f0+1,2,none⟩=some (.pointer (some ⟨p,0,none⟩))∧w'.cell? ⟨f0+1,3,none⟩=some (.int .i64 xpx))∧w'.cell? ⟨f0+1+1,0,none⟩=some (.int .i64 0)∧w'.cell? ⟨f0+1+1,1,none⟩=some (.bool sgy)∧w'.cell? ⟨f0+1+1,2,none⟩=some (.pointer (some ⟨q,0,none⟩))∧w'.cell? ⟨f0+1+1,3,none⟩=some (.int .i64 xpy))) 17 (.take 0 (.take 1 (.take 14 (.take 15 (.take 16 (.run 2 (.take 3 (.take 4 (.run 5 (.take 6 (.take 7 (.take 8 (.take 9 (.take 10 (.take 11 (.take 12 (.take 13 (.nil)))))))))))))))))) (by kernel_rfl) (by kernel_rfl) ?_
   replace HK:=jH (HK.out.later (aB _))
   generalize World.drew _=W12 at HK ⊢
   repeat (first|(refine tkL (v:= ?_) rfl rfl rfl (fun w' hSw=> ?_) HK.out.bC ?_;rotate_left;(focus (go_simp;with_reducible rfl));simp only [aF])|(refine skL rfl rfl rfl HK.out.bC ?_;simp only [aF]))
   refine aI rfl rfl fun K' hK=> ?_
   go_simp
   refine(HZX.out _ (HP.out.below HK.out.2)).mono ?_
   rintro e1 W12v1 ⟨rfl,hb1⟩
   replace HK:=jH (HK.out.later hb1)
   refine hK _ _ HK.out.bC ?_
   clear hK K' hb1
   try simp only [Act.put,aF]
   repeat (first|(refine tkL (v:= ?_) rfl rfl rfl (fun w' hSw=> ?_) HK.out.bC ?_;rotate_left;(focus (go_simp;with_reducible rfl));simp only [aF])|(refine skL rfl rfl rfl HK.out.bC ?_;simp only [aF]))
   refine sS rfl rfl rfl HK.out.bC ?_
   simp only [aF]
   repeat (first|(refine tkL (v:= ?_) rfl rfl rfl (fun w' hSw=> ?_) HK.out.bC ?_;rotate_left;(focus (go_simp;with_reducible rfl));simp only [aF])|(refine skL rfl rfl rfl HK.out.bC ?_;simp only [aF]))
   refine aN ?_
   simp only [drL]
   go_wp2_with fail
   refine(HZS.out _ _ _ _).mono ?_
   rintro e13 w13 ⟨ng,rfl,hb13⟩
   replace HK:=jH (HK.out.later hb13)
   clear hb13
   go_wp2
   refine bodyPost_ret (v:= .tuple #[.int .u64 (dA ng 0 0:Nat),.int .i64 0]) (by simp [results,Tryz.results138,go_sem]) rfl ⟨_,_,rfl,(iL ng).1,(iL ng).2.1,(iL ng).2.2,HK.out.2⟩
  ·cases by'
   ·go_upto_region 12 with fail
    clear k0 k1 k2 k3 c0 c1 c2 c3 g0 g1 g2 g3
    refine aC (fun w':World=>((w'.cell? ⟨f0,0,none⟩=some (.int .i64 53)∧w'.cell? ⟨f0,1,none⟩=some (.int .i64 (-1022))∧w'.cell? ⟨f0,2,none⟩=some (.int .i64 1023)∧w'.cell? ⟨f0,3,none⟩=some (.int .i64 11))∧(w'.cell? ⟨f0+1,0,none⟩=some (.int .i64 0)∧w'.cell? ⟨f0+1,1,none⟩=some (.bool sgx)∧w'.cell? ⟨f0+1,2,none⟩=some (.pointer (some ⟨p,0,none⟩))∧w'.cell? ⟨f0+1,3,none⟩=some (.int .i64 xpx))∧w'.cell? ⟨f0+1+1,0,none⟩=some (.int .i64 0)∧w'.cell? ⟨f0+1+1,1,none⟩=some (.bool sgy)∧w'.cell? ⟨f0+1+1,2,none⟩=some (.pointer (some ⟨q,0,none⟩))∧w'.cell? ⟨f0+1+1,3,none⟩=some (.int .i64 xpy))) 17 (.take 0 (.take 1 (.take 14 (.take 15 (.take 16 (.run 2 (.take 3 (.take 4 (.run 5 (.take 6 (.take 7 (.take 8 (.take 9 (.take 10 (.take 11 (.take 12 (.take 13 (.nil)))))))))))))))))) (by kernel_rfl) (by kernel_rfl) ?_
    replace HK:=jH (HK.out.later (aB _))
    generalize World.drew _=W12 at HK ⊢
    repeat (first|(refine tkL (v:= ?_) rfl rfl rfl (fun w' hSw=> ?_) HK.out.bC ?_;rotate_left;(focus (go_simp;with_reducible rfl));simp only [aF])|(refine skL rfl rfl rfl HK.out.bC ?_;simp only [aF]))
    refine aI rfl rfl fun K' hK=> ?_
    go_simp
    refine(HZX.out _ (HP.out.below HK.out.2)).mono ?_
    rintro e1 W12v1 ⟨rfl,hb1⟩
    replace HK:=jH (HK.out.later hb1)
    refine hK _ _ HK.out.bC ?_
    clear hK K' hb1
    try simp only [Act.put,aF]
    repeat (first|(refine tkL (v:= ?_) rfl rfl rfl (fun w' hSw=> ?_) HK.out.bC ?_;rotate_left;(focus (go_simp;with_reducible rfl));simp only [aF])|(refine skL rfl rfl rfl HK.out.bC ?_;simp only [aF]))
    refine aI rfl rfl fun K' hK=> ?_
    go_simp
    refine(HZY.out _ (HQ.out.below HK.out.2)).mono ?_
    rintro e1 W12v2 ⟨rfl,hb1⟩
    replace HK:=jH (HK.out.later hb1)
    refine hK _ _ HK.out.bC ?_
    clear hK K' hb1
    try simp only [Act.put,aF]
    repeat (first|(refine tkL (v:= ?_) rfl rfl rfl (fun w' hSw=> ?_) HK.out.bC ?_;rotate_left;(focus (go_simp;with_reducible rfl));simp only [aF])|(refine skL rfl rfl rfl HK.out.bC ?_;simp only [aF]))
    refine aN ?_
    simp only [drL]
    go_wp2_with fail
    refine(HZS.out _ _ _ _).mono ?_
    rintro e13 w13 ⟨ng,rfl,hb13⟩
    replace HK:=jH (HK.out.later hb13)
    clear hb13
    go_wp2
    refine bodyPost_ret (v:= .tuple #[.int .u64 (dA ng 0 0:Nat),.int .i64 0]) (by simp [results,Tryz.results138,go_sem]) rfl ⟨_,_,rfl,(iL ng).1,(iL ng).2.1,(iL ng).2.2,HK.out.2⟩
   ·go_upto_region 12 with fail
    clear k0 k1 k2 k3 c0 c1 c2 c3 g0 g1 g2 g3
    refine aC (fun w':World=>((w'.cell? ⟨f0,0,none⟩=some (.int .i64 53)∧w'.cell? ⟨f0,1,none⟩=some (.int .i64 (-1022))∧w'.cell? ⟨f0,2,none⟩=some (.int .i64 1023)∧w'.cell? ⟨f0,3,none⟩=some (.int .i64 11))∧(w'.cell? ⟨f0+1,0,none⟩=some (.int .i64 0)∧w'.cell? ⟨f0+1,1,none⟩=some (.bool sgx)∧w'.cell? ⟨f0+1,2,none⟩=some (.pointer (some ⟨p,0,none⟩))∧w'.cell? ⟨f0+1,3,none⟩=some (.int .i64 xpx))∧w'.cell? ⟨f0+1+1,0,none⟩=some (.int .i64 0)∧w'.cell? ⟨f0+1+1,1,none⟩=some (.bool sgy)∧w'.cell? ⟨f0+1+1,2,none⟩=some (.pointer (some ⟨q,0,none⟩))∧w'.cell? ⟨f0+1+1,3,none⟩=some (.int .i64 xpy))) 17 (.take 0 (.take 1 (.take 14 (.take 15 (.take 16 (.run 2 (.take 3 (.take 4 (.run 5 (.take 6 (.take 7 (.take 8 (.take 9 (.take 10 (.take 11 (.take 12 (.take 13 (.nil)))))))))))))))))) (by kernel_rfl) (by kernel_rfl) ?_
    replace HK:=jH (HK.out.later (aB _))
    generalize World.drew _=W12 at HK ⊢
    repeat (first|(refine tkL (v:= ?_) rfl rfl rfl (fun w' hSw=> ?_) HK.out.bC ?_;rotate_left;(focus (go_simp;with_reducible rfl));simp only [aF])|(refine skL rfl rfl rfl HK.out.bC ?_;simp only [aF]))
    refine aI rfl rfl fun K' hK=> ?_
    go_simp
    refine(HZX.out _ (HP.out.below HK.out.2)).mono ?_
    rintro e1 W12v1 ⟨rfl,hb1⟩
    replace HK:=jH (HK.out.later hb1)
    refine hK _ _ HK.out.bC ?_
    clear hK K' hb1
    try simp only [Act.put,aF]
    repeat (first|(refine tkL (v:= ?_) rfl rfl rfl (fun w' hSw=> ?_) HK.out.bC ?_;rotate_left;(focus (go_simp;with_reducible rfl));simp only [aF])|(refine skL rfl rfl rfl HK.out.bC ?_;simp only [aF]))
    refine aI rfl rfl fun K' hK=> ?_
    go_simp
    refine(HZY.out _ (HQ.out.below HK.out.2)).mono ?_
    rintro e1 W12v2 ⟨rfl,hb1⟩
    replace HK:=jH (HK.out.later hb1)
    refine hK _ _ HK.out.bC ?_
    clear hK K' hb1
    try simp only [Act.put,aF]
    repeat (first|(refine tkL (v:= ?_) rfl rfl rfl (fun w' hSw=> ?_) HK.out.bC ?_;rotate_left;(focus (go_simp;with_reducible rfl));simp only [aF])|(refine skL rfl rfl rfl HK.out.bC ?_;simp only [aF]))
    refine aN ?_
    simp only [drL]
    go_wp2_with fail
    refine(HZS.out _ _ _ _).mono ?_
    rintro e13 w13 ⟨ng,rfl,hb13⟩
    replace HK:=jH (HK.out.later hb13)
    clear hb13
    go_wp2
    refine bodyPost_ret (v:= .tuple #[.int .u64 (dA ng 0 0:Nat),.int .i64 0]) (by simp [results,Tryz.results138,go_sem]) rfl ⟨_,_,rfl,(iL ng).1,(iL ng).2.1,(iL ng).2.2,HK.out.2⟩
end
section
open Go.RowKit
theorem aQx {M z e y f mode:Int}(hM:1074≤M) (h1:0≤e+M) (h2:0≤f+M) (hm:mode=3∨mode=4)
  (h:∀c,W64 c→aK c=true→(vI M c≤sc M z e↔vI M c≤sc M y f)∧(sc M z e≤vI M c↔sc M y f≤vI M c)):ky (aV z e mode)=ky (aV y f mode):=by
 have key:∀(z e y f:Int),0≤e+M→0≤f+M→(∀c,W64 c→aK c=true→(vI M c≤sc M z e→vI M c≤sc M y f)∧(sc M z e≤vI M c→sc M y f≤vI M c))→ky (aV z e 4)≤ky (aV y f 4)∧ky (aV y f 3)≤ky (aV z e 3):=by
  intro z e y f h1 h2 h
  have a1:=kC z e
  have u1:=iH z e
  obtain⟨l4,n4⟩:=bU z e 4
  obtain⟨l3,n3⟩:=bU z e 3
  obtain⟨m4,p4⟩:=bU y f 4
  obtain⟨m3,p3⟩:=bU y f 3
  have b1:=kQ l3 n3
  have b2:=kQ l4 n4
  have b3:=kQ m3 p3
  have b4:=kQ m4 p4
  constructor
  ·by_cases hi:ky (aV z e 4)= -(aG:Int)
   ·omega
   have hf:aK (aV z e 4)=true:=(gW l4 n4).2 ⟨by omega,by omega⟩
   exact vN 4 hM h2 l4 hf ((h _ l4 hf).1 (nN hM h1 hf))
  ·by_cases hi:ky (aV z e 3)=(aG:Int)
   ·omega
   have hf:aK (aV z e 3)=true:=(gW l3 n3).2 ⟨u1,by omega⟩
   exact vO 3 hM h2 l3 hf ((h _ l3 hf).2 (sG hM h1 hf))
 obtain⟨p1,p2⟩:=key z e y f h1 h2 (fun c hc fc=>⟨(h c hc fc).1.1,(h c hc fc).2.1⟩)
 obtain⟨q1,q2⟩:=key y f z e h2 h1 (fun c hc fc=>⟨(h c hc fc).1.2,(h c hc fc).2.2⟩)
 rcases hm with rfl|rfl<;>omega
theorem zC {x:Nat}(f:aK x=true):bJ x=aS x∧bT x=aW x:=by unfold bJ bT;rw [f];exact⟨rfl,rfl⟩
theorem aC6 {x:Nat}(hx:W64 x) (f:aK x=true) (h:ky x≠0):bJ x≠0:=by rw [(zC f).1];exact(rW hx f h).2
theorem aUc (s t:Bool) (A B:Nat):sgI (s !=t) (A*B)=sgI s A*sgI t B:=by
 cases s<;>cases t<;>simp [sgI,Int.neg_mul,Int.mul_neg]
theorem aF6 (neg:Bool) (N:Nat) (E M:Int):sc M (sgI neg N) E=sgI neg (N*2^(E+M).toNat):=by
 unfold sc sgI
 cases neg<;>simp [Int.neg_mul]
theorem aA9 (s t:Bool):(s !=t)=(s^^t):=by cases s<;>cases t<;>rfl
theorem aJe {x y:Nat}(hx:W64 x) (hy:W64 y) (fx:aK x=true) (fy:aK y=true) (x0:ky x≠0) (y0:ky y≠0) (mode:Int):
  ∃N m,bJ x*bJ y=N∧bT x+bT y=m∧N≠0∧bl N≤1048576∧-100000≤m∧m≤100000∧ky (aV (sgI (aQ x !=aQ y) N) m mode)=mlK x y mode:=by
 have ex:=nG fx
 have ey:=nG fy
 have cx:=nH x
 have cy:=nH y
 have hb:=aKm (bJ x) (bJ y)
 have hx0:bJ x≠0:=aC6 hx fx x0
 have hy0:bJ y≠0:=aC6 hy fy y0
 have px:=gV fx
 have py:=gV fy
 refine⟨_,_,rfl,rfl,Nat.mul_ne_zero hx0 hy0,by omega,by omega,by omega,?_⟩
 refine aE5 (M:=1074+1074) mode (by decide) (by omega) (by omega) ?_
 rw [aUc,aAd (by omega) (by omega),aAd (by omega) (by omega),aBe fx (Int.le_refl _),aBe fy (Int.le_refl _)]
theorem aIy {x y c t:Nat}{M:Int}(hx:x<18446744073709551616) (hy:y<18446744073709551616) (hc:c<18446744073709551616) (fx:aK x=true) (fy:aK y=true) (fc:aK c=true)
  (y0:aO y≠0) (hl:2^53≤(aS x<<<t)/aS y) (hM:1074≤M) (h1:0≤aW x-aW y-(t:Int)-1+M):
  ((fI c).natAbs*(fI y).natAbs≤(fI x).natAbs*2^1074↔(vI M c).natAbs≤stN (aS x<<<t) (aS y)*2^(aW x-aW y-(t:Int)-1+M).toNat)∧
  ((fI x).natAbs*2^1074≤(fI c).natAbs*(fI y).natAbs↔stN (aS x<<<t) (aS y)*2^(aW x-aW y-(t:Int)-1+M).toNat≤(vI M c).natAbs):=by
 have my:aS y≠0:=fun h=>y0 (dZ.2 h)
 have ha:=dI fx
 have hb:=dI fy
 have hcc:=dI fc
 have ex:(fI x).natAbs=aS x*2^(aW x+1074).toNat:=by rw [gQ hx fx];split<;>omega
 have ey:(fI y).natAbs=aS y*2^(aW y+1074).toNat:=by rw [gQ hy fy];split<;>omega
 have ec:(fI c).natAbs=aS c*2^(aW c+1074).toNat:=by rw [gQ hc fc];split<;>omega
 have ecM:(vI M c).natAbs=(fI c).natAbs*2^(M-1074).toNat:=by rw [pY hc fc hM,Int.natAbs_mul,bZ]
 have hst:=sticky (k:=aS c) (s:=(aW c+1074).toNat+(aW y+1074).toNat+t) (u:=(aW x+1074).toNat+1074) (D:=aS x<<<t) (n:=aS y) (by rw [rH];exact Nat.le_of_lt (fP c)) (by omega) hl
 rw [ecM,ec,ex,ey]
 generalize hN:stN (aS x<<<t) (aS y)=N at*
 rw [Nat.shiftLeft_eq]at hst
 generalize aS x=m at*
 generalize aS y=n at*
 generalize aS c=k at*
 obtain⟨a,ea⟩:∃a:Nat,(aW x+1074).toNat=a:=⟨_,rfl⟩
 obtain⟨b,eb⟩:∃b:Nat,(aW y+1074).toNat=b:=⟨_,rfl⟩
 obtain⟨l,el⟩:∃l:Nat,(aW c+1074).toNat=l:=⟨_,rfl⟩
 obtain⟨g,eg⟩:∃g:Nat,(M-1074).toNat=g:=⟨_,rfl⟩
 obtain⟨v,ev⟩:∃v:Nat,(aW x-aW y-(t:Int)-1+M).toNat=v:=⟨_,rfl⟩
 have hv:v+b+t+1=a+1074+g:=by omega
 rw [ea,eb,el]at hst
 rw [ea,eb,el,eg,ev]
 have p1:k*2^l*(n*2^b)*2^t=k*2^(l+b+t)*n:=by
  rw [Nat.pow_add,Nat.pow_add];simp only [Nat.mul_assoc,Nat.mul_comm,Nat.mul_left_comm]
 have p2:m*2^a*2^1074*2^t=m*2^t*2^(a+1074):=by
  rw [Nat.pow_add];generalize 2^1074=G;simp only [Nat.mul_assoc,Nat.mul_comm,Nat.mul_left_comm]
 have p3:k*2^l*2^g*2^(b+t+1)=2*(k*2^(l+b+t))*2^g:=by
  rw [Nat.pow_add,Nat.pow_add,Nat.pow_add,Nat.pow_add,Nat.pow_one];simp only [Nat.mul_assoc,Nat.mul_comm,Nat.mul_left_comm]
 have p4:N*2^v*2^(b+t+1)=N*2^(a+1074)*2^g:=by
  rw [Nat.mul_assoc,←Nat.pow_add,Nat.mul_assoc,←Nat.pow_add];congr 2;omega
 generalize (2:Nat)^1074=G at*
 obtain⟨g1,g2⟩:=hst
 constructor
 ·rw [←Nat.mul_le_mul_right_iff (n:=k*2^l*(n*2^b)) (Nat.two_pow_pos t),p1,p2,g1,←Nat.mul_le_mul_right_iff (n:=k*2^l*2^g) (Nat.two_pow_pos (b+t+1)),p3,p4,Nat.mul_le_mul_right_iff (Nat.two_pow_pos g)]
 ·rw [←Nat.mul_le_mul_right_iff (n:=m*2^a*G) (Nat.two_pow_pos t),p1,p2,g2,←Nat.mul_le_mul_right_iff (n:=N*2^v) (Nat.two_pow_pos (b+t+1)),p3,p4,Nat.mul_le_mul_right_iff (Nat.two_pow_pos g)]
theorem aNo {C:Int}{V W:Nat}(neg:Bool) (h1:C.natAbs≤V↔C.natAbs≤W) (h2:V≤C.natAbs↔W≤C.natAbs):
  (C≤sgI neg V↔C≤sgI neg W)∧(sgI neg V≤C↔sgI neg W≤C):=by
 unfold sgI
 cases neg
 ·rw [if_neg (by decide),if_neg (by decide)];omega
 ·rw [if_pos rfl,if_pos rfl];omega
theorem aHa {neg:Bool}{N:Nat}{e mode:Int}(more:Bool):ky (pX neg N e more mode)=ky (aV (sgI neg (2*N+more.toNat)) (e-1) mode):=by
 unfold pX
 cases more
 ·rw [if_neg (by decide)]
  refine aE5 (M:=1+e.natAbs) mode (by omega) (by omega) (by omega) ?_
  rw [aF6,aF6]
  congr 1
  rw [show(e+(1+(e.natAbs:Int))).toNat=(e-1+(1+(e.natAbs:Int))).toNat+1 by omega,Nat.pow_succ,show(false:Bool).toNat=0 from rfl,Nat.add_zero]
  generalize 2^_=G
  rw [Nat.mul_comm G 2,←Nat.mul_assoc,Nat.mul_comm N 2]
 ·rw [if_pos rfl];rfl
theorem aM0 {x y:Nat}(hx:W64 x) (hy:W64 y) (fx:aK x=true) (fy:aK y=true) (x0:ky x≠0) (y0:ky y≠0) {mode:Int}(hm:mode=3∨mode=4):
  ∃N m D,bJ x*2^140=D∧D/bJ y=N∧bT x-bT y-140=m∧bJ y≠0∧N≠0∧bl D≤200∧bl N≤1048576∧-100000≤m∧m≤100000∧m<dS N m∧ky (pX (aQ x !=aQ y) N m (!decide (D%bJ y=0)) mode)=dvK x y mode:=by
 have ex:=nG fx
 have ey:=nG fy
 have cx:=nH x
 have cy:=nH y
 have hx0:bJ x≠0:=aC6 hx fx x0
 have hy0:bJ y≠0:=aC6 hy fy y0
 have vx0:aO x≠0:=(rW hx fx x0).1
 have vy0:aO y≠0:=(rW hy fy y0).1
 have hbD:=fG (bJ x) 140
 have hlow:2^87≤bJ x*2^140/bJ y:=by
  rw [Nat.le_div_iff_mul_le (by omega),show 140=87+53 from rfl,Nat.pow_add]
  have:=dD.1 cy
  have h3:2^87*bJ y≤2^87*2^53:=Nat.mul_le_mul_left _ (by omega)
  exact Nat.le_trans h3 (Nat.le_mul_of_pos_left _ (Nat.pos_of_ne_zero hx0))
 have hbl:88≤bl (bJ x*2^140/bJ y):=by
  rcases Nat.lt_or_ge (bl (bJ x*2^140/bJ y)) 88 with h|h
  ·have:=dD.1 (show bl (bJ x*2^140/bJ y)≤87 by omega);omega
  ·exact h
 have hup:bl (bJ x*2^140/bJ y)≤bl (bJ x*2^140):=lG (Nat.div_le_self _ _)
 refine⟨_,_,_,rfl,rfl,rfl,hy0,?_,by omega,by omega,by omega,by omega,by unfold dS;omega,?_⟩
 ·have:0<2^87:=by decide
  omega
 rw [aHa]
 obtain⟨M,hM,m1,m2⟩:∃M:Int,1074≤M∧0≤qE x y+M∧0≤bT x-bT y-140-1+M:=⟨1074+(qE x y).natAbs+(bT x-bT y-140-1).natAbs,by omega,by omega,by omega⟩
 refine aQx hM m2 m1 hm fun c hc fc=> ?_
 have q1:=aCc (M:=M) hx hy hc fx fy fc vx0 vy0 hM m1
 rw [(zC fx).1,(zC fy).1]at hlow ⊢
 rw [(zC fx).2,(zC fy).2]at m2 ⊢
 have q2:=aIy (M:=M) (t:=140) hx hy hc fx fy fc vy0 (by rw [Nat.shiftLeft_eq];exact Nat.le_trans (Nat.pow_le_pow_right (by decide) (by decide)) hlow) hM m2
 have e1:(sc M (qZ x y) (qE x y))=sgI (aQ x !=aQ y) (qN x y*2^(qE x y+M).toNat):=by
  rw [←aF6,aA9];rfl
 have e2:(sc M (qZ x y) (qE x y)).natAbs=qN x y*2^(qE x y+M).toNat:=by rw [e1,wC]
 have e3:2*(aS x*2^140/aS y)+(!decide (aS x*2^140%aS y=0)).toNat=stN (aS x<<<140) (aS y):=by
  unfold stN
  rw [Nat.shiftLeft_eq,aHx]
  by_cases h:aS x*2^140%aS y=0
  ·rw [if_pos h,decide_eq_true h];rfl
  ·rw [if_neg h,decide_eq_false h];rfl
 rw [e2]at q1
 rw [e1,e3,aF6]
 exact aNo _ (q2.1.symm.trans q1.1) (q2.2.symm.trans q1.2)
end
section
set_option maxRecDepth 100000
set_option maxHeartbeats 6400000
open Go.RowKit
theorem Bks.aWf {w0 W:World}{l:List (Nat×Nat×Array Value)}{p q r:Nat×Nat×Array Value}(h:Bks w0 W (p::q::r::l)):Bks w0 W (r::p::q::l):=h.sub fun t m=>by
 rcases List.mem_cons.1 m with rfl|m
 ·exact .tail _ (.tail _ (.head _))
 rcases List.mem_cons.1 m with rfl|m
 ·exact .head _
 rcases List.mem_cons.1 m with rfl|m
 ·exact .tail _ (.head _)
 ·exact .tail _ (.tail _ (.tail _ m))
theorem aIv (neg:Bool) (p:Nat) (e:Int) (w:World):Calls Tryz.prog 166 #[iJ 1 neg p e] w (Gives (.bool false) w):=by
 have HK:=jH ((Bks.nil w).alloc #[.int .i64 1,.bool neg,.pointer (some ⟨p,0,none⟩),.int .i64 e] 151)
 unfold iJ
 go_enter Tryz.func166,Tryz.ntmps166
 obtain⟨⟨c0,c1,c2,c3⟩,-⟩:=(HK.out.get (.head _)).cells4
 go_wp2
 go_ret
 exact⟨rfl,HK.out.2⟩
theorem aBd {x p:Nat}(w:World) (hx:W64 x) (x0:ky x≠0) (hp:fU w p (bJ x:Nat)):Calls Tryz.prog 166 #[iJ (dM x) (aQ x) p (bT x)] w (Gives (.bool false) w):=by
 cases fx:aK x
 ·rw [show dM x=1 by unfold dM;rw [fx];rfl]
  exact aIv _ _ _ _
 ·rw [nU fx]
  have:=qO (aQ x) p (bJ x) (bT x) w hp
  rwa [decide_eq_false (aC6 hx fx x0)]at this
theorem aKa (na nb:Bool) (p q A B:Nat) (ea eb:Int) (w:World) (hp:fU w p (A:Int)) (hq:fU w q (B:Int)) (he: -4611686018427387904≤ea+eb∧ea+eb≤4611686018427387904) (hA:ln 32 A≤68719476736) (hB:ln 32 B≤68719476736):
  Calls Tryz.prog 172 #[iJ 0 na p ea,iJ 0 nb q eb] w (pI 0 (na !=nb) ((A*B:Nat):Int) (ea+eb) w):=by
 have HP:=jH hp
 have HQ:=jH hq
 have hw:IntKind.i64.wrap (ea+eb)=ea+eb:=IntWalk.i64_in _ (by omega)
 have HML:=jH fun b W h1 h2 h3=>aPp b 0 p 0 q 0 (A:Int) (B:Int) W h1 h2 h3 (by rw [Int.natAbs_natCast];exact hA) (by rw [Int.natAbs_natCast];exact hB)
 rw [←Int.natCast_mul]at HML
 generalize A*B=C at*
 have HK:=jH (Bks.aWf (Bks.aH6 w 151 151 151 #[.int .i64 0,.bool na,.pointer (some ⟨p,0,none⟩),.int .i64 ea] #[.int .i64 0,.bool nb,.pointer (some ⟨q,0,none⟩),.int .i64 eb] #[.int .i64 0,.bool false,.pointer none,.int .i64 0]))
 obtain⟨f0,hf0⟩:∃f,w.heap.size=f:=⟨_,rfl⟩
 rw [hf0]at HK
 unfold iJ pI at*
 obtain⟨m,hm⟩:∃m,ea+eb=m:=⟨_,rfl⟩
 replace hw:=hw.trans hm
 rw [hm]
 obtain⟨ng,hng⟩:∃s,(!(na==nb))=s:=⟨_,rfl⟩
 rw [show(na !=nb)=ng from hng]
 clear hp hq he hA hB hm
 go_enter Tryz.func172,Tryz.ntmps172
 obtain⟨⟨c0,c1,c2,c3⟩,g0,g1,g2,g3⟩:=HK.out.ab4
 go_upto_region 1 with fail
 clear c0 c1 c2 c3 g0 g1 g2 g3
 replace HP:=jH (HP.out.below HK.out.2)
 replace HQ:=jH (HQ.out.below HK.out.2)
 generalize World.alloc (World.alloc (World.alloc w _) _) _=W0 at HK HP HQ ⊢
 refine aC (fun w':World=>(w'.cell? ⟨f0,0,none⟩=some (.int .i64 0)∧w'.cell? ⟨f0,1,none⟩=some (.bool na)∧w'.cell? ⟨f0,2,none⟩=some (.pointer (some ⟨p,0,none⟩))∧w'.cell? ⟨f0,3,none⟩=some (.int .i64 ea))∧w'.cell? ⟨f0+1,0,none⟩=some (.int .i64 0)∧w'.cell? ⟨f0+1,1,none⟩=some (.bool nb)∧w'.cell? ⟨f0+1,2,none⟩=some (.pointer (some ⟨q,0,none⟩))∧w'.cell? ⟨f0+1,3,none⟩=some (.int .i64 eb)) 17 (.take 0 (.take 1 (.take 2 (.take 3 (.take 4 (.take 6 (.take 7 (.take 8 (.take 9 (.take 11 (.take 12 (.take 13 (.take 14 (.take 15 (.run 5 (.run 10 (.take 16 (.nil)))))))))))))))))) (by kernel_rfl) (by kernel_rfl) ?_
 replace HK:=jH (HK.out.later (aB _))
 replace HP:=jH (HP.out.below (aB _))
 replace HQ:=jH (HQ.out.below (aB _))
 generalize World.drew _=W1 at HK HP HQ ⊢
 repeat (refine tkL (v:= ?_) rfl rfl rfl (fun w' hSw=> ?_) HK.out.ab4 ?_;rotate_left;(focus (go_simp;with_reducible rfl));simp only [aF])
 refine aI rfl rfl fun K' hK=> ?_
 go_simp
 have hb1:=Below.aA W1 (.cells #[.bool false,.slice none 0 0] 175)
 have H5:=jH (dB.zero (k:= .u32) (s:=32) W1 _ iZ)
 have HL5:Hid (f0+1+1<W1.heap.size):=jH (HK.out.lt _ (.head _))
 replace HK:=jH (HK.out.later hb1)
 replace HP:=jH (HP.out.below hb1)
 replace HQ:=jH (HQ.out.below hb1)
 clear hb1
 generalize World.alloc W1 _=W1v1 at*
 generalize W1.heap.size=r5 at*
 refine hK _ _ HK.out.ab4 ?_
 clear hK K'
 try simp only [Act.put,aF]
 repeat (refine tkL (v:= ?_) rfl rfl rfl (fun w' hSw=> ?_) HK.out.ab4 ?_;rotate_left;(focus (go_simp;with_reducible rfl));simp only [aF])
 refine aI rfl rfl fun K' hK=> ?_
 go_simp
 refine(HML.out r5 _ H5.out.1 HP.out HQ.out).mono ?_
 rintro e1 W1v2 ⟨rfl,hi1,hm1⟩
 replace H5:=jH hi1
 replace HK:=jH (HK.out.mod hm1 (fun t m=>by have:=HL5.out;simp only [List.mem_cons,List.not_mem_nil,or_false]at m;rcases m with rfl|rfl|rfl<;>simp<;>omega) (by have:=HL5.out;omega))
 clear hi1 hm1
 refine hK _ _ HK.out.ab4 ?_
 clear hK K'
 try simp only [Act.put,aF]
 repeat (refine tkL (v:= ?_) rfl rfl rfl (fun w' hSw=> ?_) HK.out.ab4 ?_;rotate_left;(focus (go_simp;with_reducible rfl));simp only [aF])
 refine aN ?_
 simp only [drL]
 obtain⟨⟨d0,d1,d2,d3⟩,d4,d5,d6,d7⟩:=(HK.out.get (.head _)).cells4
 go_wp2
 refine bodyPost_ret (v:= .agg #[.int .i64 0,.bool ng,.pointer (some ⟨r5,0,none⟩),.int .i64 m]) (by simp [results,Tryz.results172,go_sem,d0,d1,d2,d3]) rfl ⟨r5,rfl,by have:=HL5.out;omega,fU.rY H5.out (HK.out.get (.head _)) (Nat.ne_of_gt HL5.out) _ _ _ _,(HK.out.rY (by omega) (fun t m=>by simp only [List.mem_cons,List.not_mem_nil,or_false]at m;rcases m with rfl|rfl<;>simp<;>omega) (.int .i64 0) (.bool ng) (.pointer (some ⟨r5,0,none⟩)) (.int .i64 m)).2⟩
theorem Bks.aFb {w0 W:World}{l:List (Nat×Nat×Array Value)}{c x s t:Nat}{a b d e f g h i:Value}(hh:Bks w0 W ((c,s,#[f,g,h,i])::(x,t,#[a,b,d,e])::l)):
  (W.cell? ⟨c,0,none⟩=some f∧W.cell? ⟨c,1,none⟩=some g∧W.cell? ⟨c,2,none⟩=some h∧W.cell? ⟨c,3,none⟩=some i)∧(W.cell? ⟨x,0,none⟩=some a∧W.cell? ⟨x,1,none⟩=some b∧W.cell? ⟨x,2,none⟩=some d∧W.cell? ⟨x,3,none⟩=some e):=
 ⟨(hh.get (.head _)).cells4.1,(hh.get (.tail _ (.head _))).cells4.1⟩
theorem aM4 (neg:Bool) (p N:Nat) (e mode:Int) (w:World) (hp:fU w p (N:Int)) (h0:N≠0) (hl:bl N≤1048576) (he1: -100000≤e) (he2:e≤100000) (hm:mode=0∨mode=3∨mode=4):
  Calls Tryz.prog 171 #[iK,iJ 0 neg p e,.int .i64 mode] w (aDo (ky (aV (sgI neg N) e mode)) w):=by
 have HP:=jH hp
 have HZ:=jH fun W h=>qO neg p N e W h
 rw [decide_eq_false h0]at HZ
 have HRD:=jH fun W h=>xE neg p N e false mode W h h0 hl he1 he2 (fun t=>by cases t) hm
 rw [show pX neg N e false mode=aV (sgI neg N) e mode from if_neg (by decide)]at HRD
 obtain⟨KK,hKK⟩:∃k,ky (aV (sgI neg N) e mode)=k:=⟨_,rfl⟩
 rw [hKK]
 have HJ:Hid (W64 (aV (sgI neg N) e mode)∧aU (aV (sgI neg N) e mode)=false∧ky (aV (sgI neg N) e mode)=KK):=jH ⟨(bU _ e mode).1,dF.2 (bU _ e mode).2,hKK⟩
 clear hKK
 generalize aV (sgI neg N) e mode=R at*
 have HK:=jH (Bks.aVo w 144 151 #[.int .i64 53,.int .i64 (-1022),.int .i64 1023,.int .i64 11] #[.int .i64 0,.bool neg,.pointer (some ⟨p,0,none⟩),.int .i64 e])
 unfold iJ iK at*
 clear hp h0 hl he1 he2 hm
 go_enter Tryz.func171,Tryz.ntmps171
 obtain⟨⟨k0,k1,k2,k3⟩,c0,c1,c2,c3⟩:=HK.out.aFb
 go_wp2_with fail
 refine(HZ.out _ (HP.out.below HK.out.2)).mono ?_
 rintro e1 w1 ⟨rfl,hb1⟩
 replace HK:=jH (HK.out.later hb1)
 clear hb1
 clear k0 k1 k2 k3 c0 c1 c2 c3
 obtain⟨⟨k0,k1,k2,k3⟩,c0,c1,c2,c3⟩:=HK.out.aFb
 go_wp2_with fail
 refine(HRD.out _ (HP.out.below HK.out.2)).mono ?_
 rintro e2 w2 ⟨fl,rfl,hb2⟩
 replace HK:=jH (HK.out.later hb2)
 clear hb2
 clear k0 k1 k2 k3 c0 c1 c2 c3
 obtain⟨⟨k0,k1,k2,k3⟩,c0,c1,c2,c3⟩:=HK.out.aFb
 go_wp2
 refine bodyPost_ret (v:= .tuple #[.int .u64 (R:Nat),.int .i64 fl]) (by simp [results,Tryz.results171,go_sem]) rfl ⟨_,_,rfl,HJ.out.1,HJ.out.2.1,HJ.out.2.2,HK.out.2⟩
theorem aR1 (x y p q:Nat) (mode:Int) (w:World) (hx:W64 x) (hy:W64 y) (x0:ky x≠0) (y0:ky y≠0) (hmode:mode=3∨mode=4) (hp:fU w p (bJ x:Nat)) (hq:fU w q (bJ y:Nat)):
  Calls Tryz.prog 141 #[iK,iJ (dM x) (aQ x) p (bT x),iJ (dM y) (aQ y) q (bT y),.int .i64 mode] w (aDo (prK x y mode) w):=by
 have HP:=jH hp
 have HQ:=jH hq
 have HK:=jH (Bks.aH6 w 144 151 151 #[.int .i64 53,.int .i64 (-1022),.int .i64 1023,.int .i64 11] #[.int .i64 (dM x),.bool (aQ x),.pointer (some ⟨p,0,none⟩),.int .i64 (bT x)] #[.int .i64 (dM y),.bool (aQ y),.pointer (some ⟨q,0,none⟩),.int .i64 (bT y)])
 have HZX:=jH fun W h=>aBd (x:=x) (p:=p) W hx x0 h
 have HZY:=jH fun W h=>aBd (x:=y) (p:=q) W hy y0 h
 obtain⟨ng,hng⟩:∃s,(!(aQ x==aQ y))=s:=⟨_,rfl⟩
 have hng2:(aQ x !=aQ y)=ng:=hng
 obtain⟨f0,hf0⟩:∃f,w.heap.size=f:=⟨_,rfl⟩
 rw [hf0]at HK
 unfold prK
 rw [if_neg (fun h=>h.elim x0 y0)]
 cases fx:aK x
 ·rw [if_pos (.inl rfl)]
  have HI:=jH fun W=>iD ng W
  have HJ:=jH (uH ng)
  rw [show(if ng=true then-(aG:Int)else(aG:Int))=sgK x y by rw [←hng2,aA9];exact yE hx hy x0 y0]at HJ
  generalize sgK x y=KK at*
  generalize dA ng 2047 0=JJ at*
  rw [show dM x=1 by unfold dM;rw [fx];rfl]at HK HZX ⊢
  cases fy:aK y
  ·rw [show dM y=1 by unfold dM;rw [fy];rfl]at HK HZY ⊢
   clear hng2 hp hq hx hy x0 y0 hmode fx fy
   generalize aQ x=sgx at*
   generalize bJ x=mtx at*
   generalize bT x=xpx at*
   generalize aQ y=sgy at*
   generalize bJ y=mty at*
   generalize bT y=xpy at*
   unfold iJ iK at*
   go_enter Tryz.func141,Tryz.ntmps141
   obtain⟨⟨k0,k1,k2,k3⟩,⟨c0,c1,c2,c3⟩,g0,g1,g2,g3⟩:=HK.out.bC
   go_wp2_with fail
   refine(HZY.out _ (HQ.out.below HK.out.2)).mono ?_
   rintro e1 w1 ⟨rfl,hb1⟩
   replace HK:=jH (HK.out.later hb1)
   clear hb1
   clear k0 k1 k2 k3 c0 c1 c2 c3 g0 g1 g2 g3
   obtain⟨⟨k0,k1,k2,k3⟩,⟨c0,c1,c2,c3⟩,g0,g1,g2,g3⟩:=HK.out.bC
   go_wp2_with fail
   refine(HZX.out _ (HP.out.below HK.out.2)).mono ?_
   rintro e2 w2 ⟨rfl,hb2⟩
   replace HK:=jH (HK.out.later hb2)
   clear hb2
   clear k0 k1 k2 k3 c0 c1 c2 c3 g0 g1 g2 g3
   obtain⟨⟨k0,k1,k2,k3⟩,⟨c0,c1,c2,c3⟩,g0,g1,g2,g3⟩:=HK.out.bC
   go_wp2_with fail
   refine(HI.out _).mono ?_
   rintro e3 w3 ⟨rfl,hb3⟩
   replace HK:=jH (HK.out.later hb3)
   clear hb3
   clear k0 k1 k2 k3 c0 c1 c2 c3 g0 g1 g2 g3
   obtain⟨⟨k0,k1,k2,k3⟩,⟨c0,c1,c2,c3⟩,g0,g1,g2,g3⟩:=HK.out.bC
   go_wp2
   refine bodyPost_ret (v:= .tuple #[.int .u64 (JJ:Nat),.int .i64 0]) (by simp [results,Tryz.results141,go_sem]) rfl ⟨_,_,rfl,HJ.out.1,HJ.out.2.1,HJ.out.2.2,HK.out.2⟩
  ·rw [show dM y=0 by exact nU fy]at HK HZY ⊢
   clear hng2 hp hq hx hy x0 y0 hmode fx fy
   generalize aQ x=sgx at*
   generalize bJ x=mtx at*
   generalize bT x=xpx at*
   generalize aQ y=sgy at*
   generalize bJ y=mty at*
   generalize bT y=xpy at*
   unfold iJ iK at*
   go_enter Tryz.func141,Tryz.ntmps141
   obtain⟨⟨k0,k1,k2,k3⟩,⟨c0,c1,c2,c3⟩,g0,g1,g2,g3⟩:=HK.out.bC
   go_wp2_with fail
   refine(HZY.out _ (HQ.out.below HK.out.2)).mono ?_
   rintro e1 w1 ⟨rfl,hb1⟩
   replace HK:=jH (HK.out.later hb1)
   clear hb1
   clear k0 k1 k2 k3 c0 c1 c2 c3 g0 g1 g2 g3
   obtain⟨⟨k0,k1,k2,k3⟩,⟨c0,c1,c2,c3⟩,g0,g1,g2,g3⟩:=HK.out.bC
   go_wp2_with fail
   refine(HI.out _).mono ?_
   rintro e2 w2 ⟨rfl,hb2⟩
   replace HK:=jH (HK.out.later hb2)
   clear hb2
   clear k0 k1 k2 k3 c0 c1 c2 c3 g0 g1 g2 g3
   obtain⟨⟨k0,k1,k2,k3⟩,⟨c0,c1,c2,c3⟩,g0,g1,g2,g3⟩:=HK.out.bC
   go_wp2
   refine bodyPost_ret (v:= .tuple #[.int .u64 (JJ:Nat),.int .i64 0]) (by simp [results,Tryz.results141,go_sem]) rfl ⟨_,_,rfl,HJ.out.1,HJ.out.2.1,HJ.out.2.2,HK.out.2⟩
 rw [show dM x=0 by exact nU fx]at HK HZX ⊢
 cases fy:aK y
 ·rw [if_pos (.inr rfl)]
  have HI:=jH fun W=>iD ng W
  have HJ:=jH (uH ng)
  rw [show(if ng=true then-(aG:Int)else(aG:Int))=sgK x y by rw [←hng2,aA9];exact yE hx hy x0 y0]at HJ
  generalize sgK x y=KK at*
  generalize dA ng 2047 0=JJ at*
  rw [show dM y=1 by unfold dM;rw [fy];rfl]at HK HZY ⊢
  clear hng2 hp hq hx hy x0 y0 hmode fx fy
  generalize aQ x=sgx at*
  generalize bJ x=mtx at*
  generalize bT x=xpx at*
  generalize aQ y=sgy at*
  generalize bJ y=mty at*
  generalize bT y=xpy at*
  unfold iJ iK at*
  go_enter Tryz.func141,Tryz.ntmps141
  obtain⟨⟨k0,k1,k2,k3⟩,⟨c0,c1,c2,c3⟩,g0,g1,g2,g3⟩:=HK.out.bC
  go_wp2_with fail
  refine(HZX.out _ (HP.out.below HK.out.2)).mono ?_
  rintro e1 w1 ⟨rfl,hb1⟩
  replace HK:=jH (HK.out.later hb1)
  clear hb1
  clear k0 k1 k2 k3 c0 c1 c2 c3 g0 g1 g2 g3
  obtain⟨⟨k0,k1,k2,k3⟩,⟨c0,c1,c2,c3⟩,g0,g1,g2,g3⟩:=HK.out.bC
  go_wp2_with fail
  refine(HI.out _).mono ?_
  rintro e2 w2 ⟨rfl,hb2⟩
  replace HK:=jH (HK.out.later hb2)
  clear hb2
  clear k0 k1 k2 k3 c0 c1 c2 c3 g0 g1 g2 g3
  obtain⟨⟨k0,k1,k2,k3⟩,⟨c0,c1,c2,c3⟩,g0,g1,g2,g3⟩:=HK.out.bC
  go_wp2
  refine bodyPost_ret (v:= .tuple #[.int .u64 (JJ:Nat),.int .i64 0]) (by simp [results,Tryz.results141,go_sem]) rfl ⟨_,_,rfl,HJ.out.1,HJ.out.2.1,HJ.out.2.2,HK.out.2⟩
 rw [if_neg (by simp)]
 rw [show dM y=0 by exact nU fy]at HK HZY ⊢
 obtain⟨N,m,hN,hm,n0,l1,l2,l3,hkk⟩:=aJe hx hy fx fy x0 y0 mode
 rw [hng2]at hkk
 have ex:=nG fx
 have ey:=nG fy
 have cx:=nH x
 have cy:=nH y
 have hlA:=Nat.le_trans (dV 32 (bJ x) (by decide)) cx
 have hlB:=Nat.le_trans (dV 32 (bJ y) (by decide)) cy
 have HTM:=jH fun W h1 h2=>aKa (aQ x) (aQ y) p q (bJ x) (bJ y) (bT x) (bT y) W h1 h2 (by omega) (by omega) (by omega)
 rw [hN,hm,hng2]at HTM
 have HSM:=jH fun r W h=>aM4 ng r N m mode W h n0 l1 l2 l3 (by omega)
 rw [hkk]at HSM
 generalize mlK x y mode=KK at*
 clear hkk hN hm n0 l1 l2 l3 ex ey cx cy hlA hlB
 clear hng2 hp hq hx hy x0 y0 hmode fx fy
 generalize aQ x=sgx at*
 generalize bJ x=mtx at*
 generalize bT x=xpx at*
 generalize aQ y=sgy at*
 generalize bJ y=mty at*
 generalize bT y=xpy at*
 unfold pI at*
 unfold iJ iK at*
 go_enter Tryz.func141,Tryz.ntmps141
 obtain⟨⟨k0,k1,k2,k3⟩,⟨c0,c1,c2,c3⟩,g0,g1,g2,g3⟩:=HK.out.bC
 go_upto_region 8 with fail
 clear k0 k1 k2 k3 c0 c1 c2 c3 g0 g1 g2 g3
 replace HP:=jH (HP.out.below HK.out.2)
 replace HQ:=jH (HQ.out.below HK.out.2)
 refine aC (fun w':World=>(w'.cell? ⟨f0,0,none⟩=some (.int .i64 53)∧w'.cell? ⟨f0,1,none⟩=some (.int .i64 (-1022))∧w'.cell? ⟨f0,2,none⟩=some (.int .i64 1023)∧w'.cell? ⟨f0,3,none⟩=some (.int .i64 11))∧(w'.cell? ⟨f0+1,0,none⟩=some (.int .i64 0)∧w'.cell? ⟨f0+1,1,none⟩=some (.bool sgx)∧w'.cell? ⟨f0+1,2,none⟩=some (.pointer (some ⟨p,0,none⟩))∧w'.cell? ⟨f0+1,3,none⟩=some (.int .i64 xpx))∧w'.cell? ⟨f0+1+1,0,none⟩=some (.int .i64 0)∧w'.cell? ⟨f0+1+1,1,none⟩=some (.bool sgy)∧w'.cell? ⟨f0+1+1,2,none⟩=some (.pointer (some ⟨q,0,none⟩))∧w'.cell? ⟨f0+1+1,3,none⟩=some (.int .i64 xpy)) 8 (.take 0 (.take 1 (.take 2 (.take 4 (.run 3 (.run 5 (.take 6 (.take 7 (.nil))))))))) (by kernel_rfl) (by kernel_rfl) ?_
 replace HK:=jH (HK.out.later (aB _))
 replace HP:=jH (HP.out.below (aB _))
 replace HQ:=jH (HQ.out.below (aB _))
 generalize World.drew _=W8 at HK HP HQ ⊢
 repeat (refine tkL (v:= ?_) rfl rfl rfl (fun w' hSw=> ?_) HK.out.bC ?_;rotate_left;(focus (go_simp;with_reducible rfl));simp only [aF])
 refine aI rfl rfl fun K' hK=> ?_
 go_simp
 refine(HTM.out _ HP.out HQ.out).mono ?_
 rintro e1 W8v1 ⟨r,rfl,-,hr,hb1⟩
 replace HK:=jH (HK.out.later hb1)
 replace HP:=jH (HP.out.below hb1)
 replace HQ:=jH (HQ.out.below hb1)
 have HR:=jH hr
 clear hr
 refine hK _ _ HK.out.bC ?_
 clear hK K' hb1
 try simp only [Act.put,aF]
 repeat (refine tkL (v:= ?_) rfl rfl rfl (fun w' hSw=> ?_) HK.out.bC ?_;rotate_left;(focus (go_simp;with_reducible rfl));simp only [aF])
 refine aI rfl rfl fun K' hK=> ?_
 go_simp
 refine(HSM.out r _ HR.out).mono ?_
 rintro e1 W8v2 ⟨R,fl,rfl,a1,a2,a3,hb1⟩
 replace HK:=jH (HK.out.later hb1)
 replace HP:=jH (HP.out.below hb1)
 replace HQ:=jH (HQ.out.below hb1)
 have HJ:=jH (And.intro a1 (And.intro a2 a3))
 clear a1 a2 a3
 refine hK _ _ HK.out.bC ?_
 clear hK K' hb1
 try simp only [Act.put,aF]
 repeat (refine tkL (v:= ?_) rfl rfl rfl (fun w' hSw=> ?_) HK.out.bC ?_;rotate_left;(focus (go_simp;with_reducible rfl));simp only [aF])
 refine aN ?_
 simp only [drL]
 go_wp2
 refine bodyPost_ret (v:= .tuple #[.int .u64 (R:Nat),.int .i64 fl]) (by simp [results,Tryz.results141,go_sem]) rfl ⟨_,_,rfl,HJ.out.1,HJ.out.2.1,HJ.out.2.2,HK.out.2⟩
end
end Go.Proofs.YtfmecpembnmnkaaGreatDoor
