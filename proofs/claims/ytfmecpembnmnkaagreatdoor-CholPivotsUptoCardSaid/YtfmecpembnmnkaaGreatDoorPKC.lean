/- Walk: the references' over, where the divisor has more words than one. -/
import Derived.Test.YtfmecpembnmnkaaGreatDoorPKA
import Derived.Deep.CutRange
import Derived.Deep.CutBlock
namespace Go.Proofs.YtfmecpembnmnkaaGreatDoor
section
open Go.RowKit
theorem MSl.aW2 {W:World}{base n N:Nat}{v:Value}(h:W.ownsRow base 233 1 v n (nK N n)) (hn:0<n) (hN:N<2^(32*n)):∃g cap,v= .slice (some ⟨g,0,none⟩) n cap∧base≤g∧MSl W g n cap N:=by
 obtain⟨h1,⟨rfl,h0⟩|⟨g,cap,cur,rfl,hg,hh,hcap,hmax,hcs,ht⟩⟩:=h
 ·omega
 ·refine⟨g,cap,rfl,hg,cur,hh,by omega,hcap,hN,fun i hi=> ?_⟩
  have h2:(nK N n)[i]? =some (.int .u32 (dg 32 N i:Nat)):=by unfold nK;simp [hi]
  rw [←ht,List.getElem?_take_of_lt (by omega)]at h2
  simpa using h2
theorem MSl.own {W:World}{base g n cap N:Nat}(h:MSl W g n cap N) (hb:base≤g) (hc:cap≤maxLen):W.ownsRow base 233 1 (.slice (some ⟨g,0,none⟩) n cap) n (nK N n):=by
 obtain⟨cur,h1,h2,h3,h4,h5⟩:=h
 refine⟨by unfold nK;simp,.inr ⟨g,cap,cur,rfl,hb,h1,h3,hc,by omega,?_⟩⟩
 refine List.ext_getElem? fun i=> ?_
 by_cases hi:i<n
 ·rw [List.getElem?_take_of_lt (by omega)]
  have:=h5 i hi
  unfold nK
  simp [hi]
  simpa using this
 ·rw [List.getElem?_eq_none (by simp;omega),List.getElem?_eq_none (by unfold nK;simp;omega)]
theorem Row.grown {k:IntKind}{s b0 m N:Nat}{W V:World}{row:Option Nat}(h:Row k s b0 m N W) (hb:W.grownBy V row) (hne:some b0≠row):Row k s b0 m N V:=by
 obtain⟨h1,cur,c1,c2,c3⟩:=h
 exact⟨h1,cur,(hb.block b0 (Array.getElem?_eq_some_iff.1 c1).1 hne).trans c1,c2,c3⟩
theorem aX0 {Y k:Nat}(h:k<ln 32 Y):2^(32*k)≤Y:=by
 rcases Nat.lt_or_ge Y (2^(32*k))with h1|h1
 ·have:=(dL (s:=32) (by decide)).2 h1;omega
 ·exact h1
theorem aK7 {N k:Nat}(h:N≠0):bl (N*2^k)=bl N+k:=by
 have h1:bl (N*2^k)≤bl N+k:=aY (by rw [Nat.pow_add];exact Nat.mul_lt_mul_of_pos_right (lC N) (Nat.two_pow_pos _))
 have h2:=aC0 h
 rcases Nat.lt_or_ge (bl (N*2^k)) (bl N+k)with h3|h3
 ·exfalso
  have h4:N*2^k<2^(bl N-1+k):=dD.1 (by omega)
  rw [Nat.pow_add]at h4
  have h5:=Nat.lt_of_mul_lt_mul_right h4
  have:=aY h5
  omega
 ·omega
theorem aJl {X Y:Nat}(h:Y≤X) (h2:2≤ln 32 Y):∃s,32-bl (dg 32 Y (ln 32 Y-1))=s∧s<32∧ln 32 (Y*2^s)=ln 32 Y∧dg 32 (Y*2^s) (ln 32 Y-1)≠0∧ln 32 (X*2^s)≤ln 32 X+1∧ln 32 Y≤ln 32 X∧
  X*2^s<Y*2^s*2^(32*(ln 32 X+1-ln 32 Y)):=by
 have hY0:Y≠0:=fun e=>by rw [e,eG]at h2;omega
 have ht:=aCh (s:=32) (by decide) hY0
 have hb1:=aC0 ht
 have hb2:bl (dg 32 Y (ln 32 Y-1))≤32:=aY (iT 32 _ _)
 have hbt:=aJv (s:=32) (by decide) hY0
 obtain⟨s,hs⟩:∃s,32-bl (dg 32 Y (ln 32 Y-1))=s:=⟨_,rfl⟩
 have hbl:bl (Y*2^s)=32*ln 32 Y:=by rw [aK7 hY0,hbt];omega
 have hln:ln 32 (Y*2^s)=ln 32 Y:=by
  conv=>lhs;unfold ln
  rw [hbl];omega
 have hx:=pW (s:=32) (N:=X) (by decide)
 have hm:=sN (s:=32) (by decide) h
 refine⟨s,hs,by omega,hln,?_,?_,hm,?_⟩
 ·rw [←hln];exact aCh (by decide) (Nat.mul_ne_zero hY0 (Nat.ne_of_gt (Nat.two_pow_pos s)))
 ·rw [dL (by decide),iV]
  exact Nat.mul_lt_mul_of_lt_of_le hx (Nat.pow_le_pow_right (by decide) (by omega)) (Nat.two_pow_pos _)
 ·have h5:=aX0 (Y:=Y) (k:=ln 32 Y-1) (by omega)
  have h6:2^(32*(ln 32 Y-1))*2^s*2^(32*(ln 32 X+1-ln 32 Y))≤Y*2^s*2^(32*(ln 32 X+1-ln 32 Y)):=Nat.mul_le_mul_right _ (Nat.mul_le_mul_right _ h5)
  refine Nat.lt_of_lt_of_le ?_ h6
  rw [Nat.mul_right_comm,←Nat.pow_add,show 32*(ln 32 Y-1)+32*(ln 32 X+1-ln 32 Y)=32*ln 32 X by omega]
  exact Nat.mul_lt_mul_of_pos_right hx (Nat.two_pow_pos _)
theorem aKd {X Y s Q N:Nat}(hY:0<Y) (hU:X*2^s=Q*(Y*2^s)+N) (hN:N<Y*2^s*2^(32*0)):Q=X/Y∧N/2^s=X%Y:=by
 have hp:0<2^s:=Nat.two_pow_pos s
 rw [Nat.mul_zero,Nat.pow_zero,Nat.mul_one]at hN
 have hD:0<Y*2^s:=Nat.mul_pos hY hp
 have e1:X*2^s/(Y*2^s)=Q:=by rw [hU,Nat.mul_comm Q,Nat.mul_add_div hD,Nat.div_eq_of_lt hN,Nat.add_zero]
 have e2:X*2^s%(Y*2^s)=N:=by rw [hU,Nat.mul_comm Q,Nat.mul_add_mod,Nat.mod_eq_of_lt hN]
 rw [Nat.mul_div_mul_right _ _ hp]at e1
 rw [Nat.mul_mod_mul_right]at e2
 exact⟨e1.symm,by rw [←e2,Nat.mul_div_cancel _ hp]⟩
theorem aQ4 {N D k n:Nat}(hD:D<2^(32*n)) (h:N<D*2^(32*(k+1))):N<2^(32*(k+n+1))∧D*2^(32*k)≤2^(32*(k+n+1)):=by
 have e:2^(32*n)*2^(32*(k+1))=2^(32*(k+n+1)):=by rw [←Nat.pow_add];congr 1;omega
 refine⟨?_,?_⟩
 ·rw [←e];exact Nat.lt_of_lt_of_le h (Nat.mul_le_mul_right _ (Nat.le_of_lt hD))
 ·rw [←e];exact Nat.mul_le_mul (Nat.le_of_lt hD) (Nat.pow_le_pow_right (by decide) (by omega))
theorem MSl.shorter {W:World}{g n k cap N:Nat}(h:MSl W g n cap N) (hk:k≤n) (hN:N<2^(32*k)):MSl W g k cap N:=by
 obtain⟨cur,h1,h2,h3,h4,h5⟩:=h
 exact⟨cur,h1,h2,by omega,hN,fun i hi=>h5 i (by omega)⟩
def zK (W:World) (b o x:Nat):Prop:=b<W.heap.size∧W.cell? ⟨b,o,none⟩=some (.int .u32 (x:Nat))
theorem zK.below {W V:World}{b o x:Nat}(h:zK W b o x) (hb:Below W.heap.size W V):zK V b o x:=⟨Nat.lt_of_lt_of_le h.1 hb.size,(hb.cell (p:=⟨b,o,none⟩) h.1).trans h.2⟩
section
variable {P : Program} {L : List Oper} {Q : Exit → Act → World → Prop} {S : World → Prop}
theorem bK {i k:Nat}{o:Oper}{K:Act→World→Prop}{pl:Pl}{a:Act}{w:World}(ho:L[i]? =some o) (hd:o.dst=some k)
  (hQ:∀c a' w',Q (.panic c) (a'.put o.dst undef) w'→Q (.panic c) a' w')
  (hw:Region.wanted o (yielded L.toArray a.tmps)=false) (hS:S w)
  (h:kJ P L.toArray Q S K pl {tmps:=a.tmps.setIfInBounds k undef,defers:=a.defers} w):kJ P L.toArray Q S K (.take i pl) a w:=by
 refine⟨o,undef,aE3 ho,hQ,.inr ⟨hw,rfl⟩,hS,?_⟩
 rw [hd];exact h
end
def aP3 :Value→Nat| .slice _ n _=>n|_=>0
end
section
set_option maxRecDepth 100000
set_option maxHeartbeats 6400000
open Go.RowKit
theorem aJu (vx vy:Value) (X Y:Nat) (w:World) (hx:Raw .u32 32 w vx (ln 32 X) X) (hy:Raw .u32 32 w vy (ln 32 Y) Y) (h:Y≤X) (h2:2≤ln 32 Y) (hn:ln 32 X≤34359738368):
  Calls Tryz.prog 204 #[vx,vy] w (aBg X Y w):=by
 obtain⟨s,hs,hs32,hlnD,htopD,hlnU,hlnXY,hlow⟩:=aJl h h2
 have hY0:0<Y:=by rcases Nat.eq_zero_or_pos Y with e|e;(rw [e,eG]at h2;omega);exact e
 have HX:=jH hx
 have HY:=jH hy
 have HC:=jH fun W h1 h2=>aCl vx vy X Y W h1 h2
 have hcz:(dQ X Y<0)=False:=by simp only [eq_iff_iff,iff_false];unfold dQ;rw [if_neg (by omega)];split<;>omega
 generalize dQ X Y=cz at*
 have HLD:=jH fun W h=>aDw vy Y s (ln 32 Y) W h (by omega) (by omega) (by omega)
 have HLU:=jH fun W h=>aDw vx X s (ln 32 X) W h (by omega) (by omega) (by omega)
 have HLZ:=jH fun W=>aNa (dg 32 Y (ln 32 Y-1)) (bH _ _) W
 rw [hs]at HLZ
 have HFIN:=jH fun Q N h1 h2=>aKd (X:=X) (Y:=Y) (s:=s) (Q:=Q) (N:=N) hY0 h1 h2
 unfold aKx at HLD HLU
 rw [hlnD]at HLD
 obtain⟨ax,cx,rfl,-⟩:=hx
 obtain⟨ay,cy,rfl,-,-,-,hcy⟩:=hy
 obtain⟨by',oy,rfl,hby,-,hc0⟩:=hcy (by omega)
 have hcell:=hc0 (ln 32 Y-1) (by omega)
 have HCY:=jH fun W (hb:Below w.heap.size w W)=>(hb.cell (p:=⟨by',oy+(ln 32 Y-1),none⟩) hby).trans hcell
 have hDB:Y*2^s<2^(32*ln 32 Y):=by rw [←hlnD];exact pW (by decide)
 have hUB:X*2^s<2^(32*ln 32 (X*2^s)):=pW (by decide)
 have hU0:0<ln 32 (X*2^s):=by rcases Nat.eq_zero_or_pos (ln 32 (X*2^s))with e|e;(exfalso;rw [jE (by decide)]at e;have:=Nat.mul_ne_zero (show X≠0 by omega) (Nat.ne_of_gt (Nat.two_pow_pos s));exact this e);exact e
 clear hc0 hcell hcy hs
 generalize dg 32 Y (ln 32 Y-1)=yt at*
 obtain⟨n1,hn1⟩:∃k,ln 32 Y-1=k:=⟨_,rfl⟩
 rw [hn1]at HCY htopD
 obtain⟨D,hD⟩:∃d,Y*2^s=d:=⟨_,rfl⟩
 obtain⟨U,hU⟩:∃d,X*2^s=d:=⟨_,rfl⟩
 rw [hD]at HLD hlnD htopD hDB hlow HFIN
 rw [hU]at HLU hlnU hUB hU0 hlow HFIN
 have HNY:Hid (ln 32 Y=n1+1):=jH (by omega)
 generalize ln 32 Y=n at*
 generalize ln 32 X=nx at*
 generalize hnu0:ln 32 U=nu0 at*
 have hi1:(n:Int)-1=(n1:Int):=by omega
 obtain⟨n2,hn2⟩:∃k,n-2=k:=⟨_,rfl⟩
 have hi2:(n:Int)-2=(n2:Int):=by omega
 have HDF:=jH (And.intro hDB (And.intro htopD hlow))
 have HUF:=jH hUB
 have HNN:=jH (And.intro hn1 hn2)
 have hne1:((n:Int)==1)=false:=by simp;omega
 obtain⟨i0,hi,hz0,hz1,hz2⟩:=info_parts Tryz.info233
 clear hlnD htopD hDB hUB hlow hD hU hn1 hn2 h hnu0
 go_enter Tryz.func204,Tryz.ntmps204
 go_wp2_with fail
 refine(HC.out _ HX.out HY.out).mono ?_
 rintro e w1 ⟨rfl,hb1⟩
 replace HX:=jH (HX.out.below hb1)
 replace HY:=jH (HY.out.below hb1)
 have hc1:=HCY.out _ hb1
 have HB:=jH hb1
 clear hb1 HC
 go_wp2_with fail
 refine(HLZ.out _).mono ?_
 rintro e w1b ⟨rfl,rfl⟩
 clear hc1 HLZ HCY
 go_wp2_with fail
 refine(HLD.out _ HY.out).mono ?_
 rintro e w3 ⟨cd,-,rfl,hd3,hb3⟩
 have HD:=jH hd3
 have HLT:=jH hd3.lt
 replace HX:=jH (HX.out.below hb3)
 have HGD:Hid (w.heap.size≤w1.heap.size):=jH HB.out.size
 replace HB:=jH (HB.out.trans (hb3.mono HB.out.size))
 obtain⟨gd,hgd⟩:∃g,w1.heap.size=g:=⟨_,rfl⟩
 rw [hgd]at HD HLT HGD
 clear hd3 hb3 HLD HY
 go_wp2_with fail
 refine(HLU.out _ HX.out).mono ?_
 rintro e w4 ⟨cu0,hcu,rfl,hu4,hb4⟩
 have HCU0:=jH hcu
 clear hcu
 have HU:=jH (hu4.own (base:=w3.heap.size) (Nat.le_refl _) (by have:=HCU0.out;unfold maxLen;omega))
 have HD3:=HD
 have HB4:=jH hb4
 clear hu4 hb4 HLU HX HCU0
 go_wp2
 go_loopw [10] (fun uv wr=>∃nu:Nat,nu0≤nu∧nu≤nx+1∧aP3 uv=nu∧Hid (wr.ownsRow w3.heap.size 233 1 uv nu (nK U nu)∧Below w3.heap.size w3 wr)) (fun uv _=>nx+1-aP3 uv)
 case atStart=>exact⟨nu0,Nat.le_refl _,hlnU,rfl,jH ⟨HU.out,HB4.out⟩⟩
 case round=>
  clear HU HB4
  obtain⟨nu,hnu1,hnu2,hsl,HU⟩:=hrel
  have hfit:U<2^(32*nu):=Nat.lt_of_lt_of_le HUF.out (Nat.pow_le_pow_right (by decide) (by omega))
  obtain⟨gu,cu,rfl,hgu,hum⟩:=MSl.aW2 HU.out.1 (by omega) hfit
  have HUM:=jH hum
  clear hum hsl
  by_cases hlt:nu<nx+1
  ·have hdig:nK U (nu+1)=nK U nu++[.int .u32 0]:=by rw [aAl,fK hfit (Nat.le_refl _)];rfl
   have HDG:=jH hdig
   clear hdig hfit
   have HOW:=jH fun o=>HU.out.1.kept (oP (Below.aA wr o)) (by cases(Value.slice (some ⟨gu,0,none⟩) nu cu).ownBlock<;>simp)
   have HNW:=jH fun W=>cell_one_new W (.int .u32 0) 233
   have t1:((nu:Int)<(nx:Int)+1)=True:=by simp;omega
   go_wp2_with (at_builtin;refine wpList_append_own _ rfl _ _ 165 rfl w3.heap.size 233 i0 (.int .u32 0) 1 4 Tryz.underlying165 hi hz0 hz1 hz2 rfl (by decide) _ _ _ rfl (HOW.out _) ⟨_,0,none⟩ 1 1 [.int .u32 0] rfl rfl (HNW.out _) ?c2 ?c3 ?c4 ?c5 ?_)
   case c2=>intro u hu;simp only [List.mem_singleton]at hu;subst hu;rfl
   case c3=>unfold maxLen;omega
   case c4=>omega
   case c5=>exact Nat.le_trans HU.out.2.size (by simp)
   intro v' U4 hown hgrow _
   rw [←HDG.out]at hown
   have HR2:=jH hown
   have HBB:=jH ((HU.out.2.trans ((Below.aA wr _).mono HU.out.2.size)).grown hgrow (Nat.le_trans HU.out.2.size (by simp)) (fun j hj=>(HU.out.1.lt j hj).1))
   obtain⟨ao',cap',hv'⟩:=iM hown
   rw [hv']at HR2 ⊢
   clear hown hgrow hv' HNW HOW HUM
   go_wp2
   go_roundw
   case rel=>exact⟨nu+1,by omega,by omega,rfl,jH ⟨HR2.out,HBB.out⟩⟩
   case measure=>simp [aP3];omega
  ·obtain rfl:nu=nx+1:=by omega
   obtain⟨nu,hnu⟩:∃k,nx+1=k:=⟨_,rfl⟩
   obtain⟨m,hm⟩:∃k,nu-n=k:=⟨_,rfl⟩
   rw [hnu]at HUM HU hnu1 hnu2 ⊢
   clear hlt hfit
   have HDM:Hid (MSl wr gd n cd D):=jH (HD3.out.below HU.out.2)
   have HBW:=jH (HB.out.trans (HU.out.2.mono HB.out.size))
   have HLO:Hid (U<D*2^(32*m)):=jH (by have:=HDF.out.2.2;rwa [hnu,hm]at this)
   have hnm:(nu:Int)-(n:Int)=(m:Int):=by omega
   have hmn:m+n=nu:=by omega
   have hmk:=run_make_row' (P:=Tryz.prog) 165 233 (.int .u32 0) 4 Tryz.underlying165 Tryz.nV rfl .i64 .i64 m (by omega) (by omega)
   have hcv:=HDM.out.cell (i:=n1) (by have:=HNN.out.1;omega)
   obtain⟨v1,hv1⟩:∃k,dg 32 D n1=k:=⟨_,rfl⟩
   rw [hv1]at hcv
   have HV1:=jH hv1
   have hv1l:v1<4294967296:=by rw [←hv1];exact bH _ _
   have hv10:v1≠0:=by rw [←hv1];exact HDF.out.2.1
   have t1:((nu:Int)<(nx:Int)+1)=False:=by simp;omega
   have hx1:(nx:Int)+1=(nu:Int):=by omega
   have HLTS:Hid (gd<gu∧gu<wr.heap.size∧w.heap.size≤gd):=jH ⟨by have:=HLT.out;omega,HUM.out.lt,HGD.out⟩
   have HRW0:Hid (Row .u32 32 wr.heap.size m 0 (wr.alloc (.cells (madeCells #[.int .u32 0] m) 233))):=jH (Row.made .u32 32 m wr)
   have HAL:=jH (Below.aA wr (.cells (madeCells #[.int .u32 0] m) 233))
   clear hv1 hgd HLT HGD HNY
   obtain⟨gq,hgq⟩:∃g,wr.heap.size=g:=⟨_,rfl⟩
   rw [hgq]at HLTS HRW0
   go_upto_region 13 with fail
   clear hcv
   generalize World.alloc wr _=wq at HRW0 HAL ⊢
   have HUM2:=jH (HUM.out.below HAL.out)
   have HDM2:=jH (HDM.out.below HAL.out)
   have HBW2:=jH (HBW.out.trans (HAL.out.mono HBW.out.size))
   have hcv:=HDM2.out.cell (i:=n1) (by have:=HNN.out.1;omega)
   rw [HV1.out]at hcv
   clear HUM HDM HBW HAL HU hgq
   go_wp2
   clear hmk hcv
   go_loopw [14] (fun jv wr=>∃k N Q:Nat,k≤m∧jv= .int .i64 ((k:Int)-1)∧Hid (nY U D n k nu cu gu gd cd gq m N Q w wr)) (fun jv _=>(intOf jv+1).toNat)
   case atStart=>exact⟨m,U,0,Nat.le_refl _,rfl,jH ⟨by omega,HLO.out,Nat.zero_mod _,HUM2.out,HDM2.out,HRW0.out,HBW2.out⟩⟩
   case round=>
    clear HRW0 HUM2 HDM2 HLO HBW2
    obtain⟨k,N,Q,hk,rfl,HR⟩:=hrel
    rcases k with _|k
    ·obtain⟨f1,f2⟩:=HFIN.out Q N HR.out.sum HR.out.low
     have hNn:N<2^(32*n):=by have h1:=HR.out.low;rw [Nat.mul_zero,Nat.pow_zero,Nat.mul_one]at h1;exact Nat.lt_trans h1 HDF.out.1
     have HF:=jH (And.intro f1 f2)
     have hlnN:ln 32 N≤n:=(dL (by decide)).2 hNn
     have HQ:=jH (HR.out.q.raw (by omega))
     have HUR:Hid (Raw .u32 32 wr (.slice (some ⟨gu,0,none⟩) n cu) n N):=jH ((MSl.shorter HR.out.u (by omega) hNn).raw (by omega))
     have hncu:(n:Int)≤(cu:Int):=by have:=HR.out.u.room;omega
     have HB2:=jH HR.out.below
     clear f1 f2 hNn HR
     go_upto_region 28 with fail
     refine aC (fun _:World=>True) 7 (.take 0 (.take 2 (.take 3 (.take 4 (.take 6 (.run 1 (.run 5 (.nil)))))))) (by kernel_rfl) (by kernel_rfl) ?_
     replace HQ:=jH (HQ.out.below (aB _))
     replace HUR:=jH (HUR.out.below (aB _))
     replace HB2:=jH (HB2.out.trans ((aB wr).mono HB2.out.size))
     generalize World.drew _=W0 at HQ HUR HB2 ⊢
     repeat (first|(refine tkL (v:= ?_) rfl rfl rfl (fun w' hSw=> ?_) True.intro ?_;rotate_left;(focus (go_simp;with_reducible rfl));simp only [aF])|(refine bK rfl rfl (fun _ _ _ h=>h) rfl True.intro ?_;simp only [aF]))
     refine aI rfl rfl fun K' hK=> ?_
     go_simp
     refine(oG _ _ _ _ _ HQ.out).mono ?_
     rintro e1 W1 ⟨rfl,rfl⟩
     refine hK _ _ True.intro ?_
     clear hK K'
     try simp only [Act.put,aF]
     repeat (first|(refine tkL (v:= ?_) rfl rfl rfl (fun w' hSw=> ?_) True.intro ?_;rotate_left;(focus (go_simp;with_reducible rfl));simp only [aF])|(refine bK rfl rfl (fun _ _ _ h=>h) rfl True.intro ?_;simp only [aF]))
     refine aI rfl rfl fun K' hK=> ?_
     go_simp
     refine(oG _ _ _ _ _ HUR.out).mono ?_
     rintro e1 W1 ⟨rfl,rfl⟩
     refine hK _ _ True.intro ?_
     clear hK K'
     try simp only [Act.put,aF]
     repeat (first|(refine tkL (v:= ?_) rfl rfl rfl (fun w' hSw=> ?_) True.intro ?_;rotate_left;(focus (go_simp;with_reducible rfl));simp only [aF])|(refine bK rfl rfl (fun _ _ _ h=>h) rfl True.intro ?_;simp only [aF]))
     refine aN ?_
     simp only [drL]
     have HQ2:=jH (Raw.cut HQ.out)
     have HU2:=jH (Raw.cut HUR.out)
     clear HQ HUR
     go_wp2_with fail
     refine(xX _ N s (ln 32 N) _ HU2.out (by omega) (by omega)).mono ?_
     rintro e W3 ⟨v3,rfl,hb3,hr3⟩
     have HR3:=jH hr3
     replace HQ2:=jH (HQ2.out.below hb3)
     replace HB2:=jH (HB2.out.trans (hb3.mono HB2.out.size))
     clear hb3 hr3 HU2
     go_wp2
     refine bodyPost_ret (v:= .tuple #[.slice (some ⟨gq,0,none⟩) (ln 32 Q) m,v3]) (by simp [results,Tryz.results204,go_sem]) rfl ⟨_,_,rfl,?_,?_,HB2.out⟩
     ·rw [←HF.out.1];exact HQ2.out
     ·rw [←HF.out.2];exact HR3.out
    ·have hNL:=aQ4 HDF.out.1 HR.out.low
     have HG:=jH (aOd (n:=n) (j:=k) HDF.out.1 (by omega) (by rw [HNN.out.1];exact HDF.out.2.1) HR.out.low)
     have hcb:∀{p},p<nu→wr.cell? ⟨gu,p,none⟩=some (.int .u32 (dg 32 N p:Nat)):=fun hp=>HR.out.u.cell hp
     rw [HNN.out.1,HNN.out.2,HV1.out]at HG
     obtain⟨p0,hp0⟩:∃p,k+n=p:=⟨_,rfl⟩
     rw [hp0]at HG
     obtain⟨p1,hp1⟩:∃p,p0-1=p:=⟨_,rfl⟩
     obtain⟨p2,hp2⟩:∃p,p0-2=p:=⟨_,rfl⟩
     rw [hp1,hp2]at HG
     have hca:=hcb (p:=p0) (by omega)
     have hcb1:=hcb (p:=p1) (by omega)
     have hcc:=hcb (p:=p2) (by omega)
     have hcd2:=HR.out.d.cell (i:=n2) (by have:=HNN.out.2;omega)
     have HCA:=jH (show zK wr gu p0 (dg 32 N p0)from⟨HR.out.u.lt,hca⟩)
     have HCB:=jH (show zK wr gu p1 (dg 32 N p1)from⟨HR.out.u.lt,hcb1⟩)
     have HCC:=jH (show zK wr gu p2 (dg 32 N p2)from⟨HR.out.u.lt,hcc⟩)
     have HCD:=jH (show zK wr gd n2 (dg 32 D n2)from⟨HR.out.d.lt,hcd2⟩)
     have ha:=bH N p0
     have hb:=bH N p1
     have hc:=bH N p2
     have hv2l:=bH D n2
     clear hcb hca hcb1 hcc hcd2
     generalize dg 32 N p0=a at*
     generalize dg 32 N p1=b at*
     generalize dg 32 N p2=c at*
     generalize dg 32 D n2=v2 at*
     obtain⟨t,ht⟩:∃t,a*4294967296+b=t:=⟨_,rfl⟩
     rw [ht]at HG
     have hor:bits .or .u64 ((a:Int)*4294967296) (b:Int)=(t:Int):=by rw [←ht];exact aJb hb ha
     have htl:t<18446744073709551616:=by omega
     obtain⟨g0,hg0⟩:∃q,t/v1=q:=⟨_,rfl⟩
     obtain⟨r0,hr0⟩:∃q,t%v1=q:=⟨_,rfl⟩
     have htd:(t:Int).tdiv (v1:Int)=(g0:Int):=by rw [←hg0];rfl
     have htm:(t:Int).tmod (v1:Int)=(r0:Int):=by rw [←hr0];rfl
     have hdm:=Nat.div_add_mod t v1
     rw [hg0,hr0,Nat.mul_comm]at hdm
     have hr0l:r0<v1:=by rw [←hr0];exact Nat.mod_lt _ (by omega)
     have hg0l:g0≤t:=by rw [←hg0];exact Nat.div_le_self _ _
     have HST:Hid (g0*v1+r0=t∧N<(g0+1)*(D*2^(32*k))):=jH ⟨hdm,by have:=HG.out.start;rwa [hg0]at this⟩
     have hv1z:((v1:Int)=0)=False:=by simp;omega
     have hj0:((k+1:Nat):Int)-1=(k:Int):=by omega
     have hj1:(k:Int)+(n:Int)=(p0:Int):=by omega
     have hj2:(p0:Int)-1=(p1:Int):=by omega
     have hj3:(p0:Int)-2=(p2:Int):=by omega
     have hl0:p0<nu:=by omega
     have hl1:p1<nu:=by omega
     have hl2:p2<nu:=by omega
     have hl3:n2<n:=by have:=HNN.out.2;omega
     have hq0:(p0:Int)<(nu:Int):=by omega
     have hq1:(p1:Int)<(nu:Int):=by omega
     have hq2:(p2:Int)<(nu:Int):=by omega
     have hq3:(n2:Int)<(n:Int):=by omega
     have hw0:IntKind.i64.wrap (p0:Int)=(p0:Int):=IntWalk.i64_in _ (by omega)
     have hw1:IntKind.i64.wrap (p1:Int)=(p1:Int):=IntWalk.i64_in _ (by omega)
     have hw2:IntKind.i64.wrap (p2:Int)=(p2:Int):=IntWalk.i64_in _ (by omega)
     have hw3:IntKind.i64.wrap (n2:Int)=(n2:Int):=IntWalk.i64_in _ (by omega)
     have hwa:IntKind.u64.wrap ((a:Int)*4294967296)=(a:Int)*4294967296:=by rw [IntKind.wrap_u64];omega
     have HP0:=jH hp0
     have hNL1:=jH hNL
     clear ht hg0 hr0 hdm hp0 hp1 hp2 hNL
     rw [hj0]
     go_upto_region 17 with fail
     refine aC (fun w':World=>w'.cell? ⟨gu,p0,none⟩=some (.int .u32 (a:Nat))∧w'.cell? ⟨gu,p1,none⟩=some (.int .u32 (b:Nat))) 16 (.take 0 (.take 1 (.take 2 (.take 3 (.take 4 (.take 5 (.take 6 (.take 7 (.take 8 (.take 9 (.take 10 (.take 11 (.take 12 (.take 13 (.take 14 (.take 15 (.nil))))))))))))))))) (by kernel_rfl) (by kernel_rfl) ?_
     replace HR:=jH HR.out.wZ
     replace HCA:=jH (HCA.out.below (aB _))
     replace HCB:=jH (HCB.out.below (aB _))
     replace HCC:=jH (HCC.out.below (aB _))
     replace HCD:=jH (HCD.out.below (aB _))
     generalize World.drew _=W7 at HR HCA HCB HCC HCD ⊢
     repeat (first|(refine tkL (v:= ?_) rfl rfl rfl (fun w' hSw=> ?_) (⟨HCA.out.2,HCB.out.2⟩) ?_;rotate_left;(focus (go_simp;with_reducible rfl));simp only [aF])|(refine bK rfl rfl (fun _ _ _ h=>h) rfl (⟨HCA.out.2,HCB.out.2⟩) ?_;simp only [aF]))
     refine aN ?_
     simp only [drL]
     clear HCA HCB
     obtain⟨DP,hDP⟩:∃d,D*2^(32*k)=d:=⟨_,rfl⟩
     rw [hDP]at HG HST
     have HDP:=jH hDP
     clear hDP
     go_upto_block 4 with fail
     go_cut [16,17]from 105 to 135 (fun gv _ wx=>∃g:Nat,gv= .int .u64 g∧Hid (g<4294967296∧N<(g+1)*DP∧g*DP<N+DP)∧Hid (nY U D n (k+1) nu cu gu gd cd gq m N Q w wx))
     case first=>
      go_wp2
      go_loopw [16,17] (fun gv rv wr=>∃g r:Nat,gv= .int .u64 g∧rv= .int .u64 r∧r<4294967296∧Hid (g*v1+r=t∧N<(g+1)*DP)∧Hid (nY U D n (k+1) nu cu gu gd cd gq m N Q w wr)∧Hid (zK wr gu p2 c)∧Hid (zK wr gd n2 v2)) (fun _ rv _=>4294967296-(intOf rv).toNat)
      case atStart=>exact⟨g0,r0,rfl,rfl,by omega,HST,HR,HCC,HCD⟩
      case round=>
       clear HST HR HCC HCD
       obtain⟨g,r,rfl,rfl,hrl,HI,HR,HCC,HCD⟩:=hrel
       have hgt:g≤t:=by have h1:=HI.out.1;have h3:=Nat.mul_le_mul_left g (show 1≤v1 by omega);omega
       have HDEC:=jH (HG.out.dec g r HI.out.1)
       have HFINI:=jH (HG.out.fin g r HI.out.1)
       by_cases c1:4294967296≤g
       ·have hdec:N<g*DP:=HDEC.out (.inl c1)
        have tg1:decide ((4294967296:Int)≤(g:Int))=true:=decide_eq_true (by omega)
        have tg2:decide (4294967296≤g)=true:=decide_eq_true c1
        obtain⟨g',hg'⟩:∃g',g=g'+1:=⟨g-1,by rcases Nat.eq_zero_or_pos g with e|e;(exfalso;rw [e,Nat.zero_mul]at hdec;omega);omega⟩
        obtain⟨r',hr'⟩:∃r',r+v1=r':=⟨_,rfl⟩
        have hg1:(g:Int)-1=(g':Int):=by omega
        have hr1:(r:Int)+(v1:Int)=(r':Int):=by omega
        have hnew:g'*v1+r'=t:=by have:=HI.out.1;rw [hg',Nat.add_mul,Nat.one_mul]at this;omega
        have HNEW:=jH (And.intro hnew (show N<(g'+1)*DP by rw [←hg'];exact hdec))
        have HGR:=jH (show r<r' by omega)
        have hrb:r'<18446744073709551616:=by omega
        have hgb:g'<18446744073709551616:=by omega
        have hgp:1≤g:=by omega
        clear hdec hnew hg' hr'
        go_upto_region 20 with fail
        refine aC (fun w':World=>w'.cell? ⟨gd,n2,none⟩=some (.int .u32 (v2:Nat))∧w'.cell? ⟨gu,p2,none⟩=some (.int .u32 (c:Nat))) 22 (.take 0 (.take 1 (.take 2 (.take 3 (.take 4 (.take 5 (.take 6 (.take 7 (.take 8 (.take 9 (.take 10 (.take 11 (.take 12 (.take 13 (.take 14 (.take 15 (.take 16 (.take 17 (.take 18 (.take 19 (.take 20 (.take 21 (.nil))))))))))))))))))))))) (by kernel_rfl) (by kernel_rfl) ?_
        replace HR:=jH HR.out.wZ
        replace HCC:=jH (HCC.out.below (aB _))
        replace HCD:=jH (HCD.out.below (aB _))
        generalize World.drew _=W9 at HR HCC HCD ⊢
        repeat (first|(refine tkL (v:= ?_) rfl rfl rfl (fun w' hSw=> ?_) (⟨HCD.out.2,HCC.out.2⟩) ?_;rotate_left;(focus (go_simp;with_reducible rfl));simp only [aF])|(refine bK rfl rfl (fun _ _ _ h=>h) rfl (⟨HCD.out.2,HCC.out.2⟩) ?_;simp only [aF]))
        refine aN ?_
        simp only [drL]
        have HSML:Hid (g'<18446744073709551616∧1≤g):=jH ⟨hgb,hgp⟩
        by_cases c3:4294967296≤r'
        ·have th1:decide ((4294967296:Int)≤(r':Int))=true:=decide_eq_true (by omega)
         have th2:decide (4294967296≤r')=true:=decide_eq_true c3
         have HBR:=jH (HG.out.brk g' r' HNEW.out.1 c3)
         have HOUT:=jH (And.intro HBR.out.1 (And.intro HNEW.out.2 (HG.out.fin g' r' HNEW.out.1 (Nat.le_of_lt HBR.out.1) HBR.out.2)))
         clear c3
         try clear c1
         go_wp2
         go_meet
         exact⟨g',rfl,HOUT,HR⟩
        ·have th1:decide ((4294967296:Int)≤(r':Int))=false:=decide_eq_false (by omega)
         have th2:decide (4294967296≤r')=false:=decide_eq_false c3
         have HC3:=jH (show r'<4294967296 by omega)
         clear c3
         try clear c1
         go_wp2
         go_roundw
         case rel=>exact⟨g',r',rfl,rfl,HC3.out,HNEW,HR,HCC,HCD⟩
         case measure=>have:=HGR.out;simp [intOf];omega
       ·have hgvl:g*v2≤4294967295*4294967295:=Nat.mul_le_mul (by omega) (by omega)
        obtain⟨gv,hgv⟩:∃q,g*v2=q:=⟨_,rfl⟩
        have hgvi:(g:Int)*(v2:Int)=(gv:Int):=by rw [←hgv];simp
        obtain⟨rc,hrc⟩:∃q,r*4294967296+c=q:=⟨_,rfl⟩
        have horc:bits .or .u64 ((r:Int)*4294967296) (c:Int)=(rc:Int):=by rw [←hrc];exact aJb hc hrl
        have hwg:IntKind.u64.wrap (gv:Int)=(gv:Int):=by rw [IntKind.wrap_u64];rw [hgv]at hgvl;omega
        have hwr:IntKind.u64.wrap ((r:Int)*4294967296)=(r:Int)*4294967296:=by rw [IntKind.wrap_u64];omega
        clear hgvl
        rw [hgv,hrc]at HDEC HFINI
        clear hgv hrc
        have tg1:decide ((4294967296:Int)≤(g:Int))=false:=decide_eq_false (by omega)
        have tg2:decide (4294967296≤g)=false:=decide_eq_false c1
        by_cases c2:rc<gv
        ·have hdec:N<g*DP:=HDEC.out (.inr c2)
         obtain⟨g',hg'⟩:∃g',g=g'+1:=⟨g-1,by rcases Nat.eq_zero_or_pos g with e|e;(exfalso;rw [e,Nat.zero_mul]at hdec;omega);omega⟩
         obtain⟨r',hr'⟩:∃r',r+v1=r':=⟨_,rfl⟩
         have hg1:(g:Int)-1=(g':Int):=by omega
         have hr1:(r:Int)+(v1:Int)=(r':Int):=by omega
         have hnew:g'*v1+r'=t:=by have:=HI.out.1;rw [hg',Nat.add_mul,Nat.one_mul]at this;omega
         have HNEW:=jH (And.intro hnew (show N<(g'+1)*DP by rw [←hg'];exact hdec))
         have HGR:=jH (show r<r' by omega)
         have hrb:r'<18446744073709551616:=by omega
         have hgb:g'<18446744073709551616:=by omega
         have hgp:1≤g:=by omega
         clear hdec hnew hg' hr'
         go_upto_region 20 with fail
         refine aC (fun w':World=>w'.cell? ⟨gd,n2,none⟩=some (.int .u32 (v2:Nat))∧w'.cell? ⟨gu,p2,none⟩=some (.int .u32 (c:Nat))) 22 (.take 0 (.take 1 (.take 2 (.take 3 (.take 4 (.take 5 (.take 6 (.take 7 (.take 8 (.take 9 (.take 10 (.take 11 (.take 12 (.take 13 (.take 14 (.take 15 (.take 16 (.take 17 (.take 18 (.take 19 (.take 20 (.take 21 (.nil))))))))))))))))))))))) (by kernel_rfl) (by kernel_rfl) ?_
         replace HR:=jH HR.out.wZ
         replace HCC:=jH (HCC.out.below (aB _))
         replace HCD:=jH (HCD.out.below (aB _))
         generalize World.drew _=W9 at HR HCC HCD ⊢
         repeat (first|(refine tkL (v:= ?_) rfl rfl rfl (fun w' hSw=> ?_) (⟨HCD.out.2,HCC.out.2⟩) ?_;rotate_left;(focus (go_simp;with_reducible rfl));simp only [aF])|(refine bK rfl rfl (fun _ _ _ h=>h) rfl (⟨HCD.out.2,HCC.out.2⟩) ?_;simp only [aF]))
         refine aN ?_
         simp only [drL]
         have HSML:Hid (g'<18446744073709551616∧1≤g):=jH ⟨hgb,hgp⟩
         by_cases c3:4294967296≤r'
         ·have th1:decide ((4294967296:Int)≤(r':Int))=true:=decide_eq_true (by omega)
          have th2:decide (4294967296≤r')=true:=decide_eq_true c3
          have HBR:=jH (HG.out.brk g' r' HNEW.out.1 c3)
          have HOUT:=jH (And.intro HBR.out.1 (And.intro HNEW.out.2 (HG.out.fin g' r' HNEW.out.1 (Nat.le_of_lt HBR.out.1) HBR.out.2)))
          clear c3
          try clear c1
          go_wp2
          go_meet
          exact⟨g',rfl,HOUT,HR⟩
         ·have th1:decide ((4294967296:Int)≤(r':Int))=false:=decide_eq_false (by omega)
          have th2:decide (4294967296≤r')=false:=decide_eq_false c3
          have HC3:=jH (show r'<4294967296 by omega)
          clear c3
          try clear c1
          go_wp2
          go_roundw
          case rel=>exact⟨g',r',rfl,rfl,HC3.out,HNEW,HR,HCC,HCD⟩
          case measure=>have:=HGR.out;simp [intOf];omega
        ·have HOUT:=jH (And.intro (show g<4294967296 by omega) (And.intro HI.out.2 (HFINI.out (by omega) (by omega))))
         go_upto_region 20 with fail
         refine aC (fun w':World=>w'.cell? ⟨gd,n2,none⟩=some (.int .u32 (v2:Nat))∧w'.cell? ⟨gu,p2,none⟩=some (.int .u32 (c:Nat))) 22 (.take 0 (.take 1 (.take 2 (.take 3 (.take 4 (.take 5 (.take 6 (.take 7 (.take 8 (.take 9 (.take 10 (.take 11 (.take 12 (.take 13 (.take 14 (.take 15 (.take 16 (.take 17 (.take 18 (.take 19 (.take 20 (.take 21 (.nil))))))))))))))))))))))) (by kernel_rfl) (by kernel_rfl) ?_
         replace HR:=jH HR.out.wZ
         replace HCC:=jH (HCC.out.below (aB _))
         replace HCD:=jH (HCD.out.below (aB _))
         generalize World.drew _=W9 at HR HCC HCD ⊢
         repeat (first|(refine tkL (v:= ?_) rfl rfl rfl (fun w' hSw=> ?_) (⟨HCD.out.2,HCC.out.2⟩) ?_;rotate_left;(focus (go_simp;with_reducible rfl));simp only [aF])|(refine bK rfl rfl (fun _ _ _ h=>h) rfl (⟨HCD.out.2,HCC.out.2⟩) ?_;simp only [aF]))
         refine aN ?_
         simp only [drL]
         go_wp2
         go_meet
         exact⟨g,rfl,HOUT,HR⟩
     case rest=>
      obtain⟨g,rfl,HG2,HR⟩:=hcut
      clear HST HG HCC HCD hor htd htm
      have hgl:=HG2.out.1
      have hlg:n2<n:=hl3
      have hne:gd≠gu:=by have:=HLTS.out;omega
      have hdd:=HR.out.d
      go_wp2_with fail
      refine(aNs gu gd nu cu n cd N D k g wc HR.out.u hdd hne (by have:=HP0.out;omega) hNL1.out.1 hgl (by omega)).mono ?_
      rintro e w5 ⟨N1,b,rfl,hb,hsum,hlt1,hu1,hgr⟩
      have hq5:=HR.out.q.grown hgr (by have:=HLTS.out;simp;omega)
      have hcq:=hq5.2.cell (i:=k) (by omega)
      have hfq:=hq5.2.frozen k
      have hqc:=hq5.2.lt
      clear hq5
      rcases Nat.lt_or_ge b 1 with h0|h0
      ·obtain rfl:b=0:=by omega
       obtain⟨f1,f2⟩:=aM5 hsum rfl (by have:=HG2.out.2.1;rw [←HDP.out]at this;rw [Nat.mul_assoc];exact this)
       have HNX:=jH (HR.out.next (by omega) hgl f1 f2 hu1 hgr hne (by have:=HLTS.out;omega) (by have:=HLTS.out;omega) (by have:=HLTS.out;omega) (by have:=HLTS.out;omega) (by have:=HLTS.out;omega))
       clear f1 f2 hsum hlt1 hu1 hgr HR HG2 hdd hb h0
       have hgm:(g:Int)%4294967296=(g:Int):=by omega
       go_wp2
       go_roundw
       case rel=>exact⟨k,N1,_,by omega,by go_num,HNX⟩
       case measure=>simp [intOf]
      ·obtain rfl:b=1:=by omega
       obtain⟨g',hg'⟩:∃g',g=g'+1:=⟨g-1,by rcases Nat.eq_zero_or_pos g with e|e;(exfalso;rw [e,Nat.zero_mul,Nat.mul_zero]at hsum;omega);omega⟩
       have hg1:(g:Int)-1=(g':Int):=by omega
       have hgp:1≤g:=by omega
       have HGE:=jH hg'
       clear hg'
       have HM:=jH (aM8 gu gd nu cu n cd N1 D k w5 hu1 (hdd.grown hgr (by simpa using hne)) hne (by have:=HP0.out;omega) hlt1 (by omega))
       have HU1:=jH (And.intro hsum (And.intro hlt1 hgr))
       clear hsum hlt1 hu1 hgr hdd hcq hfq hqc hb h0
       go_wp2_with fail
       refine HM.out.mono ?_
       rintro e w6 ⟨rfl,N2,c',hsum2,hlt2,hu2,hgr2⟩
       obtain⟨hsum,hlt1,hgr⟩:=HU1.out
       obtain⟨f0,f1,f2⟩:=aMu hsum rfl hlt1 hsum2 hlt2 (by have:=HG2.out.2.2;rw [←HDP.out]at this;rw [Nat.mul_assoc];exact this) hNL1.out.2
       rw [show g-1=g' by have:=HGE.out;omega]at f1
       have hgg:=World.grownBy.trans hgr hgr2
       have hq5:=HR.out.q.grown hgg (by have:=HLTS.out;simp;omega)
       have hcq:=hq5.2.cell (i:=k) (by omega)
       have hfq:=hq5.2.frozen k
       have hqc:=hq5.2.lt
       have HNX:=jH (HR.out.next (by omega) (show g'<4294967296 by have:=HGE.out;omega) f1 f2 hu2 hgg hne (by have:=HLTS.out;omega) (by have:=HLTS.out;omega) (by have:=HLTS.out;omega) (by have:=HLTS.out;omega) (by have:=HLTS.out;omega))
       have hgl2:g'<4294967296:=by have:=HGE.out;omega
       clear f0 f1 f2 hsum hlt1 hgr hsum2 hlt2 hu2 hgr2 hgg hq5 HR HG2 HM HU1
       have hgm:(g':Int)%4294967296=(g':Int):=by omega
       go_wp2
       go_roundw
       case rel=>exact⟨k,N2,_,by omega,by go_num,HNX⟩
       case measure=>simp [intOf]
end
section
set_option maxRecDepth 100000
set_option maxHeartbeats 6400000
open Go.RowKit
theorem aN1 (vx vy:Value) (X Y:Nat) (w:World) (hx:Raw .u32 32 w vx (ln 32 X) X) (hy:Raw .u32 32 w vy (ln 32 Y) Y) (hY:Y≠0) (hn:ln 32 X≤34359738368):
  Calls Tryz.prog 204 #[vx,vy] w (aBg X Y w):=by
 rcases Nat.lt_or_ge X Y with h|h
 ·exact aJc vx vy X Y w hx hy h
 ·have h0:ln 32 Y≠0:=fun e=>hY ((jE (by decide)).1 e)
  rcases Nat.lt_or_ge (ln 32 Y) 2 with h1|h1
  ·exact aMh vx vy X Y w hx hy h (by omega) (by omega)
  ·exact aJu vx vy X Y w hx hy h h1 hn
def aXs (b o f g:Nat) (X Y:Int) (w:World) (e:Ending) (w':World):Prop:=
 ∃W,e= .returned (.tuple #[.pointer (some ⟨b,o,none⟩),.pointer (some ⟨f,g,none⟩)])∧dB .u32 32 w' b o (X.tdiv Y)∧dB .u32 32 w' f g (X.tmod Y)∧Mod f g w W∧Mod b o W w'
theorem aU9 (X Y:Int):(if(decide (X<0) !=decide (Y<0))=true then-((X.natAbs/Y.natAbs:Nat):Int)else((X.natAbs/Y.natAbs:Nat):Int))=X.tdiv Y∧(if decide (X<0)=true then-((X.natAbs%Y.natAbs:Nat):Int)else((X.natAbs%Y.natAbs:Nat):Int))=X.tmod Y:=by
 have q:∀a b:Nat,((a/b:Nat):Int)=(a:Int).tdiv (b:Int):=fun _ _=>rfl
 have r:∀a b:Nat,((a%b:Nat):Int)=(a:Int).tmod (b:Int):=fun _ _=>rfl
 rw [q,r]
 by_cases hx:X<0
 ·obtain⟨a,rfl⟩:∃a:Nat,X= -(a:Int):=⟨X.natAbs,by omega⟩
  by_cases hy:Y<0
  ·obtain⟨b,rfl⟩:∃b:Nat,Y= -(b:Int):=⟨Y.natAbs,by omega⟩
   rw [decide_eq_true hx,decide_eq_true hy,Int.natAbs_neg,Int.natAbs_neg,Int.natAbs_natCast,Int.natAbs_natCast,Int.neg_tdiv,Int.tdiv_neg,Int.neg_tmod,Int.tmod_neg]
   simp
  ·obtain⟨b,rfl⟩:∃b:Nat,Y=(b:Int):=⟨Y.natAbs,by omega⟩
   rw [decide_eq_true hx,decide_eq_false hy,Int.natAbs_neg,Int.natAbs_natCast,Int.natAbs_natCast,Int.neg_tdiv,Int.neg_tmod]
   simp
 ·obtain⟨a,rfl⟩:∃a:Nat,X=(a:Int):=⟨X.natAbs,by omega⟩
  by_cases hy:Y<0
  ·obtain⟨b,rfl⟩:∃b:Nat,Y= -(b:Int):=⟨Y.natAbs,by omega⟩
   rw [decide_eq_false hx,decide_eq_true hy,Int.natAbs_neg,Int.natAbs_natCast,Int.natAbs_natCast,Int.tdiv_neg,Int.tmod_neg]
   simp
  ·obtain⟨b,rfl⟩:∃b:Nat,Y=(b:Int):=⟨Y.natAbs,by omega⟩
   rw [decide_eq_false hx,decide_eq_false hy,Int.natAbs_natCast,Int.natAbs_natCast]
   simp
theorem aHi (b o c p d q f g:Nat) (X Y:Int) (w:World) (hz:fO w b o) (hx:dB .u32 32 w c p X) (hy:dB .u32 32 w d q Y) (hr:fO w f g) (hbf:b≠f) (hY:Y≠0) (hn:ln 32 X.natAbs≤34359738368):
  Calls Tryz.prog 174 #[.pointer (some ⟨b,o,none⟩),.pointer (some ⟨c,p,none⟩),.pointer (some ⟨d,q,none⟩),.pointer (some ⟨f,g,none⟩)] w (aXs b o f g X Y w):=by
 obtain⟨hxs,hx0,vx,hx1,hrx⟩:=hx
 have hcx:=hxs.1
 obtain⟨hys,hy0,vy,hy1,hry⟩:=hy
 have hcy:=hys.1
 have HZ:=jH hz
 have HR:=jH hr
 have HRx:=jH hrx
 have HRy:=jH hry
 have HF:=jH (aU9 X Y)
 have hY2:Y.natAbs≠0:=by omega
 have HOV:=jH fun W h1 h2=>aN1 vx vy X.natAbs Y.natAbs W h1 h2 hY2 hn
 have HCS:Hid (∀W,Below w.heap.size w W→((W.cell? ⟨c,p,none⟩=some (.bool (decide (X<0)))∧W.cell? ⟨c,p+1,none⟩=some vx)∧W.cell? ⟨d,q,none⟩=some (.bool (decide (Y<0)))∧W.cell? ⟨d,q+1,none⟩=some vy)):=
  jH fun W hb=>⟨⟨(hb.cell (p:=⟨c,p,none⟩) hcx).trans hx0,(hb.cell (p:=⟨c,p+1,none⟩) hcx).trans hx1⟩,(hb.cell (p:=⟨d,q,none⟩) hcy).trans hy0,(hb.cell (p:=⟨d,q+1,none⟩) hcy).trans hy1⟩
 obtain⟨s0,hs0⟩:∃s,(decide (X<0) !=decide (Y<0))=s:=⟨_,rfl⟩
 rw [hs0]at HF
 generalize decide (X<0)=sx at*
 generalize decide (Y<0)=sy at*
 generalize X.natAbs=ax at*
 generalize Y.natAbs=ay at*
 clear hrx hxs hz hry hys hr hx0 hx1 hy0 hy1 hY hY2
 go_enter Tryz.func174,Tryz.ntmps174
 go_wp2_with fail
 refine aC (fun w':World=>(w'.cell? ⟨c,p,none⟩=some (.bool sx)∧w'.cell? ⟨c,p+1,none⟩=some vx)∧w'.cell? ⟨d,q,none⟩=some (.bool sy)∧w'.cell? ⟨d,q+1,none⟩=some vy) 13 (.take 0 (.take 1 (.take 2 (.take 3 (.take 4 (.take 5 (.take 6 (.take 7 (.run 8 (.take 9 (.take 10 (.take 11 (.take 12 (.nil)))))))))))))) (by kernel_rfl) (by kernel_rfl) ?_
 have HB:=jH (aB w)
 generalize w.drew=W0 at HB ⊢
 repeat (refine tkL (v:= ?_) rfl rfl rfl (fun w' hSw=> ?_) (HCS.out _ HB.out) ?_;rotate_left;(focus (go_simp;with_reducible rfl));simp only [aF])
 refine aI rfl rfl fun K' hK=> ?_
 go_simp
 refine(HOV.out _ (HRx.out.below HB.out) (HRy.out.below HB.out)).mono ?_
 rintro e w1 ⟨v1,v2,rfl,h1,h2,hb1⟩
 have HQ:=jH h1
 have HM:=jH h2
 replace HB:=jH (HB.out.trans (hb1.mono HB.out.size))
 refine hK _ _ (HCS.out _ HB.out) ?_
 clear hK K' hb1 h1 h2
 try simp only [Act.put,aF]
 repeat (refine tkL (v:= ?_) rfl rfl rfl (fun w' hSw=> ?_) (HCS.out _ HB.out) ?_;rotate_left;(focus (go_simp;with_reducible rfl));simp only [aF])
 refine aN ?_
 simp only [drL]
 obtain⟨⟨g0,g1⟩,g2,g3⟩:=HCS.out _ HB.out
 go_wp2_with fail
 refine aC (fun w':World=>(w'.cell? ⟨c,p,none⟩=some (.bool sx)∧w'.cell? ⟨c,p+1,none⟩=some vx)∧w'.cell? ⟨d,q,none⟩=some (.bool sy)∧w'.cell? ⟨d,q+1,none⟩=some vy) 8 (.take 0 (.take 1 (.take 2 (.take 3 (.take 4 (.take 5 (.take 6 (.take 7 (.nil))))))))) (by kernel_rfl) (by kernel_rfl) ?_
 clear g0 g1 g2 g3
 replace HQ:=jH (HQ.out.below (aB _))
 replace HM:=jH (HM.out.below (aB _))
 replace HB:=jH (HB.out.trans ((aB w1).mono HB.out.size))
 generalize w1.drew=W1 at HB HQ HM ⊢
 repeat (refine tkL (v:= ?_) rfl rfl rfl (fun w' hSw=> ?_) (HCS.out _ HB.out) ?_;rotate_left;(focus (go_simp;with_reducible rfl));simp only [aF])
 refine aN ?_
 simp only [drL]
 go_wp2_with fail
 refine(gY f g _ _ _ _ _ (HR.out.below HB.out) HM.out).mono ?_
 rintro e w2 ⟨rfl,hi2,hm2⟩
 have HI2:=jH hi2
 have HM2:=jH hm2
 replace HQ:=jH (HQ.out.mod hm2 (HR.out.below HB.out).2.1)
 have HZ2:=jH ((HZ.out.below HB.out).mod hm2 (.inl hbf))
 clear hi2 hm2 HM
 go_wp2_with fail
 refine(gY b o _ _ _ _ _ HZ2.out HQ.out).mono ?_
 rintro e w3 ⟨rfl,hi3,hm3⟩
 have HI3:=jH hi3
 have HM3:=jH hm3
 replace HI2:=jH (HI2.out.mod hm3 (.inl hbf.symm) HZ2.out.2.1)
 clear hi3 hm3
 go_wp2
 refine bodyPost_ret (v:= .tuple #[.pointer (some ⟨b,o,none⟩),.pointer (some ⟨f,g,none⟩)]) (by simp [results,Tryz.results174,go_sem]) rfl ⟨w2,rfl,?_,?_,(Mod.of_below HB.out HR.out.1).trans HR.out.1 HM2.out,HM3.out⟩
 ·have:=HI3.out
  rw [show(!sx==sy)=s0 by rw [←hs0];cases sx<;>cases sy<;>rfl,HF.out.1]at this
  exact this
 ·rw [←HF.out.2];exact HI2.out
end
end Go.Proofs.YtfmecpembnmnkaaGreatDoor
