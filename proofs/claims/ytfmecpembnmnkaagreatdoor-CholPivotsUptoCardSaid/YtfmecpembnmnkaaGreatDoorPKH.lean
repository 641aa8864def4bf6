/- The invariant of a mixture that makes whole numbers and fills them: which of them are there, what they hold. -/
import Derived.Test.YtfmecpembnmnkaaGreatDoorPGC
import Derived.Test.YtfmecpembnmnkaaGreatDoorPGH
import Derived.Test.YtfmecpembnmnkaaGreatDoorPKG
namespace Go.Proofs.YtfmecpembnmnkaaGreatDoor
section
open Go Go.RowKit
def updB (dn:Nat→Bool) (i:Nat):Nat→Bool:=fun j=>j==i||dn j
theorem oM (dn:Nat→Bool) (i:Nat):updB dn i i=true:=by simp [updB]
theorem gI {dn:Nat→Bool}{i j:Nat}(h:j≠i):updB dn i j=dn j:=by simp [updB,h]
theorem aAj (vals:Nat→Value) (i:Nat) (v:Value):aIe vals i v i=v:=if_pos rfl
theorem aBn {vals:Nat→Value}{i j:Nat}{v:Value}(h:j≠i):aIe vals i v j=vals j:=if_neg h
def aA6 (k:IntKind) (s nB:Nat) (W0:World) (l:List (Nat×Nat×Int)) (dn:Nat→Bool) (vals:Nat→Value) (w':World):Prop:=
 Below nB W0 w'∧nB≤w'.heap.size∧∃r:Nat→Nat,(∀e∈l,dn e.1=true→vals e.1= .pointer (some ⟨r e.1,0,none⟩)∧nB≤r e.1∧dB k s w' (r e.1) 0 (if dn e.2.1 then e.2.2 else 0))∧
  (∀e∈l,dn e.2.1=true→dn e.1=true∧vals e.2.1= .pointer (some ⟨r e.1,0,none⟩))∧∀e∈l,∀f∈l,e.1≠f.1→dn e.1=true→dn f.1=true→r e.1≠r f.1
def okJ (l:List (Nat×Nat×Int)):Prop:=∀e∈l,∀f∈l,(e.1=f.1→e=f)∧(e.2.1=f.2.1→e=f)∧(e.2.1=f.1→e=f)
variable {k : IntKind} {s nB : Nat} {W0 w' : World} {l : List (Nat × Nat × Int)} {dn : Nat → Bool} {vals : Nat → Value}
theorem aA6.init (hn:nB≤W0.heap.size) (hd:∀e∈l,dn e.1=false∧dn e.2.1=false) (vals:Nat→Value):aA6 k s nB W0 l dn vals W0:=
 ⟨Below.refl _ _,hn,fun _=>0,fun e he h=>(by rw [(hd e he).1]at h;cases h),fun e he h=>(by rw [(hd e he).2]at h;cases h),fun e he f _ _ h=>(by rw [(hd e he).1]at h;cases h)⟩
theorem aA6.alloc (h:aA6 k s nB W0 l dn vals w') (hok:okJ l) {i j:Nat}{z:Int}(he:(i,j,z)∈l) (hz:j=i→z=0) (hd:dn i=false) {T:Nat}(hT:wL T) {dn':Nat→Bool}(hdn:dn'=updB dn i):
  aA6 k s nB W0 l dn' (aIe vals i (.pointer (some ⟨w'.heap.size,0,none⟩))) (w'.alloc (.cells #[.bool false,.slice none 0 0] T)):=by
 subst hdn
 obtain⟨hB,hn,r,h1,h2,h3⟩:=h
 have hb:=Below.aA w' (.cells #[.bool false,.slice none 0 0] T)
 obtain⟨q,hq,hqn⟩:∃q:Nat→Nat,q i=w'.heap.size∧∀x,x≠i→q x=r x:=⟨fun x=>if x=i then w'.heap.size else r x,if_pos rfl,fun x hx=>if_neg hx⟩
 refine⟨hB.trans (hb.mono hn),Nat.le_trans hn hb.size,q,fun e hm hx=> ?_,fun e hm hx=> ?_,fun e hm f hf hne hx hy=> ?_⟩
 ·by_cases hi:e.1=i
  ·have:e=(i,j,z):=(hok e hm _ he).1 hi
   subst this
   have hv:(if updB dn i j=true then z else 0)=0:=by
    by_cases hj:j=i
    ·rw [hz hj];simp
    ·rw [gI hj,if_neg (fun h=>by rw [(h2 _ hm h).1]at hd;cases hd)]
   simp only [hq,hv,aAj]
   exact⟨trivial,hn,dB.zero _ _ hT⟩
  ·rw [gI hi]at hx
   obtain⟨a,b,c⟩:=h1 e hm hx
   have hji:e.2.1≠i:=fun t=>hi (by rw [(hok e hm _ he).2.2 t])
   rw [hqn _ hi,aBn hi,gI hji]
   exact⟨a,b,c.below hb⟩
 ·by_cases hj:e.2.1=i
  ·have:e=(i,j,z):=(hok e hm _ he).2.2 hj
   subst this
   replace hj:j=i:=hj
   subst hj
   exact⟨oM _ _,by rw [aAj,hq]⟩
  ·rw [gI hj]at hx
   obtain⟨a,b⟩:=h2 e hm hx
   have hi:e.1≠i:=fun t=>by rw [t,hd]at a;cases a
   exact⟨by rw [gI hi];exact a,by rw [aBn hj,hqn _ hi];exact b⟩
 ·by_cases h4:e.1=i
  ·have h5:f.1≠i:=fun t=>hne (h4.trans t.symm)
   rw [gI h5]at hy
   have:=(h1 f hf hy).2.2.1.1
   rw [h4,hq,hqn _ h5];omega
  ·rw [gI h4]at hx
   have:=(h1 e hm hx).2.2.1.1
   rw [hqn _ h4]
   by_cases h5:f.1=i
   ·rw [h5,hq];omega
   ·rw [gI h5]at hy
    rw [hqn _ h5];exact h3 e hm f hf hne hx hy
theorem aA6.fill (h:aA6 k s nB W0 l dn vals w') (hok:okJ l) {i j:Nat}{z:Int}(he:(i,j,z)∈l) (hji:j≠i) (hi:dn i=true) (hd:dn j=false):
  ∃r0,vals i= .pointer (some ⟨r0,0,none⟩)∧nB≤r0∧dB k s w' r0 0 0∧∀w2 dn',dn'=updB dn j→dB k s w2 r0 0 z→Mod r0 0 w' w2→aA6 k s nB W0 l dn' (aIe vals j (.pointer (some ⟨r0,0,none⟩))) w2:=by
 obtain⟨hB,hn,r,h1,h2,h3⟩:=h
 obtain⟨a,b,c⟩:=h1 _ he hi
 simp only [hd]at c
 refine⟨r i,a,b,c,fun w2 dn' hdn hz hm=> ?_⟩
 subst hdn
 refine⟨Mod.below hB hm b hn,Nat.le_trans hn hm.size,r,fun e hm' hx=> ?_,fun e hm' hx=> ?_,fun e hm' f hf hne hx hy=> ?_⟩
 ·have hej:e.1≠j:=fun t=>by
   have:=(hok _ he e hm').2.2 t.symm
   subst this;exact hji t.symm
  rw [gI hej]at hx
  rw [aBn hej]
  obtain⟨a2,b2,c2⟩:=h1 e hm' hx
  refine⟨a2,b2,?_⟩
  by_cases hei:e.1=i
  ·have:=(hok e hm' _ he).1 hei
   subst this
   rw [oM];exact hz
  ·rw [gI (fun t=>hei (by rw [(hok e hm' _ he).2.1 t]))]
   exact c2.mod hm (.inl (h3 e hm' _ he hei hx hi)) c.1.2.1
 ·by_cases hj:e.2.1=j
  ·have:=(hok e hm' _ he).2.1 hj
   subst this
   exact⟨by rw [gI hji.symm];exact hi,by rw [aAj]⟩
  ·rw [gI hj]at hx
   obtain⟨a2,b2⟩:=h2 e hm' hx
   have hej:e.1≠j:=fun t=>by rw [t,hd]at a2;cases a2
   exact⟨by rw [gI hej];exact a2,by rw [aBn hj];exact b2⟩
 ·have hej:∀e∈l,e.1≠j:=fun e hm' t=>by
   have:=(hok _ he e hm').2.2 t.symm
   subst this;exact hji t.symm
  rw [gI (hej e hm')]at hx
  rw [gI (hej f hf)]at hy
  exact h3 e hm' f hf hne hx hy
theorem aA6.all (h:aA6 k s nB W0 l dn vals w') (hd:∀e∈l,dn e.1=true∧dn e.2.1=true):
  Below nB W0 w'∧∃r:Nat→Nat,(∀e∈l,vals e.1= .pointer (some ⟨r e.1,0,none⟩)∧vals e.2.1= .pointer (some ⟨r e.1,0,none⟩)∧nB≤r e.1∧dB k s w' (r e.1) 0 e.2.2)∧∀e∈l,∀f∈l,e.1≠f.1→r e.1≠r f.1:=by
 obtain⟨hB,hn,r,h1,h2,h3⟩:=h
 refine⟨hB,r,fun e he=> ?_,fun e he f hf hne=>h3 e he f hf hne (hd e he).1 (hd f hf).1⟩
 obtain⟨a,b,c⟩:=h1 e he (hd e he).1
 rw [if_pos (hd e he).2]at c
 exact⟨a,(h2 e he (hd e he).2).2,b,c⟩
theorem aXe (h:(l.all fun e=>l.all fun f=>(e.1 !=f.1||e.2.1==f.2.1)&&(e.2.1 !=f.2.1||e.1==f.1)&&(e.2.1 !=f.1||e.1==f.1))=true) (hu:∀e∈l,∀f∈l,e.1=f.1→e.2.1=f.2.1→e=f):okJ l:=by
 intro e he f hf
 have:=List.all_eq_true.1 (List.all_eq_true.1 h e he) f hf
 simp only [Bool.and_eq_true,Bool.or_eq_true,bne_iff_ne,ne_eq,beq_iff_eq]at this
 obtain⟨⟨a,b⟩,c⟩:=this
 refine⟨fun t=>hu e he f hf t (a.resolve_left (fun x=>x t)),fun t=>hu e he f hf (b.resolve_left (fun x=>x t)) t,fun t=> ?_⟩
 have h1:=c.resolve_left (fun x=>x t)
 exact hu e he f hf h1 (a.resolve_left (fun x=>x h1))
end
section
set_option maxRecDepth 100000
set_option maxHeartbeats 6400000
open Go.RowKit
theorem aSj (a b:Nat):(a:Int).tdiv (b:Int)=((a/b:Nat):Int):=rfl
theorem aP6 (a b:Nat):(a:Int).tmod (b:Int)=((a%b:Nat):Int):=rfl
theorem aCn (x y p q:Nat) (mode:Int) (w:World) (hx:W64 x) (hy:W64 y) (fy:aK y=true) (x0:ky x≠0) (y0:ky y≠0) (hmode:mode=3∨mode=4) (hp:fU w p (bJ x:Nat)) (hq:fU w q (bJ y:Nat)):
  Calls Tryz.prog 143 #[iK,iJ (dM x) (aQ x) p (bT x),iJ (dM y) (aQ y) q (bT y),.int .i64 mode] w (aDo (quK x y mode) w):=by
 have HP:=jH hp
 have HQ:=jH hq
 have HK:=jH (Bks.aH6 w 144 151 151 #[.int .i64 53,.int .i64 (-1022),.int .i64 1023,.int .i64 11] #[.int .i64 (dM x),.bool (aQ x),.pointer (some ⟨p,0,none⟩),.int .i64 (bT x)] #[.int .i64 (dM y),.bool (aQ y),.pointer (some ⟨q,0,none⟩),.int .i64 (bT y)])
 have HZX:=jH fun W h=>aBd (x:=x) (p:=p) W hx x0 h
 have HZY:=jH fun W h=>aBd (x:=y) (p:=q) W hy y0 h
 obtain⟨ng,hng⟩:∃s,(!(aQ x==aQ y))=s:=⟨_,rfl⟩
 have hng2:(aQ x !=aQ y)=ng:=hng
 obtain⟨f0,hf0⟩:∃f,w.heap.size=f:=⟨_,rfl⟩
 rw [hf0]at HK
 unfold quK
 rw [if_neg (fun h=>h.elim x0 (fun t=>by rw [fy]at t;cases t))]
 rw [show dM y=0 by exact nU fy]at HK HZY ⊢
 cases fx:aK x
 ·rw [if_pos rfl]
  have HI:=jH fun W=>iD ng W
  have HJ:=jH (uH ng)
  rw [show(if ng=true then-(aG:Int)else(aG:Int))=sgK x y by rw [←hng2,aA9];exact yE hx hy x0 y0]at HJ
  generalize sgK x y=KK at*
  generalize dA ng 2047 0=JJ at*
  rw [show dM x=1 by unfold dM;rw [fx];rfl]at HK HZX ⊢
  clear hng2 hp hq hx hy x0 y0 hmode fx fy
  generalize aQ x=sgx at*
  generalize bJ x=mtx at*
  generalize bT x=xpx at*
  generalize aQ y=sgy at*
  generalize bJ y=mty at*
  generalize bT y=xpy at*
  unfold iJ iK at*
  go_enter Tryz.func143,Tryz.ntmps143
  obtain⟨⟨k0,k1,k2,k3⟩,⟨c0,c1,c2,c3⟩,g0,g1,g2,g3⟩:=HK.out.bC
  go_wp2_with fail
  refine(HZX.out _ (HP.out.below HK.out.2)).mono ?_
  rintro e1 w1 ⟨rfl,hb1⟩
  replace HK:=jH (HK.out.later hb1)
  clear hb1
  clear k0 k1 k2 k3 c0 c1 c2 c3 g0 g1 g2 g3
  obtain⟨⟨k0,k1,k2,k3⟩,⟨c0,c1,c2,c3⟩,g0,g1,g2,g3⟩:=HK.out.bC
  go_wp2_with fail
  refine(HI.out _).mono ?_
  rintro e2 w2 ⟨rfl,hb2⟩
  replace HK:=jH (HK.out.later hb2)
  clear hb2
  clear k0 k1 k2 k3 c0 c1 c2 c3 g0 g1 g2 g3
  obtain⟨⟨k0,k1,k2,k3⟩,⟨c0,c1,c2,c3⟩,g0,g1,g2,g3⟩:=HK.out.bC
  go_wp2
  refine bodyPost_ret (v:= .tuple #[.int .u64 (JJ:Nat),.int .i64 0]) (by simp [results,Tryz.results143,go_sem]) rfl ⟨_,_,rfl,HJ.out.1,HJ.out.2.1,HJ.out.2.2,HK.out.2⟩
 rw [if_neg (by decide)]
 rw [show dM x=0 by exact nU fx]at HK HZX ⊢
 obtain⟨N,m,D,hD,hN,hm,my0,n0,lD,l1,l2,l3,l4,hkk⟩:=aM0 hx hy fx fy x0 y0 hmode
 rw [hng2]at hkk
 have ex:=nG fx
 have ey:=nG fy
 have cx:=nH x
 have cy:=nH y
 have hlA:=Nat.le_trans (dV 32 (bJ x) (by decide)) cx
 have hlD:=Nat.le_trans (dV 32 D (by decide)) lD
 have HLS:=jH fun b W h1 h2=>vC b 0 p 0 140 (bJ x:Nat) W h1 h2 (by rw [Int.natAbs_natCast];omega) (by omega)
 rw [show((bJ x:Nat):Int)*2^140=((D:Nat):Int) by rw [←hD];simp]at HLS
 have HQR:=jH fun b c g W h1 h2 h3 h4 h5=>aHi b 0 c 0 q 0 g 0 ((D:Nat):Int) ((bJ y:Nat):Int) W h1 h2 h3 h4 h5 (by omega) (by rw [Int.natAbs_natCast];omega)
 have HN:=jH hN
 have HSG:=jH fun r W h=>wH r 0 ((D%bJ y:Nat):Int) W h
 have hsg:(((D%bJ y:Nat):Int).sign !=0)=(!decide (D%bJ y=0)):=by generalize D%bJ y=DM;by_cases h:DM=0<;>simp [h]
 have HRD:=jH fun b W h=>xE ng b N m (!decide (D%bJ y=0)) mode W h n0 l1 l2 l3 (fun _=>l4) (by omega)
 obtain⟨R,hR⟩:∃R,pX ng N m (!decide (D%bJ y=0)) mode=R:=⟨_,rfl⟩
 rw [hR]at HRD hkk
 have HJ:Hid (W64 R∧aU R=false∧ky R=dvK x y mode):=jH ⟨by rw [←hR];unfold pX;split<;>exact(bU _ _ mode).1,dF.2 (by rw [←hR];unfold pX;split<;>exact(bU _ _ mode).2),hkk⟩
 obtain⟨sg,hsg1⟩:∃s,((D%bJ y:Nat):Int).sign=s:=⟨_,rfl⟩
 rw [hsg1]at HSG hsg
 obtain⟨bz,hbz⟩:∃s,(!decide (D%bJ y=0))=s:=⟨_,rfl⟩
 rw [hbz]at hsg HRD
 obtain⟨m1,hm1⟩:∃k,bT x-bT y=k:=⟨_,rfl⟩
 have hw1:IntKind.i64.wrap (bT x-bT y)=m1:=by rw [hm1];exact IntWalk.i64_in _ (by omega)
 have hw2:IntKind.i64.wrap (m1-140)=m:=by rw [←hm1,hm];exact IntWalk.i64_in _ (by omega)
 generalize dvK x y mode=KK at*
 skip
 clear hkk hD hN hm my0 n0 lD l1 l2 l3 l4 ex ey cx cy hlA hlD hR hsg1 hbz hm1
 clear hng2 hp hq hx hy x0 y0 hmode fx fy
 generalize aQ x=sgx at*
 generalize bJ x=mtx at*
 generalize bT x=xpx at*
 generalize aQ y=sgy at*
 generalize bJ y=mty at*
 generalize bT y=xpy at*
 unfold iJ iK at*
 go_enter Tryz.func143,Tryz.ntmps143
 obtain⟨⟨k0,k1,k2,k3⟩,⟨c0,c1,c2,c3⟩,g0,g1,g2,g3⟩:=HK.out.bC
 go_wp2_with fail
 refine(HZX.out _ (HP.out.below HK.out.2)).mono ?_
 rintro e1 w1 ⟨rfl,hb1⟩
 replace HK:=jH (HK.out.later hb1)
 clear hb1
 clear k0 k1 k2 k3 c0 c1 c2 c3 g0 g1 g2 g3
 obtain⟨⟨k0,k1,k2,k3⟩,⟨c0,c1,c2,c3⟩,g0,g1,g2,g3⟩:=HK.out.bC
 go_wp2_with fail
 refine(HZY.out _ (HQ.out.below HK.out.2)).mono ?_
 rintro e2 w2 ⟨rfl,hb2⟩
 replace HK:=jH (HK.out.later hb2)
 clear hb2
 clear k0 k1 k2 k3 c0 c1 c2 c3 g0 g1 g2 g3
 obtain⟨⟨k0,k1,k2,k3⟩,⟨c0,c1,c2,c3⟩,g0,g1,g2,g3⟩:=HK.out.bC
 go_wp2_with fail
 refine(HZX.out _ (HP.out.below HK.out.2)).mono ?_
 rintro e3 w3 ⟨rfl,hb3⟩
 replace HK:=jH (HK.out.later hb3)
 clear hb3
 clear k0 k1 k2 k3 c0 c1 c2 c3 g0 g1 g2 g3
 obtain⟨⟨k0,k1,k2,k3⟩,⟨c0,c1,c2,c3⟩,g0,g1,g2,g3⟩:=HK.out.bC
 go_upto_region 12 with fail
 clear k0 k1 k2 k3 c0 c1 c2 c3 g0 g1 g2 g3
 replace HP:=jH (HP.out.below HK.out.2)
 replace HQ:=jH (HQ.out.below HK.out.2)
 refine aGd (fun w':World=>(w'.cell? ⟨f0+1,0,none⟩=some (.int .i64 0)∧w'.cell? ⟨f0+1,1,none⟩=some (.bool sgx)∧w'.cell? ⟨f0+1,2,none⟩=some (.pointer (some ⟨p,0,none⟩))∧w'.cell? ⟨f0+1,3,none⟩=some (.int .i64 xpx))∧w'.cell? ⟨f0+1+1,0,none⟩=some (.int .i64 0)∧w'.cell? ⟨f0+1+1,1,none⟩=some (.bool sgy)∧w'.cell? ⟨f0+1+1,2,none⟩=some (.pointer (some ⟨q,0,none⟩))∧w'.cell? ⟨f0+1+1,3,none⟩=some (.int .i64 xpy)) 13 (.take 2 (.take 3 (.take 5 (.take 6 (.mix [(0,73),(1,74),(4,77),(7,80)] (.run 8 (.take 9 (.take 10 (.take 11 (.take 12 .nil)))))))))) (by kernel_rfl) (by kernel_rfl) ?_
 replace HP:=jH (HP.out.below (aB _))
 replace HQ:=jH (HQ.out.below (aB _))
 replace HK:=jH (HK.out.later (aB _))
 generalize World.drew _=W12 at HK HP HQ ⊢
 repeat (refine aC1 (v:= ?_) rfl rfl (fun _ _ _ h=>h) rfl (fun w' hSw=> ?_) HK.out.ab4 ?_;rotate_left;(focus (go_simp;with_reducible rfl));simp only [aF])
 have HLT:Hid (f0+1+1<W12.heap.size):=jH (HK.out.lt _ (.tail _ (.tail _ (.head _))))
 have HS:∀V,Below W12.heap.size W12 V→(fun w':World=>(w'.cell? ⟨f0+1,0,none⟩=some (.int .i64 0)∧w'.cell? ⟨f0+1,1,none⟩=some (.bool sgx)∧w'.cell? ⟨f0+1,2,none⟩=some (.pointer (some ⟨p,0,none⟩))∧w'.cell? ⟨f0+1,3,none⟩=some (.int .i64 xpx))∧w'.cell? ⟨f0+1+1,0,none⟩=some (.int .i64 0)∧w'.cell? ⟨f0+1+1,1,none⟩=some (.bool sgy)∧w'.cell? ⟨f0+1+1,2,none⟩=some (.pointer (some ⟨q,0,none⟩))∧w'.cell? ⟨f0+1+1,3,none⟩=some (.int .i64 xpy)) V:=fun V hb=>(HK.out.later hb).ab4
 have HOK:okJ [(0,0,0),(1,4,((D:Nat):Int)),(7,7,0)]:=aXe rfl (by intro e he f hf h1 h2;simp only [List.mem_cons,List.not_mem_nil,or_false]at he hf;rcases he with rfl|rfl|rfl<;>rcases hf with rfl|rfl|rfl<;>first|rfl|exact absurd h1 (by simp))
 refine aRc (l:=[(0,73),(1,74),(4,77),(7,80)]) (aA6 .u32 32 W12.heap.size W12 [(0,0,0),(1,4,((D:Nat):Int)),(7,7,0)]) rfl (by simp) (by decide) ?_ (zD rfl ?_ (zD rfl ?_ (zD rfl ?_ (zD rfl ?_ (aTb))))) ?_
 ·refine fun dn h=>aA6.init (Nat.le_refl _) (fun e he=> ?_) _
  simp only [List.mem_cons,List.not_mem_nil,or_false]at he
  rcases he with rfl|rfl|rfl
  ·exact⟨h (0,73) (by simp),h (0,73) (by simp)⟩
  ·exact⟨h (1,74) (by simp),h (4,77) (by simp)⟩
  ·exact⟨h (7,80) (by simp),h (7,80) (by simp)⟩
 ·intro a' dn vals w' hdf hin hvs hd hdep hJ K' hK
  have hJ2:=hJ.alloc HOK (i:=0) (j:=0) (z:=0) (by simp) (fun h=>by first|rfl|cases h) hd iZ rfl
  clear hin hvs hdep hdf
  go_simp
  exact hK _ _ _ (oM _ _) (fun _ h=>gI h) (HS _ hJ2.1) hJ2
 ·intro a' dn vals w' hdf hin hvs hd hdep hJ K' hK
  have hJ2:=hJ.alloc HOK (i:=1) (j:=4) (z:=((D:Nat):Int)) (by simp) (fun h=>by first|rfl|cases h) hd iZ rfl
  clear hin hvs hdep hdf
  go_simp
  exact hK _ _ _ (oM _ _) (fun _ h=>gI h) (HS _ hJ2.1) hJ2
 ·intro a' dn vals w' hdf hin hvs hd hdep hJ K' hK
  obtain⟨r0,hv,hl,hz,hfill⟩:=hJ.fill HOK (i:=1) (j:=4) (z:=((D:Nat):Int)) (by simp) (by decide) (hdep ⟨1,.data⟩ (by simp) rfl 74 (by decide)) hd
  have i74:a'.tmps[74]?.getD undef= .pointer (some ⟨r0,0,none⟩):=evT ((hvs (1,74) (by simp)).trans hv)
  have i76:a'.tmps[76]?.getD undef= .pointer (some ⟨p,0,none⟩):=evT (hin 76 (by decide))
  clear hin hvs hdep hdf
  go_simp
  refine(HLS.out r0 w' hz.1 (HP.out.below hJ.1)).mono ?_
  rintro e1 w2 ⟨rfl,hi1,hm1⟩
  have hJ2:=hfill w2 _ rfl hi1 hm1
  exact hK _ _ _ (oM _ _) (fun _ h=>gI h) (HS _ hJ2.1) hJ2
 ·intro a' dn vals w' hdf hin hvs hd hdep hJ K' hK
  have hJ2:=hJ.alloc HOK (i:=7) (j:=7) (z:=0) (by simp) (fun h=>by first|rfl|cases h) hd iZ rfl
  clear hin hvs hdep hdf
  go_simp
  exact hK _ _ _ (oM _ _) (fun _ h=>gI h) (HS _ hJ2.1) hJ2
 intro dn vals W12m hd hJ
 have hall:∀e∈([(0,0,0),(1,4,((D:Nat):Int)),(7,7,0)]:List (Nat×Nat×Int)),dn e.1=true∧dn e.2.1=true:=by
  intro e he
  simp only [List.mem_cons,List.not_mem_nil,or_false]at he
  rcases he with rfl|rfl|rfl
  ·exact⟨hd (0,73) (by simp),hd (0,73) (by simp)⟩
  ·exact⟨hd (1,74) (by simp),hd (4,77) (by simp)⟩
  ·exact⟨hd (7,80) (by simp),hd (7,80) (by simp)⟩
 obtain⟨hb1,r,hr,hne⟩:=hJ.all hall
 clear hall hJ hd HOK HS
 obtain⟨hv0,-,hl0,hz0⟩:=hr (0,0,0) (by simp)
 obtain⟨hv1,hv4,hl1,hz1⟩:=hr (1,4,((D:Nat):Int)) (by simp)
 obtain⟨hv7,-,hl7,hz7⟩:=hr (7,7,0) (by simp)
 have n0_1:=hne (0,0,0) (by simp) (1,4,((D:Nat):Int)) (by simp) (by simp)
 have n0_7:=hne (0,0,0) (by simp) (7,7,0) (by simp) (by simp)
 have n1_7:=hne (1,4,((D:Nat):Int)) (by simp) (7,7,0) (by simp) (by simp)
 clear hr hne
 replace HK:=jH (HK.out.later hb1)
 replace HP:=jH (HP.out.below hb1)
 replace HQ:=jH (HQ.out.below hb1)
 simp only [mY,List.setIfInBounds_toArray,List.set_cons_zero,List.set_cons_succ,hv0,hv1,hv4,hv7]
 clear hv0 hv1 hv4 hv7
 dsimp only at hl0 hl1 hl7 hz0 hz1 hz7 n0_1 n0_7 n1_7
 generalize r 0=r0 at*
 generalize r 1=r1 at*
 generalize r 7=r7 at*
 skip
 refine aQo rfl rfl fun K' hK=> ?_
 go_simp
 refine(HQR.out r0 r1 r7 _ hz0.1 hz1 HQ.out hz7.1 n0_7).mono ?_
 rintro e1 V2 ⟨VW,rfl,hq1,hr1,hm1,hm2⟩
 rw [aSj,HN.out]at hq1
 rw [aP6]at hr1
 have HSR:=jH hq1
 have HRR:=jH hr1
 have HNE:Hid (f0+1+1<r0∧f0+1+1<r7):=jH (by have:=HLT.out;omega)
 replace HK:=jH ((HK.out.mod hm1 (fun t m=>by have:=HNE.out;simp only [List.mem_cons,List.not_mem_nil,or_false]at m;rcases m with rfl|rfl|rfl<;>simp<;>omega) (by have:=HNE.out;omega)).mod hm2 (fun t m=>by have:=HNE.out;simp only [List.mem_cons,List.not_mem_nil,or_false]at m;rcases m with rfl|rfl|rfl<;>simp<;>omega) (by have:=HNE.out;omega))
 refine hK _ _ HK.out.ab4 ?_
 clear hK K' hq1 hr1 hm1 hm2 hz0 hz1 hz7 n0_1 n0_7 n1_7 hl0 hl1 hl7 HP HQ
 try simp only [Act.put,aF]
 repeat (refine aC1 (v:= ?_) rfl rfl (fun _ _ _ h=>h) rfl (fun w' hSw=> ?_) HK.out.ab4 ?_;rotate_left;(focus (go_simp;with_reducible rfl));simp only [aF])
 refine aSc ?_
 simp only [drL]
 obtain⟨⟨k0,k1,k2,k3⟩,⟨c0,c1,c2,c3⟩,g0,g1,g2,g3⟩:=HK.out.bC
 go_upto_region 13 with fail
 clear k0 k1 k2 k3 c0 c1 c2 c3 g0 g1 g2 g3
 refine aC (fun w':World=>(w'.cell? ⟨f0,0,none⟩=some (.int .i64 53)∧w'.cell? ⟨f0,1,none⟩=some (.int .i64 (-1022))∧w'.cell? ⟨f0,2,none⟩=some (.int .i64 1023)∧w'.cell? ⟨f0,3,none⟩=some (.int .i64 11))∧(w'.cell? ⟨f0+1,0,none⟩=some (.int .i64 0)∧w'.cell? ⟨f0+1,1,none⟩=some (.bool sgx)∧w'.cell? ⟨f0+1,2,none⟩=some (.pointer (some ⟨p,0,none⟩))∧w'.cell? ⟨f0+1,3,none⟩=some (.int .i64 xpx))∧w'.cell? ⟨f0+1+1,0,none⟩=some (.int .i64 0)∧w'.cell? ⟨f0+1+1,1,none⟩=some (.bool sgy)∧w'.cell? ⟨f0+1+1,2,none⟩=some (.pointer (some ⟨q,0,none⟩))∧w'.cell? ⟨f0+1+1,3,none⟩=some (.int .i64 xpy)) 16 (.take 0 (.take 1 (.take 2 (.take 3 (.take 4 (.take 5 (.take 6 (.take 7 (.take 8 (.take 9 (.take 12 (.run 10 (.take 11 (.run 13 (.take 14 (.take 15 (.nil))))))))))))))))) (by kernel_rfl) (by kernel_rfl) ?_
 replace HK:=jH (HK.out.later (aB _))
 replace HSR:=jH (HSR.out.below (aB _))
 replace HRR:=jH (HRR.out.below (aB _))
 generalize World.drew _=W13 at HK HSR HRR ⊢
 repeat (refine tkL (v:= ?_) rfl rfl rfl (fun w' hSw=> ?_) HK.out.bC ?_;rotate_left;(focus (go_simp;with_reducible rfl));simp only [aF])
 refine aI rfl rfl fun K' hK=> ?_
 go_simp
 refine(HSG.out r7 _ HRR.out).mono ?_
 rintro e1 W13v1 ⟨rfl,rfl⟩
 refine hK _ _ HK.out.bC ?_
 clear hK K'
 try simp only [Act.put,aF]
 repeat (refine tkL (v:= ?_) rfl rfl rfl (fun w' hSw=> ?_) HK.out.bC ?_;rotate_left;(focus (go_simp;with_reducible rfl));simp only [aF])
 refine aI rfl rfl fun K' hK=> ?_
 go_simp
 refine(HRD.out r0 _ HSR.out).mono ?_
 rintro e1 W13v2 ⟨fl,rfl,hb1⟩
 replace HK:=jH (HK.out.later hb1)
 replace HSR:=jH (HSR.out.below hb1)
 replace HRR:=jH (HRR.out.below hb1)
 refine hK _ _ HK.out.bC ?_
 clear hK K' hb1
 try simp only [Act.put,aF]
 repeat (refine tkL (v:= ?_) rfl rfl rfl (fun w' hSw=> ?_) HK.out.bC ?_;rotate_left;(focus (go_simp;with_reducible rfl));simp only [aF])
 refine aN ?_
 simp only [drL]
 go_wp2
 refine bodyPost_ret (v:= .tuple #[.int .u64 (R:Nat),.int .i64 fl]) (by simp [results,Tryz.results143,go_sem]) rfl ⟨_,_,rfl,HJ.out.1,HJ.out.2.1,HJ.out.2.2,HK.out.2⟩
end
section
set_option maxRecDepth 100000
set_option maxHeartbeats 6400000
open Go.RowKit
attribute [local go_sem] bG
theorem aKu (l h:Nat) (w:World) (hl:W64 l) (hh:W64 h):
  Calls Tryz.prog 105 #[.agg #[.float .f64 l,.float .f64 h]] w (Gives (.agg #[.float .f64 (ivL (kW (ivK l h))),.float .f64 (ivH (kW (ivK l h)))]) w):=by
 have HFA:=jH fun w=>jO l h w hl hh
 have HE:=jH fun w=>oZ w
 have HW:=jH (I1.new w l h)
 rcases e1:ivK l h with _|p
 ·rw [e1,Option.isSome_none]at HFA
  rw [show ivL (kW none)=9218868437227405312 from rfl,show ivH (kW none)=18442240474082181120 from rfl]
  clear e1
  go_enter Tryz.func105,Tryz.ntmps105
  obtain⟨⟨c0,c1⟩,q0,q1,q2,q3⟩:=HW.out.cells
  go_wp2_with fail
  refine(HFA.out _).mono ?_
  rintro e1 w1 ⟨rfl,hb1⟩
  replace HW:=jH (HW.out.later hb1)
  clear hb1 c0 c1 q0 q1 q2 q3
  obtain⟨⟨c0,c1⟩,q0,q1,q2,q3⟩:=HW.out.cells
  go_wp2_with fail
  refine(HE.out _).mono ?_
  rintro e2 w2 ⟨rfl,hb2⟩
  replace HW:=jH (HW.out.later hb2)
  clear hb2 c0 c1 q0 q1 q2 q3
  obtain⟨⟨c0,c1⟩,q0,q1,q2,q3⟩:=HW.out.cells
  go_wp2
  refine bodyPost_ret (v:= .agg #[.float .f64 9218868437227405312,.float .f64 18442240474082181120]) (by simp [results,Tryz.results105,go_sem,q0,q1]) rfl ⟨rfl,HW.out.stored _ _⟩
 ·rw [e1,Option.isSome_some]at HFA
  obtain⟨nl,nh,rfl⟩:=dX e1
  rw [show ivL (kW (some (ky l,ky h)))=kb (-ky h)from rfl,show ivH (kW (some (ky l,ky h)))=kb (-ky l)from rfl,←lS hh,←lS hl]
  have ng1:∀w,(Op.unary .neg (.float .f64 h)).run Tryz.prog w= .ok (.float .f64 (bQ h)) w:=fun w=>by rw [←lJ hh];rfl
  have ng2:∀w,(Op.unary .neg (.float .f64 l)).run Tryz.prog w= .ok (.float .f64 (bQ l)) w:=fun w=>by rw [←lJ hl];rfl
  have fn:∀x,W64 x→aU x=false→aU (bQ x)=false:=fun x hx nx=>by rw [dF,uD hx];exact dH nx
  have HK:=jH fun w=>lW (bQ h) (bQ l) w (iF hh) (iF hl) (fn _ hh nh) (fn _ hl nl)
  generalize kb (ky (bQ h))=L at*
  generalize kb (ky (bQ l))=H at*
  generalize bQ h=fh at*
  generalize bQ l=fl at*
  clear e1 nl nh hl hh fn
  go_enter Tryz.func105,Tryz.ntmps105
  obtain⟨⟨c0,c1⟩,q0,q1,q2,q3⟩:=HW.out.cells
  go_wp2_with fail
  refine(HFA.out _).mono ?_
  rintro e1 w1 ⟨rfl,hb1⟩
  replace HW:=jH (HW.out.later hb1)
  clear hb1 c0 c1 q0 q1 q2 q3
  obtain⟨⟨c0,c1⟩,q0,q1,q2,q3⟩:=HW.out.cells
  go_wp2_with fail
  refine(HK.out _).mono ?_
  rintro e2 w2 ⟨rfl,hb2⟩
  replace HW:=jH (HW.out.later hb2)
  clear hb2 c0 c1 q0 q1 q2 q3
  obtain⟨⟨c0,c1⟩,q0,q1,q2,q3⟩:=HW.out.cells
  go_wp2
  refine bodyPost_ret (v:= .agg #[.float .f64 L,.float .f64 H]) (by simp [results,Tryz.results105,go_sem,q0,q1]) rfl ⟨rfl,HW.out.stored _ _⟩
theorem aS1 {x y:Nat}(hx:W64 x) (hy:W64 y) (nx:aU x=false) (ny:aU y=false) (h1:ky x<aG) (h2:ky y<aG) (fx:aK x=false) (fy:aK y=false):aQ x=aQ y:=by
 have k1:=oJ hx nx fx
 have k2:=oJ hy ny fy
 have hi: -(aG:Int)<aG:=by decide
 cases e1:aQ x<;>cases e2:aQ y<;>rw [e1]at k1<;>rw [e2]at k2<;>simp at k1 k2<;>first|rfl|omega
theorem aR6 {x y:Nat}(hx:W64 x) (hy:W64 y) (nx:aU x=false) (ny:aU y=false) (h1: -(aG:Int)<ky x) (h2: -(aG:Int)<ky y) (fx:aK x=false) (fy:aK y=false):aQ x=aQ y:=by
 have k1:=oJ hx nx fx
 have k2:=oJ hy ny fy
 have hi: -(aG:Int)<aG:=by decide
 cases e1:aQ x<;>cases e2:aQ y<;>rw [e1]at k1<;>rw [e2]at k2<;>simp at k1 k2<;>first|rfl|omega
theorem aU7 (l h m k:Nat) (w:World) (hl:W64 l) (hh:W64 h) (hm:W64 m) (hk:W64 k):
  Calls Tryz.prog 104 #[.agg #[.float .f64 l,.float .f64 h],.agg #[.float .f64 m,.float .f64 k]] w (Gives (.agg #[.float .f64 (ivL (nM (ivK l h) (ivK m k))),.float .f64 (ivH (nM (ivK l h) (ivK m k)))]) w):=by
 have HFA:=jH fun w=>jO l h w hl hh
 have HFB:=jH fun w=>jO m k w hm hk
 have HE:=jH fun w=>oZ w
 have HD:=jH fun W=>mV W
 have HW:=jH (I3.new w l h m k)
 rcases e1:ivK l h with _|p
 ·rw [e1,Option.isSome_none]at HFA
  rw [show ivL (nM none (ivK m k))=9218868437227405312 from rfl,show ivH (nM none (ivK m k))=18442240474082181120 from rfl]
  clear e1 HFB
  go_enter Tryz.func104,Tryz.ntmps104
  obtain⟨⟨⟨c0,c1⟩,c2,c3⟩,q0,q1,q2,q3⟩:=HW.out.cells
  go_wp2_with fail
  refine(HFA.out _).mono ?_
  rintro e1 w1 ⟨rfl,hb1⟩
  replace HW:=jH (HW.out.later hb1)
  clear hb1 c0 c1 c2 c3 q0 q1 q2 q3
  obtain⟨⟨⟨c0,c1⟩,c2,c3⟩,q0,q1,q2,q3⟩:=HW.out.cells
  go_wp2_with fail
  refine(HE.out _).mono ?_
  rintro e2 w2 ⟨rfl,hb2⟩
  replace HW:=jH (HW.out.later hb2)
  clear hb2 c0 c1 c2 c3 q0 q1 q2 q3
  obtain⟨⟨⟨c0,c1⟩,c2,c3⟩,q0,q1,q2,q3⟩:=HW.out.cells
  go_wp2
  refine bodyPost_ret (v:= .agg #[.float .f64 9218868437227405312,.float .f64 18442240474082181120]) (by simp [results,Tryz.results104,go_sem,q0,q1]) rfl ⟨rfl,HW.out.stored _ _⟩
 rw [e1,Option.isSome_some]at HFA
 rcases e2:ivK m k with _|q
 ·rw [e2,Option.isSome_none]at HFB
  rw [show ivL (nM (some p) none)=9218868437227405312 from rfl,show ivH (nM (some p) none)=18442240474082181120 from rfl]
  clear e1 e2
  go_enter Tryz.func104,Tryz.ntmps104
  obtain⟨⟨⟨c0,c1⟩,c2,c3⟩,q0,q1,q2,q3⟩:=HW.out.cells
  go_wp2_with fail
  refine(HFA.out _).mono ?_
  rintro e1 w1 ⟨rfl,hb1⟩
  replace HW:=jH (HW.out.later hb1)
  clear hb1 c0 c1 c2 c3 q0 q1 q2 q3
  obtain⟨⟨⟨c0,c1⟩,c2,c3⟩,q0,q1,q2,q3⟩:=HW.out.cells
  go_wp2_with fail
  refine(HFB.out _).mono ?_
  rintro e2 w2 ⟨rfl,hb2⟩
  replace HW:=jH (HW.out.later hb2)
  clear hb2 c0 c1 c2 c3 q0 q1 q2 q3
  obtain⟨⟨⟨c0,c1⟩,c2,c3⟩,q0,q1,q2,q3⟩:=HW.out.cells
  go_wp2_with fail
  refine(HE.out _).mono ?_
  rintro e3 w3 ⟨rfl,hb3⟩
  replace HW:=jH (HW.out.later hb3)
  clear hb3 c0 c1 c2 c3 q0 q1 q2 q3
  obtain⟨⟨⟨c0,c1⟩,c2,c3⟩,q0,q1,q2,q3⟩:=HW.out.cells
  go_wp2
  refine bodyPost_ret (v:= .agg #[.float .f64 9218868437227405312,.float .f64 18442240474082181120]) (by simp [results,Tryz.results104,go_sem,q0,q1]) rfl ⟨rfl,HW.out.stored _ _⟩
 rw [e2,Option.isSome_some]at HFB
 have a1:=pK hl hh
 have a2:=pK hm hk
 rw [e1]at a1
 rw [e2]at a2
 obtain⟨nl,nh,rfl⟩:=dX e1
 obtain⟨nm,nk,rfl⟩:=dX e2
 have b1:=a1 _ _ rfl
 have b2:=a2 _ _ rfl
 clear a1 a2
 rw [show ivL (nM (some (ky l,ky h)) (some (ky m,ky k)))=kb (suK (kb (ky l)) (kb (ky m)) 4)from rfl,show ivH (nM (some (ky l,ky h)) (some (ky m,ky k)))=kb (suK (kb (ky h)) (kb (ky k)) 3)from rfl,aE2,aE2]
 have HN1:=jH fun W=>jJ l W hl nl
 have HN2:=jH fun W=>jJ m W hm nm
 have HN3:=jH fun W=>jJ h W hh nh
 have HN4:=jH fun W=>jJ k W hk nk
 have HNB:=jH fun R fl W=>qJ R fl W
 have HA1:=jH fun p q W h1 h2=>aIo l m p q 4 W hl hm nl nm (aS1 hl hm nl nm b1.2.2.2.1 b2.2.2.2.1) (.inr rfl) h1 h2
 have HA2:=jH fun p q W h1 h2=>aIo h k p q 3 W hh hk nh nk (aR6 hh hk nh nk b1.2.2.2.2 b2.2.2.2.2) (.inl rfl) h1 h2
 generalize suK l m 4=K1 at*
 generalize suK h k 3=K2 at*
 clear e1 e2 nl nh nm nk hl hh hm hk HE b1 b2
 generalize aQ l=sgl at*
 generalize bJ l=mtl at*
 generalize bT l=xpl at*
 generalize dM l=kdl at*
 generalize aQ m=sgm at*
 generalize bJ m=mtm at*
 generalize bT m=xpm at*
 generalize dM m=kdm at*
 generalize aQ h=sgh at*
 generalize bJ h=mth at*
 generalize bT h=xph at*
 generalize dM h=kdh at*
 generalize aQ k=sgk at*
 generalize bJ k=mtk at*
 generalize bT k=xpk at*
 generalize dM k=kdk at*
 unfold pI aDo at*
 unfold iJ iK at*
 go_enter Tryz.func104,Tryz.ntmps104
 obtain⟨⟨⟨c0,c1⟩,c2,c3⟩,q0,q1,q2,q3⟩:=HW.out.cells
 go_wp2_with fail
 refine(HFA.out _).mono ?_
 rintro e1 w1 ⟨rfl,hb1⟩
 replace HW:=jH (HW.out.later hb1)
 clear hb1 c0 c1 c2 c3 q0 q1 q2 q3
 obtain⟨⟨⟨c0,c1⟩,c2,c3⟩,q0,q1,q2,q3⟩:=HW.out.cells
 go_wp2_with fail
 refine(HFB.out _).mono ?_
 rintro e2 w2 ⟨rfl,hb2⟩
 replace HW:=jH (HW.out.later hb2)
 clear hb2 c0 c1 c2 c3 q0 q1 q2 q3
 obtain⟨⟨⟨c0,c1⟩,c2,c3⟩,q0,q1,q2,q3⟩:=HW.out.cells
 go_wp2_with fail
 refine(HD.out _).mono ?_
 rintro e8 w8 ⟨rfl,hb8⟩
 replace HW:=jH (HW.out.later hb8)
 clear hb8 c0 c1 c2 c3 q0 q1 q2 q3
 go_upto_region 4 with fail
 have HB:=jH ((Bks.nil w8).alloc #[.int .i64 53,.int .i64 (-1022),.int .i64 1023,.int .i64 11] 144)
 replace HW:=jH (HW.out.later HB.out.2)
 have HC:=jH (HB.out.get (.head _))
 clear HB
 generalize World.alloc w8 _=W8 at HW HC ⊢
 generalize w8.heap.size=cb at*
 refine aC (fun w':World=>(w'.cell? ⟨cb,0,none⟩=some (.int .i64 53)∧w'.cell? ⟨cb,1,none⟩=some (.int .i64 (-1022))∧w'.cell? ⟨cb,2,none⟩=some (.int .i64 1023)∧w'.cell? ⟨cb,3,none⟩=some (.int .i64 11))∧(w'.cell? ⟨w.heap.size,0,none⟩=some (.float .f64 l)∧w'.cell? ⟨w.heap.size,1,none⟩=some (.float .f64 h))∧w'.cell? ⟨w.heap.size+1,0,none⟩=some (.float .f64 m)∧w'.cell? ⟨w.heap.size+1,1,none⟩=some (.float .f64 k)) 21 (.take 0 (.take 1 (.take 2 (.take 4 (.take 5 (.take 11 (.take 12 (.take 13 (.take 15 (.take 16 (.run 3 (.run 6 (.run 7 (.take 8 (.take 9 (.run 10 (.run 14 (.run 17 (.run 18 (.take 19 (.take 20 (.nil)))))))))))))))))))))) (by kernel_rfl) (by kernel_rfl) ?_
 replace HW:=jH (HW.out.later (aB _))
 replace HC:=jH (HC.out.below (aB _))
 generalize World.drew _=W4 at HW HC ⊢
 repeat (refine tkL (v:= ?_) rfl rfl rfl (fun w' hSw=> ?_) (⟨HC.out.cells4.1,HW.out.cells.1⟩) ?_;rotate_left;(focus (go_simp;with_reducible rfl));simp only [aF])
 refine aI rfl rfl fun K' hK=> ?_
 go_simp
 refine(HN1.out _).mono ?_
 rintro e1 W4v1 ⟨q1,rfl,-,hq1,hb1⟩
 replace HW:=jH (HW.out.later hb1)
 replace HC:=jH (HC.out.below hb1)
 have HQ1:=jH hq1
 clear hq1
 refine hK _ _ ⟨HC.out.cells4.1,HW.out.cells.1⟩ ?_
 clear hK K' hb1
 try simp only [Act.put,aF]
 repeat (refine tkL (v:= ?_) rfl rfl rfl (fun w' hSw=> ?_) (⟨HC.out.cells4.1,HW.out.cells.1⟩) ?_;rotate_left;(focus (go_simp;with_reducible rfl));simp only [aF])
 refine aI rfl rfl fun K' hK=> ?_
 go_simp
 refine(HN2.out _).mono ?_
 rintro e1 W4v2 ⟨q2,rfl,-,hq2,hb1⟩
 replace HW:=jH (HW.out.later hb1)
 replace HC:=jH (HC.out.below hb1)
 have HQ2:=jH hq2
 clear hq2
 replace HQ1:=jH (HQ1.out.below hb1)
 refine hK _ _ ⟨HC.out.cells4.1,HW.out.cells.1⟩ ?_
 clear hK K' hb1
 try simp only [Act.put,aF]
 repeat (refine tkL (v:= ?_) rfl rfl rfl (fun w' hSw=> ?_) (⟨HC.out.cells4.1,HW.out.cells.1⟩) ?_;rotate_left;(focus (go_simp;with_reducible rfl));simp only [aF])
 refine aI rfl rfl fun K' hK=> ?_
 go_simp
 refine(HA1.out q1 q2 _ HQ1.out HQ2.out).mono ?_
 rintro e1 W4v3 ⟨R1,fl1,rfl,a1,a2,a3,hb1⟩
 replace HW:=jH (HW.out.later hb1)
 replace HC:=jH (HC.out.below hb1)
 have HJ1:=jH (And.intro a1 (And.intro a2 a3))
 clear a1 a2 a3
 clear HQ1 HQ2
 refine hK _ _ ⟨HC.out.cells4.1,HW.out.cells.1⟩ ?_
 clear hK K' hb1
 try simp only [Act.put,aF]
 repeat (refine tkL (v:= ?_) rfl rfl rfl (fun w' hSw=> ?_) (⟨HC.out.cells4.1,HW.out.cells.1⟩) ?_;rotate_left;(focus (go_simp;with_reducible rfl));simp only [aF])
 refine aI rfl rfl fun K' hK=> ?_
 go_simp
 refine(HNB.out R1 fl1 _).mono ?_
 rintro e1 W4v4 ⟨rfl,hb1⟩
 replace HW:=jH (HW.out.later hb1)
 replace HC:=jH (HC.out.below hb1)
 refine hK _ _ ⟨HC.out.cells4.1,HW.out.cells.1⟩ ?_
 clear hK K' hb1
 try simp only [Act.put,aF]
 repeat (refine tkL (v:= ?_) rfl rfl rfl (fun w' hSw=> ?_) (⟨HC.out.cells4.1,HW.out.cells.1⟩) ?_;rotate_left;(focus (go_simp;with_reducible rfl));simp only [aF])
 refine aI rfl rfl fun K' hK=> ?_
 go_simp
 refine(HN3.out _).mono ?_
 rintro e1 W4v5 ⟨q3,rfl,-,hq3,hb1⟩
 replace HW:=jH (HW.out.later hb1)
 replace HC:=jH (HC.out.below hb1)
 have HQ3:=jH hq3
 clear hq3
 refine hK _ _ ⟨HC.out.cells4.1,HW.out.cells.1⟩ ?_
 clear hK K' hb1
 try simp only [Act.put,aF]
 repeat (refine tkL (v:= ?_) rfl rfl rfl (fun w' hSw=> ?_) (⟨HC.out.cells4.1,HW.out.cells.1⟩) ?_;rotate_left;(focus (go_simp;with_reducible rfl));simp only [aF])
 refine aI rfl rfl fun K' hK=> ?_
 go_simp
 refine(HN4.out _).mono ?_
 rintro e1 W4v6 ⟨q4,rfl,-,hq4,hb1⟩
 replace HW:=jH (HW.out.later hb1)
 replace HC:=jH (HC.out.below hb1)
 have HQ4:=jH hq4
 clear hq4
 replace HQ3:=jH (HQ3.out.below hb1)
 refine hK _ _ ⟨HC.out.cells4.1,HW.out.cells.1⟩ ?_
 clear hK K' hb1
 try simp only [Act.put,aF]
 repeat (refine tkL (v:= ?_) rfl rfl rfl (fun w' hSw=> ?_) (⟨HC.out.cells4.1,HW.out.cells.1⟩) ?_;rotate_left;(focus (go_simp;with_reducible rfl));simp only [aF])
 refine aI rfl rfl fun K' hK=> ?_
 go_simp
 refine(HA2.out q3 q4 _ HQ3.out HQ4.out).mono ?_
 rintro e1 W4v7 ⟨R2,fl2,rfl,a1,a2,a3,hb1⟩
 replace HW:=jH (HW.out.later hb1)
 replace HC:=jH (HC.out.below hb1)
 have HJ2:=jH (And.intro a1 (And.intro a2 a3))
 clear a1 a2 a3
 clear HQ3 HQ4
 refine hK _ _ ⟨HC.out.cells4.1,HW.out.cells.1⟩ ?_
 clear hK K' hb1
 try simp only [Act.put,aF]
 repeat (refine tkL (v:= ?_) rfl rfl rfl (fun w' hSw=> ?_) (⟨HC.out.cells4.1,HW.out.cells.1⟩) ?_;rotate_left;(focus (go_simp;with_reducible rfl));simp only [aF])
 refine aN ?_
 simp only [drL]
 obtain⟨⟨⟨c0,c1⟩,c2,c3⟩,q0,q1,q2,q3⟩:=HW.out.cells
 go_wp2_with fail
 refine(HNB.out R2 fl2 _).mono ?_
 rintro e9 w9 ⟨rfl,hb9⟩
 replace HW:=jH (HW.out.later hb9)
 clear hb9 c0 c1 c2 c3 q0 q1 q2 q3
 obtain⟨⟨⟨c0,c1⟩,c2,c3⟩,q0,q1,q2,q3⟩:=HW.out.cells
 have HMK:=jH fun W=>lW R1 R2 W HJ1.out.1 HJ2.out.1 HJ1.out.2.1 HJ2.out.2.1
 rw [HJ1.out.2.2,HJ2.out.2.2]at HMK
 generalize kb K1=L at*
 generalize kb K2=H at*
 clear HJ1 HJ2
 go_wp2_with fail
 refine(HMK.out _).mono ?_
 rintro e10 w10 ⟨rfl,hb10⟩
 replace HW:=jH (HW.out.later hb10)
 clear hb10 c0 c1 c2 c3 q0 q1 q2 q3
 obtain⟨⟨⟨c0,c1⟩,c2,c3⟩,q0,q1,q2,q3⟩:=HW.out.cells
 go_wp2
 refine bodyPost_ret (v:= .agg #[.float .f64 L,.float .f64 H]) (by simp [results,Tryz.results104,go_sem,q0,q1]) rfl ⟨rfl,HW.out.stored _ _⟩
theorem aS7 (l h m k:Nat) (w:World) (hl:W64 l) (hh:W64 h) (hm:W64 m) (hk:W64 k):
  Calls Tryz.prog 52 #[.agg #[.float .f64 l,.float .f64 h],.agg #[.float .f64 m,.float .f64 k]] w (Gives (.agg #[.float .f64 (ivL (aGf (ivK l h) (ivK m k))),.float .f64 (ivH (aGf (ivK l h) (ivK m k)))]) w):=by
 have HNG:=jH fun w=>aKu m k w hm hk
 have hok:=yN (pK hm hk)
 have HAD:=jH fun W=>aU7 l h _ _ W hl hh (qU hok) (qV hok)
 rw [oU hok]at HAD
 have HW:=jH (I3.new w l h m k)
 rw [show aGf (ivK l h) (ivK m k)=nM (ivK l h) (kW (ivK m k))from rfl]
 generalize ivL (nM (ivK l h) (kW (ivK m k)))=L at*
 generalize ivH (nM (ivK l h) (kW (ivK m k)))=H at*
 generalize ivL (kW (ivK m k))=nm at*
 generalize ivH (kW (ivK m k))=nk at*
 clear hl hh hm hk hok
 go_enter Tryz.func52,Tryz.ntmps52
 go_wp2
 refine aC (fun w':World=>(w'.cell? ⟨w.heap.size,0,none⟩=some (.float .f64 l)∧w'.cell? ⟨w.heap.size,1,none⟩=some (.float .f64 h))∧w'.cell? ⟨w.heap.size+1,0,none⟩=some (.float .f64 m)∧w'.cell? ⟨w.heap.size+1,1,none⟩=some (.float .f64 k)) 3 (.take 0 (.take 1 (.run 2 (.nil)))) (by kernel_rfl) (by kernel_rfl) ?_
 replace HW:=jH (HW.out.later (aB _))
 generalize World.drew _=W0 at HW ⊢
 repeat (refine tkL (v:= ?_) rfl rfl rfl (fun w' hSw=> ?_) HW.out.cells.1 ?_;rotate_left;(focus (go_simp;with_reducible rfl));simp only [aF])
 refine aI rfl rfl fun K' hK=> ?_
 go_simp
 refine(HNG.out _).mono ?_
 rintro e1 W0v1 ⟨rfl,hb1⟩
 replace HW:=jH (HW.out.later hb1)
 refine hK _ _ HW.out.cells.1 ?_
 clear hK K' hb1
 try simp only [Act.put,aF]
 repeat (refine tkL (v:= ?_) rfl rfl rfl (fun w' hSw=> ?_) HW.out.cells.1 ?_;rotate_left;(focus (go_simp;with_reducible rfl));simp only [aF])
 refine aN ?_
 simp only [drL]
 obtain⟨⟨⟨c0,c1⟩,c2,c3⟩,q0,q1,q2,q3⟩:=HW.out.cells
 go_wp2_with fail
 refine(HAD.out _).mono ?_
 rintro e9 w9 ⟨rfl,hb9⟩
 replace HW:=jH (HW.out.later hb9)
 clear hb9 c0 c1 c2 c3 q0 q1 q2 q3
 obtain⟨⟨⟨c0,c1⟩,c2,c3⟩,q0,q1,q2,q3⟩:=HW.out.cells
 go_wp2
 refine bodyPost_ret (v:= .agg #[.float .f64 L,.float .f64 H]) (by simp [results,Tryz.results52,go_sem,q0,q1]) rfl ⟨rfl,HW.out.stored _ _⟩
theorem kV (x y:Nat) (mode:Int) (w:World) (hx:W64 x) (hy:W64 y) (nx:aU x=false) (ny:aU y=false) (hmode:mode=3∨mode=4):Calls Tryz.prog 109 #[.float .f64 x,.float .f64 y,.int .i64 mode] w (eX (prK x y mode) w):=by
 have t1:=eq_test hx (by decide:W64 0) nx (by decide)
 have t2:=eq_test hy (by decide:W64 0) ny (by decide)
 rw [dW]at t1 t2
 have HB:=jH (Below.refl w.heap.size w)
 by_cases x0:ky x=0
 ·rw [qY mode (.inl x0)]
  rw [decide_eq_true x0]at t1
  clear hx hy nx ny hmode x0 t2
  go_enter Tryz.func109,Tryz.ntmps109
  go_wp2
  go_ret
  exact⟨0,rfl,by decide,by decide,by decide,HB.out⟩
 rw [decide_eq_false x0]at t1
 by_cases y0:ky y=0
 ·rw [qY mode (.inr y0)]
  rw [decide_eq_true y0]at t2
  clear hx hy nx ny hmode x0 y0
  go_enter Tryz.func109,Tryz.ntmps109
  go_wp2
  go_ret
  exact⟨0,rfl,by decide,by decide,by decide,HB.out⟩
 rw [decide_eq_false y0]at t2
 have HD:=jH fun W=>mV W
 have HN1:=jH fun W=>jJ x W hx nx
 have HN2:=jH fun W=>jJ y W hy ny
 have HNB:=jH fun R fl W=>qJ R fl W
 have HM:=jH fun p q W h1 h2=>aR1 x y p q mode W hx hy x0 y0 hmode h1 h2
 generalize prK x y mode=KK at*
 clear hx hy nx ny hmode x0 y0
 generalize aQ x=sgx at*
 generalize bJ x=mtx at*
 generalize bT x=xpx at*
 generalize dM x=kdx at*
 generalize aQ y=sgy at*
 generalize bJ y=mty at*
 generalize bT y=xpy at*
 generalize dM y=kdy at*
 unfold pI aDo at*
 unfold iJ iK at*
 go_enter Tryz.func109,Tryz.ntmps109
 go_wp2_with fail
 refine(HD.out _).mono ?_
 rintro e2 w2 ⟨rfl,hb2⟩
 replace HB:=jH (HB.out.trans (hb2.mono HB.out.size))
 clear hb2
 go_wp2_with fail
 refine(HN1.out _).mono ?_
 rintro e3 w3 ⟨q1,rfl,-,hq1,hb3⟩
 replace HB:=jH (HB.out.trans (hb3.mono HB.out.size))
 have HQ1:=jH hq1
 clear hq1
 clear hb3
 go_wp2_with fail
 refine(HN2.out _).mono ?_
 rintro e4 w4 ⟨q2,rfl,-,hq2,hb4⟩
 replace HB:=jH (HB.out.trans (hb4.mono HB.out.size))
 have HQ2:=jH hq2
 clear hq2
 replace HQ1:=jH (HQ1.out.below hb4)
 clear hb4
 go_wp2_with fail
 refine(HM.out q1 q2 _ HQ1.out HQ2.out).mono ?_
 rintro e5 w5 ⟨R,fl,rfl,a1,a2,a3,hb5⟩
 replace HB:=jH (HB.out.trans (hb5.mono HB.out.size))
 have HJ:=jH (And.intro a1 (And.intro a2 a3))
 clear a1 a2 a3
 clear hb5
 go_wp2_with fail
 refine(HNB.out R fl _).mono ?_
 rintro e6 w6 ⟨rfl,hb6⟩
 replace HB:=jH (HB.out.trans (hb6.mono HB.out.size))
 clear hb6
 go_wp2
 go_ret
 exact⟨R,rfl,HJ.out.1,HJ.out.2.1,HJ.out.2.2,HB.out⟩
theorem aG9 (x y:Nat) (mode:Int) (w:World) (hx:W64 x) (hy:W64 y) (nx:aU x=false) (ny:aU y=false) (hmode:mode=3∨mode=4) (y0:ky y≠0):Calls Tryz.prog 142 #[.float .f64 x,.float .f64 y,.int .i64 mode] w (eX (quK x y mode) w):=by
 have t1:=eq_test hx (by decide:W64 0) nx (by decide)
 rw [dW]at t1
 have HB:=jH (Below.refl w.heap.size w)
 have HI:=jH fun W=>aPs y W hy ny
 unfold quK
 by_cases x0:ky x=0
 ·rw [if_pos (.inl x0)]
  rw [decide_eq_true x0]at t1
  clear hx hy nx ny hmode x0 y0 HI
  go_enter Tryz.func142,Tryz.ntmps142
  go_wp2
  go_ret
  exact⟨0,rfl,by decide,by decide,by decide,HB.out⟩
 rw [decide_eq_false x0]at t1
 cases fy:aK y
 ·rw [if_pos (.inr rfl)]
  rw [fy,Bool.not_false]at HI
  clear hx hy nx ny hmode x0 y0 fy
  go_enter Tryz.func142,Tryz.ntmps142
  go_wp2_with fail
  refine(HI.out _).mono ?_
  rintro e1 w1 ⟨rfl,hb1⟩
  replace HB:=jH (HB.out.trans (hb1.mono HB.out.size))
  clear hb1
  go_wp2
  go_ret
  exact⟨0,rfl,by decide,by decide,by decide,HB.out⟩
 rw [fy,Bool.not_true]at HI
 have HM:=jH fun p q W h1 h2=>aCn x y p q mode W hx hy fy x0 y0 hmode h1 h2
 unfold quK at HM
 rw [fy]at HM
 have HD:=jH fun W=>mV W
 have HN1:=jH fun W=>jJ x W hx nx
 have HN2:=jH fun W=>jJ y W hy ny
 have HNB:=jH fun R fl W=>qJ R fl W
 generalize (if ky x=0∨true=false then(0:Int)else if aK x=false then sgK x y else dvK x y mode)=KK at*
 clear hx hy nx ny hmode x0 y0 fy
 generalize aQ x=sgx at*
 generalize bJ x=mtx at*
 generalize bT x=xpx at*
 generalize dM x=kdx at*
 generalize aQ y=sgy at*
 generalize bJ y=mty at*
 generalize bT y=xpy at*
 generalize dM y=kdy at*
 unfold pI aDo at*
 unfold iJ iK at*
 go_enter Tryz.func142,Tryz.ntmps142
 go_wp2_with fail
 refine(HI.out _).mono ?_
 rintro e1 w1 ⟨rfl,hb1⟩
 replace HB:=jH (HB.out.trans (hb1.mono HB.out.size))
 clear hb1
 go_wp2_with fail
 refine(HD.out _).mono ?_
 rintro e2 w2 ⟨rfl,hb2⟩
 replace HB:=jH (HB.out.trans (hb2.mono HB.out.size))
 clear hb2
 go_wp2_with fail
 refine(HN1.out _).mono ?_
 rintro e3 w3 ⟨q1,rfl,-,hq1,hb3⟩
 replace HB:=jH (HB.out.trans (hb3.mono HB.out.size))
 have HQ1:=jH hq1
 clear hq1
 clear hb3
 go_wp2_with fail
 refine(HN2.out _).mono ?_
 rintro e4 w4 ⟨q2,rfl,-,hq2,hb4⟩
 replace HB:=jH (HB.out.trans (hb4.mono HB.out.size))
 have HQ2:=jH hq2
 clear hq2
 replace HQ1:=jH (HQ1.out.below hb4)
 clear hb4
 go_wp2_with fail
 refine(HM.out q1 q2 _ HQ1.out HQ2.out).mono ?_
 rintro e5 w5 ⟨R,fl,rfl,a1,a2,a3,hb5⟩
 replace HB:=jH (HB.out.trans (hb5.mono HB.out.size))
 have HJ:=jH (And.intro a1 (And.intro a2 a3))
 clear a1 a2 a3
 clear hb5
 go_wp2_with fail
 refine(HNB.out R fl _).mono ?_
 rintro e6 w6 ⟨rfl,hb6⟩
 replace HB:=jH (HB.out.trans (hb6.mono HB.out.size))
 clear hb6
 go_wp2
 go_ret
 exact⟨R,rfl,HJ.out.1,HJ.out.2.1,HJ.out.2.2,HB.out⟩
end
end Go.Proofs.YtfmecpembnmnkaaGreatDoor
