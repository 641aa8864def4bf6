/- Plain: the sum of two numbers and what is lost of it, whichever is the greater (Knuth's six steps). No program. -/
import Derived.Test.YtfmecpembnmnkaaGreatDoorPBD
import Derived.Test.YtfmecpembnmnkaaGreatDoorPGX
namespace Go.Proofs.YtfmecpembnmnkaaGreatDoor
section
open Go.RowKit
theorem fJ.near {x y:Int}(hx:fJ x) (hy:fJ y) (h1:(x-y).natAbs≤x.natAbs) (h2:(x-y).natAbs≤y.natAbs):fJ (x-y):=by
 obtain⟨m,i,rfl,hm⟩:=hx
 obtain⟨n,j,rfl,hn⟩:=hy
 have e1:(m*2^i).natAbs=m.natAbs*2^i:=by rw [Int.natAbs_mul,Int.natAbs_pow];rfl
 have e2:(n*2^j).natAbs=n.natAbs*2^j:=by rw [Int.natAbs_mul,Int.natAbs_pow];rfl
 by_cases hij:i≤j
 ·refine iW (j:=i) (Int.dvd_sub (Int.dvd_mul_left _ _) (Int.dvd_trans ?_ (Int.dvd_mul_left _ _))) (Nat.le_trans h1 (by rw [e1];exact Nat.mul_le_mul_right _ hm))
  exact⟨2^(j-i),by rw [←Int.pow_add];congr 1;omega⟩
 ·refine iW (j:=j) (Int.dvd_sub (Int.dvd_trans ?_ (Int.dvd_mul_left _ _)) (Int.dvd_mul_left _ _)) (Nat.le_trans h2 (by rw [e2];exact Nat.mul_le_mul_right _ hn))
  exact⟨2^(i-j),by rw [←Int.pow_add];congr 1;omega⟩
theorem two_sum {a b s t p d f r:Int}(ha:fJ a) (hb:fJ b) (hs:iU (a+b) s) (ht:iU (s-a) t) (hp:iU (s-t) p) (hd:iU (a-p) d) (hf:iU (b-t) f) (hr:iU (d+f) r):r=a+b-s:=by
 have hu:=hs.ulp
 by_cases hab:b.natAbs≤a.natAbs
 ·obtain⟨h1,h2⟩:=aCg ha hb hab hs
  have e1:=ht.self h1
  have e2:=hp.self (by rw [e1,show s-(s-a)=a by omega];exact ha)
  have e4:=hd.self (by rw [e2,e1,show a-(s-(s-a))=0 by omega];exact fJ.zero)
  have e5:=hf.self (by rw [e1,show b-(s-a)=a+b-s by omega];exact h2)
  have e6:=hr.self (by rw [e4,e5,show a-p+(b-t)=a+b-s by omega];exact h2)
  omega
 ·have hs':iU (b+a) s:=by rw [Int.add_comm];exact hs
  obtain⟨h1,h2⟩:=aCg hb ha (by omega) hs'
  by_cases has:a.natAbs≤s.natAbs
  ·have ht':iU (s+ -a) t:=by rw [←Int.sub_eq_add_neg];exact ht
   obtain⟨h3,h4⟩:=aCg hs.1 ha.neg (by rw [Int.natAbs_neg];exact has) ht'
   have e2:=hp.self (by rw [show s-t= -(t-s) by omega];exact h3.neg)
   have e4:=hd.self (by rw [e2,show a-(s-t)= -(s+ -a-t) by omega];exact h4.neg)
   have h5:=ht.2 b hb
   have e5:=hf.self (hb.near ht.1 (by omega) (by omega))
   have e6:=hr.self (by rw [e4,e5,e2,show a-(s-t)+(b-t)=b+a-s by omega];exact h2)
   omega
  ·have h3:=hs.2 a ha
   have h4:=hs.2 (-a) ha.neg
   have h5:fJ (a+b):=by
    have:=hb.near ha.neg (by omega) (by omega)
    rw [show a+b=b- -a by omega];exact this
   have e0:=hs.self h5
   have e1:=ht.self (by rw [e0,show a+b-a=b by omega];exact hb)
   have e2:=hp.self (by rw [e1,e0,show a+b-(a+b-a)=a by omega];exact ha)
   have e4:=hd.self (by rw [e2,e1,show a-(s-(s-a))=0 by omega];exact fJ.zero)
   have e5:=hf.self (by rw [e1,e0,show b-(a+b-a)=0 by omega];exact fJ.zero)
   have e6:=hr.self (by rw [e4,e5,e2,e1,e0,show a-(a+b-(a+b-a))+(b-(a+b-a))=0 by omega];exact fJ.zero)
   omega
theorem iU.dbl {x r:Int}(h:iU x r):r.natAbs≤2*x.natAbs:=by
 have:=h.ulp
 omega
theorem aR4 {x y:Nat}(k j:Nat) (hx:x<18446744073709551616) (hy:y<18446744073709551616) (fx:aK x=true) (fy:aK y=true) (bx:(fI x).natAbs<k*unU) (bY:(fI y).natAbs<j*unU) (hk:k+j≤18014398509481983):
  ∃r,F6.add x y=some r∧r<18446744073709551616∧aK r=true∧iU (fI x+fI y) (fI r)∧(fI r).natAbs<2*(k+j)*unU:=by
 have h1:(fI x+fI y).natAbs<(k+j)*unU:=by rw [Nat.add_mul];omega
 obtain⟨r,h2,h3,h4,h5⟩:=aG4 hx hy fx fy (Nat.lt_of_lt_of_le h1 (Nat.mul_le_mul_right _ hk))
 refine⟨r,h2,h3,h4,h5,?_⟩
 have:=h5.dbl
 rw [Nat.mul_assoc];omega
theorem aFk {x y:Nat}(k j:Nat) (hx:x<18446744073709551616) (hy:y<18446744073709551616) (fx:aK x=true) (fy:aK y=true) (bx:(fI x).natAbs<k*unU) (bY:(fI y).natAbs<j*unU) (hk:k+j≤18014398509481983):
  ∃r,F6.sub x y=some r∧r<18446744073709551616∧aK r=true∧iU (fI x-fI y) (fI r)∧(fI r).natAbs<2*(k+j)*unU:=by
 have h1:(fI x-fI y).natAbs<(k+j)*unU:=by rw [Nat.add_mul];omega
 obtain⟨r,h2,h3,h4,h5⟩:=aO4 hx hy fx fy (Nat.lt_of_lt_of_le h1 (Nat.mul_le_mul_right _ hk))
 refine⟨r,h2,h3,h4,h5,?_⟩
 have:=h5.dbl
 rw [Nat.mul_assoc];omega
theorem aNn {x y s:Nat}(hx:x<18446744073709551616) (hy:y<18446744073709551616) (fx:aK x=true) (fy:aK y=true)
  (bx:(fI x).natAbs<1073741824*unU) (bY:(fI y).natAbs<1073741824*unU) (hs:F6.add x y=some s):
  ∃t p d f r,F6.sub s x=some t∧F6.sub s t=some p∧F6.sub x p=some d∧F6.sub y t=some f∧F6.add d f=some r∧
   (s<18446744073709551616∧aK s=true∧iU (fI x+fI y) (fI s))∧r<18446744073709551616∧aK r=true∧fI r=fI x+fI y-fI s:=by
 obtain⟨s',hs',hsl,fs,ns,bs⟩:=aR4 _ _ hx hy fx fy bx bY (by decide)
 obtain rfl:s=s':=by rw [hs]at hs';exact Option.some.inj hs'
 obtain⟨t,ht,htl,ft,nt,bt⟩:=aFk _ _ hsl hx fs fx bs bx (by decide)
 obtain⟨p,hp,hpl,fp,np,bp⟩:=aFk _ _ hsl htl fs ft bs bt (by decide)
 obtain⟨d,hd,hdl,fd,nd,bd⟩:=aFk _ _ hx hpl fx fp bx bp (by decide)
 obtain⟨f,hf,hfl,ff,nf,bf⟩:=aFk _ _ hy htl fy ft bY bt (by decide)
 obtain⟨r,hr,hrl,fr,nr,-⟩:=aR4 _ _ hdl hfl fd ff bd bf (by decide)
 exact⟨t,p,d,f,r,ht,hp,hd,hf,hr,⟨hsl,fs,ns⟩,hrl,fr,two_sum (aJo fx) (aJo fy) ns nt np nd nf nr⟩
end
section
open Go.RowKit
def vI (M:Int) (b:Nat):Int:=sc M (aO b) (pE b)
theorem vS {b:Nat}(hf:aK b=true):b%aH≤aG:=by
 have:=jC hf
 unfold aU at this
 have:=of_decide_eq_false this
 omega
theorem kQ {b:Nat}(h:b<18446744073709551616) (hn:b%aH≤aG): -(aG:Int)≤ky b∧ky b≤aG:=by
 rw [lT h];split<;>omega
theorem gW {b:Nat}(h:b<18446744073709551616) (hn:b%aH≤aG):aK b=true↔-(aG:Int)<ky b∧ky b<aG:=by
 rw [lT h]
 have hk:aG≠0:=by decide
 rcases jI hn with ⟨h1,h2⟩|⟨h1,h2⟩<;>rw [h1]<;>split<;>simp<;>omega
theorem pU {a b:Nat}{M:Int}(ha:a<18446744073709551616) (hb:b<18446744073709551616) (fa:aK a=true) (fb:aK b=true) (hM:1074≤M):ky a<ky b↔vI M a<vI M b:=by
 unfold vI
 rw [nS ha fa hM,nS hb fb hM,lT ha,lT hb]
 have hp:(0:Int)<2^(M-1074).toNat:=Int.pow_pos (by decide)
 rw [Int.mul_lt_mul_right hp]
 have h1:=qW (a:=a%aH) (b:=b%aH)
 have h2:=qW (a:=b%aH) (b:=a%aH)
 have h3:=aFv (a:=a%aH)
 have h4:=aFv (a:=b%aH)
 split<;>split<;>omega
theorem iG {a b:Nat}{M:Int}(ha:a<18446744073709551616) (hb:b<18446744073709551616) (fa:aK a=true) (fb:aK b=true) (hM:1074≤M):ky a≤ky b↔vI M a≤vI M b:=by
 have:=pU hb ha fb fa hM
 omega
theorem mJ (M:Int):vI M 0=0:=by unfold vI;rw [show aO 0=0 by decide,fM]
theorem aF1 {M:Int}{b:Nat}(h:b<18446744073709551616) (hf:aK b=true) (hM:1074≤M):vI M (bQ b)= -vI M b:=by
 obtain⟨h1,h2,h3⟩:=xB h
 unfold vI
 rw [←kY hf hM,←kY (by rw [jW];exact hf) hM,←aB9]
 unfold kZ
 rw [h1,h2,h3]
 cases aQ b
 ·rw [if_pos (by rfl),if_neg (by decide)]
 ·rw [if_neg (by decide),if_pos rfl,Int.neg_neg]
theorem aPg {c:Nat}(hc:c<18446744073709551616) (fc:aK c=true) (mode:Int):ky (aV (aO c) (pE c) mode)=ky c:=by
 unfold aV
 split
 ·rename_i h0
  have h1:vI 1074 c=vI 1074 0:=by rw [mJ];unfold vI;rw [h0,fM]
  have h2:=iG (M:=1074) hc (by decide:0<18446744073709551616) fc (by decide) (by decide)
  have h3:=iG (M:=1074) (by decide:0<18446744073709551616) hc (by decide) fc (by decide)
  omega
 ·rename_i h0
  rw [aL5 hc fc h0]
theorem bU (z e mode:Int):aV z e mode<18446744073709551616∧aV z e mode%aH≤aG:=by
 unfold aV
 split
 ·decide
 ·rename_i h;exact aRl mode (.inl h)
theorem aGl (z e:Int):hvZ z≠0∨nrE z e=0:=by
 by_cases h:z=0
 ·exact .inr (if_pos h)
 ·exact .inl (aJg h)
theorem pV {M z e y f:Int}(mode:Int) (hM:0≤M) (h1:0≤e+M) (h2:0≤f+M) (h:sc M z e≤sc M y f):ky (aV z e mode)≤ky (aV y f mode):=by
 rw [←lK,←lK]
 exact aOs mode (uZ hM h1) (uZ hM h2) (aGl z e) (aGl y f) (by rw [aAz h1,aAz h2];exact h)
theorem kC (z e:Int):ky (aV z e 4)≤ky (aV z e 3)∧ky (aV z e 3)≤ky (aV z e 4)+1∧ky (aV z e 4)<aG∧-(aG:Int)≤ky (aV z e 4):=by
 rw [←lK,←lK]
 exact aS6 (aGl z e)
theorem iH (z e:Int): -(aG:Int)<ky (aV z e 3):=by
 unfold aV
 split
 ·decide
 ·rename_i h
  rw [xK h]
  split
  ·rename_i hs
   rw [decide_eq_true hs,show kD true 3=true from rfl]
   have:jB true (wdN z e 3)<aG:=by
    have hk:aG≠0:=by decide
    unfold jB;rw [if_pos rfl];split<;>omega
   omega
  ·have hk:0<aG:=by decide
   omega
theorem nN {M z e:Int}(hM:1074≤M) (h1:0≤e+M) (hf:aK (aV z e 4)=true):vI M (aV z e 4)≤sc M z e:=by
 unfold vI
 rw [←lK]at*
 have:=aTt hM (uZ (by omega) h1) (aGl z e) hf
 rwa [aAz h1]at this
theorem sG {M z e:Int}(hM:1074≤M) (h1:0≤e+M) (hf:aK (aV z e 3)=true):sc M z e≤vI M (aV z e 3):=by
 unfold vI
 rw [←lK]at*
 have:=aX1 hM (uZ (by omega) h1) (aGl z e) hf
 rwa [aAz h1]at this
theorem vN {M z e:Int}{c:Nat}(mode:Int) (hM:1074≤M) (h1:0≤e+M) (hc:c<18446744073709551616) (fc:aK c=true) (h:vI M c≤sc M z e):ky c≤ky (aV z e mode):=by
 have hp:=gV fc
 rw [←aPg hc fc mode]
 exact pV (M:=M) mode (by omega) (by omega) h1 h
theorem vO {M z e:Int}{c:Nat}(mode:Int) (hM:1074≤M) (h1:0≤e+M) (hc:c<18446744073709551616) (fc:aK c=true) (h:sc M z e≤vI M c):ky (aV z e mode)≤ky c:=by
 have hp:=gV fc
 rw [←aPg hc fc mode]
 exact pV (M:=M) mode (by omega) h1 (by omega) h
theorem aCm {M z e:Int}(hM:1074≤M) (h1:0≤e+M):ky (aV z e 4)≤ky (aV z e 0):=by
 obtain⟨l4,n4⟩:=bU z e 4
 obtain⟨l0,n0⟩:=bU z e 0
 cases hf:aK (aV z e 4)
 ·have h3:=gW l4 n4
  have h4:=kC z e
  have h5:=kQ l0 n0
  rw [hf]at h3
  have h6:¬(-(aG:Int)<ky (aV z e 4)∧ky (aV z e 4)<aG):=fun h=>by have:=h3.2 h;cases this
  omega
 ·exact vN 0 hM h1 l4 hf (nN hM h1 hf)
theorem aCe {M z e:Int}(hM:1074≤M) (h1:0≤e+M):ky (aV z e 0)≤ky (aV z e 3):=by
 obtain⟨l3,n3⟩:=bU z e 3
 obtain⟨l0,n0⟩:=bU z e 0
 cases hf:aK (aV z e 3)
 ·have h3:=gW l3 n3
  have h4:=iH z e
  have h5:=kQ l0 n0
  have h7:=kQ l3 n3
  rw [hf]at h3
  have h6:¬(-(aG:Int)<ky (aV z e 3)∧ky (aV z e 3)<aG):=fun h=>by have:=h3.2 h;cases this
  omega
 ·exact vO 0 hM h1 l3 hf (sG hM h1 hf)
theorem aTs {M z e:Int}(hM:1074≤M) (h1:0≤e+M) (hf:aK (aV z e 0)=true):
  (sc M z e≤vI M (aV z e 0)→ky (aV z e 3)=ky (aV z e 0))∧(vI M (aV z e 0)<sc M z e→ky (aV z e 3)=ky (aV z e 0)+1):=by
 obtain⟨l0,n0⟩:=bU z e 0
 obtain⟨l3,n3⟩:=bU z e 3
 have h2:=aCe (z:=z) (e:=e) hM h1
 have h3:=aCm (z:=z) (e:=e) hM h1
 have h4:=kC z e
 refine⟨fun h=> ?_,fun h=> ?_⟩
 ·have:=vO 3 hM h1 l0 hf h;omega
 ·cases h5:aK (aV z e 3)
  ·have h6:=gW l3 n3
   have h7:=(gW l0 n0).1 hf
   have h8:=iH z e
   rw [h5]at h6
   have h9:¬(-(aG:Int)<ky (aV z e 3)∧ky (aV z e 3)<aG):=fun h=>by have:=h6.2 h;cases this
   omega
  ·have h6:=sG hM h1 h5
   have h7:=(pU l0 l3 hf h5 hM).2 (by omega)
   omega
theorem aOj {M z e:Int}(hM:1074≤M) (h1:0≤e+M) (hf:aK (aV z e 0)=true):
  (vI M (aV z e 0)≤sc M z e→ky (aV z e 4)=ky (aV z e 0))∧(sc M z e<vI M (aV z e 0)→ky (aV z e 4)=ky (aV z e 0)-1):=by
 obtain⟨l0,n0⟩:=bU z e 0
 obtain⟨l4,n4⟩:=bU z e 4
 have h2:=aCe (z:=z) (e:=e) hM h1
 have h3:=aCm (z:=z) (e:=e) hM h1
 have h4:=kC z e
 refine⟨fun h=> ?_,fun h=> ?_⟩
 ·have:=vN 4 hM h1 l0 hf h;omega
 ·cases h5:aK (aV z e 4)
  ·have h6:=gW l4 n4
   have h7:=(gW l0 n0).1 hf
   rw [h5]at h6
   have h9:¬(-(aG:Int)<ky (aV z e 4)∧ky (aV z e 4)<aG):=fun h=>by have:=h6.2 h;cases this
   omega
  ·have h6:=nN hM h1 h5
   have h7:=(pU l4 l0 h5 hf hM).2 (by omega)
   omega
def kb (k:Int):Nat:=if k<0 then aH+k.natAbs else k.natAbs
theorem jY {k:Int}(h1: -(aG:Int)≤k) (h2:k≤aG):kb k<18446744073709551616∧kb k%aH≤aG∧ky (kb k)=k:=by
 have hk:=lX
 have hs:aH=9223372036854775808:=rfl
 have hi:aG=9218868437227405312:=rfl
 unfold kb
 split
 ·refine⟨by omega,by rw [Nat.add_mod_left,Nat.mod_eq_of_lt (by omega)];omega,?_⟩
  unfold ky;rw [if_neg (by omega)];omega
 ·refine⟨by omega,by rw [Nat.mod_eq_of_lt (by omega)];omega,?_⟩
  unfold ky;rw [if_pos (by omega)];omega
theorem aQ5 {b:Nat}(h0:b≠aH):kb (ky b)=b:=by
 unfold kb ky
 split
 ·rw [if_neg (by omega)];omega
 ·rw [if_pos (by omega)];omega
theorem aLa :kb 0=0:=by decide
theorem lN {b:Nat}(h:b<18446744073709551616) (hn:b%aH≤aG):F6.add b 0=some (kb (ky b)):=by
 have hs:aH=9223372036854775808:=rfl
 rcases jI hn with ⟨hf,-⟩|⟨-,hi⟩
 ·by_cases h0:aO b=0
  ·have hm:=dZ.1 h0
   have hk:ky b=0:=by
    have h1:vI 1074 b=vI 1074 0:=by rw [mJ];unfold vI;rw [h0,fM]
    have h2:=iG (M:=1074) h (by decide:0<18446744073709551616) hf (by decide) (by decide)
    have h3:=iG (M:=1074) (by decide:0<18446744073709551616) h (by decide) hf (by decide)
    rw [dW]at h2 h3
    omega
   rw [hk,aLa]
   have hb:b=0∨b=aH:=by
    unfold ky at hk
    split at hk<;>omega
   rcases hb with rfl|rfl
   ·decide
   ·decide
  ·obtain⟨r,hr,h1,-⟩:=aDd h (by decide:0<18446744073709551616) hf (by decide)
   have e1:plZ (aO b) (pE b) (aO 0) (pE 0)=aO b:=by
    unfold plZ;rw [if_neg h0,show aO 0=0 by decide,if_pos rfl]
   have e2:plE (aO b) (pE b) (aO 0) (pE 0)=pE b:=by
    unfold plE;rw [if_neg h0,show aO 0=0 by decide,if_pos rfl]
   rw [e1,e2]at h1
   have h2:=h1 h0
   rw [lK,aV,if_neg h0,aL5 h hf h0]at h2
   rw [hr,h2,aQ5]
   rintro rfl
   exact h0 (by decide)
 ·have hb:b=9218868437227405312∨b=18442240474082181120:=by
   have hi3:b%9223372036854775808=9218868437227405312:=hi
   omega
  rcases hb with rfl|rfl
  ·decide
  ·decide
theorem aLo {x y:Nat}(hx:x<18446744073709551616) (hy:y<18446744073709551616) (fx:aK x=true) (fy:aK y=true):
  ∃r,F6.add x y=some r∧r<18446744073709551616∧r%aH≤aG∧ky r=ky (aV (plZ (aO x) (pE x) (aO y) (pE y)) (plE (aO x) (pE x) (aO y) (pE y)) 0):=by
 obtain⟨r,hr,h1,h2⟩:=aDd hx hy fx fy
 refine⟨r,hr,?_⟩
 generalize plZ (aO x) (pE x) (aO y) (pE y)=P at*
 generalize plE (aO x) (pE x) (aO y) (pE y)=PE at*
 by_cases hP:P=0
 ·have:aV P PE 0=0:=if_pos hP
  rw [this]
  rcases h2 hP with rfl|rfl<;>decide
 ·have h3:=h1 hP
  rw [lK]at h3
  subst h3
  exact⟨(bU _ _ _).1,(bU _ _ _).2,rfl⟩
theorem aLm {x y:Nat}(hx:x<18446744073709551616) (hy:y<18446744073709551616) (fx:aK x=true) (fy:aK y=true):
  ∃r,F6.mul x y=some r∧r<18446744073709551616∧r%aH≤aG∧ky r=ky (aV (aO x*aO y) (pE x+pE y) 0):=by
 obtain⟨r,hr,h1,h2⟩:=aQf hx hy fx fy
 refine⟨r,hr,?_⟩
 generalize aO x*aO y=P at*
 generalize pE x+pE y=PE at*
 by_cases hP:P=0
 ·have:aV P PE 0=0:=if_pos hP
  rw [this]
  rcases h2 hP with rfl|rfl<;>decide
 ·have h3:=h1 hP
  rw [lK]at h3
  subst h3
  exact⟨(bU _ _ _).1,(bU _ _ _).2,rfl⟩
theorem lJ {b:Nat}(h:b<18446744073709551616):Op.negFloat .f64 b=bQ b:=by
 have hs:aH=9223372036854775808:=rfl
 unfold bQ
 rcases Nat.lt_or_ge b aH with h1|h1
 ·rw [if_pos h1,yI h1,Nat.add_comm]
 ·obtain⟨y,rfl⟩:=Nat.exists_eq_add_of_le h1
  rw [if_neg (by omega),aHd (by omega)];omega
theorem lS {b:Nat}(h:b<18446744073709551616):ky (bQ b)= -ky b:=by
 have hs:aH=9223372036854775808:=rfl
 unfold ky bQ
 split
 ·rw [if_neg (by omega)];omega
 ·split<;>omega
theorem uD {b:Nat}(h:b<18446744073709551616):bQ b%aH=b%aH:=by
 unfold bQ aH;split<;>omega
end
section
open Go.RowKit
theorem uF {x y:Nat}(h:aU y=true):F6.order x y=none:=by
 rw [←rD]at h
 unfold Ieee.Format.order
 revert h
 cases F6.read x<;>cases F6.read y<;>first|(intro _;rfl)|(intro h;simp [Ieee.Datum.isNaN]at h)
def xP (o:Ordering) (x y:Nat):Bool:=F6.order x y==some o
theorem dH {x:Nat}(h:aU x=false):x%aH≤aG:=by
 unfold aU at h
 have:=of_decide_eq_false h
 omega
theorem dF {x:Nat}:aU x=false↔x%aH≤aG:=by
 refine⟨dH,fun h=> ?_⟩
 unfold aU
 exact decide_eq_false (by omega)
theorem aFo {x y:Nat}(hx:x<18446744073709551616) (hy:y<18446744073709551616):xP .lt x y=(!aU x&& !aU y&&decide (ky x<ky y)):=by
 unfold xP
 cases nx:aU x
 ·cases ny:aU y
  ·rw [jX hx hy (dH nx) (dH ny)]
   rcases Int.lt_trichotomy (ky x) (ky y)with h|h|h
   ·rw [Int.compare_eq_lt.2 h,decide_eq_true h];rfl
   ·rw [Int.compare_eq_eq.2 h,decide_eq_false (by omega)];rfl
   ·rw [Int.compare_eq_gt.2 h,decide_eq_false (by omega)];rfl
  ·rw [uF ny];rfl
 ·rw [kT nx];rfl
theorem aFc {x y:Nat}(hx:x<18446744073709551616) (hy:y<18446744073709551616):xP .gt x y=(!aU x&& !aU y&&decide (ky y<ky x)):=by
 unfold xP
 cases nx:aU x
 ·cases ny:aU y
  ·rw [jX hx hy (dH nx) (dH ny)]
   rcases Int.lt_trichotomy (ky x) (ky y)with h|h|h
   ·rw [Int.compare_eq_lt.2 h,decide_eq_false (by omega)];rfl
   ·rw [Int.compare_eq_eq.2 h,decide_eq_false (by omega)];rfl
   ·rw [Int.compare_eq_gt.2 h,decide_eq_true h];rfl
  ·rw [uF ny];rfl
 ·rw [kT nx];rfl
theorem aFa {x y:Nat}(hx:x<18446744073709551616) (hy:y<18446744073709551616):xP .eq x y=(!aU x&& !aU y&&decide (ky x=ky y)):=by
 unfold xP
 cases nx:aU x
 ·cases ny:aU y
  ·rw [jX hx hy (dH nx) (dH ny)]
   rcases Int.lt_trichotomy (ky x) (ky y)with h|h|h
   ·rw [Int.compare_eq_lt.2 h,decide_eq_false (by omega)];rfl
   ·rw [Int.compare_eq_eq.2 h,decide_eq_true h];rfl
   ·rw [Int.compare_eq_gt.2 h,decide_eq_false (by omega)];rfl
  ·rw [uF ny];rfl
 ·rw [kT nx];rfl
def leB (x y:Nat):Bool:=xP .lt x y||xP .eq x y
theorem aJ6 {x y:Nat}(hx:x<18446744073709551616) (hy:y<18446744073709551616):leB x y=(!aU x&& !aU y&&decide (ky x≤ky y)):=by
 unfold leB
 rw [aFo hx hy,aFa hx hy]
 cases aU x<;>cases aU y<;>simp
 rw [Bool.eq_iff_iff];simp;omega
def ivK (l h:Nat):Option (Int×Int):=if aU l=false∧aU h=false∧ky l≤ky h∧ky l<aG∧-(aG:Int)<ky h then some (ky l,ky h)else none
def ivL (o:Option (Int×Int)):Nat:=match o with|some (l,_)=>kb l|none=>9218868437227405312
def ivH (o:Option (Int×Int)):Nat:=match o with|some (_,h)=>kb h|none=>18442240474082181120
def Iok (o:Option (Int×Int)):Prop:=∀l h,o=some (l,h)→-(aG:Int)≤l∧l≤h∧h≤aG∧l<aG∧-(aG:Int)<h
theorem pK {l h:Nat}(hl:l<18446744073709551616) (hh:h<18446744073709551616):Iok (ivK l h):=by
 intro a b e
 unfold ivK at e
 split at e
 ·rename_i hc
  simp only [Option.some.injEq,Prod.mk.injEq]at e
  obtain⟨rfl,rfl⟩:=e
  have h1:=kQ hl (dH hc.1)
  have h2:=kQ hh (dH hc.2.1)
  omega
 ·cases e
theorem Iok.none :Iok none:=fun _ _ e=>by cases e
theorem Iok.some {l h:Int}(h1: -(aG:Int)≤l) (h2:l≤h) (h3:h≤aG) (h4:l<aG) (h5: -(aG:Int)<h):Iok (.some (l,h)):=fun a b e=>by
 simp only [Option.some.injEq,Prod.mk.injEq]at e
 obtain⟨rfl,rfl⟩:=e
 exact⟨h1,h2,h3,h4,h5⟩
theorem qU {o:Option (Int×Int)}(h:Iok o):ivL o<18446744073709551616:=by
 rcases o with _|⟨l,k⟩
 ·decide
 ·have h1:=h l k rfl
  exact(jY (k:=l) (by omega) (by omega)).1
theorem qV {o:Option (Int×Int)}(h:Iok o):ivH o<18446744073709551616:=by
 rcases o with _|⟨l,k⟩
 ·decide
 ·have h1:=h l k rfl
  exact(jY (k:=k) (by omega) (by omega)).1
theorem oU {o:Option (Int×Int)}(h:Iok o):ivK (ivL o) (ivH o)=o:=by
 rcases o with _|⟨l,k⟩
 ·decide
 ·obtain⟨h1,h2,h3,h4,h5⟩:=h l k rfl
  obtain⟨a1,a2,a3⟩:=jY (k:=l) (by omega) (by omega)
  obtain⟨b1,b2,b3⟩:=jY (k:=k) (by omega) (by omega)
  show ivK (kb l) (kb k)=_
  unfold ivK
  rw [a3,b3,if_pos ⟨dF.2 a2,dF.2 b2,h2,h4,h5⟩]
theorem aPa {l h:Nat}(hl:l<18446744073709551616) (hh:h<18446744073709551616):
  (leB l h&&(xP .lt l 9218868437227405312&&xP .gt h 18442240474082181120))=(ivK l h).isSome:=by
 rw [aJ6 hl hh,aFo hl (by decide),aFc hh (by decide),show aU 9218868437227405312=false by decide,show aU 18442240474082181120=false by decide,
  show ky 9218868437227405312=aG by decide,show ky 18442240474082181120= -(aG:Int) by decide]
 unfold ivK
 cases aU l<;>cases aU h<;>simp
 split
 ·rename_i hc;simp [hc]
 ·rename_i hc
  by_cases h1:ky l≤ky h<;>by_cases h2:ky l<aG<;>by_cases h3: -(aG:Int)<ky h<;>simp_all
def mX (a b:Option (Int×Int)):Option (Int×Int):=match a,b with
 |none,o=>o
 |o,none=>o
 |some (l,h),some (m,k)=>some (min l m,max h k)
def hasK (a:Option (Int×Int)) (x:Nat):Bool:=match a with
 |some (l,h)=>aK x&&(decide (l≤ky x)&&decide (ky x≤h))
 |none=>false
def kW (a:Option (Int×Int)):Option (Int×Int):=match a with
 |some (l,h)=>some (-h,-l)
 |none=>none
theorem yN {a:Option (Int×Int)}(ha:Iok a):Iok (kW a):=by
 rcases a with _|⟨l,h⟩
 ·exact Iok.none
 ·have h1:=ha l h rfl
  exact Iok.some (by omega) (by omega) (by omega) (by omega) (by omega)
end
section
open Go.RowKit
def tN (m n:Nat):Nat:=54+n.log2-m.log2
def stN (D n:Nat):Nat:=2*(D/n)+(D%n !=0).toNat
def qN (x y:Nat):Nat:=stN (aS x<<<tN (aS x) (aS y)) (aS y)
def qE (x y:Nat):Int:=aW x-aW y-tN (aS x) (aS y)-1
def qZ (x y:Nat):Int:=if aQ x^^aQ y then-(qN x y:Int)else qN x y
theorem rH :(2:Nat)^53=9007199254740992:=by decide
theorem aL4 {m n:Nat}(hm:m≠0) (hn:n≠0):2^53≤(m<<<tN m n)/n:=by
 rw [Nat.le_div_iff_mul_le (by omega),Nat.shiftLeft_eq]
 have h1:=Nat.log2_self_le hm
 have h2:=Nat.lt_log2_self (n:=n)
 have h3:54+n.log2≤m.log2+tN m n:=by unfold tN;omega
 have h4:2^(54+n.log2)≤2^(m.log2+tN m n):=Nat.pow_le_pow_right (by decide) h3
 have h5:2^(m.log2+tN m n)≤m*2^tN m n:=by rw [Nat.pow_add];exact Nat.mul_le_mul_right _ h1
 have h6:2^53*n≤2^53*2^(n.log2+1):=Nat.mul_le_mul_left _ (Nat.le_of_lt h2)
 rw [←Nat.pow_add,show 53+(n.log2+1)=54+n.log2 by omega]at h6
 omega
theorem aHx (r:Nat):(r !=0).toNat=if r=0 then 0 else 1:=by
 by_cases h:r=0
 ·subst h;rfl
 ·rw [if_neg h];simp [h]
theorem sticky {k s u D n:Nat}(hk:k≤2^53) (hn:0<n) (hQ:2^53≤D/n):
  (k*2^s*n≤D*2^u↔2*(k*2^s)≤stN D n*2^u)∧(D*2^u≤k*2^s*n↔stN D n*2^u≤2*(k*2^s)):=by
 have hU:=Nat.two_pow_pos u
 have hdm:=Nat.div_add_mod D n
 have hr:=Nat.mod_lt D hn
 unfold stN
 rw [aHx]
 by_cases hs:u≤s
 ·obtain⟨j,rfl⟩:=Nat.exists_eq_add_of_le hs
  have e1:k*2^(u+j)=k*2^j*2^u:=by rw [Nat.add_comm,Nat.pow_add,Nat.mul_assoc]
  rw [e1]
  generalize k*2^j=p at*
  have e2:p*2^u*n=p*n*2^u:=by rw [Nat.mul_assoc,Nat.mul_comm (2^u),←Nat.mul_assoc]
  have e3:2*(p*2^u)=2*p*2^u:=by rw [Nat.mul_assoc]
  rw [e2,e3,Nat.mul_le_mul_right_iff hU,Nat.mul_le_mul_right_iff hU,Nat.mul_le_mul_right_iff hU,Nat.mul_le_mul_right_iff hU]
  generalize D/n=Q at*
  generalize D%n=R at*
  subst hdm
  constructor
  ·constructor
   ·intro h
    have:p≤Q:=by
     rcases Nat.lt_or_ge Q p with h1|h1
     ·have:=Nat.mul_le_mul_right n (show Q+1≤p from h1)
      rw [Nat.add_mul,Nat.mul_comm Q n]at this;omega
     ·exact h1
    omega
   ·intro h
    have:p≤Q:=by split at h<;>omega
    have:=Nat.mul_le_mul_right n this
    rw [Nat.mul_comm Q n]at this;omega
  ·constructor
   ·intro h
    split
    ·have:Q≤p:=by
      rcases Nat.lt_or_ge p Q with h1|h1
      ·have:=Nat.mul_le_mul_right n (show p+1≤Q from h1)
       rw [Nat.add_mul,Nat.mul_comm Q n]at this;omega
      ·exact h1
     omega
    ·have:Q+1≤p:=by
      rcases Nat.lt_or_ge Q p with h1|h1
      ·exact h1
      ·have:=Nat.mul_le_mul_right n h1
       rw [Nat.mul_comm Q n]at this;omega
     omega
   ·intro h
    split at h
    ·have:=Nat.mul_le_mul_right n (show Q≤p by omega)
     rw [Nat.mul_comm Q n]at this;omega
    ·have:=Nat.mul_le_mul_right n (show Q+1≤p by omega)
     rw [Nat.add_mul,Nat.mul_comm Q n]at this;omega
 ·have h1:2*(k*2^s)≤2^53*2^u:=by
   have h2:2^s*2≤2^u:=by rw [←Nat.pow_succ];exact Nat.pow_le_pow_right (by decide) (by omega)
   have h3:=Nat.mul_le_mul hk h2
   rw [←Nat.mul_assoc]at h3;omega
  have h4:D/n*2^u*n≤D*2^u:=by
   rw [Nat.mul_assoc,Nat.mul_comm (2^u),←Nat.mul_assoc]
   exact Nat.mul_le_mul_right _ (Nat.div_mul_le_self D n)
  have h5:2^53*2^u≤D/n*2^u:=Nat.mul_le_mul_right _ hQ
  have h6:2*(D/n)*2^u=2*(D/n*2^u):=Nat.mul_assoc _ _ _
  have h7:2*(D/n)*2^u≤(2*(D/n)+if D%n=0 then 0 else 1)*2^u:=Nat.mul_le_mul_right _ (Nat.le_add_right _ _)
  have h8:0<2^53*2^u:=Nat.mul_pos (by decide) hU
  have h9:=Nat.mul_le_mul_right n (show k*2^s+1≤D/n*2^u by omega)
  rw [Nat.add_mul]at h9
  constructor
  ·exact⟨fun _=>by omega,fun _=>by omega⟩
  ·exact⟨fun _=>by omega,fun _=>by omega⟩
theorem aDa {x y:Nat}(hx:x<18446744073709551616) (hy:y<18446744073709551616) (fx:aK x=true) (fy:aK y=true) (x0:aO x≠0) (y0:aO y≠0):
  F6.div x y=some (aV (qZ x y) (qE x y) 0)∧qZ x y≠0:=by
 have mx:aS x≠0:=fun h=>x0 (dZ.2 h)
 have my:aS y≠0:=fun h=>y0 (dZ.2 h)
 have hl:=aL4 mx my
 have hN:qN x y≠0:=by
  unfold qN stN
  have:0<2^53:=by decide
  omega
 have hz:qZ x y≠0:=by unfold qZ;split<;>omega
 refine⟨?_,hz⟩
 have hzn:(qZ x y).natAbs=qN x y:=by unfold qZ;split<;>omega
 have hs:decide (qZ x y<0)=(aQ x^^aQ y):=by
  unfold qZ
  cases aQ x^^aQ y
  ·rw [if_neg (by decide)];exact decide_eq_false (by omega)
  ·rw [if_pos rfl];exact decide_eq_true (by omega)
 unfold aV
 rw [if_neg hz,uI hz,hs,hzn]
 unfold Ieee.Format.div
 rw [dK hx fx,dK hy fy,aEs]
 unfold Ieee.Datum.quotient
 simp only [if_neg my]
 rfl
theorem gQ {b:Nat}(h:b<18446744073709551616) (hf:aK b=true):fI b=if aQ b then-((aS b*2^(aW b+1074).toNat:Nat):Int)else((aS b*2^(aW b+1074).toNat:Nat):Int):=by
 unfold fI
 rw [nS h hf (by omega),aBr h hf]
 simp
theorem aCc {x y c:Nat}{M:Int}(hx:x<18446744073709551616) (hy:y<18446744073709551616) (hc:c<18446744073709551616) (fx:aK x=true) (fy:aK y=true) (fc:aK c=true)
  (x0:aO x≠0) (y0:aO y≠0) (hM:1074≤M) (h1:0≤qE x y+M):
  ((fI c).natAbs*(fI y).natAbs≤(fI x).natAbs*2^1074↔(vI M c).natAbs≤(sc M (qZ x y) (qE x y)).natAbs)∧
  ((fI x).natAbs*2^1074≤(fI c).natAbs*(fI y).natAbs↔(sc M (qZ x y) (qE x y)).natAbs≤(vI M c).natAbs):=by
 have mx:aS x≠0:=fun h=>x0 (dZ.2 h)
 have my:aS y≠0:=fun h=>y0 (dZ.2 h)
 have hl:=aL4 mx my
 have ha:=dI fx
 have hb:=dI fy
 have hcc:=dI fc
 have hzn:(qZ x y).natAbs=qN x y:=by unfold qZ;split<;>omega
 have ex:(fI x).natAbs=aS x*2^(aW x+1074).toNat:=by rw [gQ hx fx];split<;>omega
 have ey:(fI y).natAbs=aS y*2^(aW y+1074).toNat:=by rw [gQ hy fy];split<;>omega
 have ec:(fI c).natAbs=aS c*2^(aW c+1074).toNat:=by rw [gQ hc fc];split<;>omega
 have ecM:(vI M c).natAbs=(fI c).natAbs*2^(M-1074).toNat:=by
  unfold vI fI
  rw [nS hc fc hM,nS hc fc (by omega:(1074:Int)≤1074),Int.natAbs_mul,bZ,Int.natAbs_mul,bZ]
  simp
 have eV:(sc M (qZ x y) (qE x y)).natAbs=qN x y*2^(qE x y+M).toNat:=by unfold sc;rw [Int.natAbs_mul,bZ,hzn]
 have hst:=sticky (k:=aS c) (s:=(aW c+1074).toNat+(aW y+1074).toNat+tN (aS x) (aS y)) (u:=(aW x+1074).toNat+1074) (D:=aS x<<<tN (aS x) (aS y)) (n:=aS y) (by rw [rH];exact Nat.le_of_lt (fP c)) (by omega) hl
 have eN:stN (aS x<<<tN (aS x) (aS y)) (aS y)=qN x y:=rfl
 rw [eN,Nat.shiftLeft_eq]at hst
 rw [ecM,eV,ec,ex,ey]
 unfold qE at*
 generalize tN (aS x) (aS y)=t at*
 generalize qN x y=N at*
 generalize aS x=m at*
 generalize aS y=n at*
 generalize aS c=k at*
 obtain⟨a,ea⟩:∃a:Nat,(aW x+1074).toNat=a:=⟨_,rfl⟩
 obtain⟨b,eb⟩:∃b:Nat,(aW y+1074).toNat=b:=⟨_,rfl⟩
 obtain⟨l,el⟩:∃l:Nat,(aW c+1074).toNat=l:=⟨_,rfl⟩
 obtain⟨g,eg⟩:∃g:Nat,(M-1074).toNat=g:=⟨_,rfl⟩
 obtain⟨v,ev⟩:∃v:Nat,(aW x-aW y-(t:Int)-1+M).toNat=v:=⟨_,rfl⟩
 have hv:v+b+t+1=a+1074+g:=by omega
 rw [ea,eb,el]at hst
 rw [ea,eb,el,eg,ev]
 have p1:k*2^l*(n*2^b)*2^t=k*2^(l+b+t)*n:=by
  rw [Nat.pow_add,Nat.pow_add];simp only [Nat.mul_assoc,Nat.mul_comm,Nat.mul_left_comm]
 have p2:m*2^a*2^1074*2^t=m*2^t*2^(a+1074):=by
  rw [Nat.pow_add];generalize 2^1074=G;simp only [Nat.mul_assoc,Nat.mul_comm,Nat.mul_left_comm]
 have p3:k*2^l*2^g*2^(b+t+1)=2*(k*2^(l+b+t))*2^g:=by
  rw [Nat.pow_add,Nat.pow_add,Nat.pow_add,Nat.pow_add,Nat.pow_one];simp only [Nat.mul_assoc,Nat.mul_comm,Nat.mul_left_comm]
 have p4:N*2^v*2^(b+t+1)=N*2^(a+1074)*2^g:=by
  rw [Nat.mul_assoc,←Nat.pow_add,Nat.mul_assoc,←Nat.pow_add];congr 2;omega
 generalize (2:Nat)^1074=G at*
 obtain⟨g1,g2⟩:=hst
 constructor
 ·rw [←Nat.mul_le_mul_right_iff (n:=k*2^l*(n*2^b)) (Nat.two_pow_pos t),p1,p2,g1,←Nat.mul_le_mul_right_iff (n:=k*2^l*2^g) (Nat.two_pow_pos (b+t+1)),p3,p4,Nat.mul_le_mul_right_iff (Nat.two_pow_pos g)]
 ·rw [←Nat.mul_le_mul_right_iff (n:=m*2^a*G) (Nat.two_pow_pos t),p1,p2,g2,←Nat.mul_le_mul_right_iff (n:=N*2^v) (Nat.two_pow_pos (b+t+1)),p3,p4,Nat.mul_le_mul_right_iff (Nat.two_pow_pos g)]
end
end Go.Proofs.YtfmecpembnmnkaaGreatDoor
