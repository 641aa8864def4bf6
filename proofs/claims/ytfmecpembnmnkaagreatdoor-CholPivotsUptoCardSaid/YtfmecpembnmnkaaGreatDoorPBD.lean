/- Plain: the number nearest to an exact one is no farther from it than any other; what is too great lies beyond the middle. -/
import Derived.Test.YtfmecpembnmnkaaGreatDoorPZRi1
import Derived.Test.YtfmecpembnmnkaaGreatDoorPGT
import Init
import Derived.Test.YtfmecpembnmnkaaGreatDoorPGW
namespace Go.Proofs.YtfmecpembnmnkaaGreatDoor
section
open Go.RowKit
theorem aE6 (neg:Bool):FlM neg 2:=fun N d=>by unfold upB;split<;>rfl
theorem aO5 {N:Nat}{d:Int}{neg:Bool}(hd:0<d):
  (iQ N d neg 0=N/2^d.toNat∧N%2^d.toNat≤2^d.toNat-N%2^d.toNat)∨(iQ N d neg 0=N/2^d.toNat+1∧2^d.toNat-N%2^d.toNat≤N%2^d.toNat):=by
 obtain⟨k,rfl⟩:∃k:Nat,d=((k+1:Nat):Int):=⟨d.toNat-1,by omega⟩
 unfold iQ
 rw [if_neg (by omega),Int.toNat_natCast]
 have hp:2^(k+1)=2*2^k:=by rw [Nat.pow_succ,Nat.mul_comm]
 have hm:=Nat.mod_lt N (Nat.two_pow_pos (k+1))
 by_cases h0:N%2^(k+1)=0
 ·left
  rw [aPt h0,h0];simp
 ·rw [aH1 h0,show k+1-1=k from rfl]
  generalize N%2^(k+1)=r at*
  generalize N/2^(k+1)=q at*
  rw [hp]at hm ⊢
  generalize 2^k=h at*
  cases hb:(decide (h<r)||(decide (r=h)&&decide (q%2=1)))
  ·left
   refine⟨by simp,?_⟩
   simp at hb;omega
  ·right
   refine⟨by simp,?_⟩
   simp at hb;omega
theorem aHy {M z e:Int}(hM:1074≤M) (h1:0≤e+M) (hz:z≠0):
  ∃w2:Nat,(wdN z e 0=w2∨wdN z e 0=w2+1)∧wv w2*2^(M-1074).toNat≤z.natAbs*2^(e+M).toNat∧z.natAbs*2^(e+M).toNat≤wv (w2+1)*2^(M-1074).toNat∧
   (wdN z e 0=w2→(z.natAbs*2^(e+M).toNat-wv w2*2^(M-1074).toNat)≤(wv (w2+1)*2^(M-1074).toNat-z.natAbs*2^(e+M).toNat))∧
   (wdN z e 0=w2+1→(wv (w2+1)*2^(M-1074).toNat-z.natAbs*2^(e+M).toNat)≤(z.natAbs*2^(e+M).toNat-wv w2*2^(M-1074).toNat)):=by
 have hl: -1074≤aX z e 53 (-1074):=by unfold aX;omega
 refine⟨wdN z e 2,?_,?_,?_,?_,?_⟩
 ·have:=aBm (z:=z) (e:=e) (m2:=0) (aE6 (decide (z<0)));omega
 ·exact aKn hM h1 hz (aE6 _) _ (Nat.le_refl _)
 ·obtain⟨mc,hmc⟩:∃mc,CeM (decide (z<0)) mc:=by
   cases decide (z<0)
   ·exact⟨3,aSu⟩
   ·exact⟨4,aSx⟩
  have h2:=(aBm (z:=z) (e:=e) (m2:=mc) (aE6 (decide (z<0)))).2
  exact Nat.le_trans (aJt hM h1 hz hmc) (Nat.mul_le_mul_right _ (rX h2))
 all_goals
  intro hw
  have hv2:=aSe (e:=e) (mode:=2) hM hz
  by_cases hd:aX z e 53 (-1074)-e≤0
  ·have hr:∀m,bW z e 53 (-1074) m=z.natAbs*2^(-(aX z e 53 (-1074)-e)).toNat:=fun m=>by unfold bW iQ;rw [if_pos hd]
   have he:wv (wdN z e 2)*2^(M-1074).toNat=z.natAbs*2^(e+M).toNat:=by
    rw [hv2,hr,Nat.mul_assoc,←Nat.pow_add];congr 2;omega
   first
   |(rw [he,Nat.sub_self];exact Nat.zero_le _)
   | (exfalso
      have:wdN z e 0=wdN z e 2:=by unfold wdN;rw [hr 0,hr 2]
      omega)
  ·have hd0:0<aX z e 53 (-1074)-e:=by omega
   have hq:bW z e 53 (-1074) 2=z.natAbs/2^(aX z e 53 (-1074)-e).toNat:=by
    unfold bW iQ;rw [if_neg hd,aE6];simp
   have hle:=jP z e 53 (-1074) 0 53 rfl
   have hlow:=mF (e:=e) (mode:=2) hz
   have hw2:wdN z e 2=(aX z e 53 (-1074)+1074).toNat*aT+z.natAbs/2^(aX z e 53 (-1074)-e).toNat:=by unfold wdN;rw [hq]
   have hw0:wdN z e 0=(aX z e 53 (-1074)+1074).toNat*aT+bW z e 53 (-1074) 0:=rfl
   have hc:=aO5 (N:=z.natAbs) (neg:=decide (z<0)) hd0
   have hrz:bW z e 53 (-1074) 0=iQ z.natAbs (aX z e 53 (-1074)-e) (decide (z<0)) 0:=rfl
   rw [←hrz]at hc
   have hA:z.natAbs*2^(e+M).toNat=(z.natAbs/2^(aX z e 53 (-1074)-e).toNat)*2^(aX z e 53 (-1074)+M).toNat+(z.natAbs%2^(aX z e 53 (-1074)-e).toNat)*2^(e+M).toNat:=by
    have hdm:=Nat.div_add_mod z.natAbs (2^(aX z e 53 (-1074)-e).toNat)
    have hpp:2^(aX z e 53 (-1074)+M).toNat=2^(aX z e 53 (-1074)-e).toNat*2^(e+M).toNat:=by rw [←Nat.pow_add];congr 1;omega
    rw [hpp,←Nat.mul_assoc,Nat.mul_comm (z.natAbs/_) _,←Nat.add_mul,hdm]
   have hpp:2^(aX z e 53 (-1074)+M).toNat=2^(aX z e 53 (-1074)-e).toNat*2^(e+M).toNat:=by rw [←Nat.pow_add];congr 1;omega
   rw [hq]at hv2 hlow
   have hml:=Nat.mod_lt z.natAbs (Nat.two_pow_pos (aX z e 53 (-1074)-e).toNat)
   have hv3:(bW z e 53 (-1074) 0=z.natAbs/2^(aX z e 53 (-1074)-e).toNat+1∨z.natAbs/2^(aX z e 53 (-1074)-e).toNat+1≤2^53)→wv (wdN z e 2+1)*2^(M-1074).toNat=(z.natAbs/2^(aX z e 53 (-1074)-e).toNat+1)*2^(aX z e 53 (-1074)+M).toNat:=by
    intro h
    rw [hw2,Nat.add_assoc,yD (by omega) (by rcases hlow with h|h;left;omega;right;omega),Nat.mul_assoc,←Nat.pow_add]
    congr 2;omega
   have hqlt:z.natAbs/2^(aX z e 53 (-1074)-e).toNat+1≤2^53:=by
    have hb:bl z.natAbs≤53+(aX z e 53 (-1074)-e).toNat:=by unfold aX;omega
    have:=(dD (N:=z.natAbs) (k:=53+(aX z e 53 (-1074)-e).toNat)).1 hb
    rw [Nat.pow_add]at this
    exact Nat.div_lt_of_lt_mul (by rw [Nat.mul_comm];exact this)
   rw [hv3 (.inr hqlt),hv2,hA,hpp]
   rw [hw2,hw0]at hw
   generalize bW z e 53 (-1074) 0=c0 at*
   generalize z.natAbs/2^(aX z e 53 (-1074)-e).toNat=q at*
   generalize z.natAbs%2^(aX z e 53 (-1074)-e).toNat=r at*
   generalize 2^(aX z e 53 (-1074)-e).toNat=P at*
   generalize 2^(e+M).toNat=g at*
   have hgap1:q*(P*g)+r*g-q*(P*g)=r*g:=by omega
   have hgap2:(q+1)*(P*g)-(q*(P*g)+r*g)=(P-r)*g:=by
    rw [Nat.add_mul,Nat.one_mul,Nat.sub_mul];omega
   rw [hgap1,hgap2]
   refine Nat.mul_le_mul_right _ ?_
   rcases hc with ⟨h,h'⟩|⟨h,h'⟩
   ·first
    |exact h'
    |(exfalso;omega)
   ·first
    |exact h'
    |(exfalso;omega)
theorem aDu {M z e:Int}(hM:1074≤M) (h1:0≤e+M) (hz:z≠0) (c:Nat):
  ((z.natAbs*2^(e+M).toNat:Nat)-(wv (wdN z e 0)*2^(M-1074).toNat:Nat):Int).natAbs≤((z.natAbs*2^(e+M).toNat:Nat)-(wv c*2^(M-1074).toNat:Nat):Int).natAbs:=by
 obtain⟨w2,hw,h2,h3,h4,h5⟩:=aHy hM h1 hz
 rcases Nat.lt_or_ge w2 c with hc|hc
 ·have h6:wv (w2+1)*2^(M-1074).toNat≤wv c*2^(M-1074).toNat:=Nat.mul_le_mul_right _ (rX hc)
  rcases hw with hw|hw
  ·have:=h4 hw;rw [hw];omega
  ·have:=h5 hw;rw [hw];omega
 ·have h6:wv c*2^(M-1074).toNat≤wv w2*2^(M-1074).toNat:=Nat.mul_le_mul_right _ (rX hc)
  rcases hw with hw|hw
  ·have:=h4 hw;rw [hw];omega
  ·have:=h5 hw;rw [hw];omega
end
section
open Go.RowKit
theorem aSp {M z e:Int}(hM:1074≤M) (h1:0≤e+M) (hf:aK (aV z e 0)=false):
  z≠0∧aV z e 0=(if decide (z<0)then aH else 0)+aG∧(2^54-1)*2^(970+M).toNat≤z.natAbs*2^(e+M).toNat:=by
 unfold aV at*
 by_cases hz:z=0
 ·rw [if_pos hz]at hf;exact absurd hf (by decide)
 ·rw [if_neg hz]at hf ⊢
  have hbey:kD (decide (z<0)) 0=false:=by cases decide (z<0)<;>rfl
  have hw:aG≤wdN z e 0:=by
   rcases Nat.lt_or_ge (wdN z e 0) aG with h|h
   ·exfalso
    have hr:eU z e 0=(if decide (z<0)then aH else 0)+wdN z e 0:=by
     rw [vU hz];unfold jB;rw [if_pos h]
    have hk:=lX
    have hm:eU z e 0%aH=wdN z e 0:=by
     rw [hr]
     split
     ·rw [Nat.add_mod_left,Nat.mod_eq_of_lt (by omega)]
     ·rw [Nat.zero_add,Nat.mod_eq_of_lt (by omega)]
    rcases jI (b:=eU z e 0) (by omega)with h2|h2
    ·rw [h2.1]at hf;cases hf
    ·omega
   ·exact h
  refine⟨hz,?_,?_⟩
  ·have hcap:jB false (wdN z e 0)=aG:=by unfold jB;rw [if_neg (by omega)];rfl
   rw [vU hz,hbey,hcap]
  ·obtain⟨w2,hww,h2,h3,h4,h5⟩:=aHy hM h1 hz
   obtain⟨K,J,hJe,hK1,hK2,hK3,hK4,hK5,hK6⟩:∃K J:Nat,J+1=aG∧aG/aT-1=K+2∧J/aT-1=K+1∧K=2044∧¬J<aT∧J%aT+aT=9007199254740991∧aG%aT+aT=4503599627370496:=⟨2044,9218868437227405311,by decide,by decide,by decide,rfl,by decide,by decide,by decide⟩
   have hK7:(970+M).toNat=K+(M-1074).toNat:=by clear h2 h3 h4 h5;omega
   have hp:2^(970+M).toNat=2^K*2^(M-1074).toNat:=by rw [←Nat.pow_add,hK7]
   clear hK3 hK7
   have hI:wv aG=4503599627370496*2^(K+2):=by
    unfold wv;rw [if_neg (by decide),hK6,hK1]
   have hJ:wv J=9007199254740991*2^(K+1):=by
    unfold wv;rw [if_neg hK4,hK5,hK2]
   have e1:2^(K+2)=4*2^K:=by rw [Nat.pow_succ,Nat.pow_succ];omega
   have e2:2^(K+1)=2*2^K:=by rw [Nat.pow_succ];omega
   rw [e1]at hI
   rw [e2]at hJ
   rw [hp,show 2^54-1=18014398509481983 from rfl]
   clear e1 e2 hp hK1 hK2 hK4 hK5 hK6
   generalize 2^K=P at*
   generalize z.natAbs*2^(e+M).toNat=A at*
   generalize 2^(M-1074).toNat=U at*
   have hIU:wv aG*U=18014398509481984*(P*U):=by rw [hI,show 4503599627370496*(4*P)=18014398509481984*P by omega,Nat.mul_assoc]
   have hJU:wv J*U=18014398509481982*(P*U):=by rw [hJ,show 9007199254740991*(2*P)=18014398509481982*P by omega,Nat.mul_assoc]
   generalize P*U=Q at*
   rcases Nat.lt_or_ge w2 aG with hc|hc
   ·have hk:aG≠0:=by decide
    obtain rfl:w2=J:=by omega
    have h6:=h5 (by omega)
    rw [hJe]at h6 h3
    omega
   ·have h6:wv aG*U≤wv w2*U:=Nat.mul_le_mul_right _ (rX hc)
    omega
end
section
def fJ (x:Int):Prop:=∃(m:Int) (k:Nat),x=m*2^k∧m.natAbs≤9007199254740992
def iU (x r:Int):Prop:=fJ r∧∀y,fJ y→(x-r).natAbs≤(x-y).natAbs
theorem fJ.neg {x:Int}(h:fJ x):fJ (-x):=by
 obtain⟨m,k,rfl,hm⟩:=h
 exact⟨-m,k,by rw [Int.neg_mul],by rw [Int.natAbs_neg];exact hm⟩
theorem fJ.small {x:Int}(h:x.natAbs≤9007199254740992):fJ x:=⟨x,0,by simp,h⟩
theorem fJ.zero :fJ 0:=fJ.small (by decide)
theorem iU.self {x r:Int}(h:iU x r) (hx:fJ x):r=x:=by
 have:=h.2 x hx
 omega
theorem iU.half {x r:Int}(h:iU x r) (k:Nat) (hx:x.natAbs≤9007199254740992*2^k):2*(x-r).natAbs≤2^k:=by
 have hP:(0:Int)<2^k:=Int.pow_pos (by decide)
 obtain⟨q,hq⟩:∃q,x/2^k=q:=⟨_,rfl⟩
 have hdm:=Int.mul_ediv_add_emod x (2^k)
 have h1:=Int.emod_nonneg x (Int.ne_of_gt hP)
 have h2:=Int.emod_lt_of_pos x hP
 rw [hq]at hdm
 have hc:((2^k:Nat):Int)=2^k:=by rw [Int.natCast_pow];rfl
 have hlo:q.natAbs≤9007199254740992∧(x%2^k≠0→(q+1).natAbs≤9007199254740992):=by
  have hxx:=Int.ofNat_le.2 hx
  rw [Int.natCast_mul,hc]at hxx
  have hx1:x≤9007199254740992*2^k:=by omega
  have hx2: -(9007199254740992*2^k)≤x:=by omega
  have h3:q≤9007199254740992:=by
   rw [←hq];exact Int.ediv_le_of_le_mul hP hx1
  have h4: -9007199254740992≤q:=by
   rw [←hq];exact(Int.le_ediv_iff_mul_le hP).2 (by rw [Int.neg_mul];exact hx2)
  refine⟨by omega,fun h0=> ?_⟩
  have h5:q≠9007199254740992:=by
   intro h6
   subst h6
   have:(2:Int)^k*9007199254740992=9007199254740992*2^k:=Int.mul_comm _ _
   omega
  omega
 have hA:=h.2 (q*2^k) ⟨q,k,rfl,hlo.1⟩
 have hqm:q*2^k=2^k*q:=Int.mul_comm _ _
 by_cases h0:x%2^k=0
 ·have:x-q*2^k=0:=by omega
  rw [this]at hA
  have:(x-r).natAbs=0:=by simpa using hA
  omega
 ·have hB:=h.2 ((q+1)*2^k) ⟨q+1,k,rfl,hlo.2 h0⟩
  have hq2:(q+1)*2^k=2^k*q+2^k:=by rw [Int.add_mul,Int.one_mul,hqm]
  rw [hq2]at hB
  rw [hqm]at hA
  generalize (2:Int)^k*q=g at*
  generalize hPk:(2:Int)^k=P at*
  have hPn:((2^k:Nat):Int)=P:=hc
  generalize (2^k:Nat)=Pn at*
  omega
theorem aV2 (n:Nat):n≤9007199254740992∨∃k:Nat,4503599627370496*2^(k+1)<n∧n≤9007199254740992*2^(k+1):=by
 by_cases h:n≤9007199254740992
 ·exact .inl h
 ·right
  have key:∀j:Nat,n≤9007199254740992*2^j→∃k:Nat,4503599627370496*2^(k+1)<n∧n≤9007199254740992*2^(k+1):=by
   intro j
   induction j with
   |zero=>intro h2;simp at h2;omega
   | succ j ih=>
    intro h2
    by_cases h3:n≤9007199254740992*2^j
    ·exact ih h3
    ·refine⟨j,?_,h2⟩
     rw [Nat.pow_succ];omega
  refine key n ?_
  have:=Nat.lt_two_pow_self (n:=n)
  omega
theorem iU.ulp {x r:Int}(h:iU x r):9007199254740992*(x-r).natAbs≤x.natAbs:=by
 rcases aV2 x.natAbs with h1|⟨k,h1,h2⟩
 ·rw [h.self (fJ.small h1)];simp
 ·have:=h.half (k+1) h2
  omega
theorem iU.dvd {x r:Int}(h:iU x r) {j:Nat}(hd:(2:Int)^j∣x):(2:Int)^j∣r:=by
 obtain⟨q,rfl⟩:=hd
 by_cases hq:q.natAbs≤9007199254740992
 ·rw [h.self ⟨q,j,Int.mul_comm _ _,hq⟩];exact Int.dvd_mul_right _ _
 ·have hP:(0:Int)<2^j:=Int.pow_pos (by decide)
  have hr:(9007199254740992*2^j:Int)≤r.natAbs:=by
   have e1:(9007199254740992:Int)*2^j=2^j*9007199254740992:=Int.mul_comm _ _
   rcases Int.lt_or_lt_of_ne (show q≠0 by omega)with hn|hp
   ·have h1:=h.2 (-(9007199254740992*2^j)) ⟨-9007199254740992,j,by rw [Int.neg_mul],by decide⟩
    have h2:(2:Int)^j*q≤2^j*(-9007199254740992):=Int.mul_le_mul_of_nonneg_left (by omega) (Int.le_of_lt hP)
    have e2:(2:Int)^j*(-9007199254740992)= -(2^j*9007199254740992):=Int.mul_neg _ _
    generalize (2:Int)^j*q=x at*
    generalize (2:Int)^j=P at*
    omega
   ·have h1:=h.2 (9007199254740992*2^j) ⟨9007199254740992,j,rfl,by decide⟩
    have h2:(2:Int)^j*9007199254740992≤2^j*q:=Int.mul_le_mul_of_nonneg_left (by omega) (Int.le_of_lt hP)
    generalize (2:Int)^j*q=x at*
    generalize (2:Int)^j=P at*
    omega
  obtain⟨m,i,rfl,hm⟩:=h.1
  by_cases hij:j≤i
  ·refine Int.dvd_trans ?_ (Int.dvd_mul_left _ _)
   exact⟨2^(i-j),by rw [←Int.pow_add];congr 1;omega⟩
  ·exfalso
   have h3:(m*2^i).natAbs=m.natAbs*2^i:=by
    rw [Int.natAbs_mul,Int.natAbs_pow];rfl
   have h4:m.natAbs*2^i≤9007199254740992*2^i:=Nat.mul_le_mul_right _ hm
   have h5:(2:Nat)^i<2^j:=Nat.pow_lt_pow_right (by decide) (by omega)
   rw [h3]at hr
   have h6:((9007199254740992*2^j:Nat):Int)≤((m.natAbs*2^i:Nat):Int):=by
    rw [Int.natCast_mul,Int.natCast_pow];exact hr
   have h7:=Int.ofNat_le.1 h6
   omega
theorem iW {j:Nat}{x:Int}(hd:(2:Int)^j∣x) (hb:x.natAbs≤9007199254740992*2^j):fJ x:=by
 obtain⟨q,rfl⟩:=hd
 refine⟨q,j,Int.mul_comm _ _,?_⟩
 have h3:((2:Int)^j*q).natAbs=2^j*q.natAbs:=by rw [Int.natAbs_mul,Int.natAbs_pow];rfl
 rw [h3,Nat.mul_comm]at hb
 exact Nat.le_of_mul_le_mul_right hb (Nat.two_pow_pos j)
theorem fJ.big {j:Nat}{t:Int}(h:fJ t) (hb:9007199254740992*2^j≤t.natAbs):(2:Int)^(j+1)∣t:=by
 obtain⟨m,i,rfl,hm⟩:=h
 have h3:(m*2^i).natAbs=m.natAbs*2^i:=by rw [Int.natAbs_mul,Int.natAbs_pow];rfl
 rw [h3]at hb
 by_cases hij:j+1≤i
 ·refine Int.dvd_trans ?_ (Int.dvd_mul_left _ _)
  exact⟨2^(i-(j+1)),by rw [←Int.pow_add];congr 1;omega⟩
 ·have h4:m.natAbs*2^i≤9007199254740992*2^i:=Nat.mul_le_mul_right _ hm
  have h5:2^j≤2^i:=by
   refine Nat.le_of_mul_le_mul_left (c:=9007199254740992) ?_ (by decide)
   exact Nat.le_trans hb h4
  have h6:i=j:=by
   have:=(Nat.pow_le_pow_iff_right (a:=2) (by decide)).1 h5
   omega
  subst h6
  have h7:m.natAbs=9007199254740992:=by
   have:=Nat.le_of_mul_le_mul_right hb (Nat.two_pow_pos i)
   omega
  rw [Int.pow_succ]
  rcases Int.natAbs_eq m with h8|h8
  ·rw [h8,h7];exact⟨4503599627370496,by rw [Int.mul_assoc,Int.mul_comm];rfl⟩
  ·rw [h8,h7];exact⟨-4503599627370496,by rw [Int.mul_assoc,Int.mul_comm];rfl⟩
theorem aCg {a b t:Int}(ha:fJ a) (hb:fJ b) (hab:b.natAbs≤a.natAbs) (h:iU (a+b) t):fJ (t-a)∧fJ (a+b-t):=by
 obtain⟨j,mb,hbj,hmb,hda⟩:∃(j:Nat) (mb:Int),b=mb*2^j∧mb.natAbs≤9007199254740992∧((2:Int)^j∣a):=by
  obtain⟨mb,j,rfl,hmb⟩:=hb
  obtain⟨ma,i,rfl,hma⟩:=ha
  by_cases hij:j≤i
  ·refine⟨j,mb,rfl,hmb,Int.dvd_trans ?_ (Int.dvd_mul_left _ _)⟩
   exact⟨2^(i-j),by rw [←Int.pow_add];congr 1;omega⟩
  ·refine⟨i,mb*2^(j-i),by rw [Int.mul_assoc,←Int.pow_add];congr 2;omega,?_,Int.dvd_mul_left _ _⟩
   have e1:(ma*2^i).natAbs=ma.natAbs*2^i:=by rw [Int.natAbs_mul,Int.natAbs_pow];rfl
   have e2:(mb*2^j).natAbs=(mb*2^(j-i)).natAbs*2^i:=by
    rw [show(mb*2^j:Int)=mb*2^(j-i)*2^i by rw [Int.mul_assoc,←Int.pow_add];congr 2;omega,Int.natAbs_mul _ (2^i),Int.natAbs_pow];rfl
   rw [e1,e2]at hab
   exact Nat.le_trans (Nat.le_of_mul_le_mul_right hab (Nat.two_pow_pos i)) hma
 have hdb:(2:Int)^j∣b:=⟨mb,by rw [hbj,Int.mul_comm]⟩
 have hbb:b.natAbs=mb.natAbs*2^j:=by rw [hbj,Int.natAbs_mul,Int.natAbs_pow];rfl
 have hble:b.natAbs≤9007199254740992*2^j:=by rw [hbb];exact Nat.mul_le_mul_right _ hmb
 have hds:(2:Int)^j∣a+b:=Int.dvd_add hda hdb
 have hdt:=h.dvd hds
 have hde:(2:Int)^j∣a+b-t:=Int.dvd_sub hds hdt
 have he:(a+b-t).natAbs≤b.natAbs:=by
  have:=h.2 a ha
  omega
 refine⟨?_,iW hde (Nat.le_trans he hble)⟩
 by_cases hsm:(t-a).natAbs≤9007199254740992*2^j
 ·exact iW (Int.dvd_sub hdt hda) hsm
 ·--the sum is no float
  have hns:¬fJ (a+b):=fun hr=>by
   have:=h.self hr
   omega
  have hbig:9007199254740992*2^j<(a+b).natAbs:=by
   rcases Nat.lt_or_ge (9007199254740992*2^j) (a+b).natAbs with h1|h1
   ·exact h1
   ·exact absurd (iW hds h1) hns
  have htb:9007199254740992*2^j≤t.natAbs:=by
   have hc:((2^j:Nat):Int)=2^j:=by rw [Int.natCast_pow];rfl
   have h1:=h.2 (9007199254740992*2^j) ⟨9007199254740992,j,rfl,by decide⟩
   have h2:=h.2 (-(9007199254740992*2^j)) ⟨-9007199254740992,j,by rw [Int.neg_mul],by decide⟩
   have hP:(0:Int)<2^j:=Int.pow_pos (by decide)
   rw [←hc]at h1 h2
   generalize (2^j:Nat)=P at*
   omega
  have hd1:=h.1.big htb
  have hd2:(2:Int)^(j+1)∣a:=by
   obtain⟨ma,i,hai,hma⟩:=ha
   by_cases hij:j+1≤i
   ·rw [hai]
    refine Int.dvd_trans ?_ (Int.dvd_mul_left _ _)
    exact⟨2^(i-(j+1)),by rw [←Int.pow_add];congr 1;omega⟩
   ·exfalso
    have haa:a.natAbs=ma.natAbs*2^i:=by rw [hai,Int.natAbs_mul,Int.natAbs_pow];rfl
    have hale:a.natAbs≤9007199254740992*2^j:=by
     rw [haa]
     exact Nat.le_trans (Nat.mul_le_mul_right _ hma) (Nat.mul_le_mul_left _ (Nat.pow_le_pow_right (by decide) (by omega)))
    have hp:2^(j+1)=2*2^j:=by rw [Nat.pow_succ,Nat.mul_comm]
    have hh:=h.half (j+1) (by rw [hp];omega)
    rw [hp]at hh
    by_cases hm:mb.natAbs=9007199254740992
    ·refine hns ?_
     rw [hm]at hbb
     have:a.natAbs=b.natAbs:=by omega
     rcases Int.natAbs_eq_natAbs_iff.1 this with h5|h5
     ·rw [h5]
      refine⟨mb,j+1,?_,hmb⟩
      rw [hbj,Int.pow_succ,←Int.mul_assoc];omega
     ·rw [h5,Int.add_left_neg];exact fJ.zero
    ·have h6:mb.natAbs+1≤9007199254740992:=by omega
     have h7:=Nat.mul_le_mul_right (2^j) h6
     rw [Nat.add_mul,←hbb,Nat.one_mul]at h7
     omega
  refine iW (j:=j+1) (Int.dvd_sub hd1 hd2) ?_
  rw [Nat.pow_succ];omega
end
section
open Go.RowKit
def fI (b:Nat):Int:=sc 1074 (aO b) (pE b)
def unE :Nat:=2044
def unU :Nat:=2^unE
theorem aJo {b:Nat}(hf:aK b=true):fJ (fI b):=by
 refine⟨kZ b,(aW b+1074).toNat,?_,?_⟩
 ·unfold fI;rw [←kY hf (by omega)];rfl
 ·rw [jK];exact Nat.le_of_lt (fP b)
theorem aWg (k:Nat):∀m:Nat,m≤2^53→∃c,wv c=m*2^k:=by
 induction k with
 |zero=>intro m hm;exact⟨0*aT+m,yD hm (.inl rfl)⟩
 | succ k ih=>
  intro m hm
  by_cases h:2^52≤m
  ·exact⟨(k+1)*aT+m,yD hm (.inr h)⟩
  ·obtain⟨c,hc⟩:=ih (2*m) (by omega)
   exact⟨c,by rw [hc,Nat.pow_succ,Nat.mul_comm 2 m,Nat.mul_assoc,Nat.mul_comm 2]⟩
theorem aR8 {z e:Int}(he:0≤e+1074) (hz:z≠0) (hf:aK (eU z e 0)=true):iU (sc 1074 z e) (fI (eU z e 0)):=by
 have hb:kD (decide (z<0)) 0=false:=by cases decide (z<0)<;>rfl
 have h1:=aKq (M:=1074) (by omega) hz hf
 have h2:jB (kD (decide (z<0)) 0) (wdN z e 0)=wdN z e 0:=by unfold jB;rw [if_pos (aF0 hz hb hf)]
 rw [h2,show((1074:Int)-1074).toNat=0 from rfl,Int.pow_zero,Int.mul_one]at h1
 refine⟨aJo hf,fun y hy=> ?_⟩
 obtain⟨m,k,rfl,hm⟩:=hy
 obtain⟨c,hc⟩:=aWg k m.natAbs hm
 have k1:=aDu (M:=1074) (by omega) he hz c
 have k2:=aDu (M:=1074) (by omega) he hz 0
 rw [show((1074:Int)-1074).toNat=0 from rfl,Nat.pow_zero,Nat.mul_one,Nat.mul_one]at k1 k2
 rw [aLq]at k2
 have hy:(m*2^k).natAbs=wv c:=by rw [hc,Int.natAbs_mul,Int.natAbs_pow];rfl
 have hsc:=aJa (M:=1074) (z:=z) (e:=e)
 show(sc 1074 z e-fI (eU z e 0)).natAbs≤(sc 1074 z e-m*2^k).natAbs
 have h1':fI (eU z e 0)=(if z<0 then-(wv (wdN z e 0):Int)else(wv (wdN z e 0):Int)):=h1
 rw [h1',hsc]
 generalize m*2^k=y at*
 generalize wv (wdN z e 0)=a at*
 generalize wv c=b at*
 generalize z.natAbs*2^(e+1074).toNat=g at*
 clear h1 h1' hsc
 split<;>omega
theorem aFu {r:Nat}(h:r=0∨r=aH):fI r=0:=by
 rcases h with rfl|rfl
 ·unfold fI;rw [show aO 0=0 by decide,fM]
 ·unfold fI;rw [show aO aH=0 by decide,fM]
theorem aG4 {x y:Nat}(hx:x<18446744073709551616) (hy:y<18446744073709551616) (fx:aK x=true) (fy:aK y=true) (hB:(fI x+fI y).natAbs<18014398509481983*unU):
  ∃r,F6.add x y=some r∧r<18446744073709551616∧aK r=true∧iU (fI x+fI y) (fI r):=by
 obtain⟨r,hr,h1,h2⟩:=aDd hx hy fx fy
 have hrl:r<18446744073709551616:=aK8 (op:= .add) hr
 have hpx:=gV fx
 have hpy:=gV fy
 have hE:0≤plE (aO x) (pE x) (aO y) (pE y)+1074:=aAq (by omega) (by omega)
 have hs:=aBw (M:=1074) (z:=aO x) (e:=pE x) (y:=aO y) (f:=pE y) (by omega) (by omega)
 have hs':sc 1074 (plZ (aO x) (pE x) (aO y) (pE y)) (plE (aO x) (pE x) (aO y) (pE y))=fI x+fI y:=hs
 rw [←hs']at hB ⊢
 generalize plZ (aO x) (pE x) (aO y) (pE y)=P at*
 generalize plE (aO x) (pE x) (aO y) (pE y)=PE at*
 by_cases hP:P=0
 ·refine⟨r,hr,hrl,?_,?_⟩
  ·rcases h2 hP with h|h<;>rw [h]<;>decide
  ·rw [hP,fM,aFu (h2 hP)]
   exact⟨fJ.zero,fun y _=>by simp⟩
 ·have h3:=h1 hP
  rw [lK,aV,if_neg hP]at h3
  subst h3
  have hf:aK (eU P PE 0)=true:=by
   cases hf:aK (eU P PE 0)
   ·have h4:aK (aV P PE 0)=false:=by rw [aV,if_neg hP];exact hf
    obtain⟨-,-,h5⟩:=aSp (M:=1074) (by omega) hE h4
    rw [aN3]at hB
    exfalso
    have h6:(970+1074:Int).toNat=unE:=rfl
    rw [h6]at h5
    unfold unU at hB
    omega
   ·rfl
  exact⟨_,hr,hrl,hf,aR8 hE hP hf⟩
def bQ (b:Nat):Nat:=if b<aH then b+aH else b-aH
theorem iF {b:Nat}(h:b<18446744073709551616):bQ b<18446744073709551616:=by unfold bQ aH;split<;>omega
theorem jW {b:Nat}:aK (bQ b)=aK b:=by
 unfold aK eF bQ aT aH
 congr 2
 rw [show((if b<9223372036854775808 then b+9223372036854775808 else b-9223372036854775808)/4503599627370496%2048=b/4503599627370496%2048) by split<;>omega]
theorem xB {b:Nat}(h:b<18446744073709551616):aS (bQ b)=aS b∧aW (bQ b)=aW b∧aQ (bQ b)= !aQ b:=by
 have h1:eF (bQ b)=eF b:=by unfold eF bQ aT aH;split<;>omega
 have h2:fF (bQ b)=fF b:=by unfold fF bQ aT aH;split<;>omega
 refine⟨by unfold aS;rw [h1,h2],by unfold aW;rw [h1],?_⟩
 unfold aQ bQ aH
 by_cases h3:b<9223372036854775808
 ·rw [if_pos h3,decide_eq_true (by omega),decide_eq_false (by omega)];rfl
 ·rw [if_neg h3,decide_eq_false (by omega),decide_eq_true (by omega)];rfl
theorem aLk {b:Nat}(h:b<18446744073709551616) (hf:aK b=true):fI (bQ b)= -fI b:=by
 obtain⟨h1,h2,h3⟩:=xB h
 unfold fI
 rw [←kY hf (by omega),←kY (by rw [jW];exact hf) (by omega),←aB9]
 unfold kZ
 rw [h1,h2,h3]
 cases aQ b
 ·rw [if_pos (by rfl),if_neg (by decide)]
 ·rw [if_neg (by decide),if_pos rfl,Int.neg_neg]
theorem aSq {x y:Nat}(hy:y<18446744073709551616) (fy:aK y=true):F6.sub x y=F6.add x (bQ y):=by
 obtain⟨h1,h2,h3⟩:=xB hy
 unfold Ieee.Format.sub Ieee.Format.add
 rw [dK hy fy,dK (iF hy) (by rw [jW];exact fy),h1,h2,h3]
 rfl
theorem aO4 {x y:Nat}(hx:x<18446744073709551616) (hy:y<18446744073709551616) (fx:aK x=true) (fy:aK y=true) (hB:(fI x-fI y).natAbs<18014398509481983*unU):
  ∃r,F6.sub x y=some r∧r<18446744073709551616∧aK r=true∧iU (fI x-fI y) (fI r):=by
 rw [aSq hy fy]
 have h:=aG4 hx (iF hy) fx (by rw [jW];exact fy) (by rw [aLk hy fy];rw [Int.sub_eq_add_neg]at hB;exact hB)
 rw [aLk hy fy,←Int.sub_eq_add_neg]at h
 exact h
end
end Go.Proofs.YtfmecpembnmnkaaGreatDoor
