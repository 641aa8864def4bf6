/- Plain: a dyad's number, as the model's floats have it; no program. -/
import Derived.Test.YtfmecpembnmnkaaGreatDoorPGL
namespace Go.Proofs.YtfmecpembnmnkaaGreatDoor
section
open Go.RowKit
abbrev F6 :Ieee.Format:=FloatKind.f64.format
theorem aDc :F6.leastPlace= -1074:=by decide
theorem wE :F6.binade=aT:=by decide
theorem aE8 :F6.infRung=aG:=by decide
theorem aBl :F6.signWeight=aH:=by decide
theorem aEs :F6.fractionBits=52:=by decide
theorem aBo (neg:Bool) (r:Nat):F6.word neg r=(if neg then aH else 0)+r:=by
 unfold Ieee.Format.word;rw [aBl];cases neg<;>simp
theorem dK {b:Nat}(h:b<18446744073709551616) (hf:aK b=true):F6.read b= .number (aQ b) (aS b) (aW b):=by
 have h2:eF b≠2047:=of_decide_eq_true hf
 unfold Ieee.Format.read
 simp only [aDc,wE,aE8,aBl]
 have hs:(b/aH%2==1)=aQ b:=by
  unfold aQ aH;rw [Bool.eq_iff_iff];simp;omega
 rw [hs]
 unfold aS aW fF
 unfold eF aT at*
 unfold aH aG
 by_cases h0:b/4503599627370496%2048=0
 ·rw [if_pos (by omega),if_pos h0,if_pos h0]
  congr 1;omega
 ·rw [if_neg (by omega),if_pos (by omega),if_neg h0,if_neg h0]
  congr 1<;>omega
theorem aXj {N d:Nat}{neg:Bool}:upB N d neg 0=(decide (2^(d-1)<N%2^d)||(decide (N%2^d=2^(d-1))&&decide (N/2^d%2=1))):=by
 by_cases h:N%2^d=0
 ·rw [aPt h,h]
  have:=Nat.two_pow_pos (d-1)
  rw [decide_eq_false (by omega),decide_eq_false (by omega)];rfl
 ·exact aH1 h
theorem aOq (b:Bool):(if b then 1 else 0)=b.toNat:=by cases b<;>rfl
theorem aSo (neg:Bool) (N:Nat) (p l:Int):Ieee.Toward.even.cut neg (N<<<(p-l).toNat) (l-p).toNat=iQ N (l-p) neg 0:=by
 unfold Ieee.Toward.cut iQ
 by_cases h:l-p≤0
 ·rw [if_pos h,show(l-p).toNat=0 by omega,show(-(l-p)).toNat=(p-l).toNat by omega]
  simp [Nat.shiftLeft_eq,Nat.mod_one]
 ·rw [if_neg h,show(p-l).toNat=0 by omega]
  obtain⟨d,hd⟩:∃d:Nat,(l-p).toNat=d+1:=⟨(l-p).toNat-1,by omega⟩
  rw [hd,Nat.shiftLeft_zero,aOq,aXj,Nat.add_sub_cancel]
  simp only [Nat.shiftLeft_eq,Nat.one_mul]
  have hlt:=Nat.lt_log2_self (n:=N)
  have hp:2^(d+1)=2*2^d:=by rw [Nat.pow_succ];omega
  by_cases h2:d+1≤N.log2+2
  ·rw [Nat.min_eq_left h2,hp]
   generalize N/(2*2^d)=q
   generalize N%(2*2^d)=r
   generalize 2^d=g
   congr 2
   rw [Bool.eq_iff_iff];simp;omega
  ·rw [Nat.min_eq_right (by omega)]
   have h3:N<2^(N.log2+2):=Nat.lt_of_lt_of_le hlt (Nat.pow_le_pow_right (by decide) (by omega))
   have h4:2^(N.log2+2)≤2^d:=Nat.pow_le_pow_right (by decide) (by omega)
   have h5:2^(N.log2+2)=2*2^(N.log2+1):=by rw [Nat.pow_succ];omega
   rw [Nat.div_eq_of_lt h3,Nat.mod_eq_of_lt h3,Nat.div_eq_of_lt (by omega:N<2^(d+1)),Nat.mod_eq_of_lt (by omega:N<2^(d+1)),h5]
   generalize 2^(N.log2+1)=g at*
   generalize 2^d=u at*
   congr 2
   rw [Bool.eq_iff_iff];simp;omega
theorem aJw {neg:Bool}{z e:Int}(hz:z≠0) (hn:neg=decide (z<0)):F6.nearest neg z.natAbs e=(if neg then aH else 0)+min ((aX z e 53 (-1074)+1074).toNat*aT+bW z e 53 (-1074) 0) aG:=by
 unfold Ieee.Format.nearest
 have h0:z.natAbs≠0:=by omega
 rw [if_neg h0]
 have hl:max (e+z.natAbs.log2-(52:Nat)) (-1074)=aX z e 53 (-1074):=by
  unfold aX bl;rw [if_neg h0];omega
 simp only [aBo,wE,aE8,aDc,aEs,hl,aSo]
 unfold bW;rw [hn,Int.sub_neg]
theorem aNj {N d k:Nat}{neg:Bool}{mode:Int}(h:0<d):upB (N*2^k) (d+k) neg mode=upB N d neg mode:=by
 unfold upB
 have h1:N*2^k%2^(d+k)=N%2^d*2^k:=by rw [Nat.pow_add,Nat.mul_mod_mul_right]
 have h2:N*2^k/2^(d+k)=N/2^d:=by rw [Nat.pow_add,Nat.mul_div_mul_right _ _ (Nat.two_pow_pos k)]
 have h3:2^(d+k-1)=2^(d-1)*2^k:=by rw [←Nat.pow_add];congr 1;omega
 have hk:=Nat.two_pow_pos k
 rw [h1,h2,h3]
 simp only [Nat.mul_le_mul_right_iff hk,Nat.mul_lt_mul_right hk,Nat.mul_right_cancel_iff hk,Nat.mul_eq_zero,Nat.pos_iff_ne_zero.1 hk,or_false]
theorem aJ5 {N k:Nat}{down:Int}{neg:Bool}{mode:Int}:iQ (N*2^k) (down+k) neg mode=iQ N down neg mode:=by
 unfold iQ
 by_cases h1:down+k≤0
 ·rw [if_pos h1,if_pos (by omega),Nat.mul_assoc,←Nat.pow_add]
  congr 2;omega
 ·rw [if_neg h1]
  by_cases h2:down≤0
  ·rw [if_pos h2]
   have h3:N*2^k=N*2^(-down).toNat*2^(down+k).toNat:=by rw [Nat.mul_assoc,←Nat.pow_add];congr 2;omega
   rw [h3,Nat.mul_div_cancel _ (Nat.two_pow_pos _),aPt (Nat.mul_mod_left _ _)];simp
  ·rw [if_neg h2,show(down+k).toNat=down.toNat+k by omega,aNj (by omega),Nat.pow_add,Nat.mul_div_mul_right _ _ (Nat.two_pow_pos k)]
theorem yJ (z:Int) (k:Nat):(z*2^k).natAbs=z.natAbs*2^k:=by rw [Int.natAbs_mul,bZ]
theorem wF (z:Int) (k:Nat):decide (z*2^k<0)=decide (z<0):=by
 rw [decide_eq_decide]
 have:(0:Int)<2^k:=Int.pow_pos (by decide)
 constructor
 ·intro h;exact Int.lt_of_not_ge fun h2=>by have:=Int.mul_nonneg h2 (Int.le_of_lt this);omega
 ·intro h;exact Int.mul_neg_of_neg_of_pos h this
theorem sU {z e digits least:Int}(hz:z≠0) (k:Nat):aX (z*2^k) (e-k) digits least=aX z e digits least:=by
 unfold aX;rw [yJ,lV (by omega)];congr 1;omega
theorem vJ {z e digits least mode:Int}(hz:z≠0) (k:Nat):bW (z*2^k) (e-k) digits least mode=bW z e digits least mode:=by
 unfold bW
 rw [sU hz,yJ,wF,show aX z e digits least-(e-k)=aX z e digits least-e+k by omega,aJ5]
theorem aAe {M z e y f digits least mode:Int}(hz:z≠0) (h1:0≤e+M) (h2:0≤f+M) (h:sc M z e=sc M y f):
  aX z e digits least=aX y f digits least∧bW z e digits least mode=bW y f digits least mode∧decide (z<0)=decide (y<0)∧y≠0:=by
 have hy:y≠0:=fun h0=>hz (jF.1 (by rw [h,h0,fM]))
 have a1:=sU (e:=e) (digits:=digits) (least:=least) hz (e+M).toNat
 have a2:=vJ (e:=e) (digits:=digits) (least:=least) (mode:=mode) hz (e+M).toNat
 have a3:=wF z (e+M).toNat
 have b1:=sU (e:=f) (digits:=digits) (least:=least) hy (f+M).toNat
 have b2:=vJ (e:=f) (digits:=digits) (least:=least) (mode:=mode) hy (f+M).toNat
 have b3:=wF y (f+M).toNat
 rw [show e-((e+M).toNat:Int)= -M by omega]at a1 a2
 rw [show f-((f+M).toNat:Int)= -M by omega]at b1 b2
 unfold sc at h
 rw [h]at a1 a2 a3
 exact⟨a1.symm.trans b1,a2.symm.trans b2,a3.symm.trans b3,hy⟩
theorem yX {neg:Bool}{m:Nat}{last:Int}(h0:m≤2^53) (h1: -1074≤last) (h2:last= -1074∨2^52≤m):mkB neg m last=(if neg then aH else 0)+((last+1074).toNat*aT+m):=by
 unfold mkB dA
 by_cases hm:m=0
 ·subst hm
  rw [if_pos rfl]
  obtain h2|h2:=h2
  ·subst h2;simp
  ·omega
 rw [if_neg hm]
 obtain⟨k1,k2⟩:=aIj hm (by omega)
 have hb:bl m=bl (m/2^Lib.ctz 64 m)+Lib.ctz 64 m:=by
  conv=>lhs;rw [k1]
  exact lV (by omega) _
 have hc1:m=2^53→Lib.ctz 64 m=53∧m/2^Lib.ctz 64 m=1:=by
  intro h;rw [h]
  have:=wX
  rw [show(9007199254740992:Nat)=2^53 from rfl]at this
  rw [this];decide
 have hc2:m≠2^53→bl m≤53:=fun h=>aY (by omega)
 have hc3:2^52≤m→53≤bl m:=fun h=>by
  rcases Nat.lt_or_ge (bl m) 53 with h5|h5
  ·have:=(dD (N:=m) (k:=52)).1 (by omega);omega
  ·exact h5
 have hc4:m<2^52→bl m≤52:=fun h=>aY h
 generalize Lib.ctz 64 m=t at*
 by_cases hx:m=2^53
 ·obtain⟨rfl,h4⟩:=hc1 hx
  simp only [h4]
  have hd:min (53-((bl 1:Nat):Int)) (last+((53:Nat):Int)+1074)=52:=by
   rw [show bl 1=1 by decide];omega
  rw [hd,show 1*2^(52:Int).toNat=4503599627370496 by decide,if_neg (by decide)]
  rw [show(last+((53:Nat):Int)-52+1075).toNat=(last+1074).toNat+2 by omega,hx]
  unfold aT;omega
 ·have hb2:=hc2 hx
  have hd:min (53-((bl (m/2^t):Nat):Int)) (last+(t:Int)+1074)=t:=by
   rcases h2 with h2|h2
   ·omega
   ·have:=hc3 h2;omega
  simp only [hd]
  rw [show m/2^t*2^(t:Int).toNat=m by rw [Int.toNat_natCast];exact k1.symm]
  by_cases hk:m<aT
  ·rw [if_pos hk]
   have:last= -1074:=by
    rcases h2 with h2|h2
    ·exact h2
    ·unfold aT at hk;omega
   subst this;simp
  ·rw [if_neg hk,show(last+(t:Int)-(t:Int)+1075).toNat=(last+1074).toNat+1 by omega]
   unfold aT at*;omega
theorem aRi {N:Nat}{down:Int}{neg:Bool}{mode:Int}(h0:N≠0) (h:(bl N:Int)-down=53):2^52≤iQ N down neg mode:=by
 unfold iQ
 by_cases h1:down≤0
 ·rw [if_pos h1]
  have h2:=lV h0 (-down).toNat
  rcases Nat.lt_or_ge (N*2^(-down).toNat) (2^52)with h3|h3
  ·have:=aY h3;omega
  ·exact h3
 ·rw [if_neg h1]
  refine Nat.le_trans ?_ (Nat.le_add_right _ _)
  rw [Nat.le_div_iff_mul_le (Nat.two_pow_pos _),←Nat.pow_add]
  rcases Nat.lt_or_ge N (2^(52+down.toNat))with h3|h3
  ·have:=aY h3;omega
  ·exact h3
theorem mF {z e mode:Int}(hz:z≠0):aX z e 53 (-1074)= -1074∨2^52≤bW z e 53 (-1074) mode:=by
 by_cases h:aX z e 53 (-1074)= -1074
 ·exact .inl h
 ·refine .inr (aRi (by omega) ?_)
  unfold aX at*;omega
def kD (neg:Bool) (mode:Int):Bool:=decide (mode=2)||(decide (mode=3)&&neg)||(decide (mode=4)&& !neg)
def eU (z e mode:Int):Nat:=
 if aX z e 53 (-1074)+bl (bW z e 53 (-1074) mode)≤1024 then mkB (decide (z<0)) (bW z e 53 (-1074) mode) (aX z e 53 (-1074))
 else(if decide (z<0)then aH else 0)+(if kD (decide (z<0)) mode then aG-1 else aG)
theorem uI {z e:Int}(hz:z≠0):eU z e 0=F6.nearest (decide (z<0)) z.natAbs e:=by
 rw [aJw hz rfl]
 unfold eU
 have h1:=jP z e 53 (-1074) 0 53 rfl
 have h2: -1074≤aX z e 53 (-1074):=by unfold aX;omega
 have h3:=mF (e:=e) (mode:=0) hz
 generalize bW z e 53 (-1074) 0=m at*
 generalize aX z e 53 (-1074)=last at*
 have hm52:m<2^52→bl m≤52:=aY
 have hm53:m<2^53→bl m≤53:=aY
 have hm54:m=2^53→bl m=54:=fun h=>by rw [h];exact sQ 53
 have hm52':2^52≤m→53≤bl m:=fun h=>by
  rcases Nat.lt_or_ge (bl m) 53 with h5|h5
  ·have:=(dD (N:=m) (k:=52)).1 (by omega);omega
  ·exact h5
 split
 ·rw [yX h1 h2 h3,Nat.min_eq_left]
  unfold aT aG
  by_cases ha:m=2^53
  ·have:=hm54 ha;omega
  ·rcases h3 with h3|h3
   ·omega
   ·have:=hm52' h3;omega
 ·rw [Nat.min_eq_right]
  ·rfl
  ·unfold aT aG
   by_cases ha:m=2^53
   ·have:=hm54 ha;omega
   ·have:=hm53 (by omega)
    rcases h3 with h3|h3<;>omega
theorem aMf {b:Nat}(h:b<18446744073709551616) (hf:aK b=true):b=(if aQ b then aH else 0)+((aW b+1074).toNat*aT+aS b):=by
 have h2:eF b≠2047:=of_decide_eq_true hf
 unfold aS aW fF aQ
 unfold eF aT aH at*
 simp only [decide_eq_true_eq]
 split<;>split<;>omega
theorem aSa {b:Nat}(hf:aK b=true):max (aW b+bl (aS b)-53) (-1074)=aW b:=by
 have h1:=dI hf
 have h2:=fP b
 have h3:bl (aS b)≤53:=aY h2
 unfold aS aW fF at*
 by_cases h:eF b=0
 ·rw [if_pos h]at*
  rw [if_pos h]at*;omega
 ·rw [if_neg h]at*
  rw [if_neg h]at*
  have h5:53≤bl (b%aT+aT):=by
   rcases Nat.lt_or_ge (bl (b%aT+aT)) 53 with h5|h5
   ·have:=(dD (N:=b%aT+aT) (k:=52)).1 (by omega);unfold aT at this;omega
   ·exact h5
  omega
theorem aBs {b:Nat}(hf:aK b=true) (M:Int) (hM:1074≤M):sc M (aO b) (pE b)=sc M (if aQ b then-(aS b:Int)else aS b) (aW b):=by
 have h1:=dI hf
 unfold aO
 rcases aBk b with ⟨h2,h3,h4⟩|⟨h2,h3,h4,h5⟩
 ·rw [h2,h3];simp [fM]
 ·have key:sc M (pM b:Int) (pE b)=sc M (aS b:Int) (aW b):=by
   conv=>rhs;rw [h4]
   unfold sc
   rw [Int.natCast_mul,Int.natCast_pow,Int.mul_assoc,h5]
   congr 1
   rw [show((2:Nat):Int)=2 from rfl,←Int.pow_add]
   congr 1;omega
  split
  ·rw [aB9,aB9,key]
  ·exact key
theorem dZ {b:Nat}:aO b=0↔aS b=0:=by
 have:=uV b
 rcases aBk b with ⟨h2,h3,h4⟩|⟨h2,h3,h4,h5⟩<;>omega
theorem aL5 {b:Nat}(h:b<18446744073709551616) (hf:aK b=true) (h0:aO b≠0) (mode:Int):eU (aO b) (pE b) mode=b:=by
 have hm:aS b≠0:=fun e=>h0 (dZ.2 e)
 have h1:=dI hf
 have hp:=gV hf
 have hlt:=fP b
 obtain⟨a1,a2,a3,a4⟩:=aAe (M:=1074) (digits:=53) (least:= -1074) (mode:=mode) h0 (by omega) (by omega) (aBs hf 1074 (by omega))
 unfold eU
 rw [a1,a2,a3]
 have hl:aX (if aQ b then-(aS b:Int)else aS b) (aW b) 53 (-1074)=aW b:=by
  unfold aX
  have:=aSa hf
  split
  ·rw [Int.natAbs_neg,Int.natAbs_natCast];exact this
  ·rw [Int.natAbs_natCast];exact this
 have hr:bW (if aQ b then-(aS b:Int)else aS b) (aW b) 53 (-1074) mode=aS b:=by
  unfold bW iQ
  rw [hl,if_pos (by omega),show(-(aW b-aW b)).toNat=0 by omega]
  split
  ·rw [Int.natAbs_neg,Int.natAbs_natCast];simp
  ·rw [Int.natAbs_natCast];simp
 have hs:decide ((if aQ b then-(aS b:Int)else aS b)<0)=aQ b:=by
  split
  ·rename_i h5;rw [h5];exact decide_eq_true (by omega)
  ·rename_i h5;rw [Bool.not_eq_true]at h5;rw [h5];exact decide_eq_false (by omega)
 rw [hl,hr,hs,if_pos (by have:bl (aS b)≤53:=aY hlt;omega)]
 rw [yX (by omega) h1.1]
 ·exact(aMf h hf).symm
 ·by_cases he:eF b=0
  ·left;unfold aW;rw [if_pos he];rfl
  ·right;unfold aS;rw [if_neg he];unfold aT;omega
end
section
open Go.RowKit
def kZ (b:Nat):Int:=if aQ b then-(aS b:Int)else aS b
theorem jK (b:Nat):(kZ b).natAbs=aS b:=by unfold kZ;split<;>omega
theorem aEl {b:Nat}:kZ b=0↔aO b=0:=by rw [dZ,←jK];omega
theorem aD8 {b:Nat}(h:kZ b≠0):decide (kZ b<0)=aQ b:=by
 have:=jK b
 unfold kZ at*
 cases hs:aQ b<;>simp only [hs,if_true,if_false,Bool.false_eq_true]at* <;>first|exact decide_eq_true (by omega)|exact decide_eq_false (by omega)
theorem sF (b k:Nat):Ieee.signed (aQ b) (aS b) k=kZ b*2^k:=by
 unfold Ieee.signed kZ
 rw [Nat.shiftLeft_eq]
 split<;>simp [Int.neg_mul]
theorem kY {b:Nat}(hf:aK b=true) {M:Int}(hM:1074≤M):sc M (kZ b) (aW b)=sc M (aO b) (pE b):=(aBs hf M hM).symm
theorem aDd {x y:Nat}(hx:x<18446744073709551616) (hy:y<18446744073709551616) (fx:aK x=true) (fy:aK y=true):
  ∃r,F6.add x y=some r∧(plZ (aO x) (pE x) (aO y) (pE y)≠0→r=eU (hvZ (plZ (aO x) (pE x) (aO y) (pE y))) (nrE (plZ (aO x) (pE x) (aO y) (pE y)) (plE (aO x) (pE x) (aO y) (pE y))) 0)∧
   (plZ (aO x) (pE x) (aO y) (pE y)=0→r=0∨r=aH):=by
 unfold Ieee.Format.add
 rw [dK hx fx,dK hy fy]
 unfold Ieee.Datum.sum
 simp only [sF]
 have hx1:=dI fx
 have hy1:=dI fy
 have hpx:=gV fx
 have hpy:=gV fy
 have hs:sc 1074 (kZ x*2^(aW x-min (aW x) (aW y)).toNat+kZ y*2^(aW y-min (aW x) (aW y)).toNat) (min (aW x) (aW y))=sc 1074 (plZ (aO x) (pE x) (aO y) (pE y)) (plE (aO x) (pE x) (aO y) (pE y)):=by
  rw [aBw (by omega) (by omega),←kY fx (by omega),←kY fy (by omega)]
  unfold sc
  rw [Int.add_mul,Int.mul_assoc,Int.mul_assoc,←Int.pow_add,←Int.pow_add]
  congr 3<;>omega
 have hE:0≤plE (aO x) (pE x) (aO y) (pE y)+1074:=aAq (by omega) (by omega)
 have hb:0≤min (aW x) (aW y)+1074:=by omega
 generalize plZ (aO x) (pE x) (aO y) (pE y)=P at*
 generalize plE (aO x) (pE x) (aO y) (pE y)=PE at*
 generalize min (aW x) (aW y)=base at*
 generalize kZ x*2^(aW x-base).toNat+kZ y*2^(aW y-base).toNat=total at*
 have h0:total=0↔P=0:=by rw [←jF (M:=1074) (e:=base),hs,jF]
 refine⟨_,rfl,fun hP=> ?_,fun hP=> ?_⟩
 ·have ht:total≠0:=fun e=>hP (h0.1 e)
  rw [if_neg ht]
  have hn:0≤nrE P PE+1074:=uZ (by omega) hE
  rw [←aAz hE]at hs
  obtain⟨a1,a2,a3,a4⟩:=aAe (digits:=53) (least:= -1074) (mode:=0) ht hb hn hs
  rw [show F6.write (.number (decide (total<0)) total.natAbs base)=F6.nearest (decide (total<0)) total.natAbs base from rfl,←uI ht]
  unfold eU
  rw [a1,a2,a3]
 ·have ht:total=0:=h0.2 hP
  subst ht
  rw [if_pos rfl,show F6.write (.number (aQ x&&aQ y) (0:Int).natAbs base)=F6.word (aQ x&&aQ y) 0 from rfl,aBo]
  cases aQ x&&aQ y
  ·exact .inl rfl
  ·exact .inr rfl
theorem aRj {a b:Int}(ha:a≠0) (hb:b≠0):decide (a*b<0)=(decide (a<0)^^decide (b<0)):=by
 rcases Int.lt_or_lt_of_ne ha with h1|h1<;>rcases Int.lt_or_lt_of_ne hb with h2|h2
 ·have:=Int.mul_pos_of_neg_of_neg h1 h2
  rw [decide_eq_true h1,decide_eq_true h2,decide_eq_false (by omega)];rfl
 ·have:=Int.mul_neg_of_neg_of_pos h1 h2
  rw [decide_eq_true h1,decide_eq_false (by omega:¬b<0),decide_eq_true this];rfl
 ·have:=Int.mul_neg_of_pos_of_neg h1 h2
  rw [decide_eq_true h2,decide_eq_false (by omega:¬a<0),decide_eq_true this];rfl
 ·have:=Int.mul_pos h1 h2
  rw [decide_eq_false (by omega:¬a<0),decide_eq_false (by omega:¬b<0),decide_eq_false (by omega)];rfl
theorem aQf {x y:Nat}(hx:x<18446744073709551616) (hy:y<18446744073709551616) (fx:aK x=true) (fy:aK y=true):
  ∃r,F6.mul x y=some r∧(aO x*aO y≠0→r=eU (hvZ (aO x*aO y)) (nrE (aO x*aO y) (pE x+pE y)) 0)∧
   (aO x*aO y=0→r=0∨r=aH):=by
 unfold Ieee.Format.mul
 rw [dK hx fx,dK hy fy]
 unfold Ieee.Datum.product
 have hx1:=dI fx
 have hy1:=dI fy
 have hpx:=gV fx
 have hpy:=gV fy
 refine⟨_,rfl,fun hP=> ?_,fun hP=> ?_⟩
 ·have hvx:aO x≠0:=fun e=>hP (by rw [e,Int.zero_mul])
  have hvy:aO y≠0:=fun e=>hP (by rw [e,Int.mul_zero])
  have hox:kZ x≠0:=fun e=>hvx (aEl.1 e)
  have hoy:kZ y≠0:=fun e=>hvy (aEl.1 e)
  have ht:kZ x*kZ y≠0:=Int.mul_ne_zero hox hoy
  have hs:sc (1074+1074) (kZ x*kZ y) (aW x+aW y)=sc (1074+1074) (hvZ (aO x*aO y)) (nrE (aO x*aO y) (pE x+pE y)):=by
   rw [aAz (by omega),aAd (by omega) (by omega),aAd (by omega) (by omega),kY fx (by omega),kY fy (by omega)]
  have hn:0≤nrE (aO x*aO y) (pE x+pE y)+(1074+1074):=uZ (by omega) (by omega)
  obtain⟨a1,a2,a3,a4⟩:=aAe (digits:=53) (least:= -1074) (mode:=0) ht (by omega) hn hs
  rw [show F6.write (.number (aQ x^^aQ y) (aS x*aS y) (aW x+aW y))=F6.nearest (aQ x^^aQ y) (aS x*aS y) (aW x+aW y)from rfl,
   ←jK x,←jK y,←Int.natAbs_mul,←aD8 hox,←aD8 hoy,←aRj hox hoy,←uI ht]
  unfold eU
  rw [a1,a2,a3]
 ·have hm:aS x*aS y=0:=by
   rcases Int.mul_eq_zero.1 hP with h|h
   ·rw [dZ.1 h,Nat.zero_mul]
   ·rw [dZ.1 h,Nat.mul_zero]
  rw [hm,show F6.write (.number (aQ x^^aQ y) 0 (aW x+aW y))=F6.word (aQ x^^aQ y) 0 from rfl,aBo]
  cases aQ x^^aQ y
  ·exact .inl rfl
  ·exact .inr rfl
theorem aAk (a:Int):compare a a=Ordering.eq:=by
 show compareOfLessAndEq a a=_
 unfold compareOfLessAndEq;rw [if_neg (by omega),if_pos rfl]
theorem rD {b:Nat}:(F6.read b).isNaN=aU b:=by
 unfold Ieee.Format.read aU
 simp only [wE,aE8,aBl]
 unfold aT aG
 split
 ·rw [decide_eq_false (by omega)];rfl
 ·split
  ·rw [decide_eq_false (by omega)];rfl
  ·split
   ·rw [decide_eq_false (by omega)];rfl
   ·rw [decide_eq_true (by omega)];rfl
theorem aKl (b:Nat):(F6.order b b==some Ordering.eq)= !aU b:=by
 rw [←rD]
 unfold Ieee.Format.order
 cases F6.read b with
 |number s m e=>unfold Ieee.Datum.order;simp only [aAk];rfl
 |infinity s=>cases s<;>rfl
 |nan s t=>rfl
theorem jC {b:Nat}(hf:aK b=true):aU b=false:=by
 have h2:eF b≠2047:=of_decide_eq_true hf
 unfold aU eF aT aG aH at*
 exact decide_eq_false (by omega)
theorem lF (e mode:Int) (h:e=0):eU 0 e mode=0:=by
 subst h
 unfold eU bW
 rw [show aX 0 0 53 (-1074)= -53 by decide,show iQ (0:Int).natAbs (-53-0) (decide ((0:Int)<0)) mode=0 by unfold iQ;rw [if_pos (by decide)];rfl,if_pos (by decide)]
 decide
end
section
set_option maxRecDepth 100000
set_option maxHeartbeats 6400000
open Go.RowKit
theorem aAc (b:Nat) (w:World):
  Calls Tryz.prog 131 #[.float .f64 b] w (Gives (.int .u64 (bF b:Nat)) w):=by
 have hf:=gZ b
 have ho:(FloatKind.f64.format.order b b !=some Ordering.eq)=aU b:=by
  have:=aKl b
  unfold F6 at this
  rw [bne,this,Bool.not_not]
 unfold bF
 cases hn:aU b
 ·rw [hn]at ho
  rw [if_neg (by decide)]
  go_enter Tryz.func131,Tryz.ntmps131
  go_wp2
  go_ret
  exact⟨rfl,Below.refl _ _⟩
 ·rw [hn]at ho
  rw [if_pos rfl]
  go_enter Tryz.func131,Tryz.ntmps131
  go_wp2
  go_ret
  exact⟨rfl,Below.refl _ _⟩
theorem aKj (b:Nat) (w:World) (h:b<18446744073709551616):
  Calls Tryz.prog 176 #[.float .f64 b] w (Gives (.tuple #[.bool (aQ (bF b)),.int .i64 (eF (bF b)),.int .u64 (fF (bF b))]) w):=by
 have HB:=jH fun W=>aAc b W
 have hc:=aD0 h
 clear h
 generalize bF b=c at*
 have h1:((c:Int)/9223372036854775808==1)=aQ c:=by unfold aQ aH;rw [Bool.eq_iff_iff];simp;omega
 have h2:(c:Int)/4503599627370496%2048=(eF c:Int):=by unfold eF aT;omega
 have h3:(c:Int)%4503599627370496=(fF c:Int):=by unfold fF aT;omega
 have he:eF c<2048:=Nat.mod_lt _ (by decide)
 have H1:=jH h1
 have H2:=jH h2
 have H3:=jH h3
 clear h1 h2 h3
 generalize hs:aQ c=s at*
 generalize hee:eF c=e at*
 generalize hff:fF c=f at*
 clear hs hee hff
 go_enter Tryz.func176,Tryz.ntmps176
 go_wp2_with fail
 refine(HB.out _).mono ?_
 rintro e1 w1 ⟨rfl,hb1⟩
 have HB1:=jH hb1
 clear hb1
 go_wp2
 go_ret3
 exact⟨by simp only [H1.out,H2.out,H3.out];rfl,HB1.out⟩
theorem aEq (e f:Nat) (w:World):
  Calls Tryz.prog 177 #[.int .i64 e,.int .u64 f,.int .i64 2047] w (Gives (.int .i64 (iR e f)) w):=by
 have k1:((e:Int)==2047)=decide (e=2047):=by rw [Bool.eq_iff_iff];simp;omega
 have k2:((f:Int) !=0)=decide (f≠0):=by rw [Bool.eq_iff_iff];simp
 have k3:((e:Int)==0)=decide (e=0):=by rw [Bool.eq_iff_iff];simp
 have k4:((f:Int)==0)=decide (f=0):=by rw [Bool.eq_iff_iff];simp
 unfold iR
 by_cases h1:e=2047
 ·rw [if_pos h1]
  rw [decide_eq_true h1]at k1
  by_cases h2:f=0
  ·rw [if_pos h2]
   rw [decide_eq_false (fun x=>x h2)]at k2
   clear h1 h2 k3 k4
   go_enter Tryz.func177,Tryz.ntmps177
   go_wp2
   go_ret
   exact⟨rfl,Below.refl _ _⟩
  ·rw [if_neg h2]
   rw [decide_eq_true h2]at k2
   clear h1 h2 k3 k4
   go_enter Tryz.func177,Tryz.ntmps177
   go_wp2
   go_ret
   exact⟨rfl,Below.refl _ _⟩
 ·rw [if_neg h1]
  rw [decide_eq_false h1]at k1
  by_cases h2:e=0
  ·rw [if_pos h2]
   rw [decide_eq_true h2]at k3
   by_cases h3:f=0
   ·rw [if_pos h3]
    rw [decide_eq_true h3]at k4
    clear h1 h2 h3 k2
    go_enter Tryz.func177,Tryz.ntmps177
    go_wp2
    go_ret
    exact⟨rfl,Below.refl _ _⟩
   ·rw [if_neg h3]
    rw [decide_eq_false h3]at k4
    clear h1 h2 h3 k2
    go_enter Tryz.func177,Tryz.ntmps177
    go_wp2
    go_ret
    exact⟨rfl,Below.refl _ _⟩
  ·rw [if_neg h2]
   rw [decide_eq_false h2]at k3
   clear h1 h2 k2 k4
   go_enter Tryz.func177,Tryz.ntmps177
   go_wp2
   go_ret
   exact⟨rfl,Below.refl _ _⟩
theorem aJq (b:Nat) (w:World) (h:b<18446744073709551616):
  Calls Tryz.prog 144 #[.float .f64 b] w (Gives (.int .i64 (nX b)) w):=by
 have HS:=jH fun W=>aKj b W h
 unfold nX
 clear h
 generalize aQ (bF b)=s at*
 generalize eF (bF b)=e at*
 generalize fF (bF b)=f at*
 go_enter Tryz.func144,Tryz.ntmps144
 go_wp2_with fail
 refine(HS.out _).mono ?_
 rintro e1 w1 ⟨rfl,hb1⟩
 have HB1:=jH hb1
 clear hb1
 go_wp2_with fail
 refine(aEq e f _).mono ?_
 rintro e2 w2 ⟨rfl,hb2⟩
 have HB2:=jH (HB1.out.trans (hb2.mono HB1.out.size))
 clear hb2
 go_wp2
 go_ret
 exact⟨rfl,HB2.out⟩
theorem aWo (b:Nat):decide (2<nX b)=aK b:=by
 have h:=aL8 b
 cases hf:aK b
 ·have:=h.2 hf
  simp only [beq_iff_eq]at this
  rcases this with h1|⟨-,h1⟩<;>rw [h1]<;>rfl
 ·refine decide_eq_true ?_
  have h2:eF b≠2047:=of_decide_eq_true hf
  unfold nX iR
  rw [oH hf,if_neg h2]
  split
  ·split<;>decide
  ·decide
theorem aH0 (b:Nat) (w:World) (h:b<18446744073709551616):
  Calls Tryz.prog 118 #[.float .f64 b] w (Gives (.bool (aK b)) w):=by
 have HS:=jH fun W=>aJq b W h
 have hg:=aWo b
 have HG:=jH hg
 clear h hg
 generalize nX b=c at*
 go_enter Tryz.func118,Tryz.ntmps118
 go_wp2_with fail
 refine(HS.out _).mono ?_
 rintro e1 w1 ⟨rfl,hb1⟩
 have HB1:=jH hb1
 clear hb1
 go_wp2
 go_ret
 exact⟨by rw [←HG.out];rfl,HB1.out⟩
theorem oD (w:World):
  Calls Tryz.prog 100 #[.int .i64 1] w (Gives (.float .f64 9218868437227405312) w):=by
 have h1:∀w,(callFunc 68 #[.int .u64 9218868437227405312]).run Tryz.prog w= .ok (.value (.float .f64 9218868437227405312)) w:=lM 9218868437227405312
 go_enter Tryz.func100,Tryz.ntmps100
 go_wp2
 go_ret
 exact⟨rfl,Below.refl _ _⟩
theorem yI {b:Nat}(h:b<aH):Op.negFloat .f64 b=aH+b:=by
 unfold Op.negFloat
 rw [show FloatKind.f64.format.exponentBits+FloatKind.f64.format.fractionBits=63 by decide]
 unfold aH at*
 rw [Nat.xor_comm,show(9223372036854775808:Nat)=2^63 from rfl]
 have h2:=Nat.two_pow_add_eq_or_of_lt (i:=63) (b:=b) h 1
 rw [Nat.mul_one]at h2
 rw [h2]
 apply Nat.eq_of_testBit_eq
 intro i
 rw [Nat.testBit_xor,Nat.testBit_or]
 by_cases hi:i=63
 ·subst hi
  rw [Nat.testBit_lt_two_pow (x:=b) h];simp
 ·rw [Nat.testBit_two_pow_of_ne (fun e=>hi e.symm)];simp
theorem aCj (b:Nat) (neg:Bool) (w:World) (h:b<aH):
  Calls Tryz.prog 222 #[.float .f64 b,.bool neg] w (Gives (.float .f64 ((if neg then aH else 0)+b)) w):=by
 have h1:=yI h
 clear h
 cases neg
 ·rw [if_neg (by decide),Nat.zero_add]
  go_enter Tryz.func222,Tryz.ntmps222
  go_wp2
  go_ret
  exact⟨rfl,Below.refl _ _⟩
 ·rw [if_pos rfl]
  generalize aH+b=c at*
  have H1:∀w,(Op.unary .neg (.float .f64 b)).run Tryz.prog w= .ok (.float .f64 c) w:=fun w=>by rw [←h1];rfl
  clear h1
  go_enter Tryz.func222,Tryz.ntmps222
  go_wp2
  go_ret
  exact⟨rfl,Below.refl _ _⟩
theorem aJj (neg:Bool) (mode:Int) (w:World) (h1:0≤mode) (h2:mode≤4):
  Calls Tryz.prog 221 #[.bool neg,.int .i64 mode] w (Gives (.bool (kD neg mode)) w):=by
 have hm:mode=0∨mode=1∨mode=2∨mode=3∨mode=4:=by omega
 clear h1 h2
 unfold kD
 rcases hm with rfl|rfl|rfl|rfl|rfl<;>cases neg<;>
  (go_enter Tryz.func221,Tryz.ntmps221
   go_wp2
   go_ret
   exact⟨rfl,Below.refl _ _⟩)
end
section
set_option maxRecDepth 100000
set_option maxHeartbeats 6400000
open Go.RowKit
theorem aFx (va:Value) (z e mode:Int) (w:World) (ha:jS w va z e) (hga:gK z e) (hm1:0≤mode) (hm2:mode≤4) (hT:eY w) (hTs:1<w.heap.size)
  (hfit:¬aX z e 53 (-1074)+bl (bW z e 53 (-1074) mode)≤1024):
  Calls Tryz.prog 188 #[va,.int .i64 mode] w (Gives (.tuple #[.float .f64 ((if decide (z<0)then aH else 0)+(if kD (decide (z<0)) mode then aG-1 else aG)),.int .i64 0]) w):=by
 have HA:=jH ha
 obtain⟨sa,rfl,hra⟩:=ha
 have HRa:=jH hra
 obtain⟨aa,ca,rfl,-⟩:=hra
 have HG:=jH hga
 have HF:=jH (jQ z)
 have HT:=jH (And.intro hT hTs)
 have HL:Hid (ln 32 z.natAbs≤1073741824):=jH (Nat.le_trans (dV 32 _ (by decide)) (Nat.le_trans hga.2.1 (by decide)))
 have HRD:Hid (∀(b:Nat) (W:World),bM W b 0 z→Calls Tryz.prog 219 #[ExV b e,.int .i64 53,.int .i64 (-1074),.int .i64 mode] W (Rounds z e 53 (-1074) mode W)):=
  jH fun b W h=>aAx b z e 53 (-1074) mode W h (Nat.le_trans hga.2.1 (by decide)) (by have:=hga.2.2.1;omega) (by have:=hga.2.2.2;omega) (by decide) (by decide) (by decide) (by decide) (by omega)
 have hl1: -1074≤aX z e 53 (-1074):=by unfold aX;omega
 have hl2:aX z e 53 (-1074)≤200000:=by have:=hga.2.1;have:=hga.2.2.2;unfold aX;omega
 have hmB:=jP z e 53 (-1074) mode 53 rfl
 have HBY:=jH fun W=>aJj (decide (z<0)) mode W hm1 hm2
 have HSG1:=jH fun W=>aCj 9218868437227405311 (decide (z<0)) W (by decide)
 have HSG2:=jH fun W=>aCj 9218868437227405312 (decide (z<0)) W (by decide)
 unfold DyV Rounds at*
 rw [show aG-1=9218868437227405311 by decide,show aG=9218868437227405312 from rfl]
 generalize bW z e 53 (-1074) mode=m at*
 generalize aX z e 53 (-1074)=last at*
 have hfit2:decide ((1024:Int)<last+(bl m:Int))=true:=by simp;omega
 have HBM:Hid (bl ((m:Int)).natAbs=bl m):=jH (by rw [Int.natAbs_natCast])
 have hblm:bl m≤54:=Nat.le_trans (lG hmB) (by rw [sQ];omega)
 generalize kD (decide (z<0)) mode=by1 at*
 generalize hN:(if decide (z<0)then aH else 0)=sg at*
 clear hN
 generalize hR:sg+(if by1=true then 9218868437227405311 else 9218868437227405312)=R
 have HR1:Hid (by1=true→sg+9218868437227405311=R):=jH fun h=>by rw [←hR,if_pos h]
 have HR2:Hid (by1=false→sg+9218868437227405312=R):=jH fun h=>by rw [←hR,h];rfl
 clear hR
 generalize decide (z<0)=na at*
 generalize z.natAbs=Na at*
 generalize ln 32 Na=la at*
 generalize bl m=q at*
 have HW0:=jH (aJ.new w #[.bool na,.slice aa la ca,.int .i64 e] 167)
 clear hga hT hTs hmB
 go_enter Tryz.func188,Tryz.ntmps188
 go_wp2_with fail
 refine(rJ _ z e _ (HA.out.below (gJ _ _)) HG.out).mono ?_
 rintro e1 w1 ⟨rfl,hb1⟩
 have HW1:Hid (aJ w1 w.heap.size 167 #[.bool na,.slice aa la ca,.int .i64 e]∧Below w.heap.size w w1):=jH ⟨HW0.out.below hb1,(gJ _ _).trans (hb1.mono (gJ _ _).size)⟩
 obtain⟨x0,x1,x2,x3,x4,x5⟩:=HW1.out.1.cells3
 clear hb1 HW0
 go_wp2_with fail
 refine(aD4 mode _ hm1 hm2).mono ?_
 rintro e2 w2 ⟨rfl,rfl⟩
 go_wp2_with fail
 refine(take_any na e _ la Na _ (HRa.out.below HW1.out.2) HL.out).mono ?_
 rintro e3 w3 ⟨p,rfl,hp,hi3,hb3⟩
 rw [HF.out]at hi3
 have HW3:Hid (aJ w3 w.heap.size 167 #[.bool na,.slice aa la ca,.int .i64 e]∧Below w.heap.size w w3):=jH ⟨HW1.out.1.below hb3,HW1.out.2.trans (hb3.mono HW1.out.2.size)⟩
 have HI3:=jH hi3
 clear hp hi3 hb3 HW1 x0 x1 x2 x3 x4 x5
 unfold ExV at*
 go_wp2_with fail
 refine(HRD.out p _ (HI3.out.below (gJ _ _))).mono ?_
 rintro e4 w4 ⟨p2,rfl,hi4,hb4⟩
 have HW4:Hid (aJ w4 w.heap.size 167 #[.bool na,.slice aa la ca,.int .i64 e]∧Below w.heap.size w w4):=jH ⟨(HW3.out.1.alloc _).below hb4,(HW3.out.2.alloc HW3.out.2.size _).trans (hb4.mono (HW3.out.2.alloc HW3.out.2.size _).size)⟩
 have HI4:=jH hi4
 clear hi4 hb4 HW3 HI3
 go_wp2_with fail
 refine(sJ p2 0 _ _ HI4.out).mono ?_
 rintro e5 w5 ⟨rfl,rfl⟩
 rw [HBM.out]
 obtain⟨x0,x1,x2,x3,x4,x5⟩:=HW4.out.1.cells3
 go_wp2_with fail
 refine(HBY.out _).mono ?_
 rintro e6 w6 ⟨rfl,hb6⟩
 have HW6:Hid (aJ w6 w.heap.size 167 #[.bool na,.slice aa la ca,.int .i64 e]∧Below w.heap.size w w6):=jH ⟨HW4.out.1.below hb6,HW4.out.2.trans (hb6.mono HW4.out.2.size)⟩
 clear hb6 x0 x1 x2 x3 x4 x5 HW4
 cases by1
 ·have HR:=jH (HR2.out rfl)
  clear HR1 HR2
  go_wp2
  refine aC (fun w':World=>w'.cell? ⟨w.heap.size,0,none⟩=some (.bool na)) 4 (.take 1 (.take 2 (.run 0 (.run 3 .nil)))) (by kernel_rfl) (by kernel_rfl) ?_
  have HW7:Hid (aJ w6.drew w.heap.size 167 #[.bool na,.slice aa la ca,.int .i64 e]∧Below w.heap.size w w6.drew):=jH ⟨HW6.out.1.below (aB _),HW6.out.2.drew⟩
  clear HW6
  generalize w6.drew=V at HW7 ⊢
  have hS:(fun w':World=>w'.cell? ⟨w.heap.size,0,none⟩=some (.bool na)) V:=HW7.out.1.cell 0
  repeat (refine bD (v:= ?_) rfl (fun _ _ _ h=>h) rfl (fun w' hSw=> ?_) hS ?_;rotate_left;focus (go_simp;with_reducible rfl);try simp only [Act.put,aF])
  refine aZ rfl fun K' hK=> ?_
  go_simp
  refine(oD _).mono ?_
  rintro e8 w8 ⟨rfl,hb8⟩
  have HW8:Hid (aJ w8 w.heap.size 167 #[.bool na,.slice aa la ca,.int .i64 e]∧Below w.heap.size w w8):=jH ⟨HW7.out.1.below hb8,HW7.out.2.trans (hb8.mono HW7.out.2.size)⟩
  have hS:(fun w':World=>w'.cell? ⟨w.heap.size,0,none⟩=some (.bool na)) w8:=HW8.out.1.cell 0
  refine hK _ _ hS ?_
  clear hK K' hb8 HW7
  refine aZ rfl fun K' hK=> ?_
  go_simp
  refine(HSG2.out _).mono ?_
  rintro e9 w9 ⟨rfl,hb9⟩
  have HW9:Hid (aJ w9 w.heap.size 167 #[.bool na,.slice aa la ca,.int .i64 e]∧Below w.heap.size w w9):=jH ⟨HW8.out.1.below hb9,HW8.out.2.trans (hb9.mono HW8.out.2.size)⟩
  have hS:(fun w':World=>w'.cell? ⟨w.heap.size,0,none⟩=some (.bool na)) w9:=HW9.out.1.cell 0
  refine hK _ _ hS ?_
  clear hK K' hb9 HW8 hS
  refine aN ?_
  simp only [drL]
  go_wp2
  go_ret2
  exact⟨by rw [←HR.out];rfl,HW9.out.2⟩
 ·have HR:=jH (HR1.out rfl)
  clear HR1 HR2
  obtain⟨x0,x1,x2,x3,x4,x5⟩:=HW6.out.1.cells3
  go_wp2_with fail
  refine(HSG1.out _).mono ?_
  rintro e9 w9 ⟨rfl,hb9⟩
  have HB9:=jH (HW6.out.2.trans (hb9.mono HW6.out.2.size))
  clear hb9
  go_wp2
  go_ret2
  exact⟨by rw [←HR.out];rfl,HB9.out⟩
theorem aJr (va:Value) (z e mode:Int) (w:World) (ha:jS w va z e) (hga:gK z e) (hm1:0≤mode) (hm2:mode≤4) (hT:eY w) (hTs:1<w.heap.size):
  Calls Tryz.prog 188 #[va,.int .i64 mode] w (Gives (.tuple #[.float .f64 (eU z e mode),.int .i64 0]) w):=by
 unfold eU
 by_cases h:aX z e 53 (-1074)+bl (bW z e 53 (-1074) mode)≤1024
 ·rw [if_pos h];exact aIc va z e mode w ha hga hm1 hm2 hT hTs h
 ·rw [if_neg h];exact aFx va z e mode w ha hga hm1 hm2 hT hTs h
end
end Go.Proofs.YtfmecpembnmnkaaGreatDoor
