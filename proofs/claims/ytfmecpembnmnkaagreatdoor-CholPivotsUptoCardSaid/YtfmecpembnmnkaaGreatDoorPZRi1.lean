/- Plain: rounding rises; its words; how floats stand by their words; no program. -/
import Derived.Test.YtfmecpembnmnkaaGreatDoorPGM
namespace Go.Proofs.YtfmecpembnmnkaaGreatDoor
open Go.RowKit
def ky (b:Nat):Int:=if b<aH then(b:Int)else-((b-aH:Nat):Int)
def wv (w:Nat):Nat:=if w<aT then w else(w%aT+aT)*2^(w/aT-1)
theorem yD {m l:Nat}(h0:m≤2^53) (h2:l=0∨2^52≤m):wv (l*aT+m)=m*2^l:=by
 unfold wv
 by_cases h3:m=2^53
 ·subst h3
  rw [if_neg (by unfold aT;omega),show(l*aT+2^53)%aT=0 by unfold aT;omega,show(l*aT+2^53)/aT-1=l+1 by unfold aT;omega]
  unfold aT
  rw [Nat.pow_succ];omega
 ·by_cases h4:m<aT
  ·obtain rfl:l=0:=by rcases h2 with h2|h2;exact h2;unfold aT at h4;omega
   rw [if_pos (by simpa using h4)];simp
  ·rw [if_neg (by unfold aT at*;omega),show(l*aT+m)%aT+aT=m by unfold aT at*;omega,show(l*aT+m)/aT-1=l by unfold aT at*;omega]
theorem aB7 (w:Nat):wv w<wv (w+1):=by
 unfold wv
 by_cases h:w<aT
 ·rw [if_pos h]
  by_cases h2:w+1<aT
  ·rw [if_pos h2];omega
  ·rw [if_neg h2,show(w+1)%aT=0 by unfold aT at*;omega,show(w+1)/aT-1=0 by unfold aT at*;omega]
   omega
 ·rw [if_neg h,if_neg (by omega)]
  have hp:=Nat.two_pow_pos (w/aT-1)
  by_cases h2:w%aT+1=aT
  ·rw [show(w+1)%aT=0 by unfold aT at*;omega,show(w+1)/aT-1=(w/aT-1)+1 by unfold aT at*;omega,Nat.pow_succ]
   have:(w%aT+aT)<aT*2:=by unfold aT at*;omega
   rw [Nat.zero_add,Nat.mul_comm (2^_) 2,←Nat.mul_assoc]
   exact Nat.mul_lt_mul_of_pos_right this hp
  ·rw [show(w+1)%aT=w%aT+1 by unfold aT at*;omega,show(w+1)/aT-1=w/aT-1 by unfold aT at*;omega]
   exact Nat.mul_lt_mul_of_pos_right (by omega) hp
theorem rX {a b:Nat}(h:a≤b):wv a≤wv b:=by
 induction b with
 |zero=>exact(show a=0 by omega)▸Nat.le_refl _
 | succ b ih=>
  by_cases h2:a=b+1
  ·subst h2;exact Nat.le_refl _
  ·exact Nat.le_trans (ih (by omega)) (Nat.le_of_lt (aB7 b))
theorem aVj {a b:Nat}(h:a<b):wv a<wv b:=Nat.lt_of_lt_of_le (aB7 a) (rX h)
theorem aLq :wv 0=0:=by decide
theorem aBr {b:Nat}(h:b<18446744073709551616) (hf:aK b=true):wv (b%aH)=aS b*2^(aW b+1074).toNat:=by
 have h1:=aMf h hf
 have h2:=dI hf
 have h3:=fP b
 have h4:(aW b+1074).toNat=0∨2^52≤aS b:=by
  by_cases he:eF b=0
  ·left;unfold aW;rw [if_pos he];rfl
  ·right;unfold aS;rw [if_neg he];unfold aT;omega
 have h5:b%aH=(aW b+1074).toNat*aT+aS b:=by
  have:(aW b+1074).toNat*aT+aS b<aH:=by unfold aT aH;omega
  clear h h2 h3 h4
  generalize (aW b+1074).toNat*aT+aS b=r at*
  generalize aQ b=s at*
  subst h1
  split
  ·rw [Nat.add_mod_left,Nat.mod_eq_of_lt this]
  ·rw [Nat.zero_add,Nat.mod_eq_of_lt this]
 rw [h5,yD (by omega) h4]
theorem nS {b:Nat}(h:b<18446744073709551616) (hf:aK b=true) {M:Int}(hM:1074≤M):sc M (aO b) (pE b)=(if aQ b then-(wv (b%aH):Int)else wv (b%aH))*2^(M-1074).toNat:=by
 have h2:=dI hf
 rw [aBs hf M hM,aBr h hf]
 have key:((aS b*2^(aW b+1074).toNat:Nat):Int)*2^(M-1074).toNat=(aS b:Int)*2^(aW b+M).toNat:=by
  rw [Int.natCast_mul,Int.natCast_pow,Int.mul_assoc,show((2:Nat):Int)=2 from rfl,←Int.pow_add]
  congr 2;omega
 unfold sc
 split
 ·rw [Int.neg_mul,Int.neg_mul,key]
 ·exact key.symm
theorem rP {b:Nat}(h:b<18446744073709551616) (hi:b%aH=aG):F6.read b= .infinity (aQ b):=by
 unfold Ieee.Format.read
 simp only [aDc,wE,aE8,aBl]
 have hs:(b/aH%2==1)=aQ b:=by
  unfold aQ aH;rw [Bool.eq_iff_iff];simp;omega
 rw [hs,hi,if_neg (by unfold aG aT;omega),if_neg (by omega),if_pos rfl]
theorem jI {b:Nat}(hn:b%aH≤aG):(aK b=true∧b%aH<aG)∨(aK b=false∧b%aH=aG):=by
 unfold aK eF
 by_cases h:b%aH=aG
 ·right
  refine⟨decide_eq_false (fun h2=>h2 ?_),h⟩
  unfold aH aG aT at*;omega
 ·left
  refine⟨decide_eq_true ?_,by omega⟩
  unfold aH aG aT at*;omega
theorem aOz {a b k:Int}(hk:0<k):compare (a*k) (b*k)=compare a b:=by
 rcases Int.lt_trichotomy a b with h|h|h
 ·rw [Int.compare_eq_lt.2 h,Int.compare_eq_lt.2 (Int.mul_lt_mul_of_pos_right h hk)]
 ·rw [h];simp
 ·rw [Int.compare_eq_gt.2 h,Int.compare_eq_gt.2 (Int.mul_lt_mul_of_pos_right h hk)]
theorem aMn {x y:Nat}(hx:x<18446744073709551616) (hy:y<18446744073709551616) (fx:aK x=true) (fy:aK y=true):
  F6.order x y=some (compare (if aQ x then-(wv (x%aH):Int)else wv (x%aH)) (if aQ y then-(wv (y%aH):Int)else wv (y%aH))):=by
 unfold Ieee.Format.order
 rw [dK hx fx,dK hy fy]
 unfold Ieee.Datum.order
 simp only
 rw [sF,sF,aBr hx fx,aBr hy fy]
 have h1:=dI fx
 have h2:=dI fy
 congr 1
 rw [←aOz (k:=2^(min (aW x) (aW y)+1074).toNat) (Int.pow_pos (by decide))]
 have key:∀b,-1074≤aW b→min (aW x) (aW y)≤aW b→kZ b*2^(aW b-min (aW x) (aW y)).toNat*2^(min (aW x) (aW y)+1074).toNat=if aQ b then-((aS b*2^(aW b+1074).toNat:Nat):Int)else((aS b*2^(aW b+1074).toNat:Nat):Int):=by
  intro b hb1 hb2
  have h3:(aW b-min (aW x) (aW y)).toNat+(min (aW x) (aW y)+1074).toNat=(aW b+1074).toNat:=by omega
  rw [Int.mul_assoc,←Int.pow_add,h3]
  unfold kZ
  split
  ·rw [Int.neg_mul,Int.natCast_mul,Int.natCast_pow];rfl
  ·rw [Int.natCast_mul,Int.natCast_pow];rfl
 rw [key x h1.1 (by omega),key y h2.1 (by omega)]
theorem lT {b:Nat}(h:b<18446744073709551616):ky b=if aQ b then-((b%aH:Nat):Int)else((b%aH:Nat):Int):=by
 unfold ky aQ
 by_cases h2:b<aH
 ·rw [if_pos h2,decide_eq_false (by omega),if_neg (by decide),Nat.mod_eq_of_lt h2]
 ·rw [if_neg h2,if_pos (decide_eq_true (by omega))]
  have h3:b-aH=b%aH:=by unfold aH at*;omega
  rw [h3]
theorem aV9 {a b c d:Int}(h1:a<b↔c<d) (h2:b<a↔d<c):compare a b=compare c d:=by
 rcases Int.lt_trichotomy a b with h|h|h
 ·rw [Int.compare_eq_lt.2 h,Int.compare_eq_lt.2 (h1.1 h)]
 ·have:c=d:=by
   have h3:¬c<d:=fun h'=>by have:=h1.2 h';omega
   have h4:¬d<c:=fun h'=>by have:=h2.2 h';omega
   omega
  rw [h,this];simp
 ·rw [Int.compare_eq_gt.2 h,Int.compare_eq_gt.2 (h2.1 h)]
theorem qW {a b:Nat}:wv a<wv b↔a<b:=by
 constructor
 ·intro h
  rcases Nat.lt_or_ge a b with h2|h2
  ·exact h2
  ·have:=rX h2;omega
 ·exact aVj
theorem aFv {a:Nat}:0<wv a↔0<a:=by have:=qW (a:=0) (b:=a);rwa [aLq]at this
theorem jX {x y:Nat}(hx:x<18446744073709551616) (hy:y<18446744073709551616) (nx:x%aH≤aG) (ny:y%aH≤aG):F6.order x y=some (compare (ky x) (ky y)):=by
 rw [lT hx,lT hy]
 have hwx:=aFv (a:=x%aH)
 have hwy:=aFv (a:=y%aH)
 rcases jI nx with ⟨fx,lx⟩|⟨fx,lx⟩
 ·rcases jI ny with ⟨fy,ly⟩|⟨fy,ly⟩
  ·rw [aMn hx hy fx fy]
   congr 1
   have h1:=qW (a:=x%aH) (b:=y%aH)
   have h2:=qW (a:=y%aH) (b:=x%aH)
   refine aV9 ?_ ?_<;>(split<;>split<;>omega)
  ·unfold Ieee.Format.order
   rw [dK hx fx,rP hy ly]
   unfold Ieee.Datum.order
   simp only
   congr 1
   have:aG≠0:=by decide
   split
   ·exact(Int.compare_eq_gt.2 (by split<;>omega)).symm
   ·exact(Int.compare_eq_lt.2 (by split<;>omega)).symm
 ·rcases jI ny with ⟨fy,ly⟩|⟨fy,ly⟩
  ·unfold Ieee.Format.order
   rw [rP hx lx,dK hy fy]
   unfold Ieee.Datum.order
   simp only
   congr 1
   have:aG≠0:=by decide
   split
   ·exact(Int.compare_eq_lt.2 (by split<;>omega)).symm
   ·exact(Int.compare_eq_gt.2 (by split<;>omega)).symm
  ·unfold Ieee.Format.order
   rw [rP hx lx,rP hy ly]
   unfold Ieee.Datum.order
   simp only
   congr 1
   rw [lx,ly]
   cases aQ x<;>cases aQ y<;>decide
def wdN (z e mode:Int):Nat:=(aX z e 53 (-1074)+1074).toNat*aT+bW z e 53 (-1074) mode
def jB (bey:Bool) (W:Nat):Nat:=if W<aG then W else if bey then aG-1 else aG
theorem aE7 (bey:Bool) (W:Nat):jB bey W≤aG:=by unfold jB;have:aG≠0:=(by decide);split<;>(try split)<;>omega
theorem aEo (bey:Bool) {a b:Nat}(h:a≤b):jB bey a≤jB bey b:=by unfold jB;have:aG≠0:=(by decide);split<;>split<;>(try split)<;>omega
theorem vU {z e:Int}(hz:z≠0) (mode:Int):eU z e mode=(if decide (z<0)then aH else 0)+jB (kD (decide (z<0)) mode) (wdN z e mode):=by
 unfold eU jB wdN
 have h1:=jP z e 53 (-1074) mode 53 rfl
 have h2: -1074≤aX z e 53 (-1074):=by unfold aX;omega
 have h3:=mF (e:=e) (mode:=mode) hz
 generalize bW z e 53 (-1074) mode=m at*
 generalize aX z e 53 (-1074)=last at*
 have hm52:m<2^52→bl m≤52:=aY
 have hm53:m<2^53→bl m≤53:=aY
 have hm54:m=2^53→bl m=54:=fun h=>by rw [h];exact sQ 53
 have hm52':2^52≤m→53≤bl m:=fun h=>by
  rcases Nat.lt_or_ge (bl m) 53 with h5|h5
  ·have:=(dD (N:=m) (k:=52)).1 (by omega);omega
  ·exact h5
 split
 ·have hw:(last+1074).toNat*aT+m<aG:=by
   unfold aT aG
   by_cases ha:m=2^53
   ·have:=hm54 ha;omega
   ·rcases h3 with h3|h3
    ·omega
    ·have:=hm52' h3;omega
  rw [yX h1 h2 h3,if_pos hw]
 ·have hw:¬(last+1074).toNat*aT+m<aG:=by
   unfold aT aG
   by_cases ha:m=2^53
   ·have:=hm54 ha;omega
   ·have:=hm53 (by omega)
    rcases h3 with h3|h3<;>omega
  rw [if_neg hw]
theorem aN4 {N K:Nat}{down:Int}{neg:Bool}{mode:Int}(h:N≤K):iQ N down neg mode≤iQ K down neg mode:=by
 unfold iQ
 by_cases h1:down≤0
 ·rw [if_pos h1,if_pos h1];exact Nat.mul_le_mul_right _ h
 ·rw [if_neg h1,if_neg h1]
  have hd:=Nat.div_le_div_right (c:=2^down.toNat) h
  rcases Nat.lt_or_ge (N/2^down.toNat) (K/2^down.toNat)with h2|h2
  ·split<;>split<;>omega
  ·have he:N/2^down.toNat=K/2^down.toNat:=by omega
   have hr:N%2^down.toNat≤K%2^down.toNat:=by
    have a:=Nat.div_add_mod N (2^down.toNat)
    have b:=Nat.div_add_mod K (2^down.toNat)
    rw [he]at a;omega
   have hu:upB N down.toNat neg mode=true→upB K down.toNat neg mode=true:=by
    unfold upB
    rw [he]
    generalize N%2^down.toNat=r at*
    generalize K%2^down.toNat=s at*
    generalize K/2^down.toNat=q at*
    generalize 2^(down.toNat-1)=g at*
    intro h5
    by_cases hr0:r=0
    ·rw [if_pos hr0]at h5;cases h5
    rw [if_neg hr0]at h5
    rw [if_neg (by omega)]
    by_cases m3:mode=3
    ·rw [if_pos m3]at h5 ⊢;exact h5
    rw [if_neg m3]at h5 ⊢
    by_cases m4:mode=4
    ·rw [if_pos m4]at h5 ⊢;exact h5
    rw [if_neg m4]at h5 ⊢
    by_cases m1:mode=1
    ·rw [if_pos m1]at h5 ⊢
     have:=of_decide_eq_true h5
     exact decide_eq_true (by omega)
    rw [if_neg m1]at h5 ⊢
    by_cases m0:mode=0
    ·rw [if_pos m0]at h5 ⊢
     simp only [Bool.or_eq_true,Bool.and_eq_true,decide_eq_true_eq]at h5 ⊢
     omega
    ·rw [if_neg m0]at h5;cases h5
   rw [he]
   cases hN:upB N down.toNat neg mode
   ·simp
   ·rw [hu hN];exact Nat.le_refl _
theorem aIs {z y e mode:Int}(hy:y≠0) (hs:decide (z<0)=decide (y<0)) (h:z.natAbs≤y.natAbs):wdN z e mode≤wdN y e mode:=by
 unfold wdN
 have h1:=jP z e 53 (-1074) mode 53 rfl
 have h2: -1074≤aX z e 53 (-1074):=by unfold aX;omega
 have h3:=mF (e:=e) (mode:=mode) hy
 have hb:=lG h
 have hl:aX z e 53 (-1074)≤aX y e 53 (-1074):=by unfold aX;omega
 rcases Int.lt_or_eq_of_le hl with h4|h4
 ·have h5:2^52≤bW y e 53 (-1074) mode:=h3.resolve_left (by omega)
  generalize bW z e 53 (-1074) mode=m at*
  generalize bW y e 53 (-1074) mode=n at*
  generalize aX z e 53 (-1074)=a at*
  generalize aX y e 53 (-1074)=b at*
  unfold aT
  omega
 ·have h6:bW z e 53 (-1074) mode≤bW y e 53 (-1074) mode:=by
   unfold bW
   rw [h4,hs];exact aN4 h
  rw [h4];omega
theorem lX :aG<aH:=by decide
theorem aRl {z e:Int}(mode:Int) (h0:z≠0∨e=0):eU z e mode<18446744073709551616∧eU z e mode%aH≤aG:=by
 by_cases hz:z=0
 ·subst hz
  rw [lF e mode (h0.resolve_left fun h=>h rfl)];decide
 ·rw [vU hz]
  have h:=aE7 (kD (decide (z<0)) mode) (wdN z e mode)
  generalize jB _ _=c at*
  unfold aH aG at*
  split<;>omega
theorem xK {z e:Int}(hz:z≠0) (mode:Int):ky (eU z e mode)=if z<0 then-(jB (kD (decide (z<0)) mode) (wdN z e mode):Int)else jB (kD (decide (z<0)) mode) (wdN z e mode):=by
 rw [vU hz]
 have h:=aE7 (kD (decide (z<0)) mode) (wdN z e mode)
 generalize jB _ _=c at*
 have hk:=lX
 by_cases hs:z<0
 ·rw [if_pos hs,decide_eq_true hs,if_pos rfl]
  unfold ky
  have h3:aH+c-aH=c:=by omega
  rw [if_neg (by omega),h3]
 ·rw [if_neg hs,decide_eq_false hs]
  simp only [Bool.false_eq_true,if_false,Nat.zero_add]
  unfold ky
  rw [if_pos (by omega)]
theorem dW :ky 0=0:=by decide
theorem aAr {M z e:Int}(hz:z≠0) (h1:0≤e+M) (mode:Int):eU z e mode=eU (sc M z e) (-M) mode:=by
 have a1:=sU (e:=e) (digits:=53) (least:= -1074) hz (e+M).toNat
 have a2:=vJ (e:=e) (digits:=53) (least:= -1074) (mode:=mode) hz (e+M).toNat
 have a3:=wF z (e+M).toNat
 rw [show e-((e+M).toNat:Int)= -M by omega]at a1 a2
 unfold eU sc
 rw [a1,a2,a3]
theorem aOs {M z e y f:Int}(mode:Int) (h1:0≤e+M) (h2:0≤f+M) (hz:z≠0∨e=0) (hy:y≠0∨f=0) (h:sc M z e≤sc M y f):ky (eU z e mode)≤ky (eU y f mode):=by
 by_cases z0:z=0
 ·subst z0
  rw [lF e mode (hz.resolve_left fun h=>h rfl),dW]
  by_cases y0:y=0
  ·subst y0;rw [lF f mode (hy.resolve_left fun h=>h rfl),dW];exact Int.le_refl _
  ·rw [fM]at h
   rw [aAr y0 h2,xK (fun h0=>y0 (jF.1 h0)),if_neg (by omega)]
   omega
 ·by_cases y0:y=0
  ·subst y0
   rw [lF f mode (hy.resolve_left fun h=>h rfl),dW]
   rw [fM]at h
   have hs:sc M z e≠0:=fun h0=>z0 (jF.1 h0)
   rw [aAr z0 h1,xK hs,if_pos (by omega)]
   omega
  ·have hs:sc M z e≠0:=fun h0=>z0 (jF.1 h0)
   have ht:sc M y f≠0:=fun h0=>y0 (jF.1 h0)
   rw [aAr z0 h1,aAr y0 h2,xK hs,xK ht]
   generalize sc M z e=V at*
   generalize sc M y f=W at*
   by_cases v0:V<0
   ·rw [if_pos v0]
    by_cases w0:W<0
    ·rw [if_pos w0,decide_eq_true v0,decide_eq_true w0]
     have:=aEo (kD true mode) (aIs (z:=W) (y:=V) (e:= -M) (mode:=mode) hs (by rw [decide_eq_true v0,decide_eq_true w0]) (by omega))
     omega
    ·rw [if_neg w0];omega
   ·rw [if_neg v0,if_neg (by omega),decide_eq_false v0,decide_eq_false (by omega)]
    have:=aEo (kD false mode) (aIs (z:=V) (y:=W) (e:= -M) (mode:=mode) ht (by rw [decide_eq_false v0,decide_eq_false (by omega)]) (by omega))
    omega
def FlM (neg:Bool) (mode:Int):Prop:=∀N d,upB N d neg mode=false
def CeM (neg:Bool) (mode:Int):Prop:=∀N d,upB N d neg mode=decide (N%2^d≠0)
theorem aRq :FlM false 4:=fun N d=>by unfold upB;split<;>rfl
theorem aO7 :FlM true 3:=fun N d=>by unfold upB;split<;>rfl
theorem aSx :CeM true 4:=fun N d=>by unfold upB;split<;>simp [*]
theorem aSu :CeM false 3:=fun N d=>by unfold upB;split<;>simp [*]
theorem aV5 {N:Nat}{l e M mode:Int}{neg:Bool}(h:FlM neg mode) (h1:0≤e+M) (h2:0≤l+M):iQ N (l-e) neg mode*2^(l+M).toNat≤N*2^(e+M).toNat:=by
 unfold iQ
 by_cases h3:l-e≤0
 ·rw [if_pos h3,Nat.mul_assoc,←Nat.pow_add,show(-(l-e)).toNat+(l+M).toNat=(e+M).toNat by omega];exact Nat.le_refl _
 ·rw [if_neg h3,h,if_neg (by decide),Nat.add_zero,show(l+M).toNat=(l-e).toNat+(e+M).toNat by omega,Nat.pow_add,←Nat.mul_assoc]
  exact Nat.mul_le_mul_right _ (Nat.div_mul_le_self _ _)
theorem aV1 {N:Nat}{l e M mode:Int}{neg:Bool}(h:CeM neg mode) (h1:0≤e+M) (h2:0≤l+M):N*2^(e+M).toNat≤iQ N (l-e) neg mode*2^(l+M).toNat:=by
 unfold iQ
 by_cases h3:l-e≤0
 ·rw [if_pos h3,Nat.mul_assoc,←Nat.pow_add,show(-(l-e)).toNat+(l+M).toNat=(e+M).toNat by omega];exact Nat.le_refl _
 ·rw [if_neg h3,h,show(l+M).toNat=(l-e).toNat+(e+M).toNat by omega,Nat.pow_add,←Nat.mul_assoc]
  refine Nat.mul_le_mul_right _ ?_
  have h4:=Nat.div_add_mod N (2^(l-e).toNat)
  have h5:=Nat.mod_lt N (Nat.two_pow_pos (l-e).toNat)
  generalize 2^(l-e).toNat=g at*
  rw [Nat.mul_comm]at h4
  by_cases h6:N%g=0
  ·rw [decide_eq_false (by omega),if_neg (by decide)];rw [Nat.add_zero];omega
  ·rw [decide_eq_true h6,if_pos rfl,Nat.add_mul,Nat.one_mul];omega
theorem aUu {N:Nat}{d m1 m2:Int}{neg:Bool}(h1:FlM neg m1):iQ N d neg m1≤iQ N d neg m2∧iQ N d neg m2≤iQ N d neg m1+1:=by
 unfold iQ
 by_cases h3:d≤0
 ·rw [if_pos h3,if_pos h3];omega
 ·rw [if_neg h3,if_neg h3,h1,if_neg (by decide)];split<;>omega
theorem aBm {z e m1 m2:Int}(h1:FlM (decide (z<0)) m1):wdN z e m1≤wdN z e m2∧wdN z e m2≤wdN z e m1+1:=by
 unfold wdN bW
 have:=aUu (N:=z.natAbs) (d:=aX z e 53 (-1074)-e) (m2:=m2) h1
 omega
theorem aS6 {z e:Int}(h0:z≠0∨e=0):ky (eU z e 4)≤ky (eU z e 3)∧ky (eU z e 3)≤ky (eU z e 4)+1∧ky (eU z e 4)<aG∧-(aG:Int)≤ky (eU z e 4):=by
 by_cases hz:z=0
 ·subst hz
  rw [lF e 4 (h0.resolve_left fun h=>h rfl),lF e 3 (h0.resolve_left fun h=>h rfl)]
  decide
 ·rw [xK hz,xK hz]
  have hk:aG≠0:=(by decide)
  by_cases hs:z<0
  ·rw [if_pos hs,if_pos hs]
   have h1:=aBm (z:=z) (e:=e) (m1:=3) (m2:=4) (by rw [decide_eq_true hs];exact aO7)
   rw [decide_eq_true hs,show kD true 4=false from rfl,show kD true 3=true from rfl]
   generalize wdN z e 3=a at*
   generalize wdN z e 4=b at*
   unfold jB
   simp only [Bool.false_eq_true,if_false,if_true]
   refine⟨?_,?_,?_,?_⟩<;>(split<;>(try split)<;>omega)
  ·rw [if_neg hs,if_neg hs]
   have h1:=aBm (z:=z) (e:=e) (m1:=4) (m2:=3) (by rw [decide_eq_false hs];exact aRq)
   rw [decide_eq_false hs,show kD false 4=true from rfl,show kD false 3=false from rfl]
   generalize wdN z e 3=a at*
   generalize wdN z e 4=b at*
   unfold jB
   simp only [Bool.false_eq_true,if_false,if_true]
   refine⟨?_,?_,?_,?_⟩<;>(split<;>(try split)<;>omega)
theorem aKq {M z e mode:Int}(hM:1074≤M) (hz:z≠0) (hf:aK (eU z e mode)=true):
  sc M (aO (eU z e mode)) (pE (eU z e mode))=(if z<0 then-(wv (jB (kD (decide (z<0)) mode) (wdN z e mode)):Int)else wv (jB (kD (decide (z<0)) mode) (wdN z e mode)))*2^(M-1074).toNat:=by
 have hl:=aRl (z:=z) (e:=e) mode (.inl hz)
 rw [nS hl.1 hf hM]
 have hc:=aE7 (kD (decide (z<0)) mode) (wdN z e mode)
 rw [vU hz]
 generalize jB _ _=c at*
 have hk:=lX
 by_cases hs:z<0
 ·rw [decide_eq_true hs,if_pos rfl,if_pos hs]
  have h1:aQ (aH+c)=true:=decide_eq_true (by omega)
  have h2:(aH+c)%aH=c:=by rw [Nat.add_mod_left,Nat.mod_eq_of_lt (by omega)]
  rw [h1,h2,if_pos rfl]
 ·rw [decide_eq_false hs,if_neg hs]
  simp only [Bool.false_eq_true,if_false,Nat.zero_add]
  have h1:aQ c=false:=decide_eq_false (by omega)
  rw [h1,Nat.mod_eq_of_lt (show c<aH by omega)]
  simp
theorem aXr {z e mode:Int}(hz:z≠0):wv (wdN z e mode)=bW z e 53 (-1074) mode*2^(aX z e 53 (-1074)+1074).toNat:=by
 unfold wdN
 refine yD (jP z e 53 (-1074) mode 53 rfl) ?_
 have h2: -1074≤aX z e 53 (-1074):=by unfold aX;omega
 rcases mF (e:=e) (mode:=mode) hz with h|h
 ·left;omega
 ·exact .inr h
theorem aJa {M z e:Int}:sc M z e=(if z<0 then-((z.natAbs*2^(e+M).toNat:Nat):Int)else((z.natAbs*2^(e+M).toNat:Nat):Int)):=by
 unfold sc
 rw [Int.natCast_mul,Int.natCast_pow]
 split
 ·rw [←Int.neg_mul];congr 1;omega
 ·congr 1;omega
theorem aSe {M z e mode:Int}(hM:1074≤M) (hz:z≠0):wv (wdN z e mode)*2^(M-1074).toNat=bW z e 53 (-1074) mode*2^(aX z e 53 (-1074)+M).toNat:=by
 have h2: -1074≤aX z e 53 (-1074):=by unfold aX;omega
 rw [aXr hz,Nat.mul_assoc,←Nat.pow_add,show(aX z e 53 (-1074)+1074).toNat+(M-1074).toNat=(aX z e 53 (-1074)+M).toNat by omega]
theorem aF0 {z e mode:Int}(hz:z≠0) (hb:kD (decide (z<0)) mode=false) (hf:aK (eU z e mode)=true):wdN z e mode<aG:=by
 rcases Nat.lt_or_ge (wdN z e mode) aG with h|h
 ·exact h
 ·have hc:jB false (wdN z e mode)=aG:=by
   unfold jB;rw [if_neg (by omega)];rfl
  rw [vU hz,hb,hc]at hf
  cases hd:decide (z<0)
  ·rw [hd]at hf;exact absurd hf (by decide)
  ·rw [hd]at hf;exact absurd hf (by decide)
theorem aKn {M z e mode:Int}(hM:1074≤M) (h1:0≤e+M) (hz:z≠0) (h:FlM (decide (z<0)) mode) (c:Nat) (hc:c≤wdN z e mode):wv c*2^(M-1074).toNat≤z.natAbs*2^(e+M).toNat:=by
 have h2: -1074≤aX z e 53 (-1074):=by unfold aX;omega
 have h3:=aSe (e:=e) (mode:=mode) hM hz
 have h4:=aV5 (N:=z.natAbs) (l:=aX z e 53 (-1074)) (e:=e) (M:=M) h h1 (by omega)
 refine Nat.le_trans (Nat.mul_le_mul_right _ (rX hc)) ?_
 rw [h3];exact h4
theorem aJt {M z e mode:Int}(hM:1074≤M) (h1:0≤e+M) (hz:z≠0) (h:CeM (decide (z<0)) mode):z.natAbs*2^(e+M).toNat≤wv (wdN z e mode)*2^(M-1074).toNat:=by
 have h2: -1074≤aX z e 53 (-1074):=by unfold aX;omega
 rw [aSe (e:=e) (mode:=mode) hM hz]
 exact aV1 (N:=z.natAbs) (l:=aX z e 53 (-1074)) (e:=e) (M:=M) h h1 (by omega)
theorem aLv (W:Nat):jB true W≤W:=by unfold jB;have:aG≠0:=(by decide);split<;>(try split)<;>omega
theorem aTt {M z e:Int}(hM:1074≤M) (h1:0≤e+M) (h0:z≠0∨e=0) (hf:aK (eU z e 4)=true):sc M (aO (eU z e 4)) (pE (eU z e 4))≤sc M z e:=by
 by_cases hz:z=0
 ·subst hz
  rw [lF e 4 (h0.resolve_left fun h=>h rfl),fM,show aO 0=0 from by decide,fM];exact Int.le_refl _
 ·rw [aKq hM hz hf,aJa (z:=z)]
  by_cases hs:z<0
  ·rw [if_pos hs,if_pos hs]
   have hb:kD (decide (z<0)) 4=false:=by rw [decide_eq_true hs];rfl
   have hw:=aF0 hz hb hf
   have h3:=aJt (e:=e) (mode:=4) hM h1 hz (by rw [decide_eq_true hs];exact aSx)
   rw [hb,show jB false (wdN z e 4)=wdN z e 4 by unfold jB;rw [if_pos hw],Int.neg_mul]
   have h4:((wv (wdN z e 4)*2^(M-1074).toNat:Nat):Int)=(wv (wdN z e 4):Int)*2^(M-1074).toNat:=by rw [Int.natCast_mul,Int.natCast_pow];rfl
   rw [←h4];omega
  ·rw [if_neg hs,if_neg hs]
   have h3:=aKn (e:=e) (mode:=4) hM h1 hz (by rw [decide_eq_false hs];exact aRq) (jB true (wdN z e 4)) (aLv _)
   rw [decide_eq_false hs,show kD false 4=true from rfl]
   have h4:((wv (jB true (wdN z e 4))*2^(M-1074).toNat:Nat):Int)=(wv (jB true (wdN z e 4)):Int)*2^(M-1074).toNat:=by rw [Int.natCast_mul,Int.natCast_pow];rfl
   rw [←h4];omega
theorem aX1 {M z e:Int}(hM:1074≤M) (h1:0≤e+M) (h0:z≠0∨e=0) (hf:aK (eU z e 3)=true):sc M z e≤sc M (aO (eU z e 3)) (pE (eU z e 3)):=by
 by_cases hz:z=0
 ·subst hz
  rw [lF e 3 (h0.resolve_left fun h=>h rfl),fM,show aO 0=0 from by decide,fM];exact Int.le_refl _
 ·rw [aKq hM hz hf,aJa (z:=z)]
  by_cases hs:z<0
  ·rw [if_pos hs,if_pos hs]
   have h3:=aKn (e:=e) (mode:=3) hM h1 hz (by rw [decide_eq_true hs];exact aO7) (jB true (wdN z e 3)) (aLv _)
   rw [decide_eq_true hs,show kD true 3=true from rfl,Int.neg_mul]
   have h4:((wv (jB true (wdN z e 3))*2^(M-1074).toNat:Nat):Int)=(wv (jB true (wdN z e 3)):Int)*2^(M-1074).toNat:=by rw [Int.natCast_mul,Int.natCast_pow];rfl
   rw [←h4];omega
  ·rw [if_neg hs,if_neg hs]
   have hb:kD (decide (z<0)) 3=false:=by rw [decide_eq_false hs];rfl
   have hw:=aF0 hz hb hf
   have h3:=aJt (e:=e) (mode:=3) hM h1 hz (by rw [decide_eq_false hs];exact aSu)
   rw [hb,show jB false (wdN z e 3)=wdN z e 3 by unfold jB;rw [if_pos hw]]
   have h4:((wv (wdN z e 3)*2^(M-1074).toNat:Nat):Int)=(wv (wdN z e 3):Int)*2^(M-1074).toNat:=by rw [Int.natCast_mul,Int.natCast_pow];rfl
   rw [←h4];omega
def nxB (b:Nat):Nat:=if b=aH then 1 else if b<aH then b+1 else b-1
theorem aRf {b:Nat}(h:b<18446744073709551616) (h1:ky b<aG) (h2: -(aG:Int)≤ky b):ky (nxB b)=ky b+1∧nxB b<18446744073709551616∧nxB b%aH≤aG:=by
 unfold nxB ky at*
 unfold aH aG at*
 split
 ·subst_vars;decide
 ·split<;>split at h1<;>split at h2<;>(try omega)
  all_goals (refine⟨?_,?_,?_⟩<;>(try split)<;>omega)
end Go.Proofs.YtfmecpembnmnkaaGreatDoor
