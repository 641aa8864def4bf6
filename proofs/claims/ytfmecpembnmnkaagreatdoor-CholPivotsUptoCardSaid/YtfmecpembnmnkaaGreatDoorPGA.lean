/- Digits of a natural number to the base 2^s, and how many there are: plain laws, no program. -/
import Derived.WalkKit
import Derived.Lib.TrailingZeros
import Derived.Test.YtfmecpembnmnkaaGreatDoorRows
import Derived.WalkSpells
import Derived.WalkLawsBesides
import Derived.Lib.Hide
import Derived.Lib.Mul64
import Derived.Laws.Externs
import Derived.Laws.Bits64b
import Derived.Shelf.Spec.BitsCarry
import Derived.Shelf.Bits.Mul64
import Derived.Shelf.Strconv.Itoa0
import Derived.Shelf.Spec.TrailingZeros
namespace Go.Proofs.YtfmecpembnmnkaaGreatDoor
section
def dg (s N i:Nat):Nat:=N/2^(s*i)%2^s
def bl (N:Nat):Nat:=if N=0 then 0 else N.log2+1
def ln (s N:Nat):Nat:=(bl N+(s-1))/s
theorem iT (s N i:Nat):dg s N i<2^s:=Nat.mod_lt _ (Nat.two_pow_pos s)
theorem lC (N:Nat):N<2^bl N:=by
 unfold bl;split
 ·subst_vars;simp
 ·exact Nat.lt_log2_self
theorem aY {N k:Nat}(h:N<2^k):bl N≤k:=by
 unfold bl;split
 ·omega
 ·rename_i h0;have:=(Nat.log2_lt h0).2 h;omega
theorem dD {N k:Nat}:bl N≤k↔N<2^k:=
 ⟨fun h=>Nat.lt_of_lt_of_le (lC N) (Nat.pow_le_pow_right (by decide) h),aY⟩
theorem lG {a b:Nat}(h:a≤b):bl a≤bl b:=aY (Nat.lt_of_le_of_lt h (lC b))
theorem aC0 {N:Nat}(h:N≠0):0<bl N:=by unfold bl;rw [if_neg h];omega
theorem aF9 :bl 0=0:=rfl
theorem dL {s N k:Nat}(hs:0<s):ln s N≤k↔N<2^(s*k):=by
 rw [←dD];unfold ln
 rw [←Nat.lt_succ_iff,Nat.div_lt_iff_lt_mul hs,Nat.succ_mul,Nat.mul_comm k s]
 omega
theorem pW {s N:Nat}(hs:0<s):N<2^(s*ln s N):=(dL hs).1 (Nat.le_refl _)
theorem jE {s N:Nat}(hs:0<s):ln s N=0↔N=0:=by
 rw [←Nat.le_zero,dL hs];simp
theorem eG (s:Nat):ln s 0=0:=by
 unfold ln;rw [aF9];cases s with
 |zero=>rfl
 |succ s=>simp [Nat.div_eq_of_lt]
theorem sN {s a b:Nat}(hs:0<s) (h:a≤b):ln s a≤ln s b:=
 (dL hs).2 (Nat.lt_of_le_of_lt h (pW hs))
theorem fK {s N n i:Nat}(h:N<2^(s*n)) (hi:n≤i):dg s N i=0:=by
 unfold dg
 rw [Nat.div_eq_of_lt (Nat.lt_of_lt_of_le h (Nat.pow_le_pow_right (by decide) (Nat.mul_le_mul_left s hi)))]
 exact Nat.zero_mod _
theorem mod_succ (s N k:Nat):N%2^(s*(k+1))=N%2^(s*k)+2^(s*k)*dg s N k:=by
 unfold dg
 rw [Nat.mul_succ,Nat.pow_add,Nat.mod_mul]
theorem fQ (s N k:Nat):N/2^(s*k)=dg s N k+2^s*(N/2^(s*(k+1))):=by
 unfold dg
 rw [Nat.mul_succ,Nat.pow_add,←Nat.div_div_eq_div_mul]
 exact(Nat.mod_add_div _ _).symm
theorem aQ1 {s N k i:Nat}(h:i<k):dg s (N%2^(s*k)) i=dg s N i:=by
 unfold dg
 obtain⟨d,rfl⟩:∃d,k=i+1+d:=⟨k-(i+1),by omega⟩
 rw [show s*(i+1+d)=s*i+(s+s*d)from by rw [Nat.mul_add,Nat.mul_add,Nat.mul_one,Nat.add_assoc],Nat.pow_add,Nat.mod_mul_right_div_self,Nat.pow_add,Nat.mod_mul_right_mod]
theorem aCh {s N:Nat}(hs:0<s) (h:N≠0):dg s N (ln s N-1)≠0:=by
 intro h0
 have hl:0<ln s N:=by have:=(jE (N:=N) hs);omega
 have h1:=fQ s N (ln s N-1)
 rw [h0,show ln s N-1+1=ln s N from by omega,Nat.div_eq_of_lt (pW hs)]at h1
 have h2:N<2^(s*(ln s N-1)):=by
  rcases Nat.lt_or_ge N (2^(s*(ln s N-1)))with h|h
  ·exact h
  ·have:=Nat.div_pos h (Nat.two_pow_pos _);omega
 have:=(dL hs).2 h2
 omega
theorem aGg {s N n m:Nat}(h:N<2^(s*m)) (hz:∀i,n≤i→i<m→dg s N i=0):N<2^(s*n):=by
 induction m with
 |zero=>exact Nat.lt_of_lt_of_le h (Nat.pow_le_pow_right (by decide) (by simp))
 | succ m ih=>
  rcases Nat.lt_or_ge m n with hn|hn
  ·exact Nat.lt_of_lt_of_le h (Nat.pow_le_pow_right (by decide) (Nat.mul_le_mul_left s hn))
  ·refine ih ?_ fun i hi hm=>hz i hi (by omega)
   have h1:=mod_succ s N m
   rw [hz m hn (by omega),Nat.mod_eq_of_lt h,Nat.mul_zero,Nat.add_zero]at h1
   rw [h1];exact Nat.mod_lt _ (Nat.two_pow_pos _)
theorem aC5 {s X Y k C:Nat}(h:X%2^(s*k)+Y%2^(s*k)=(X+Y)%2^(s*k)+C*2^(s*k)):
  (dg s X k+dg s Y k+C)%2^s=dg s (X+Y) k∧
   X%2^(s*(k+1))+Y%2^(s*(k+1))=(X+Y)%2^(s*(k+1))+(dg s X k+dg s Y k+C)/2^s*2^(s*(k+1)):=by
 have hM:0<2^(s*k):=Nat.two_pow_pos _
 have hP:2^(s*(k+1))=2^(s*k)*2^s:=by rw [Nat.mul_succ,Nat.pow_add]
 have hx:=mod_succ s X k
 have hy:=mod_succ s Y k
 have hz:=mod_succ s (X+Y) k
 have ht:=Nat.mod_add_div (dg s X k+dg s Y k+C) (2^s)
 have hlo:=Nat.mod_lt (dg s X k+dg s Y k+C) (Nat.two_pow_pos s)
 revert ht hlo
 generalize (dg s X k+dg s Y k+C)%2^s=lo
 generalize (dg s X k+dg s Y k+C)/2^s=hi
 intro ht hlo
 have e1:X%2^(s*(k+1))+Y%2^(s*(k+1))=((X+Y)%2^(s*k)+2^(s*k)*lo)+hi*2^(s*(k+1)):=by
  rw [hx,hy,hP]
  have:2^(s*k)*(dg s X k+dg s Y k+C)=2^(s*k)*(lo+2^s*hi):=by rw [ht]
  rw [Nat.mul_add,Nat.mul_add,Nat.mul_add]at this
  have e2:2^(s*k)*(2^s*hi)=hi*(2^(s*k)*2^s):=by rw [Nat.mul_comm hi,Nat.mul_assoc]
  have e3:2^(s*k)*C=C*2^(s*k):=Nat.mul_comm _ _
  omega
 have hlt:(X+Y)%2^(s*k)+2^(s*k)*lo<2^(s*(k+1)):=by
  have h1:(X+Y)%2^(s*k)<2^(s*k):=Nat.mod_lt _ hM
  have h2:2^(s*k)*(lo+1)≤2^(s*k)*2^s:=Nat.mul_le_mul_left _ hlo
  rw [Nat.mul_add,Nat.mul_one]at h2
  rw [hP];omega
 have e4:(X+Y)%2^(s*(k+1))=(X+Y)%2^(s*k)+2^(s*k)*lo:=by
  have:=Nat.add_mod X Y (2^(s*(k+1)))
  rw [this,e1,Nat.add_mul_mod_self_right,Nat.mod_eq_of_lt hlt]
 have e5:2^(s*k)*lo=2^(s*k)*dg s (X+Y) k:=by omega
 exact⟨Nat.eq_of_mul_eq_mul_left hM e5,by rw [e4,e1]⟩
theorem aG5 {s X Y m C:Nat}(hX:X<2^(s*m)) (hY:Y<2^(s*m)) (h:X%2^(s*m)+Y%2^(s*m)=(X+Y)%2^(s*m)+C*2^(s*m)) (hC:C<2^s):
  dg s (X+Y) m=C:=by
 rw [Nat.mod_eq_of_lt hX,Nat.mod_eq_of_lt hY]at h
 unfold dg
 have h1:=Nat.mod_add_div (X+Y) (2^(s*m))
 have e:2^(s*m)*((X+Y)/2^(s*m))=2^(s*m)*C:=by rw [Nat.mul_comm _ C];omega
 rw [Nat.eq_of_mul_eq_mul_left (Nat.two_pow_pos _) e,Nat.mod_eq_of_lt hC]
theorem aIt {s X Y k b:Nat}(hXY:Y≤X) (h:X%2^(s*k)+b*2^(s*k)=(X-Y)%2^(s*k)+Y%2^(s*k)):
  ∃b',dg s X k+b'*2^s=dg s (X-Y) k+dg s Y k+b∧
   X%2^(s*(k+1))+b'*2^(s*(k+1))=(X-Y)%2^(s*(k+1))+Y%2^(s*(k+1)):=by
 have hs:(X-Y)+Y=X:=Nat.sub_add_cancel hXY
 have h':(X-Y)%2^(s*k)+Y%2^(s*k)=((X-Y)+Y)%2^(s*k)+b*2^(s*k):=by rw [hs];omega
 have:=aC5 h'
 rw [hs]at this
 refine⟨(dg s (X-Y) k+dg s Y k+b)/2^s,?_,this.2.symm⟩
 have:=Nat.mod_add_div (dg s (X-Y) k+dg s Y k+b) (2^s)
 rw [Nat.mul_comm]at this
 omega
def dQ (a b:Int):Int:=if a<b then-1 else if b<a then 1 else 0
theorem yB {s X Y:Nat}(hs:0<s) (h:ln s X<ln s Y):X<Y:=by
 rcases Nat.lt_or_ge X Y with h1|h1
 ·exact h1
 ·have:=sN (s:=s) hs h1;omega
theorem aNe {P X Y:Nat}(h:X/P<Y/P):X<Y:=by
 rcases Nat.lt_or_ge X Y with h1|h1
 ·exact h1
 ·have:=Nat.div_le_div_right (c:=P) h1;omega
theorem nT {s X Y k:Nat}(h:X/2^(s*(k+1))=Y/2^(s*(k+1))) (hd:dg s X k<dg s Y k):X<Y:=by
 refine aNe (P:=2^(s*k)) ?_
 rw [fQ s X k,fQ s Y k,h];omega
theorem xZ {s X Y k:Nat}(h:X/2^(s*(k+1))=Y/2^(s*(k+1))) (hd:dg s X k=dg s Y k):X/2^(s*k)=Y/2^(s*k):=by
 rw [fQ s X k,fQ s Y k,h,hd]
def jV (s N i v:Nat):Nat:=N%2^(s*i)+2^(s*i)*(v+2^s*(N/2^(s*(i+1))))
theorem jG (s N i v:Nat):jV s N i v+dg s N i*2^(s*i)=N+v*2^(s*i):=by
 unfold jV
 have h1:=Nat.mod_add_div N (2^(s*i))
 have h2:=fQ s N i
 rw [h2]at h1
 rw [Nat.mul_add]at h1 ⊢
 rw [Nat.mul_comm v,Nat.mul_comm (dg s N i)]
 omega
theorem aO9 (s N i v:Nat):jV s N i v%2^(s*i)=N%2^(s*i):=by
 unfold jV
 rw [Nat.add_mul_mod_self_left,Nat.mod_mod]
theorem aG7 (s N i v:Nat):jV s N i v/2^(s*i)=v+2^s*(N/2^(s*(i+1))):=by
 unfold jV
 rw [Nat.add_mul_div_left _ _ (Nat.two_pow_pos _),Nat.div_eq_of_lt (Nat.mod_lt _ (Nat.two_pow_pos _)),Nat.zero_add]
theorem wV {s N i v:Nat}(hv:v<2^s):jV s N i v/2^(s*(i+1))=N/2^(s*(i+1)):=by
 rw [show 2^(s*(i+1))=2^(s*i)*2^s from by rw [Nat.mul_succ,Nat.pow_add],←Nat.div_div_eq_div_mul,aG7,Nat.add_mul_div_left _ _ (Nat.two_pow_pos _),Nat.div_eq_of_lt hv,Nat.zero_add,Nat.mul_succ,Nat.pow_add]
theorem aEt {s N i v:Nat}(hv:v<2^s) (j:Nat):dg s (jV s N i v) j=if j=i then v else dg s N j:=by
 by_cases e:j=i
 ·subst e
  rw [if_pos rfl]
  unfold dg
  rw [aG7,Nat.add_mul_mod_self_left,Nat.mod_eq_of_lt hv]
 ·rw [if_neg e]
  rcases Nat.lt_or_ge j i with h|h
  ·rw [←aQ1 (s:=s) (N:=jV s N i v) h,aO9,aQ1 h]
  ·obtain⟨d,rfl⟩:∃d,j=i+1+d:=⟨j-(i+1),by omega⟩
   unfold dg
   rw [show s*(i+1+d)=s*(i+1)+s*d from by rw [Nat.mul_add],Nat.pow_add,←Nat.div_div_eq_div_mul,←Nat.div_div_eq_div_mul,wV hv]
theorem mO {s N i v m:Nat}(hv:v<2^s) (hN:N<2^(s*m)) (hi:i<m):jV s N i v<2^(s*m):=by
 obtain⟨d,rfl⟩:∃d,m=i+1+d:=⟨m-(i+1),by omega⟩
 rw [show s*(i+1+d)=s*(i+1)+s*d from by rw [Nat.mul_add],Nat.pow_add]at hN ⊢
 rw [Nat.mul_comm]at hN ⊢
 rw [←Nat.div_lt_iff_lt_mul (Nat.two_pow_pos _)]at hN ⊢
 rw [wV hv];exact hN
theorem aIb {s X Y N i j c:Nat}(h:N+c*2^(s*(i+j))=X%2^(s*i)*Y+dg s X i*(Y%2^(s*j))*2^(s*i)):
  jV s N (i+j) ((dg s X i*dg s Y j+dg s N (i+j)+c)%2^s)+(dg s X i*dg s Y j+dg s N (i+j)+c)/2^s*2^(s*(i+(j+1)))=
   X%2^(s*i)*Y+dg s X i*(Y%2^(s*(j+1)))*2^(s*i):=by
 have ht:=Nat.mod_add_div (dg s X i*dg s Y j+dg s N (i+j)+c) (2^s)
 have h1:=jG s N (i+j) ((dg s X i*dg s Y j+dg s N (i+j)+c)%2^s)
 have hP:2^(s*(i+(j+1)))=2^(s*(i+j))*2^s:=by rw [←Nat.add_assoc,Nat.mul_succ,Nat.pow_add]
 have hY:=mod_succ s Y j
 have hQ:2^(s*(i+j))=2^(s*i)*2^(s*j):=by rw [Nat.mul_add,Nat.pow_add]
 generalize jV s N (i+j) ((dg s X i*dg s Y j+dg s N (i+j)+c)%2^s)=N' at*
 generalize (dg s X i*dg s Y j+dg s N (i+j)+c)%2^s=lo at*
 generalize (dg s X i*dg s Y j+dg s N (i+j)+c)/2^s=hi at*
 rw [hP,hY]
 have e1:(lo+2^s*hi)*2^(s*(i+j))=(dg s X i*dg s Y j+dg s N (i+j)+c)*2^(s*(i+j)):=by rw [ht]
 have e2:(lo+2^s*hi)*2^(s*(i+j))=lo*2^(s*(i+j))+hi*(2^(s*(i+j))*2^s):=by
  rw [Nat.add_mul];congr 1;rw [Nat.mul_comm (2^s) hi,Nat.mul_assoc,Nat.mul_comm (2^s)]
 have e3:dg s X i*(Y%2^(s*j)+2^(s*j)*dg s Y j)*2^(s*i)=dg s X i*(Y%2^(s*j))*2^(s*i)+dg s X i*dg s Y j*2^(s*(i+j)):=by
  rw [Nat.mul_add,Nat.add_mul,hQ];congr 1
  simp only [Nat.mul_assoc,Nat.mul_comm,Nat.mul_left_comm]
 rw [e2,Nat.add_mul,Nat.add_mul]at e1
 rw [e3]
 clear e2 e3 hQ hY hP ht
 generalize lo*2^(s*(i+j))=A at*
 generalize hi*(2^(s*(i+j))*2^s)=H at*
 generalize dg s N (i+j)*2^(s*(i+j))=D at*
 generalize c*2^(s*(i+j))=C at*
 generalize dg s X i*dg s Y j*2^(s*(i+j))=M at*
 generalize X%2^(s*i)*Y=T at*
 generalize dg s X i*(Y%2^(s*j))*2^(s*i)=U at*
 omega
theorem aKt {s X Y N i n c:Nat}(hY:Y<2^(s*n)) (h:N+c*2^(s*(i+n))=X%2^(s*i)*Y+dg s X i*(Y%2^(s*n))*2^(s*i)) (hN:N<2^(s*(i+n))):
  jV s N (i+n) c=X%2^(s*(i+1))*Y:=by
 have h1:=jG s N (i+n) c
 rw [fK hN (Nat.le_refl _),Nat.zero_mul,Nat.add_zero,h,Nat.mod_eq_of_lt hY]at h1
 rw [h1,mod_succ,Nat.add_mul]
 congr 1
 simp only [Nat.mul_comm,Nat.mul_left_comm]
theorem aEa (s X Y i:Nat):X%2^(s*i)*Y+0*2^(s*(i+0))=X%2^(s*i)*Y+dg s X i*(Y%2^(s*0))*2^(s*i):=by
 simp [Nat.mod_one]
theorem oL {s a r:Nat}(hr:r≤s):a*2^r%2^s=2^r*(a%2^(s-r))∧a*2^r/2^s=a/2^(s-r):=by
 have e:2^s=2^r*2^(s-r):=by rw [←Nat.pow_add];congr 1;omega
 rw [Nat.mul_comm a,e]
 exact⟨Nat.mul_mod_mul_left _ _ _,Nat.mul_div_mul_left _ _ (Nat.two_pow_pos r)⟩
theorem kS {s a r d:Nat}(hr:r≤s) (hd:d<2^r):d+a*2^r%2^s<2^s:=by
 rw [(oL hr).1]
 have h:=Nat.mod_lt a (Nat.two_pow_pos (s-r))
 have e:2^s=2^r*2^(s-r):=by rw [←Nat.pow_add];congr 1;omega
 have:2^r*(a%2^(s-r)+1)≤2^r*2^(s-r):=Nat.mul_le_mul_left _ h
 rw [Nat.mul_add,Nat.mul_one]at this
 omega
theorem vM {s X k n W r:Nat}(hn:n=s*W+r) (hr:r≤s):dg s (X%2^(s*k)*2^n) (W+k)<2^r∧dg s (X%2^(s*k)*2^n) (W+k+1)=0:=by
 have h1:X%2^(s*k)*2^n<2^(s*(W+k))*2^r:=by
  have:X%2^(s*k)<2^(s*k):=Nat.mod_lt _ (Nat.two_pow_pos _)
  have h2:=Nat.mul_lt_mul_of_pos_right this (Nat.two_pow_pos n)
  rw [hn,Nat.pow_add,Nat.mul_add,Nat.pow_add]at*
  have e:2^(s*k)*(2^(s*W)*2^r)=2^(s*W)*2^(s*k)*2^r:=by rw [←Nat.mul_assoc,Nat.mul_comm (2^(s*k))]
  omega
 constructor
 ·unfold dg
  refine Nat.lt_of_le_of_lt (Nat.mod_le _ _) ?_
  rw [Nat.div_lt_iff_lt_mul (Nat.two_pow_pos _),Nat.mul_comm (2^r)]
  exact h1
 ·refine fK (n:=W+k+1) ?_ (Nat.le_refl _)
  refine Nat.lt_of_lt_of_le h1 ?_
  rw [←Nat.pow_add,Nat.mul_add s (W+k) 1]
  exact Nat.pow_le_pow_right (by decide) (by omega)
theorem left_step {s X k n W r:Nat}(hn:n=s*W+r) (hr:r≤s):
  jV s (jV s (X%2^(s*k)*2^n) (W+k) (dg s (X%2^(s*k)*2^n) (W+k)+dg s X k*2^r%2^s)) (W+k+1) (dg s X k/2^(s-r))=X%2^(s*(k+1))*2^n:=by
 obtain⟨h1,h2⟩:=vM (X:=X) (k:=k) hn hr
 have h3:=kS (a:=dg s X k) hr h1
 have e1:=jG s (X%2^(s*k)*2^n) (W+k) (dg s (X%2^(s*k)*2^n) (W+k)+dg s X k*2^r%2^s)
 have e2:=jG s (jV s (X%2^(s*k)*2^n) (W+k) (dg s (X%2^(s*k)*2^n) (W+k)+dg s X k*2^r%2^s)) (W+k+1) (dg s X k/2^(s-r))
 rw [aEt h3,if_neg (by omega),h2]at e2
 have e3:X%2^(s*(k+1))*2^n=X%2^(s*k)*2^n+dg s X k*2^r*2^(s*(W+k)):=by
  rw [mod_succ,Nat.add_mul,hn,Nat.pow_add,Nat.mul_add,Nat.pow_add]
  congr 1
  ac_rfl
 have e4:=Nat.mod_add_div (dg s X k*2^r) (2^s)
 rw [(oL (a:=dg s X k) hr).2]at e4
 have e5:(dg s X k*2^r%2^s+2^s*(dg s X k/2^(s-r)))*2^(s*(W+k))=dg s X k*2^r*2^(s*(W+k)):=by rw [e4]
 rw [Nat.add_mul]at e5 e1
 have e6:dg s X k/2^(s-r)*2^(s*(W+k+1))=2^s*(dg s X k/2^(s-r))*2^(s*(W+k)):=by
  rw [Nat.mul_succ,Nat.pow_add];ac_rfl
 rw [e6]at e2
 rw [e3]
 clear e3 e4 e6 h1 h2 h3
 generalize dg s X k*2^r%2^s*2^(s*(W+k))=A at*
 generalize 2^s*(dg s X k/2^(s-r))*2^(s*(W+k))=B at*
 generalize dg s X k*2^r*2^(s*(W+k))=C at*
 generalize dg s (X%2^(s*k)*2^n) (W+k)*2^(s*(W+k))=D at*
 omega
theorem aGs {s X n W r i:Nat}(hn:n=s*W+r) (hr:r≤s):dg s (X/2^n) i=dg s X (W+i)/2^r+dg s X (W+i+1)*2^(s-r)%2^s:=by
 have e1:=fQ s X (W+i)
 have e2:=fQ s X (W+i+1)
 have hd:=iT s X (W+i)
 have hs:2^s=2^r*2^(s-r):=by rw [←Nat.pow_add];congr 1;omega
 have e0:dg s (X/2^n) i=X/2^(s*(W+i))/2^r%2^s:=by
  unfold dg
  rw [Nat.div_div_eq_div_mul,Nat.div_div_eq_div_mul,←Nat.pow_add,←Nat.pow_add,hn,Nat.mul_add]
  congr 3;omega
 have hlt:dg s X (W+i)/2^r<2^(s-r):=by
  rw [Nat.div_lt_iff_lt_mul (Nat.two_pow_pos _),Nat.mul_comm,←hs];exact hd
 have h5:=kS (s:=s) (a:=dg s X (W+i+1)) (r:=s-r) (d:=dg s X (W+i)/2^r) (Nat.sub_le s r) hlt
 rw [e0,e1,e2]
 generalize dg s X (W+i)=d0 at*
 generalize dg s X (W+i+1)=d1 at*
 generalize X/2^(s*(W+i+1+1))=Q at*
 have e3:d0+2^s*(d1+2^s*Q)=d0+2^r*(2^(s-r)*(d1+2^s*Q)):=by rw [hs];ac_rfl
 have e4:d0/2^r+2^(s-r)*(d1+2^s*Q)=d0/2^r+d1*2^(s-r)+2^s*(2^(s-r)*Q):=by
  rw [Nat.mul_add,Nat.add_assoc,Nat.mul_comm d1];congr 2;ac_rfl
 rw [e3,Nat.add_mul_div_left _ _ (Nat.two_pow_pos r),e4,Nat.add_mul_mod_self_left,Nat.add_mod,Nat.mod_eq_of_lt (Nat.lt_of_lt_of_le hlt (Nat.pow_le_pow_right (by decide) (by omega))),Nat.mod_eq_of_lt h5]
theorem mG (s Q i:Nat):jV s (Q%2^(s*i)) i (dg s Q i)=Q%2^(s*(i+1)):=by
 have h:=jG s (Q%2^(s*i)) i (dg s Q i)
 rw [fK (Nat.mod_lt _ (Nat.two_pow_pos _)) (Nat.le_refl _),Nat.zero_mul,Nat.add_zero]at h
 rw [h,mod_succ,Nat.mul_comm (dg s Q i)]
theorem aN6 {s X n W r:Nat}(hn:n=s*W+r) (hr:r≤s):X%2^n=X%2^(s*W)+2^(s*W)*(dg s X W%2^r):=by
 have hs:2^s=2^r*2^(s-r):=by rw [←Nat.pow_add];congr 1;omega
 rw [hn,Nat.pow_add,Nat.mod_mul]
 unfold dg
 rw [hs,Nat.mod_mul_right_mod]
theorem aFh {x:Nat}(h:x≠0):bl x=1+bl (x/2):=by
 have h1:bl x≤1+bl (x/2):=by
  rw [dD,Nat.pow_add]
  have:=lC (x/2);omega
 have h2:bl (x/2)≤bl x-1:=by
  rw [dD]
  have h3:=lC x
  have h4:=aC0 h
  rw [show bl x=bl x-1+1 from by omega,Nat.pow_succ]at h3
  omega
 have:=aC0 h
 omega
theorem aJv {s N:Nat}(hs:0<s) (h:N≠0):bl N=s*(ln s N-1)+bl (dg s N (ln s N-1)):=by
 have hl:0<ln s N:=by have:=(jE (N:=N) hs);omega
 have hd:=aCh hs h
 have e:dg s N (ln s N-1)=N/2^(s*(ln s N-1)):=by
  unfold dg
  refine Nat.mod_eq_of_lt ?_
  rw [Nat.div_lt_iff_lt_mul (Nat.two_pow_pos _),←Nat.pow_add,Nat.add_comm,←Nat.mul_succ,show(ln s N-1).succ=ln s N from by omega]
  exact pW hs
 rw [e]at hd ⊢
 have h1:bl N≤s*(ln s N-1)+bl (N/2^(s*(ln s N-1))):=by
  rw [dD,Nat.pow_add,Nat.mul_comm,←Nat.div_lt_iff_lt_mul (Nat.two_pow_pos _)]
  exact lC _
 have h2:s*(ln s N-1)≤bl N:=by
  rcases Nat.lt_or_ge (bl N) (s*(ln s N-1))with h3|h3
  ·have:=dD.1 (Nat.le_of_lt h3)
   have:=(dL hs).2 this
   omega
  ·exact h3
 have h3:bl (N/2^(s*(ln s N-1)))≤bl N-s*(ln s N-1):=by
  rw [dD,Nat.div_lt_iff_lt_mul (Nat.two_pow_pos _),←Nat.pow_add,show bl N-s*(ln s N-1)+s*(ln s N-1)=bl N from by omega]
  exact lC _
 omega
theorem aI3 {s N W r:Nat}(hr:r<s):(dg s N W).testBit r=N.testBit (s*W+r):=by
 unfold dg
 rw [Nat.testBit_mod_two_pow,Nat.testBit_div_two_pow,decide_eq_true hr,Bool.true_and,Nat.add_comm]
theorem aO0 {s N i:Nat}(hs:0<s):dg s N (i/s)/2^(i%s)%2=N/2^i%2:=by
 have h:=aI3 (s:=s) (N:=N) (W:=i/s) (r:=i%s) (Nat.mod_lt _ hs)
 rw [Nat.div_add_mod,Nat.testBit_eq_decide_div_mod_eq,Nat.testBit_eq_decide_div_mod_eq,decide_eq_decide]at h
 omega
def tzb (N:Nat):Nat:=if N=0 then 0 else Lib.ctzFrom (bl N) N
theorem aCf {N:Nat}(h:N≠0):∃m,N=2^tzb N*(2*m+1):=by
 obtain⟨m,h1,-⟩:=Lib.ctzFrom_spec (bl N) N (by omega) (lC N)
 exact⟨m,by unfold tzb;rw [if_neg h];exact h1⟩
theorem aDb {a b m n:Nat}(h:2^a*(2*m+1)=2^b*(2*n+1)):a=b:=by
 rcases Nat.lt_trichotomy a b with hab|hab|hab
 ·obtain⟨d,rfl⟩:∃d,b=a+1+d:=⟨b-(a+1),by omega⟩
  rw [Nat.add_assoc,Nat.pow_add,Nat.mul_assoc]at h
  have:=Nat.eq_of_mul_eq_mul_left (Nat.two_pow_pos a) h
  rw [Nat.pow_add,Nat.pow_one,Nat.mul_assoc]at this
  omega
 ·exact hab
 ·obtain⟨d,rfl⟩:∃d,a=b+1+d:=⟨a-(b+1),by omega⟩
  rw [Nat.add_assoc,Nat.pow_add,Nat.mul_assoc]at h
  have:=Nat.eq_of_mul_eq_mul_left (Nat.two_pow_pos b) h
  rw [Nat.pow_add,Nat.pow_one,Nat.mul_assoc]at this
  omega
theorem aSg {N a m:Nat}(h:N=2^a*(2*m+1)):tzb N=a:=by
 have h0:N≠0:=by subst h;exact Nat.mul_ne_zero (by have:=Nat.two_pow_pos a;omega) (by omega)
 obtain⟨n,hn⟩:=aCf h0
 exact aDb (hn.symm.trans h)
theorem aOp {s N k:Nat}(h:N%2^(s*k)=0) (hd:dg s N k≠0):tzb N=s*k+Lib.ctz s (dg s N k):=by
 obtain⟨m,h1,h2⟩:=Lib.ctzFrom_spec s (dg s N k) (by omega) (iT s N k)
 have hc:Lib.ctz s (dg s N k)=Lib.ctzFrom s (dg s N k):=by unfold Lib.ctz;rw [if_neg hd]
 rw [hc]
 generalize Lib.ctzFrom s (dg s N k)=t at*
 have h3:=Nat.mod_add_div N (2^(s*k))
 rw [h,fQ,Nat.zero_add,h1]at h3
 obtain⟨d,rfl⟩:∃d,s=t+1+d:=⟨s-(t+1),by omega⟩
 generalize N/2^((t+1+d)*(k+1))=Q at h3
 refine aSg (m:=m+2^d*Q) ?_
 rw [←h3]
 rw [Nat.pow_add 2 ((t+1+d)*k) t,Nat.mul_assoc]
 congr 1
 have e:2^(t+1+d)=2^t*(2*2^d):=by rw [Nat.pow_add,Nat.pow_add,Nat.pow_one,Nat.mul_assoc]
 rw [e,Nat.mul_assoc,←Nat.mul_add,Nat.mul_add 2 m,Nat.mul_assoc 2]
 congr 1
 omega
theorem aKh {N:Nat}:tzb N≤bl N:=by
 by_cases h:N=0
 ·subst h;exact Nat.le_refl _
 ·obtain⟨m,-,h2⟩:=Lib.ctzFrom_spec (bl N) N (by omega) (lC N)
  unfold tzb;rw [if_neg h];omega
end
section
theorem jH {p:Prop}(h:p):Go.RowKit.Hid p:=Lib.hid h
set_option maxRecDepth 100000
set_option maxHeartbeats 6400000
open Go.RowKit
def nI (n:Nat):Nat:=n%18446744073709551616
def hi64 (n:Nat):Nat:=n/18446744073709551616
def aTg (x y b:Nat):Nat:=(x+18446744073709551616-y-b)%18446744073709551616
def aUe (x y b:Nat):Nat:=if x<y+b then 1 else 0
theorem aHz (x y c:Nat) (hc:c≤1) (w:World):
  (callFunc 286 #[.int .u64 x,.int .u64 y,.int .u64 c]).run Tryz.prog w=
   .ok (.value (.tuple #[.int .u64 (nI (x+y+c):Nat),.int .u64 (hi64 (x+y+c):Nat)])) w:=by
 rw [run_callFunc_extern Tryz.func286 (by kernel_rfl) (by kernel_rfl) (by kernel_rfl) (e:=add64Entry) (by kernel_rfl),run_add64 x y c (by omega) (by omega) (by omega) (by omega)]
 simp only [Result.andThen]
 unfold nI hi64
 congr 5<;>omega
theorem aRy (x y b:Nat) (hb:b≤1) (w:World):
  (callFunc 288 #[.int .u64 x,.int .u64 y,.int .u64 b]).run Tryz.prog w=
   .ok (.value (.tuple #[.int .u64 (aTg x y b:Nat),.int .u64 (aUe x y b:Nat)])) w:=by
 rw [run_callFunc_extern Tryz.func288 (by kernel_rfl) (by kernel_rfl) (by kernel_rfl) (e:=sub64Entry) (by kernel_rfl),run_sub64 x y b hb]
 rfl
theorem aN9 (x y:Nat) (hx:x<18446744073709551616) (hy:y<18446744073709551616) (w:World):
  Calls Tryz.prog 287 #[.int .u64 x,.int .u64 y] w fun e w'=>e= .returned (.tuple #[.int .u64 (hi64 (x*y):Nat),.int .u64 (nI (x*y):Nat)])∧w=w':=by
 obtain⟨bd,bt,bw,hhi⟩:=Lib.mul64_hi x y hx hy
 have ba:=Lib.half_mul_le (a:=x/4294967296) (b:=y/4294967296) (by omega) (by omega)
 have bb:=Lib.half_mul_le (a:=x/4294967296) (b:=y%4294967296) (by omega) (by omega)
 have bc:=Lib.half_mul_le (a:=x%4294967296) (b:=y/4294967296) (by omega) (by omega)
 have ba':x/4294967296*(y/4294967296)<18446744073709551616:=by omega
 have bb':x/4294967296*(y%4294967296)<18446744073709551616:=by omega
 have bc':x%4294967296*(y/4294967296)<18446744073709551616:=by omega
 have bh1:x/4294967296*(y/4294967296)+(x/4294967296*(y%4294967296)+x%4294967296*(y%4294967296)/4294967296)/4294967296<18446744073709551616:=by omega
 have bh:x/4294967296*(y/4294967296)+(x/4294967296*(y%4294967296)+x%4294967296*(y%4294967296)/4294967296)/4294967296+((x/4294967296*(y%4294967296)+x%4294967296*(y%4294967296)/4294967296)%4294967296+x%4294967296*(y/4294967296))/4294967296<18446744073709551616:=by omega
 go_enter Tryz.func287,Tryz.ntmps287
 go_wp2
 simp only [Mul64.maskN x hx,Mul64.maskN y hy,Mul64.divN,Mul64.mulN,Mul64.addN,Mul64.wrapN _ bd,Mul64.wrapN _ bb',Mul64.wrapN _ bt,Mul64.maskN _ bt,Mul64.wrapN _ bc',Mul64.wrapN _ bw,Mul64.wrapN _ ba',Mul64.wrapN _ bh1,Mul64.wrapN _ bh,Mul64.wrapM (x*y)]
 rw [hhi]
 go_ret2
 exact⟨rfl,rfl⟩
theorem aTh (n:Nat):nI n<18446744073709551616:=Nat.mod_lt _ (by decide)
theorem dU (n:Nat) (h:n<18446744073709551616):IntKind.u64.wrap (n:Int)=n:=by rw [IntKind.wrap_u64];omega
theorem aCs (x y:Nat) (w:World):
  (callFunc 286 #[.int .u64 x,.int .u64 y,.int .u64 0]).run Tryz.prog w=
   .ok (.value (.tuple #[.int .u64 (nI (x+y):Nat),.int .u64 (hi64 (x+y):Nat)])) w:=aHz x y 0 (by omega) w
theorem aPd (a b c d:Nat) (ha:a<18446744073709551616) (hb:b<18446744073709551616) (hc:c<18446744073709551616) (hd:d<18446744073709551616) (w:World):
  Calls Tryz.prog 276 #[.int .u64 a,.int .u64 b,.int .u64 c,.int .u64 d] w fun e w'=>
   e= .returned (.tuple #[.int .u64 (hi64 (a*b+c+d):Nat),.int .u64 (nI (a*b+c+d):Nat)])∧w=w':=by
 have hab:a*b≤18446744073709551615*18446744073709551615:=Nat.mul_le_mul (by omega) (by omega)
 have H1:Hid (IntKind.u64.wrap ((hi64 (a*b):Nat)+(hi64 (nI (a*b)+c):Nat))=((hi64 (a*b)+hi64 (nI (a*b)+c):Nat):Int)):=by
  refine jH ?_;rw [←Int.natCast_add];exact dU _ (by unfold hi64 nI;omega)
 have H2:Hid (IntKind.u64.wrap ((hi64 (a*b)+hi64 (nI (a*b)+c):Nat)+(hi64 (nI (nI (a*b)+c)+d):Nat))=((hi64 (a*b+c+d):Nat):Int)):=by
  refine jH ?_;rw [←Int.natCast_add,dU _ (by unfold hi64 nI;omega)];congr 1;unfold hi64 nI;omega
 have H3:Hid (nI (nI (nI (a*b)+c)+d)=nI (a*b+c+d)):=by
  refine jH ?_;unfold nI;omega
 clear hab
 go_enter Tryz.func276,Tryz.ntmps276
 go_wp2_with fail
 refine(aN9 _ _ ha hb _).mono ?_
 rintro e w' ⟨rfl,rfl⟩
 clear ha hb hc hd
 have h1:=aCs (nI (a*b)) c
 have h2:=aCs (nI (nI (a*b)+c)) d
 go_wp2_with fail
 clear h1 h2
 rw [H1.out,H2.out,H3.out]
 go_ret2
 exact⟨rfl,rfl⟩
def eY (w:World):Prop:=TabAt 1 Lib.deBruijn64tab w
theorem tz64_core (x k idx:Nat) (w:World) (hx0:((x:Int)==0)=false)
  (key:IntKind.u64.wrap (bits BinOp.and IntKind.u64 (x:Int) (IntKind.u64.wrap (-(x:Int)))*285870213051353865)/288230376151711744=(idx:Int))
  (hi:idx<64) (_hk:k<64) (hcell:w.cell? ⟨1,idx,none⟩=some (.int .u8 k)):
  Calls Tryz.prog 283 #[.int .u64 x] w fun e w'=>e= .returned (.int .i64 k)∧w=w':=by
 go_enter Tryz.func283,Tryz.ntmps283
 go_wp2_with (simp only [key])
 go_ret
 exact⟨rfl,rfl⟩
theorem zF (x:Nat) (hx:x<18446744073709551616) (hx0:x≠0) (w:World) (hT:eY w):
  Calls Tryz.prog 283 #[.int .u64 x] w fun e w'=>e= .returned (.int .i64 (Lib.ctz 64 x))∧w=w':=by
 obtain⟨hlow,hk⟩:=Lib.lowest_bit 64 x hx0 hx
 obtain⟨hi,htab⟩:=Lib.deBruijn64_at _ hk
 have hcell:=hT _ hi
 rw [htab]at hcell
 exact tz64_core x _ _ w (by simp;omega) (tz64_key x _ hx hx0 hlow) hi hk hcell
def Tryz.aIn :Go.Shelf.Ren:=⟨fun|129=>281|n=>n,fun|53=>33|3=>3|4=>4|46=>160|5=>5|9=>9|n=>n,fun|n=>n⟩
theorem Tryz.lays129 :Go.Proofs.Lays.n129 Tryz.prog Tryz.aIn:={
 mixed:=by kernel_rfl
 f129:=Tryz.func281.trans (congrArg some (by kernel_rfl))
 t3:=Tryz.underlying3
 a3:=Tryz.isAgg3
 z3:=Tryz.sizeOf3
 v3:=Tryz.zeroValue3
 t4:=Tryz.underlying4
 a4:=Tryz.isAgg4
 z4:=Tryz.sizeOf4
 v4:=Tryz.zeroValue4
 t5:=Tryz.underlying5
 a5:=Tryz.isAgg5
 z5:=Tryz.sizeOf5
 v5:=Tryz.zeroValue5
 t9:=Tryz.underlying9
 a9:=Tryz.isAgg9
 z9:=Tryz.sizeOf9
 v9:=Tryz.zeroValue9
 t46:=Tryz.underlying160
 a46:=Tryz.isAgg160
 z46:=Tryz.sizeOf160
 v46:=Tryz.zeroValue160
 t53:=Tryz.underlying33
 a53:=Tryz.isAgg33
 z53:=Tryz.sizeOf33
 v53:=Tryz.zeroValue33}
theorem yS :∀(f x:Nat),x<2^f→Lib.bitLenAux f x=bl x
 | 0,x,h=>by
   have:x=0:=by omega
   subst this;rfl
 | f+1,x,h=>by
  unfold Lib.bitLenAux
  by_cases h0:x=0
  ·subst h0;rfl
  ·rw [if_neg h0,aFh h0,yS f (x/2) (by omega)]
theorem aEm {n:Nat}(h:n<18446744073709551616):Lib.bitLen n=bl n:=yS 64 n h
theorem aEd (x:Nat) (hx:x<18446744073709551616) (w:World):
  Calls Tryz.prog 281 #[.int .u64 x] w fun e w'=>e= .returned (.int .i64 (bl x:Nat))∧w=w':=
 (Any.bits_Len64 Tryz.lays129 x w (by omega) (by omega)).mono fun _ _ ⟨h1,h2⟩=>⟨by rw [h1,Int.toNat_natCast,aEm hx],h2.symm⟩
end
end Go.Proofs.YtfmecpembnmnkaaGreatDoor
