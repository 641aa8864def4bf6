/- Sums and products of intervals rise with them. -/
import Derived.Test.YtfmecpembnmnkaaGreatDoorPIH
namespace Go.Proofs.YtfmecpembnmnkaaGreatDoor
section
open Go.RowKit
def mD (x:Int):Prop:= -(aG:Int)≤x∧x≤aG
end
section
open Go.RowKit
theorem aKi {u v s t:Int}(h1:u.natAbs≤v.natAbs↔s.natAbs≤t.natAbs) (h2:v.natAbs≤u.natAbs↔t.natAbs≤s.natAbs)
  (hs:(u=0∧s=0)∨(0<u∧0<s)∨(u<0∧s<0)) (ht:(0<v∧0<t)∨(v<0∧t<0)):(s≤t↔u≤v)∧(t≤s↔v≤u):=by omega
theorem aTv {M:Int}{c:Nat}(hc:W64 c) (fc:aK c=true) (hM:1074≤M):(fI c=0∧vI M c=0)∨(0<fI c∧0<vI M c)∨(fI c<0∧vI M c<0):=by
 have a:=iG hc (by decide:0<18446744073709551616) fc (by decide) hM
 have b:=iG (by decide:0<18446744073709551616) hc (by decide) fc hM
 have a2:=iG hc (by decide:0<18446744073709551616) fc (by decide) (Int.le_refl 1074)
 have b2:=iG (by decide:0<18446744073709551616) hc (by decide) fc (Int.le_refl 1074)
 rw [mJ]at a b a2 b2
 rw [←aHf]at a2 b2
 rw [a]at a2
 rw [b]at b2
 omega
theorem aGn {x:Nat}(hx:W64 x) (fx:aK x=true) (x0:aO x≠0):(aQ x=false∧0<fI x)∨(aQ x=true∧fI x<0):=by
 have h1:=gQ hx fx
 have h2:=(fH hx fx).1
 have h3:fI x≠0:=fun e=>x0 (h2.1 e)
 cases hs:aQ x
 ·rw [hs,if_neg (by decide)]at h1
  exact .inl ⟨rfl,by omega⟩
 ·rw [hs,if_pos rfl]at h1
  exact .inr ⟨rfl,by omega⟩
theorem vG {x y c:Nat}{M:Int}(hx:W64 x) (hy:W64 y) (hc:W64 c) (fx:aK x=true) (fy:aK y=true) (fc:aK c=true)
  (x0:aO x≠0) (yp:0<fI y) (hM:1074≤M) (h1:0≤qE x y+M):
  (vI M c≤sc M (qZ x y) (qE x y)↔fI c*fI y≤fI x*2^1074)∧(sc M (qZ x y) (qE x y)≤vI M c↔fI x*2^1074≤fI c*fI y):=by
 have y0:aO y≠0:=fun e=>by have:=(fH hy fy).1.2 e;omega
 obtain⟨A1,A2⟩:=aCc hx hy hc fx fy fc x0 y0 hM h1
 have mx:aS x≠0:=fun h=>x0 (dZ.2 h)
 have my:aS y≠0:=fun h=>y0 (dZ.2 h)
 have hz:qZ x y≠0:=(aDa hx hy fx fy x0 y0).2
 have sy:aQ y=false:=by
  rcases aGn hy fy y0 with h|h
  ·exact h.1
  ·omega
 have qz:qZ x y=if aQ x then-(qN x y:Int)else qN x y:=by unfold qZ;rw [sy];cases aQ x<;>rfl
 have hT:(0:Int)<2^(qE x y+M).toNat:=Int.pow_pos (by decide)
 have hP:(0:Int)<2^1074:=Int.pow_pos (by decide)
 have nP:((2:Int)^1074).natAbs=2^1074:=bZ 1074
 rw [←nP,←Int.natAbs_mul,←Int.natAbs_mul]at A1 A2
 generalize (2:Int)^1074=P at*
 refine aKi A1 A2 ?_ ?_
 ·rcases aTv hc fc hM with ⟨a,b⟩|⟨a,b⟩|⟨a,b⟩
  ·exact .inl ⟨by rw [a,Int.zero_mul],b⟩
  ·exact .inr (.inl ⟨Int.mul_pos a yp,b⟩)
  ·exact .inr (.inr ⟨Int.mul_neg_of_neg_of_pos a yp,b⟩)
 ·unfold sc
  rcases aGn hx fx x0 with ⟨a,b⟩|⟨a,b⟩
  ·rw [a,if_neg (by decide)]at qz
   exact .inl ⟨Int.mul_pos b hP,Int.mul_pos (by omega) hT⟩
  ·rw [a,if_pos rfl]at qz
   exact .inr ⟨Int.mul_neg_of_neg_of_pos b hP,Int.mul_neg_of_neg_of_pos (by omega) hT⟩
theorem aBy (x y x' y':Nat):∃M:Int,1074≤M∧0≤qE x y+M∧0≤qE x' y'+M:=⟨1074+(qE x y).natAbs+(qE x' y').natAbs,by omega,by omega,by omega⟩
theorem aLj {a b a' b' c P:Int}(hb:0<b) (hb':0<b') (h:a*b'≤a'*b):(c*b≤a*P→0≤P→c*b'≤a'*P)∧(a'*P≤c*b'→0≤P→a*P≤c*b):=by
 refine⟨fun h1 hp=> ?_,fun h1 hp=> ?_⟩
 ·have h2:=Int.mul_le_mul_of_nonneg_right h1 (Int.le_of_lt hb')
  have h3:=Int.mul_le_mul_of_nonneg_right h hp
  refine Int.le_of_mul_le_mul_right (a:=b) ?_ hb
  have e1:c*b*b'=c*b'*b:=Int.mul_right_comm c b b'
  have e2:a*P*b'=a*b'*P:=Int.mul_right_comm a P b'
  have e3:a'*b*P=a'*P*b:=Int.mul_right_comm a' b P
  omega
 ·have h2:=Int.mul_le_mul_of_nonneg_right h1 (Int.le_of_lt hb)
  have h3:=Int.mul_le_mul_of_nonneg_right h hp
  refine Int.le_of_mul_le_mul_right (a:=b') ?_ hb'
  have e1:c*b*b'=c*b'*b:=Int.mul_right_comm c b b'
  have e2:a*P*b'=a*b'*P:=Int.mul_right_comm a P b'
  have e3:a'*b*P=a'*P*b:=Int.mul_right_comm a' b P
  omega
theorem aW5 {x y x' y':Nat}(hx:W64 x) (hy:W64 y) (hx':W64 x') (hy':W64 y') (fx:aK x=true) (fy:aK y=true) (fx':aK x'=true) (fy':aK y'=true)
  (x0:aO x≠0) (x0':aO x'≠0) (yp:0<fI y) (yp':0<fI y') (h:fI x*fI y'≤fI x'*fI y):dvK x y 4≤dvK x' y' 4:=by
 obtain⟨M,hM,m1,m2⟩:=aBy x y x' y'
 obtain⟨l,n⟩:=bU (qZ x y) (qE x y) 4
 obtain⟨l',n'⟩:=bU (qZ x' y') (qE x' y') 4
 have a1:=kC (qZ x y) (qE x y)
 have a2:=kC (qZ x' y') (qE x' y')
 show ky (aV (qZ x y) (qE x y) 4)≤ky (aV (qZ x' y') (qE x' y') 4)
 by_cases hi:ky (aV (qZ x y) (qE x y) 4)= -(aG:Int)
 ·omega
 have hf:aK (aV (qZ x y) (qE x y) 4)=true:=(gW l n).2 ⟨by omega,a1.2.2.1⟩
 have hP:(0:Int)≤2^1074:=Int.le_of_lt (Int.pow_pos (by decide))
 have r1:=(vG hx hy l fx fy hf x0 yp hM m1).1.1 (nN hM m1 hf)
 have r2:=(vG hx' hy' l fx' fy' hf x0' yp' hM m2).1.2
 generalize (2:Int)^1074=P at*
 exact vN 4 hM m2 l hf (r2 ((aLj yp yp' h).1 r1 hP))
theorem aUx {x y x' y':Nat}(hx:W64 x) (hy:W64 y) (hx':W64 x') (hy':W64 y') (fx:aK x=true) (fy:aK y=true) (fx':aK x'=true) (fy':aK y'=true)
  (x0:aO x≠0) (x0':aO x'≠0) (yp:0<fI y) (yp':0<fI y') (h:fI x*fI y'≤fI x'*fI y):dvK x y 3≤dvK x' y' 3:=by
 obtain⟨M,hM,m1,m2⟩:=aBy x y x' y'
 obtain⟨l,n⟩:=bU (qZ x y) (qE x y) 3
 obtain⟨l',n'⟩:=bU (qZ x' y') (qE x' y') 3
 have b1:=kQ l n
 have b2:=kQ l' n'
 have a2:=iH (qZ x' y') (qE x' y')
 show ky (aV (qZ x y) (qE x y) 3)≤ky (aV (qZ x' y') (qE x' y') 3)
 by_cases hi:ky (aV (qZ x' y') (qE x' y') 3)=aG
 ·omega
 have hf:aK (aV (qZ x' y') (qE x' y') 3)=true:=(gW l' n').2 ⟨a2,by omega⟩
 have hP:(0:Int)≤2^1074:=Int.le_of_lt (Int.pow_pos (by decide))
 have r1:=(vG hx' hy' l' fx' fy' hf x0' yp' hM m2).2.1 (sG hM m2 hf)
 have r2:=(vG hx hy l' fx fy hf x0 yp hM m1).2.2
 generalize (2:Int)^1074=P at*
 exact vO 3 hM m1 l' hf (r2 ((aLj yp yp' h).2 r1 hP))
theorem aX2 (x y:Nat):dvK x y 4≤dvK x y 3∧dvK x y 4<aG∧-(aG:Int)≤dvK x y 4∧-(aG:Int)<dvK x y 3∧dvK x y 3≤aG:=by
 have h:=kC (qZ x y) (qE x y)
 have h2:=iH (qZ x y) (qE x y)
 obtain⟨a,b⟩:=bU (qZ x y) (qE x y) 3
 have h3:=kQ a b
 unfold dvK
 omega
theorem aT3 {x y:Nat}(hx:W64 x) (hy:W64 y) (fx:aK x=true) (fy:aK y=true) (x0:aO x≠0) (yp:0<fI y) (mode:Int):
  (0≤fI x→0≤dvK x y mode)∧(fI x≤0→dvK x y mode≤0):=by
 obtain⟨M,hM,m1,m2⟩:=aBy x y x y
 have hz:ky 0=0:=by decide
 have hP:(0:Int)≤2^1074:=Int.le_of_lt (Int.pow_pos (by decide))
 have r:=vG hx hy (by decide:W64 0) fx fy (by decide) x0 yp hM m1
 rw [show fI 0=0 from mJ 1074,Int.zero_mul]at r
 generalize (2:Int)^1074=P at*
 refine⟨fun h=> ?_,fun h=> ?_⟩
 ·rw [←hz];exact vN mode hM m1 (by decide) (by decide) (r.1.2 (Int.mul_nonneg h hP))
 ·rw [←hz];exact vO mode hM m1 (by decide) (by decide) (r.2.2 (Int.mul_nonpos_of_nonpos_of_nonneg h hP))
end
section
open Go.RowKit
theorem aB5 {k:Int}(h1: -(aG:Int)<k) (h2:k<aG) (h:k≠0):aO (kb k)≠0:=by
 obtain⟨a,b,c,d⟩:=kX h1 h2
 have:=fH a b
 rw [d]at this
 intro e
 have:=this.1.2 e
 omega
theorem aBv {k:Int}(h1:0<k) (h2:k<aG):0<fI (kb k):=by
 obtain⟨a,b,c,d⟩:=kX (by omega) h2
 exact(fH a b).2.1.2 (by omega)
theorem sH {x y:Int}(hx:mD x) (hy:mD y) (h0:0≤y) (mode:Int):
  byK (kb x) (kb y) mode=if y=0 then(if x=0 then 0 else if 0<x then(aG:Int)else-(aG:Int))else if x=0∨y=aG then 0 else if-(aG:Int)<x∧x<aG then dvK (kb x) (kb y) mode else x:=by
 have hk:=kF
 unfold mD at hx hy
 unfold byK quK sgK
 rw [zY hx.1 hx.2,zY hy.1 hy.2,(jY hx.1 hx.2).2.2,(jY hy.1 hy.2).2.2]
 by_cases e1:y=0
 ·by_cases e2:x=0
  ·rw [if_neg (by omega),if_pos (.inl e2),if_pos e1,if_pos e2]
  ·rw [if_pos ⟨e1,e2⟩,if_pos e1,if_neg e2]
 ·rw [if_neg (by omega),if_neg e1]
  by_cases e2:x=0∨y=aG
  ·rw [if_pos e2,if_pos]
   rcases e2 with e2|e2
   ·exact .inl e2
   ·exact .inr (decide_eq_false (by omega))
  ·rw [if_neg e2,if_neg]
   ·by_cases e3: -(aG:Int)<x∧x<aG
    ·rw [if_pos e3,if_neg]
     rw [decide_eq_true e3];decide
    ·rw [if_neg e3,if_pos (decide_eq_false e3)]
     by_cases e4:0<x
     ·rw [if_pos (by rw [decide_eq_true e4,decide_eq_true (by omega)];rfl)];omega
     ·rw [if_neg (by rw [decide_eq_false e4,decide_eq_true (by omega)];decide)];omega
   ·rintro(h|h)
    ·exact e2 (.inl h)
    ·exact of_decide_eq_false h ⟨by omega,by omega⟩
theorem nJ {x y:Int}(hx:mD x) (hy:mD y) (h0:0≤y) (mode:Int):(0≤x→0≤byK (kb x) (kb y) mode)∧(x≤0→byK (kb x) (kb y) mode≤0):=by
 have hk:=kF
 rw [sH hx hy h0]
 unfold mD at hx hy
 by_cases e1:y=0
 ·rw [if_pos e1];split<;>(try split)<;>omega
 ·rw [if_neg e1]
  by_cases e2:x=0∨y=aG
  ·rw [if_pos e2];omega
  ·rw [if_neg e2]
   by_cases e3: -(aG:Int)<x∧x<aG
   ·rw [if_pos e3]
    obtain⟨a,b,c,d⟩:=kX e3.1 e3.2
    obtain⟨a',b',c',d'⟩:=kX (k:=y) (by omega) (by omega)
    have s:=aT3 a a' b b' (aB5 e3.1 e3.2 (by omega)) (aBv (by omega) (by omega)) mode
    have z:=fH a b
    rw [d]at z
    refine⟨fun h=>s.1 (by omega),fun h=>s.2 (by omega)⟩
   ·rw [if_neg e3];omega
theorem aGu {x y:Int}(hx:mD x) (hy:mD y) (h0:0≤y):byK (kb x) (kb y) 4≤byK (kb x) (kb y) 3∧-(aG:Int)≤byK (kb x) (kb y) 4∧byK (kb x) (kb y) 3≤aG∧
  (byK (kb x) (kb y) 4=aG→0<x∧(y=0∨x=aG))∧(byK (kb x) (kb y) 3= -aG→x<0∧(y=0∨x= -aG)):=by
 have hk:=kF
 have hb:=aX2 (kb x) (kb y)
 rw [sH hx hy h0,sH hx hy h0]
 unfold mD at hx hy
 by_cases e1:y=0
 ·rw [if_pos e1,if_pos e1];split<;>(try split)<;>omega
 ·rw [if_neg e1,if_neg e1]
  by_cases e2:x=0∨y=aG
  ·rw [if_pos e2,if_pos e2];omega
  ·rw [if_neg e2,if_neg e2]
   by_cases e3: -(aG:Int)<x∧x<aG
   ·rw [if_pos e3,if_pos e3];omega
   ·rw [if_neg e3,if_neg e3];omega
theorem aFq {x y:Int}(hx:mD x) (hy:mD y) (h0:0≤y) (mode:Int) (hm:mode=3∨mode=4):mD (byK (kb x) (kb y) mode):=by
 have:=aGu hx hy h0
 unfold mD
 rcases hm with rfl|rfl<;>omega
theorem aAb {x y x' y':Int}(hx: -(aG:Int)<x∧x<aG) (hx': -(aG:Int)<x'∧x'<aG) (x0:x≠0) (x0':x'≠0) (hy:0<y∧y<aG) (hy':0<y'∧y'<aG)
  (h:vv x*vv y'≤vv x'*vv y) (mode:Int) (hm:mode=3∨mode=4):dvK (kb x) (kb y) mode≤dvK (kb x') (kb y') mode:=by
 obtain⟨a,b,c,d⟩:=kX hx.1 hx.2
 obtain⟨a',b',c',d'⟩:=kX hx'.1 hx'.2
 obtain⟨e,f,g,i⟩:=kX (k:=y) (by omega) hy.2
 obtain⟨e',f',g',i'⟩:=kX (k:=y') (by omega) hy'.2
 rcases hm with rfl|rfl
 ·exact aUx a e a' e' b f b' f' (aB5 hx.1 hx.2 x0) (aB5 hx'.1 hx'.2 x0') (aBv hy.1 hy.2) (aBv hy'.1 hy'.2) h
 ·exact aW5 a e a' e' b f b' f' (aB5 hx.1 hx.2 x0) (aB5 hx'.1 hx'.2 x0') (aBv hy.1 hy.2) (aBv hy'.1 hy'.2) h
theorem aXm {x x' y:Int}(hx:mD x) (hx':mD x') (hy:mD y) (h0:0≤y) (h:x≤x') (mode:Int) (hm:mode=3∨mode=4):byK (kb x) (kb y) mode≤byK (kb x') (kb y) mode:=by
 have hk:=kF
 have s1:=nJ hx hy h0 mode
 have s2:=nJ hx' hy h0 mode
 have p1:=aFq hx hy h0 mode hm
 have p2:=aFq hx' hy h0 mode hm
 rw [sH hx hy h0]at s1 p1 ⊢
 rw [sH hx' hy h0]at s2 p2 ⊢
 unfold mD at*
 by_cases e1:y=0
 ·rw [if_pos e1,if_pos e1];split<;>(try split)<;>(try split)<;>(try split)<;>omega
 ·rw [if_neg e1]at s1 s2 p1 p2 ⊢
  rw [if_neg e1]
  by_cases e2:x≤0∧0≤x'
  ·have:=s1.2 e2.1;have:=s2.1 e2.2;omega
  ·by_cases e3:y=aG
   ·rw [if_pos (.inr e3),if_pos (.inr e3)];omega
   ·have nx:¬(x=0∨y=aG):=by omega
    have nx':¬(x'=0∨y=aG):=by omega
    rw [if_neg nx]at s1 p1 ⊢
    rw [if_neg nx']at s2 p2 ⊢
    by_cases f1: -(aG:Int)<x∧x<aG
    ·by_cases f2: -(aG:Int)<x'∧x'<aG
     ·rw [if_pos f1,if_pos f2]
      have vy:=(aIz (k:=y) (by omega) (by omega)).1.1 h0
      exact aAb f1 f2 (by omega) (by omega) ⟨by omega,by omega⟩ ⟨by omega,by omega⟩ (Int.mul_le_mul_of_nonneg_right ((aEi f1.1 f1.2 f2.1 f2.2).1 h) vy) mode hm
     ·rw [if_pos f1]at p1
      rw [if_pos f1,if_neg f2];omega
    ·rw [if_neg f1]
     by_cases f2: -(aG:Int)<x'∧x'<aG
     ·rw [if_pos f2]at p2 ⊢;omega
     ·rw [if_neg f2];exact h
theorem aYb {x y y':Int}(hx:mD x) (hy:mD y) (hy':mD y') (h0:0≤y) (h:y≤y') (mode:Int) (hm:mode=3∨mode=4):
  (0≤x→byK (kb x) (kb y') mode≤byK (kb x) (kb y) mode)∧(x≤0→byK (kb x) (kb y) mode≤byK (kb x) (kb y') mode):=by
 have hk:=kF
 have s1:=nJ hx hy h0 mode
 have s2:=nJ hx hy' (by omega) mode
 have p1:=aFq hx hy h0 mode hm
 have p2:=aFq hx hy' (by omega) mode hm
 rw [sH hx hy h0]at s1 p1 ⊢
 rw [sH hx hy' (by omega)]at s2 p2 ⊢
 unfold mD at*
 by_cases ex:x=0
 ·have z1:=Int.le_antisymm (s1.2 (by omega)) (s1.1 (by omega))
  have z2:=Int.le_antisymm (s2.2 (by omega)) (s2.1 (by omega))
  rw [z1,z2]
  exact⟨fun _=>Int.le_refl _,fun _=>Int.le_refl _⟩
 by_cases e1:y=0
 ·by_cases e2:y'=0
  ·rw [if_pos e1,if_pos e2];omega
  ·rw [if_pos e1,if_neg ex]at p1 ⊢
   rw [if_neg e2]at p2 ⊢
   refine⟨fun t=> ?_,fun t=> ?_⟩
   ·rw [if_pos (show 0<x by omega)];omega
   ·rw [if_neg (show¬0<x by omega)];omega
 ·rw [if_neg e1]at s1 p1 ⊢
  rw [if_neg (show y'≠0 by omega)]at s2 p2 ⊢
  by_cases e3:y'=aG
  ·rw [if_pos (Or.inr e3)];exact⟨fun t=>s1.1 t,fun t=>s1.2 t⟩
  ·rw [if_neg (show¬(x=0∨y=aG) by omega)]at s1 p1 ⊢
   rw [if_neg (show¬(x=0∨y'=aG) by omega)]at s2 p2 ⊢
   by_cases f1: -(aG:Int)<x∧x<aG
   ·rw [if_pos f1,if_pos f1]
    have vl:=(aEi (k:=y) (j:=y') (by omega) (by omega) (by omega) (by omega)).1 h
    refine⟨fun t=> ?_,fun t=> ?_⟩
    ·exact aAb f1 f1 ex ex ⟨by omega,by omega⟩ ⟨by omega,by omega⟩ (Int.mul_le_mul_of_nonneg_left vl ((aIz f1.1 f1.2).1.1 t)) mode hm
    ·exact aAb f1 f1 ex ex ⟨by omega,by omega⟩ ⟨by omega,by omega⟩ (Int.mul_le_mul_of_nonpos_left ((aIz f1.1 f1.2).2.1 t) vl) mode hm
   ·rw [if_neg f1,if_neg f1];omega
end
section
open Go.RowKit
theorem aFm {l h m k:Int}(a1: -(aG:Int)≤l) (a2:l≤h) (a3:h≤aG) (a4:l<aG) (a5: -(aG:Int)<h) (b1:0≤m) (b2:m≤k) (b3:k≤aG) (b4:m<aG) (b5:0<k):
  Iok (some (ovK l h m k)):=by
 have hk:=kF
 have L:mD l:=⟨a1,by omega⟩
 have H:mD h:=⟨by omega,a3⟩
 have Mm:mD m:=⟨by omega,by omega⟩
 have K:mD k:=⟨by omega,b3⟩
 suffices hs: -(aG:Int)≤byK (kb l) (kb (if l<0 then m else k)) 4∧byK (kb l) (kb (if l<0 then m else k)) 4≤byK (kb h) (kb (if 0<h then m else k)) 3∧byK (kb h) (kb (if 0<h then m else k)) 3≤aG∧
   byK (kb l) (kb (if l<0 then m else k)) 4<aG∧-(aG:Int)<byK (kb h) (kb (if 0<h then m else k)) 3 from Iok.some hs.1 hs.2.1 hs.2.2.1 hs.2.2.2.1 hs.2.2.2.2
 have c1:=(aGu L Mm b1).2.1
 have c2:=(aGu L K (by omega)).2
 have c3:=aGu H Mm b1
 have c4:=aGu H K (by omega)
 have s1:=(nJ L Mm b1 4).2
 have s2:=nJ L K (by omega) 4
 have s3:=(nJ H Mm b1 3).1
 have x1:=aXm L H Mm b1 a2 4 (.inr rfl)
 have x2:=aXm L H K (by omega) a2 4 (.inr rfl)
 have y2:=aYb H Mm K b1 b2 4 (.inr rfl)
 have e1:byK (kb l) (kb (if l<0 then m else k)) 4=if l<0 then byK (kb l) (kb m) 4 else byK (kb l) (kb k) 4:=by split<;>rfl
 have e2:byK (kb h) (kb (if 0<h then m else k)) 3=if 0<h then byK (kb h) (kb m) 3 else byK (kb h) (kb k) 3:=by split<;>rfl
 rw [e1,e2]
 clear e1 e2
 generalize byK (kb l) (kb m) 4=p1 at*
 generalize byK (kb l) (kb k) 4=p2 at*
 generalize byK (kb h) (kb m) 4=p3 at*
 generalize byK (kb h) (kb k) 4=p4 at*
 generalize byK (kb h) (kb m) 3=q3 at*
 generalize byK (kb h) (kb k) 3=q4 at*
 clear L H Mm K
 generalize (aG:Int)=I at*
 by_cases f1:l<0<;>by_cases f2:0<h<;>simp only [f1,f2,if_true,if_false]<;>omega
theorem aMa {a b:Option (Int×Int)}(ha:Iok a) (hb:Iok b):Iok (mP a b):=by
 rcases a with _|⟨l,h⟩
 ·exact Iok.none
 rcases b with _|⟨m,k⟩
 ·exact Iok.none
 obtain⟨a1,a2,a3,a4,a5⟩:=ha l h rfl
 obtain⟨b1,b2,b3,b4,b5⟩:=hb m k rfl
 have hk:=kF
 show Iok (if m=0∧k=0 then none else if 0≤m then some (ovK l h m k)else if k≤0 then some (ovK (-h) (-l) (-k) (-m))else if l=0∧h=0 then some (0,0)else some (-(aG:Int),(aG:Int)))
 by_cases c1:m=0∧k=0
 ·rw [if_pos c1];exact Iok.none
 rw [if_neg c1]
 by_cases c2:0≤m
 ·rw [if_pos c2];exact aFm a1 a2 a3 a4 a5 c2 b2 b3 b4 (by omega)
 rw [if_neg c2]
 by_cases c3:k≤0
 ·rw [if_pos c3];exact aFm (by omega) (by omega) (by omega) (by omega) (by omega) (by omega) (by omega) (by omega) (by omega) (by omega)
 rw [if_neg c3]
 split<;>exact Iok.some (by omega) (by omega) (by omega) (by omega) (by omega)
theorem aIg {m k:Int}(b1:0≤m) (b2:m≤k) (b3:k≤aG):ovK 0 0 m k=(0,0):=by
 have hk:=kF
 have Z:mD 0:=⟨by omega,by omega⟩
 have K:mD k:=⟨by omega,by omega⟩
 have s1:=nJ Z K (by omega) 4
 have s2:=nJ Z K (by omega) 3
 show(byK (kb 0) (kb k) 4,byK (kb 0) (kb k) 3)=(0,0)
 congr 1<;>omega
end
end Go.Proofs.YtfmecpembnmnkaaGreatDoor
