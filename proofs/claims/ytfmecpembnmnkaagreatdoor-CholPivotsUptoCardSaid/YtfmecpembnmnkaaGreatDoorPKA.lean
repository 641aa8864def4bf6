/- Plain: division of long numbers, digit by digit. -/
import Derived.Test.YtfmecpembnmnkaaGreatDoorPGA
import Derived.Test.YtfmecpembnmnkaaGreatDoorPGF
import Derived.Test.YtfmecpembnmnkaaGreatDoorPGC
import Derived.Test.YtfmecpembnmnkaaGreatDoorPGO
namespace Go.Proofs.YtfmecpembnmnkaaGreatDoor
section
theorem iV (s i:Nat):2^(s*(i+1))=2^(s*i)*2^s:=by rw [Nat.mul_succ,Nat.pow_add]
theorem aL6 (s i j:Nat):2^(s*(j+i))=2^(s*j)*2^(s*i):=by rw [Nat.mul_add,Nat.pow_add]
theorem aOa {B P D N v1 v2 t u2 d0 n0 g r:Nat}(hD:D=(v1*B+v2)*P+d0) (hN:N=(t*B+u2)*P+n0) (hn:n0<P) (hND:N<D*B) (hg:g*v1+r=t) (hc:B≤g∨r*B+u2<g*v2):N<g*D:=by
 rcases hc with h|h
 ·exact Nat.lt_of_lt_of_le hND (by rw [Nat.mul_comm D B];exact Nat.mul_le_mul_right _ h)
 ·subst hg hD hN
  have h1:((g*v1+r)*B+u2+1)≤g*(v1*B+v2):=by
   rw [Nat.add_mul,Nat.mul_add,←Nat.mul_assoc];omega
  have h2:=Nat.mul_le_mul_right P h1
  have h3:g*((v1*B+v2)*P+d0)=g*(v1*B+v2)*P+g*d0:=by rw [Nat.mul_add,Nat.mul_assoc]
  have h4:((g*v1+r)*B+u2+1)*P=((g*v1+r)*B+u2)*P+P:=by rw [Nat.add_mul,Nat.one_mul]
  omega
theorem aOc {B P D N v1 v2 t u2 d0 n0 g r:Nat}(hB:0<B) (hD:D=(v1*B+v2)*P+d0) (hd:d0<P) (hN:N=(t*B+u2)*P+n0) (h1:1≤v1) (hg:g*v1+r=t) (hgB:g≤B) (hc:g*v2≤r*B+u2):g*D<N+D:=by
 subst hg
 have e1:g*D=g*(v1*B+v2)*P+g*d0:=by rw [hD,Nat.mul_add,Nat.mul_assoc]
 have e2:g*(v1*B+v2)≤(g*v1+r)*B+u2:=by rw [Nat.add_mul,Nat.mul_add,←Nat.mul_assoc];omega
 have e3:=Nat.mul_le_mul_right P e2
 have e4:g*d0≤B*d0:=Nat.mul_le_mul_right _ hgB
 have e5:B*P≤D:=by
  have:1*B≤v1*B:=Nat.mul_le_mul_right _ h1
  have h:=Nat.mul_le_mul_right P (show B≤v1*B+v2 by omega)
  omega
 have e6:B*d0<B*P:=Nat.mul_lt_mul_of_pos_left hd hB
 omega
theorem aHs {B P D N v1 v2 t u2 d0 n0:Nat}(hD:D=(v1*B+v2)*P+d0) (hN:N=(t*B+u2)*P+n0) (hn:n0<P) (hu:u2<B) (h1:1≤v1):N<(t/v1+1)*D:=by
 subst hD hN
 have e1:=Nat.div_add_mod t v1
 have e2:=Nat.mod_lt t h1
 generalize t/v1=g at*
 generalize t%v1=r at*
 have h2:t+1≤(g+1)*v1:=by rw [Nat.add_mul,Nat.one_mul,Nat.mul_comm];omega
 have h3:=Nat.mul_le_mul_right B h2
 rw [Nat.add_mul,Nat.one_mul]at h3
 have h4:t*B+u2+1≤(g+1)*(v1*B+v2):=by rw [Nat.mul_add,←Nat.mul_assoc];omega
 have h5:=Nat.mul_le_mul_right P h4
 have h6:(t*B+u2+1)*P=(t*B+u2)*P+P:=by rw [Nat.add_mul,Nat.one_mul]
 have h7:(g+1)*((v1*B+v2)*P+d0)=(g+1)*(v1*B+v2)*P+(g+1)*d0:=by rw [Nat.mul_add,Nat.mul_assoc]
 omega
theorem aHk {B P D N v1 v2 t u2 d0 n0 g r:Nat}(hD:D=(v1*B+v2)*P+d0) (hd:d0<P) (hv2:v2<B) (hN:N=(t*B+u2)*P+n0) (hND:N<D*B) (hg:g*v1+r=t) (hr:B≤r):g<B:=by
 have hB:0<B:=by omega
 have hP:0<P:=by omega
 have e1:D<(v1+1)*B*P:=by
  have h:=Nat.mul_le_mul_right P (show v1*B+v2+1≤(v1+1)*B by rw [Nat.add_mul,Nat.one_mul];omega)
  have h2:(v1*B+v2+1)*P=(v1*B+v2)*P+P:=by rw [Nat.add_mul,Nat.one_mul]
  omega
 have e2:N<(v1+1)*B*P*B:=Nat.lt_of_lt_of_le hND (Nat.mul_le_mul_right _ (Nat.le_of_lt e1))
 have e3:t*B*P≤N:=by
  have h:=Nat.mul_le_mul_right P (show t*B≤t*B+u2 by omega)
  omega
 have e4:t*(B*P)<(v1+1)*B*(B*P):=by
  have a:t*(B*P)=t*B*P:=by rw [Nat.mul_assoc]
  have b:(v1+1)*B*(B*P)=(v1+1)*B*P*B:=by rw [Nat.mul_comm B P,Nat.mul_assoc,Nat.mul_assoc,Nat.mul_assoc]
  omega
 have e5:t<(v1+1)*B:=Nat.lt_of_mul_lt_mul_right e4
 rw [Nat.add_mul,Nat.one_mul]at e5
 have e6:g*v1<B*v1:=by rw [Nat.mul_comm B v1];omega
 exact Nat.lt_of_mul_lt_mul_right e6
theorem aI5 {B g r v2 u2:Nat}(hg:g<B) (hv2:v2<B) (hr:B≤r):g*v2≤r*B+u2:=by
 have h1:=Nat.mul_le_mul (Nat.le_of_lt hg) (Nat.le_of_lt hv2)
 have h2:=Nat.mul_le_mul_right B hr
 omega
theorem aMi {s N U D g C b i j p x y v b':Nat}(h:N+2^(s*j)*(g*(D%2^(s*i)))=U+(C+b)*2^(s*(j+i))) (hp:p=g*dg s D i+C) (hx:x=dg s N (j+i)) (hy:y=p%2^s+b) (hv:v+y=x+b'*2^s):
  jV s N (j+i) v+2^(s*j)*(g*(D%2^(s*(i+1))))=U+(p/2^s+b')*2^(s*(j+(i+1))):=by
 have h1:=jG s N (j+i) v
 rw [←hx]at h1
 rw [mod_succ,Nat.mul_add g,Nat.mul_add (2^(s*j)),show j+(i+1)=(j+i)+1 by omega,iV]
 have e1:2^(s*j)*(g*(2^(s*i)*dg s D i))=g*dg s D i*2^(s*(j+i)):=by
  rw [aL6]
  simp only [Nat.mul_comm,Nat.mul_left_comm,Nat.mul_assoc]
 rw [e1]
 have hq:=Nat.div_add_mod p (2^s)
 generalize 2^(s*(j+i))=Q at*
 generalize 2^(s*j)*(g*(D%2^(s*i)))=M at*
 generalize p/2^s=p1 at*
 generalize p%2^s=p0 at*
 generalize 2^s=B at*
 generalize g*dg s D i=gd at*
 have e2:(p1+b')*(Q*B)=(B*p1+b'*B)*Q:=by
  rw [Nat.add_mul,Nat.add_mul,Nat.mul_comm Q B,←Nat.mul_assoc,←Nat.mul_assoc,Nat.mul_comm p1 B]
 rw [e2]
 generalize jV s N (j+i) v=N' at*
 have e3:v*Q+y*Q=x*Q+b'*B*Q:=by rw [←Nat.add_mul,hv,Nat.add_mul]
 have e4:B*p1*Q+p0*Q=gd*Q+C*Q:=by rw [←Nat.add_mul,←Nat.add_mul,hq,hp]
 have e5:y*Q=p0*Q+b*Q:=by rw [hy,Nat.add_mul]
 rw [Nat.add_mul]at h ⊢
 omega
theorem aOm {s N U D g C b n j x y v b':Nat}(hD:D<2^(s*n)) (h:N+2^(s*j)*(g*(D%2^(s*n)))=U+(C+b)*2^(s*(j+n))) (hx:x=dg s N (j+n)) (hy:y=C+b) (hv:v+y=x+b'*2^s):
  jV s N (j+n) v+2^(s*j)*(g*D)=U+b'*2^(s*(j+n+1)):=by
 rw [Nat.mod_eq_of_lt hD]at h
 have h1:=jG s N (j+n) v
 rw [←hx]at h1
 rw [iV]
 generalize 2^(s*(j+n))=Q at*
 generalize 2^s=B at*
 generalize 2^(s*j)*(g*D)=M at*
 generalize jV s N (j+n) v=N' at*
 rw [←hy]at h
 have e3:v*Q+y*Q=x*Q+b'*B*Q:=by rw [←Nat.add_mul,hv,Nat.add_mul]
 have e4:b'*(Q*B)=b'*B*Q:=by rw [Nat.mul_comm Q B,Nat.mul_assoc]
 rw [e4]
 omega
theorem aNy {s N U D C i j t:Nat}(h:N+C*2^(s*(j+i))=U+2^(s*j)*(D%2^(s*i))) (ht:t=dg s N (j+i)+dg s D i+C):
  jV s N (j+i) (t%2^s)+t/2^s*2^(s*(j+(i+1)))=U+2^(s*j)*(D%2^(s*(i+1))):=by
 have h1:=jG s N (j+i) (t%2^s)
 rw [mod_succ,Nat.mul_add (2^(s*j)),show j+(i+1)=(j+i)+1 by omega,iV]
 have e1:2^(s*j)*(2^(s*i)*dg s D i)=dg s D i*2^(s*(j+i)):=by
  rw [aL6,←Nat.mul_assoc,Nat.mul_comm]
 rw [e1]
 have hq:=Nat.div_add_mod t (2^s)
 generalize 2^(s*(j+i))=Q at*
 generalize 2^(s*j)*(D%2^(s*i))=M at*
 generalize t/2^s=t1 at*
 generalize t%2^s=t0 at*
 generalize 2^s=B at*
 generalize dg s D i=d at*
 generalize dg s N (j+i)=x at*
 generalize jV s N (j+i) t0=N' at*
 have e2:t1*(Q*B)=B*t1*Q:=by rw [Nat.mul_comm Q B,←Nat.mul_assoc,Nat.mul_comm t1 B]
 have e3:B*t1*Q+t0*Q=x*Q+d*Q+C*Q:=by rw [←Nat.add_mul,hq,ht,Nat.add_mul,Nat.add_mul]
 rw [e2]
 omega
theorem aNk {s N U D C n j x:Nat}(hD:D<2^(s*n)) (h:N+C*2^(s*(j+n))=U+2^(s*j)*(D%2^(s*n))) (hx:x=dg s N (j+n)):
  jV s N (j+n) ((x+C)%2^s)+(x+C)/2^s*2^(s*(j+n+1))=U+2^(s*j)*D:=by
 rw [Nat.mod_eq_of_lt hD]at h
 have h1:=jG s N (j+n) ((x+C)%2^s)
 rw [←hx]at h1
 rw [iV]
 have hq:=Nat.div_add_mod (x+C) (2^s)
 generalize 2^(s*(j+n))=Q at*
 generalize 2^(s*j)*D=M at*
 generalize (x+C)/2^s=t1 at*
 generalize (x+C)%2^s=t0 at*
 generalize 2^s=B at*
 generalize jV s N (j+n) t0=N' at*
 have e2:t1*(Q*B)=B*t1*Q:=by rw [Nat.mul_comm Q B,←Nat.mul_assoc,Nat.mul_comm t1 B]
 have e3:B*t1*Q+t0*Q=x*Q+C*Q:=by rw [←Nat.add_mul,hq,Nat.add_mul]
 rw [e2]
 omega
theorem aM5 {N N1 D g P b T:Nat}(h:N1+P*(g*D)=N+b*T) (hb:b=0) (hlo:N<(g+1)*D*P):N=g*P*D+N1∧N1<D*P:=by
 subst hb
 have e:P*(g*D)=g*P*D:=by rw [←Nat.mul_assoc,Nat.mul_comm P g]
 have e2:(g+1)*D*P=g*P*D+D*P:=by rw [Nat.add_mul,Nat.one_mul,Nat.add_mul,Nat.mul_assoc,Nat.mul_comm D P,←Nat.mul_assoc]
 omega
theorem aMu {N N1 N2 D g P b c T:Nat}(h:N1+P*(g*D)=N+b*T) (hb:b=1) (h1:N1<T) (h2:N2+c*T=N1+P*D) (hN2:N2<T) (hhi:g*D*P<N+D*P) (hDP:D*P≤T):
  1≤g∧N=(g-1)*P*D+N2∧N2<D*P:=by
 subst hb
 have e:P*(g*D)=g*P*D:=by rw [←Nat.mul_assoc,Nat.mul_comm P g]
 have e1:g*D*P=g*P*D:=by rw [Nat.mul_assoc,Nat.mul_comm D P,←Nat.mul_assoc]
 have e2:D*P=P*D:=Nat.mul_comm _ _
 rw [e]at h
 rw [e1,e2]at hhi
 rw [e2]at hDP ⊢
 rcases g with _|g
 ·simp at h;omega
 ·have e3:(g+1)*P*D=g*P*D+P*D:=by rw [Nat.add_mul,Nat.one_mul,Nat.add_mul]
  rw [e3]at h hhi
  rw [Nat.add_sub_cancel]
  have hc:c=1:=by
   rcases c with _|_|c
   ·simp at h2;omega
   ·rfl
   ·have:(c+1+1)*T=c*T+T+T:=by rw [Nat.add_mul,Nat.add_mul,Nat.one_mul]
    omega
  subst hc
  omega
end
section
open Go.RowKit
def MSl (W:World) (g n cap N:Nat):Prop:=
 ∃cur:Array Value,W.heap[g]? =some (.cells cur 233 (0,0))∧cur.size=cap∧n≤cap∧N<2^(32*n)∧∀i,i<n→cur[i]? =some (.int .u32 (dg 32 N i:Nat))
theorem MSl.lt {W:World}{g n cap N:Nat}(h:MSl W g n cap N):g<W.heap.size:=by
 obtain⟨cur,h1,-⟩:=h
 exact(Array.getElem?_eq_some_iff.1 h1).1
theorem MSl.cell {W:World}{g n cap N i:Nat}(h:MSl W g n cap N) (hi:i<n):W.cell? ⟨g,i,none⟩=some (.int .u32 (dg 32 N i:Nat)):=by
 obtain⟨cur,h1,-,-,-,h5⟩:=h
 rw [cell_of_row W g i cur _ _ h1]
 exact h5 i hi
theorem MSl.frozen {W:World}{g n cap N:Nat}(h:MSl W g n cap N) (i:Nat):W.frozen? ⟨g,i,none⟩=false:=by
 obtain⟨cur,h1,-⟩:=h
 exact frozen_of_row W g i cur _ h1
theorem MSl.fit {W:World}{g n cap N:Nat}(h:MSl W g n cap N):N<2^(32*n):=by obtain⟨cur,-,-,-,h4,-⟩:=h;exact h4
theorem MSl.room {W:World}{g n cap N:Nat}(h:MSl W g n cap N):n≤cap:=by obtain⟨cur,-,-,h3,-⟩:=h;exact h3
theorem MSl.set {W:World}{g n cap N i v:Nat}(h:MSl W g n cap N) (hv:v<4294967296) (hi:i<n):MSl (W.setCell ⟨g,i,none⟩ (.int .u32 (v:Nat))) g n cap (jV 32 N i v):=by
 obtain⟨cur,h1,h2,h3,h4,h5⟩:=h
 have hv':v<2^32:=hv
 refine⟨cur.setIfInBounds i (.int .u32 (v:Nat)),heap_setCell_same W g i cur _ _ h1,by simpa using h2,h3,mO hv' h4 hi,fun j hj=> ?_⟩
 rw [aEt hv',Array.getElem?_setIfInBounds]
 by_cases e:i=j
 ·subst e
  rw [if_pos rfl,if_pos rfl,if_pos (by omega)]
 ·rw [if_neg e,if_neg (fun t=>e t.symm)]
  exact h5 j hj
theorem MSl.of_block {W V:World}{g n cap N:Nat}(h:MSl W g n cap N) (e:V.heap[g]? =W.heap[g]?):MSl V g n cap N:=by
 obtain⟨cur,h1,h2⟩:=h
 exact⟨cur,e.trans h1,h2⟩
theorem MSl.below {W V:World}{g n cap N:Nat}(h:MSl W g n cap N) (hb:Below W.heap.size W V):MSl V g n cap N:=h.of_block (hb.block g h.lt)
theorem MSl.grown {W V:World}{g n cap N:Nat}{row:Option Nat}(h:MSl W g n cap N) (hb:W.grownBy V row) (hne:some g≠row):MSl V g n cap N:=h.of_block (hb.block g h.lt hne)
theorem MSl.raw {W:World}{g n cap N:Nat}(h:MSl W g n cap N) (hn:n≤1099511627776):Raw .u32 32 W (.slice (some ⟨g,0,none⟩) n cap) n N:=by
 refine⟨_,cap,rfl,h.room,h.fit,hn,fun h0=>⟨g,0,rfl,h.lt,?_,fun i hi=>by rw [Nat.zero_add];exact h.cell hi⟩⟩
 obtain⟨cur,h1,-⟩:=h
 exact⟨cur,_,h1⟩
theorem MSl.xM {W:World}{b0 m n N:Nat}(h:Row .u32 32 b0 m N W) (hn:n≤m) (hN:N<2^(32*n)):MSl W b0 n m N:=by
 obtain⟨h1,cur,h2,h3,h4⟩:=h
 exact⟨cur,h2,h3,hn,hN,fun i hi=>h4 i (by omega)⟩
theorem vW {w W:World}{g i:Nat}{v:Value}(h:w.grownBy W (some g)):w.grownBy (W.setCell ⟨g,i,none⟩ v) (some g):=
 ⟨h.os,h.tape,h.output,by simpa using h.size,fun k hk hne=>(heap_setCell_other W ⟨g,i,none⟩ k v (fun e=>hne (by rw [e]))).trans (h.block k hk hne)⟩
theorem aCu (w:World) (row:Option Nat):w.grownBy w row:=⟨rfl,rfl,rfl,Nat.le_refl _,fun _ _ _=>rfl⟩
theorem grown_drew {w W:World}{row:Option Nat}(h:w.grownBy W row):w.grownBy W.drew row:=⟨h.os,h.tape,h.output,h.size,h.block⟩
theorem and_low32 (p:Nat) (h:p<18446744073709551616):bits .and .u64 (p:Int) 4294967295=((p%4294967296:Nat):Int):=by
 rw [show(4294967295:Int)=((4294967295:Nat):Int)from rfl,bits_and_u64_nat _ _ h (by decide),show 4294967295=2^32-1 from rfl,Nat.and_two_pow_sub_one_eq_mod]
def aVc (gu nu cu U D j n g:Nat) (w:World) (e:Ending) (w':World):Prop:=
 ∃N b,e= .returned (.bool (decide (b=1)))∧b≤1∧N+2^(32*j)*(g*D)=U+b*2^(32*(j+n+1))∧N<2^(32*(j+n+1))∧MSl w' gu nu cu N∧w.grownBy w' (some gu)
def zM (gu nu cu U D j n g i C b N:Nat) (w W:World):Prop:=
 C<4294967296∧b≤1∧N+2^(32*j)*(g*(D%2^(32*i)))=U+(C+b)*2^(32*(j+i))∧N<2^(32*(j+n+1))∧MSl W gu nu cu N∧w.grownBy W (some gu)
theorem zM.step {gu nu cu U D j n g i C b N:Nat}{w W:World}(h:zM gu nu cu U D j n g i C b N w W) (hi:i<n) (hj:j+n<nu) (hg:g<4294967296) {p x y v b':Nat}
  (hp:p=g*dg 32 D i+C) (hx:x=dg 32 N (j+i)) (hy:y=p%4294967296+b) (hv:v+y=x+b'*4294967296) (hv2:v<4294967296) (hb:b'≤1):
  zM gu nu cu U D j n g (i+1) (p/4294967296) b' (jV 32 N (j+i) v) w (W.setCell ⟨gu,j+i,none⟩ (.int .u32 (v:Nat))):=by
 obtain⟨h1,h2,h3,h4,h5,h6⟩:=h
 refine⟨?_,hb,aMi (s:=32) h3 hp hx hy hv,mO (show v<2^32 from hv2) h4 (by omega),h5.set hv2 (by omega),vW h6⟩
 have hd:dg 32 D i<4294967296:=bH D i
 have:g*dg 32 D i≤4294967295*4294967295:=Nat.mul_le_mul (by omega) (by omega)
 omega
theorem zM.last {gu nu cu U D j n g C b N:Nat}{w W:World}(h:zM gu nu cu U D j n g n C b N w W) (hD:D<2^(32*n)) (hj:j+n<nu) {x y v b':Nat}
  (hx:x=dg 32 N (j+n)) (hy:y=C+b) (hv:v+y=x+b'*4294967296) (hv2:v<4294967296) (hb:b'≤1):
  aVc gu nu cu U D j n g w (.returned (.bool (decide (b'=1)))) (W.setCell ⟨gu,j+n,none⟩ (.int .u32 (v:Nat))):=by
 obtain⟨h1,h2,h3,h4,h5,h6⟩:=h
 exact⟨_,b',rfl,hb,aOm (s:=32) hD h3 hx hy hv,mO (show v<2^32 from hv2) h4 (by omega),h5.set hv2 (by omega),vW h6⟩
end
section
set_option maxRecDepth 100000
set_option maxHeartbeats 6400000
open Go.RowKit
theorem aNs (gu gd nu cu nd cd U D j g:Nat) (w:World) (hu:MSl w gu nu cu U) (hd:MSl w gd nd cd D) (hne:gd≠gu) (hj:j+nd<nu) (hU:U<2^(32*(j+nd+1))) (hg:g<4294967296) (hn:nu≤274877906944):
  Calls Tryz.prog 241 #[.slice (some ⟨gu,0,none⟩) nu cu,.slice (some ⟨gd,0,none⟩) nd cd,.int .i64 j,.int .u64 g] w (aVc gu nu cu U D j nd g w):=by
 have HD:=jH hd
 have HU:Hid (zM gu nu cu U D j nd g 0 0 0 U w w):=jH ⟨by decide,by decide,by simp [Nat.mod_one],hU,hu,aCu _ _⟩
 have HF:=jH hd.fit
 clear hu hd hU
 go_enter Tryz.func241,Tryz.ntmps241
 go_wp2
 go_loopw [9,10,11] (fun cv bv iv wr=>∃i C b N:Nat,i≤nd∧iv= .int .i64 i∧cv= .int .u64 C∧bv= .int .u64 b∧Hid (zM gu nu cu U D j nd g i C b N w wr)) (fun _ _ iv _=>nd-(intOf iv).toNat)
 case atStart=>exact⟨0,0,0,U,Nat.zero_le _,rfl,rfl,rfl,HU⟩
 case round=>
  clear HU
  obtain⟨i,C,b,N,hi,rfl,rfl,rfl,HR⟩:=hrel
  obtain⟨r1,r2,-,-,r5,r6⟩:=HR.out
  by_cases hlt:i<nd
  ·have hcd:=(HD.out.grown r6 (by simpa using hne)).cell hlt
   have hcu:=r5.cell (i:=j+i) (by omega)
   have hfz:=r5.frozen (j+i)
   have HST:=jH fun p x y v b' h1 h2 h3 h4 h5 h6=>zM.step (p:=p) (x:=x) (y:=y) (v:=v) (b':=b') HR.out hlt hj hg h1 h2 h3 h4 h5 h6
   have hdl:=bH D i
   have hxl:=bH N (j+i)
   clear r5 r6 HR
   generalize dg 32 D i=d at*
   generalize dg 32 N (j+i)=x at*
   have hgd:g*d≤4294967295*4294967295:=Nat.mul_le_mul (by omega) (by omega)
   have hpp:(g:Int)*(d:Int)=((g*d:Nat):Int):=by simp
   generalize g*d=gd at*
   obtain⟨p,hp⟩:∃p,p=gd+C:=⟨_,rfl⟩
   have hw1:IntKind.u64.wrap ((g:Int)*(d:Int))=(gd:Int):=by rw [hpp];exact dU _ (by omega)
   have hw2:(gd:Int)+(C:Int)=(p:Int):=by omega
   have HPE:=jH hp
   have hand:=and_low32 p (by omega)
   have hpl:p<18446744073709551616:=by omega
   obtain⟨lo,hlo⟩:∃lo,p%4294967296=lo:=⟨_,rfl⟩
   rw [hlo]at hand
   obtain⟨y,hy⟩:∃y,y=lo+b:=⟨_,rfl⟩
   have hw3:(lo:Int)+(b:Int)=(y:Int):=by omega
   have hb1:(0:Int)≤(j:Int)+(i:Int):=by omega
   have hb2:(j:Int)+(i:Int)<(nu:Int):=by omega
   have hw4:IntKind.i64.wrap ((j:Int)+(i:Int))=(j:Int)+(i:Int):=IntWalk.i64_in _ (by omega)
   have hw5:((j:Int)+(i:Int)).toNat=j+i:=by omega
   have hll:lo<4294967296:=by omega
   have HY:=jH (And.intro hlo hy)
   clear hp hlo hy
   have hyl:y≤4294967296:=by have:=HY.out;omega
   by_cases hxy:x<y
   ·have t1:decide ((x:Int)<(y:Int))=true:=decide_eq_true (by omega)
    obtain⟨v,hv⟩:∃v,v+y=x+1*4294967296:=⟨x+1*4294967296-y,by omega⟩
    have hw7:IntKind.u64.wrap ((x:Int)+4294967296-(y:Int))=(v:Int):=by rw [IntKind.wrap_u64];omega
    have hw8:(v:Int)%4294967296=(v:Int):=by omega
    have HN:=jH (HST.out p x y v 1 (by have:=HPE.out;omega) rfl (by have:=HY.out;omega) hv (by omega) (by decide))
    clear HST
    go_wp2
    go_roundw
    case rel=>exact⟨i+1,p/4294967296,1,_,by omega,by go_num,by go_num,rfl,HN⟩
    case measure=>simp [intOf];omega
   ·have t1:decide ((x:Int)<(y:Int))=false:=decide_eq_false (by omega)
    obtain⟨v,hv⟩:∃v,v+y=x+0*4294967296:=⟨x-y,by omega⟩
    have hw7:IntKind.u64.wrap ((x:Int)-(y:Int))=(v:Int):=by rw [IntKind.wrap_u64];omega
    have hw8:(v:Int)%4294967296=(v:Int):=by omega
    have HN:=jH (HST.out p x y v 0 (by have:=HPE.out;omega) rfl (by have:=HY.out;omega) hv (by omega) (by decide))
    clear HST
    go_wp2
    go_roundw
    case rel=>exact⟨i+1,p/4294967296,0,_,by omega,by go_num,by go_num,rfl,HN⟩
    case measure=>simp [intOf];omega
  ·obtain rfl:i=nd:=by omega
   have hcu:=r5.cell (i:=j+i) (by omega)
   have hfz:=r5.frozen (j+i)
   have HST:=jH fun x y v b' h1 h2 h3 h4 h5=>zM.last (x:=x) (y:=y) (v:=v) (b':=b') HR.out HF.out hj h1 h2 h3 h4 h5
   have hxl:=bH N (j+i)
   clear r5 r6 HR
   generalize dg 32 N (j+i)=x at*
   obtain⟨y,hy⟩:∃y,y=C+b:=⟨_,rfl⟩
   have hw3:(C:Int)+(b:Int)=(y:Int):=by omega
   have hb1:(0:Int)≤(j:Int)+(i:Int):=by omega
   have hb2:(j:Int)+(i:Int)<(nu:Int):=by omega
   have hw4:IntKind.i64.wrap ((j:Int)+(i:Int))=(j:Int)+(i:Int):=IntWalk.i64_in _ (by omega)
   have hw5:((j:Int)+(i:Int)).toNat=j+i:=by omega
   obtain⟨v,b',hb',hv,hv2,t1⟩:∃v b',b'≤1∧v+y=x+b'*4294967296∧v<4294967296∧decide (x<y)=decide (b'=1):=by
    by_cases hxy:x<y
    ·exact⟨x+4294967296-y,1,by omega,by omega,by omega,by rw [decide_eq_true hxy];rfl⟩
    ·exact⟨x-y,0,by omega,by omega,by omega,by rw [decide_eq_false hxy];rfl⟩
   obtain⟨z,hz⟩:∃z:Int,IntKind.u64.wrap ((x:Int)-(y:Int))=z:=⟨_,rfl⟩
   have hw8:z%4294967296=(v:Int):=by rw [←hz,IntKind.wrap_u64];omega
   have HN:=jH (HST.out x y v b' rfl (by omega) hv hv2 hb')
   clear HST hy hv
   go_wp2
   go_ret
   exact HN.out
def aVq (gu nu cu U D j n:Nat) (w w':World):Prop:=
 ∃N c,N+c*2^(32*(j+n+1))=U+2^(32*j)*D∧N<2^(32*(j+n+1))∧MSl w' gu nu cu N∧w.grownBy w' (some gu)
def tK (gu nu cu U D j n i C N:Nat) (w W:World):Prop:=
 C≤1∧N+C*2^(32*(j+i))=U+2^(32*j)*(D%2^(32*i))∧N<2^(32*(j+n+1))∧MSl W gu nu cu N∧w.grownBy W (some gu)
theorem MSl.wZ {W:World}{g n cap N:Nat}(h:MSl W g n cap N):MSl W.drew g n cap N:=h
theorem tK.wZ {gu nu cu U D j n i C N:Nat}{w W:World}(h:tK gu nu cu U D j n i C N w W):tK gu nu cu U D j n i C N w W.drew:=⟨h.1,h.2.1,h.2.2.1,h.2.2.2.1.wZ,grown_drew h.2.2.2.2⟩
theorem tK.step {gu nu cu U D j n i C N:Nat}{w W:World}(h:tK gu nu cu U D j n i C N w W) (hi:i<n) (hj:j+n<nu) {t v C':Nat}
  (ht:t=dg 32 N (j+i)+dg 32 D i+C) (hv:v=t%4294967296) (hC:C'=t/4294967296):
  tK gu nu cu U D j n (i+1) C' (jV 32 N (j+i) v) w (W.setCell ⟨gu,j+i,none⟩ (.int .u32 (v:Nat))):=by
 obtain⟨h1,h3,h4,h5,h6⟩:=h
 have d1:=bH D i
 have d2:=bH N (j+i)
 have hv2:v<4294967296:=by omega
 subst hv hC
 exact⟨by omega,aNy (s:=32) h3 ht,mO (show t%4294967296<2^32 from hv2) h4 (by omega),h5.set hv2 (by omega),vW h6⟩
theorem tK.last {gu nu cu U D j n C N:Nat}{w W:World}(h:tK gu nu cu U D j n n C N w W) (hD:D<2^(32*n)) (hj:j+n<nu) {x v:Nat}
  (hx:x=dg 32 N (j+n)) (hv:v=(x+C)%4294967296):aVq gu nu cu U D j n w (W.setCell ⟨gu,j+n,none⟩ (.int .u32 (v:Nat))):=by
 obtain⟨h1,h3,h4,h5,h6⟩:=h
 have hv2:v<4294967296:=by omega
 subst hv
 exact⟨_,_,aNk (s:=32) hD h3 hx,mO (show(x+C)%4294967296<2^32 from hv2) h4 (by omega),h5.set hv2 (by omega),vW h6⟩
theorem aM8 (gu gd nu cu nd cd U D j:Nat) (w:World) (hu:MSl w gu nu cu U) (hd:MSl w gd nd cd D) (hne:gd≠gu) (hj:j+nd<nu) (hU:U<2^(32*(j+nd+1))) (hn:nu≤274877906944):
  Calls Tryz.prog 242 #[.slice (some ⟨gu,0,none⟩) nu cu,.slice (some ⟨gd,0,none⟩) nd cd,.int .i64 j] w (fun e w'=>e= .returned (.tuple #[])∧aVq gu nu cu U D j nd w w'):=by
 have HD:=jH hd
 have HU:Hid (tK gu nu cu U D j nd 0 0 U w w):=jH ⟨by decide,by simp [Nat.mod_one],hU,hu,aCu _ _⟩
 have HF:=jH hd.fit
 clear hu hd hU
 go_enter Tryz.func242,Tryz.ntmps242
 go_wp2
 go_loopw [6,7] (fun cv iv wr=>∃i C N:Nat,i≤nd∧iv= .int .i64 i∧cv= .int .u64 C∧Hid (tK gu nu cu U D j nd i C N w wr)) (fun _ iv _=>nd-(intOf iv).toNat)
 case atStart=>exact⟨0,0,U,Nat.zero_le _,rfl,rfl,HU⟩
 case round=>
  clear HU
  obtain⟨i,C,N,hi,rfl,rfl,HR⟩:=hrel
  obtain⟨r1,-,-,r5,r6⟩:=HR.out
  by_cases hlt:i<nd
  ·have hcd:=(HD.out.grown r6 (by simpa using hne)).cell hlt
   have hcu:=r5.cell (i:=j+i) (by omega)
   have hfz:=r5.frozen (j+i)
   have HST:=jH fun t v C' h1 h2 h3=>tK.step (t:=t) (v:=v) (C':=C') HR.out.wZ hlt hj h1 h2 h3
   have hdl:=bH D i
   have hxl:=bH N (j+i)
   clear r5 r6 HR
   generalize dg 32 D i=d at*
   generalize dg 32 N (j+i)=x at*
   obtain⟨t,ht⟩:∃t,t=x+d+C:=⟨_,rfl⟩
   have HN:=jH (HST.out t _ _ ht rfl rfl)
   have hw2:(x:Int)+(d:Int)+(C:Int)=(t:Int):=by omega
   have htl:t<18446744073709551616:=by omega
   have hb1:(0:Int)≤(j:Int)+(i:Int):=by omega
   have hb2:(j:Int)+(i:Int)<(nu:Int):=by omega
   have hw4:IntKind.i64.wrap ((j:Int)+(i:Int))=(j:Int)+(i:Int):=IntWalk.i64_in _ (by omega)
   have hw5:((j:Int)+(i:Int)).toNat=j+i:=by omega
   clear ht HST
   go_wp2
   refine aC (fun w':World=>w'.cell? ⟨gu,j+i,none⟩=some (.int .u32 x)∧w'.cell? ⟨gd,i,none⟩=some (.int .u32 d)) 14 (.take 0 (.take 1 (.take 2 (.take 3 (.take 4 (.take 5 (.take 6 (.take 7 (.take 8 (.take 9 (.take 10 (.take 11 (.take 12 (.take 13 (.nil))))))))))))))) (by kernel_rfl) (by kernel_rfl) ?_
   have hS:(fun w':World=>w'.cell? ⟨gu,j+i,none⟩=some (.int .u32 x)∧w'.cell? ⟨gd,i,none⟩=some (.int .u32 d)) wr.drew:=⟨hcu,hcd⟩
   repeat (refine tkL (v:= ?_) rfl rfl rfl (fun w' hSw=> ?_) hS ?_;rotate_left;(focus (go_simp;with_reducible rfl));simp only [aF])
   clear hS
   refine aN ?_
   simp only [drL]
   go_wp2
   go_roundw
   case rel=>exact⟨i+1,t/4294967296,_,by omega,by go_num,by go_num,HN⟩
   case measure=>simp [intOf];omega
  ·obtain rfl:i=nd:=by omega
   have hcu:=r5.cell (i:=j+i) (by omega)
   have hfz:=r5.frozen (j+i)
   have HST:=jH fun x v h1 h2=>tK.last (x:=x) (v:=v) HR.out HF.out hj h1 h2
   have hxl:=bH N (j+i)
   clear r5 r6 HR
   generalize dg 32 N (j+i)=x at*
   have hb1:(0:Int)≤(j:Int)+(i:Int):=by omega
   have hb2:(j:Int)+(i:Int)<(nu:Int):=by omega
   have hw4:IntKind.i64.wrap ((j:Int)+(i:Int))=(j:Int)+(i:Int):=IntWalk.i64_in _ (by omega)
   have hw5:((j:Int)+(i:Int)).toNat=j+i:=by omega
   have hw6:IntKind.u32.wrap (C:Int)=(C:Int):=by rw [gG,Nat.mod_eq_of_lt (by omega)]
   have hw7:IntKind.u32.wrap ((x:Int)+(C:Int))=(((x+C)%4294967296:Nat):Int):=by rw [IntKind.wrap_u32];omega
   have HN:=jH (HST.out x _ rfl rfl)
   clear HST
   go_wp2
   rw [show((x:Int)+(C:Int))%4294967296=(((x+C)%4294967296:Nat):Int) by simp]
   exact bodyPost_end (v:= .tuple #[]) (by simp [results,Tryz.results242]) rfl ⟨rfl,HN.out⟩
end
section
set_option maxRecDepth 100000
set_option maxHeartbeats 6400000
open Go.RowKit
theorem aKp {s X d k:Nat}(hd:0<d):
  X/2^(s*k)%d=(X/2^(s*(k+1))%d*2^s+dg s X k)%d∧(X/2^(s*(k+1))%d*2^s+dg s X k)/d<2^s∧
  X/2^(s*k)/d*2^(s*k)=jV s (X/2^(s*(k+1))/d*2^(s*(k+1))) k ((X/2^(s*(k+1))%d*2^s+dg s X k)/d):=by
 have e1:=fQ s X k
 have hx:=iT s X k
 have h1:=Nat.div_add_mod (X/2^(s*(k+1))) d
 have h2:=Nat.mod_lt (X/2^(s*(k+1))) hd
 generalize X/2^(s*(k+1))=Y at*
 generalize dg s X k=x at*
 rw [e1]
 have hlt:(Y%d*2^s+x)/d<2^s:=by
  rw [Nat.div_lt_iff_lt_mul hd]
  have:(Y%d+1)*2^s≤d*2^s:=Nat.mul_le_mul_right _ h2
  rw [Nat.add_mul,Nat.one_mul]at this
  rw [Nat.mul_comm (2^s) d]
  omega
 generalize hq:Y/d=q at*
 generalize hr:Y%d=r at*
 have e2:x+2^s*Y=(r*2^s+x)+d*(q*2^s):=by
  rw [←h1,Nat.mul_add,Nat.mul_comm r,←Nat.mul_assoc,←Nat.mul_assoc,Nat.mul_comm (2^s) d,Nat.mul_assoc d,Nat.mul_comm (2^s) q,Nat.mul_assoc]
  omega
 refine⟨by rw [e2,Nat.add_mul_mod_self_left],hlt,?_⟩
 rw [e2,Nat.add_mul_div_left _ _ hd]
 have h3:=jG s (q*2^(s*(k+1))) k ((r*2^s+x)/d)
 have h4:dg s (q*2^(s*(k+1))) k=0:=by
  unfold dg
  rw [iV,←Nat.mul_assoc,Nat.mul_right_comm,Nat.mul_div_cancel _ (Nat.two_pow_pos _),Nat.mul_mod_left]
 rw [h4,Nat.zero_mul,Nat.add_zero]at h3
 rw [h3,Nat.add_mul,iV,Nat.mul_assoc q,Nat.mul_comm (2^s),Nat.add_comm]
theorem aJb {x y:Nat}(hx:x<4294967296) (hy:y<4294967296):bits .or .u64 ((y*4294967296:Nat):Int) (x:Int)=((y*4294967296+x:Nat):Int):=by
 rw [bits_or_u64_nat _ _ (by omega) (by omega)]
 congr 1
 have h:=Nat.two_pow_add_eq_or_of_lt (i:=32) (b:=x) (by omega) y
 rw [Nat.mul_comm y,←two32,←h]
theorem aJp (v:Value) (nx X d:Nat) (w:World) (hx:Raw .u32 32 w v nx X) (hd:0<d) (hdB:d<4294967296) (hn:nx≤274877906944):
  Calls Tryz.prog 239 #[v,.int .u32 d] w fun e w'=>∃q,e= .returned (.tuple #[q,.int .u32 (X%d:Nat)])∧Raw .u32 32 w' q (ln 32 (X/d)) (X/d)∧Below w.heap.size w w':=by
 obtain⟨ax,cx,rfl,-,hX,hnx,hcx⟩:=hx
 have HCX:=jH hcx
 have HBX:=jH hX
 clear hcx hX
 have hmk:=run_make_row' (P:=Tryz.prog) 165 233 (.int .u32 0) 4 Tryz.underlying165 Tryz.nV rfl .i64 .i64 nx (by omega) (by omega)
 go_enter Tryz.func239,Tryz.ntmps239
 go_wp2
 clear hmk
 have HR0:Hid (Row .u32 32 w.heap.size nx (X/2^(32*nx)/d*2^(32*nx)) _):=jH (by rw [Nat.div_eq_of_lt HBX.out,Nat.zero_div,Nat.zero_mul];exact Row.made .u32 32 nx w)
 have HZ0:Hid (X/2^(32*nx)%d=0):=jH (by rw [Nat.div_eq_of_lt HBX.out,Nat.zero_mod])
 go_loopw [7,8] (fun rv iv wr=>∃k:Nat,k≤nx∧iv= .int .i64 ((k:Int)-1)∧rv= .int .u64 (X/2^(32*k)%d:Nat)∧Hid (Row .u32 32 w.heap.size nx (X/2^(32*k)/d*2^(32*k)) wr∧Below w.heap.size w wr)) (fun _ iv _=>(intOf iv+1).toNat)
 case atStart=>exact⟨nx,Nat.le_refl _,rfl,by rw [HZ0.out];rfl,jH ⟨HR0.out,(Below.refl _ _).alloc (Nat.le_refl _) _⟩⟩
 case round=>
  clear HR0 HZ0
  obtain⟨k,hk,rfl,rfl,HR⟩:=hrel
  rcases k with _|k
  ·have hraw:=HR.out.1.raw (by omega)
   have e0:X/2^(32*0)=X:=by simp
   rw [e0]at hraw ⊢
   rw [Nat.mul_zero,Nat.pow_zero,Nat.mul_one]at hraw
   have HB:=jH HR.out.2
   have HRW:=jH hraw
   have hrl:X%d<d:=Nat.mod_lt _ hd
   clear hraw HR e0
   obtain⟨r,hre⟩:∃r,X%d=r:=⟨_,rfl⟩
   rw [hre]at hrl ⊢
   have HRE:=jH hre
   clear hre
   have hw:IntKind.u32.wrap (r:Int)=(r:Int):=by rw [gG,Nat.mod_eq_of_lt (by omega)]
   go_wp2_with fail
   refine(mZ _ _ _ _ HRW.out).mono ?_
   rintro e w1 ⟨q,rfl,rfl,hr2⟩
   have HRaw:=jH hr2
   clear hr2 HRW
   go_wp2
   exact bodyPost_ret (v:= .tuple #[q,.int .u32 (r:Nat)]) (by simp [results,Tryz.results239,go_sem]) rfl ⟨q,by rw [HRE.out],HRaw.out,HB.out⟩
  ·obtain⟨s1,s2,s3⟩:=aKp (s:=32) (X:=X) (k:=k) hd
   have S1:=jH s1
   have S3:=jH s3
   obtain⟨bx,ox,rfl,hbx,-,hcx⟩:=HCX.out (by omega)
   have hxk:=(HR.out.2.cell (p:=⟨bx,ox+k,none⟩) hbx).trans (hcx k (by omega))
   have hz:=HR.out.1.2.cell (i:=k) (by omega)
   have hfz:=HR.out.1.2.frozen k
   have HR1:=jH fun q (hq:q<2^32)=>(HR.out.1.set (i:=k) hq (by omega))
   have HB:=jH HR.out.2
   have hxl:=bH X k
   have hrl:X/2^(32*(k+1))%d<d:=Nat.mod_lt _ hd
   clear hcx HR s1 s3
   generalize X/2^(32*(k+1))%d=r at*
   generalize dg 32 X k=x at*
   obtain⟨t,ht⟩:∃t,r*4294967296+x=t:=⟨_,rfl⟩
   have htl:t<18446744073709551616:=by omega
   have hor:bits .or .u64 ((r:Int)*4294967296) (x:Int)=(t:Int):=by rw [←ht];exact aJb hxl (show r<4294967296 by omega)
   have hte:r*2^32+x=t:=ht
   rw [hte]at s2
   rw [hte]at S1 S3
   have HR2:=jH (HR1.out _ s2)
   rw [←S3.out]at HR2
   have HS1:Hid (X/2^(32*k)%d=t%d):=jH S1.out
   obtain⟨qq,hqq⟩:∃q,t/d=q:=⟨_,rfl⟩
   obtain⟨rr,hrr⟩:∃q,t%d=q:=⟨_,rfl⟩
   have htd:(t:Int).tdiv (d:Int)=(qq:Int):=by rw [←hqq];rfl
   have htm:(t:Int).tmod (d:Int)=(rr:Int):=by rw [←hrr];rfl
   rw [hqq]at HR2 s2
   rw [hrr]at HS1
   have hql:qq<4294967296:=s2
   have hq2:(qq:Int)%4294967296=(qq:Int):=by omega
   have hdz:((d:Int)=0)=False:=by simp;omega
   have hrl2:rr<4294967296:=by have:=Nat.mod_lt t hd;omega
   clear HR1 S1 S3 ht hte s2 hqq hrr
   go_wp2
   go_roundw
   case rel=>exact⟨k,by omega,by go_num,by rw [HS1.out],jH ⟨HR2.out,HB.out.setCell (Nat.le_refl _) _⟩⟩
   case measure=>simp [intOf]
end
section
open Go.RowKit
theorem aI7 {D n:Nat}(hD:D<2^(32*n)) (hn:2≤n):D=(dg 32 D (n-1)*4294967296+dg 32 D (n-2))*2^(32*(n-2))+D%2^(32*(n-2)):=by
 have h1:=fQ 32 D (n-2)
 have h2:=fQ 32 D (n-1)
 rw [show n-2+1=n-1 by omega]at h1
 rw [show n-1+1=n by omega,Nat.div_eq_of_lt hD,Nat.mul_zero,Nat.add_zero]at h2
 rw [h2,two32]at h1
 have h3:=Nat.div_add_mod D (2^(32*(n-2)))
 rw [h1,Nat.mul_comm,Nat.mul_comm 4294967296,Nat.add_comm (dg 32 D (n-2))]at h3
 exact h3.symm
theorem aF4 {N p:Nat}(hN:N<2^(32*(p+3))):N=((dg 32 N (p+2)*4294967296+dg 32 N (p+1))*4294967296+dg 32 N p)*2^(32*p)+N%2^(32*p):=by
 have h1:=fQ 32 N p
 have h2:=fQ 32 N (p+1)
 have h4:=fQ 32 N (p+2)
 rw [show p+2+1=p+3 by omega,Nat.div_eq_of_lt hN,Nat.mul_zero,Nat.add_zero]at h4
 rw [show p+1+1=p+2 by omega,h4,two32]at h2
 rw [h2,two32]at h1
 have h3:=Nat.div_add_mod N (2^(32*p))
 rw [h1,Nat.mul_comm (2^(32*p))]at h3
 rw [show(dg 32 N (p+2)*4294967296+dg 32 N (p+1))*4294967296+dg 32 N p=dg 32 N p+4294967296*(dg 32 N (p+1)+4294967296*(dg 32 N (p+2)+0)) by omega]
 exact h3.symm
structure aX3 (N DP v1 v2 t u2:Nat):Prop where
 dec:∀g r,g*v1+r=t→(4294967296≤g∨r*4294967296+u2<g*v2)→N<g*DP
 fin:∀g r,g*v1+r=t→g≤4294967296→g*v2≤r*4294967296+u2→g*DP<N+DP
 brk:∀g r,g*v1+r=t→4294967296≤r→g<4294967296∧g*v2≤r*4294967296+u2
 start:N<(t/v1+1)*DP
 pos:1≤v1
theorem aOd {N D n j:Nat}(hD:D<2^(32*n)) (hn:2≤n) (h1:dg 32 D (n-1)≠0) (hN:N<D*2^(32*(j+1))):
  aX3 N (D*2^(32*j)) (dg 32 D (n-1)) (dg 32 D (n-2)) (dg 32 N (j+n)*4294967296+dg 32 N (j+n-1)) (dg 32 N (j+n-2)):=by
 obtain⟨m,rfl⟩:∃m,n=m+2:=⟨n-2,by omega⟩
 have d:=aI7 hD hn
 rw [show m+2-1=m+1 by omega,show m+2-2=m by omega]at*
 have hN2:N<2^(32*((j+m)+3)):=by
  refine Nat.lt_trans hN ?_
  rw [show 32*((j+m)+3)=32*(m+2)+32*(j+1) by omega,Nat.pow_add]
  exact Nat.mul_lt_mul_of_pos_right hD (Nat.two_pow_pos _)
 have e:=aF4 hN2
 have hp:0<2^(32*(j+m)):=Nat.two_pow_pos _
 have hn0:=Nat.mod_lt N hp
 have hd0:=Nat.mod_lt D (Nat.two_pow_pos (32*m))
 have hv2:dg 32 D m<4294967296:=bH D m
 have hu2:dg 32 N (j+m)<4294967296:=bH N (j+m)
 rw [show j+(m+2)-1=j+m+1 by omega,show j+(m+2)-2=j+m by omega,show j+(m+2)=j+m+2 by omega]
 have dP:D*2^(32*j)=(dg 32 D (m+1)*4294967296+dg 32 D m)*2^(32*(j+m))+D%2^(32*m)*2^(32*j):=by
  conv=>lhs;rw [d]
  rw [Nat.add_mul,Nat.mul_assoc,show 32*(j+m)=32*m+32*j by omega,Nat.pow_add]
 have hd0':D%2^(32*m)*2^(32*j)<2^(32*(j+m)):=by
  rw [show 32*(j+m)=32*m+32*j by omega,Nat.pow_add]
  exact Nat.mul_lt_mul_of_pos_right hd0 (Nat.two_pow_pos _)
 have hND:N<D*2^(32*j)*4294967296:=by
  rw [Nat.mul_assoc,←two32,←iV];exact hN
 generalize D*2^(32*j)=DP at*
 generalize D%2^(32*m)*2^(32*j)=d0 at*
 generalize 2^(32*(j+m))=P at*
 generalize N%P=n0 at*
 generalize dg 32 D (m+1)=v1 at*
 generalize dg 32 D m=v2 at*
 have hv1:1≤v1:=by omega
 refine⟨fun g r hg hc=>aOa dP e hn0 hND hg hc,fun g r hg h2 hc=>aOc (by decide) dP hd0' e hv1 hg h2 hc,fun g r hg hr=> ?_,aHs dP e hn0 hu2 hv1,hv1⟩
 have hgB:=aHk dP hd0' hv2 e hND hg hr
 exact⟨hgB,aI5 hgB hv2 hr⟩
structure nY (U D n k nu cu gu gd cd gq m N Q:Nat) (w W:World):Prop where
 sum:U=Q*D+N
 low:N<D*2^(32*k)
 zero:Q%2^(32*k)=0
 u:MSl W gu nu cu N
 d:MSl W gd n cd D
 q:Row .u32 32 gq m Q W
 below:Below w.heap.size w W
theorem nY.wZ {U D n k nu cu gu gd cd gq m N Q:Nat}{w W:World}(h:nY U D n k nu cu gu gd cd gq m N Q w W):nY U D n k nu cu gu gd cd gq m N Q w W.drew:=
 ⟨h.sum,h.low,h.zero,h.u,h.d,h.q,h.below.drew⟩
theorem aMp {s Q k g:Nat}(hz:Q%2^(s*(k+1))=0):jV s Q k g=Q+g*2^(s*k)∧(g<2^s→(Q+g*2^(s*k))%2^(s*k)=0):=by
 have h1:=jG s Q k g
 obtain⟨c,hc⟩:=Nat.dvd_of_mod_eq_zero hz
 have h4:dg s Q k=0:=by
  unfold dg
  rw [hc,iV,Nat.mul_assoc,Nat.mul_div_cancel_left _ (Nat.two_pow_pos _),Nat.mul_mod_right]
 rw [h4,Nat.zero_mul,Nat.add_zero]at h1
 refine⟨h1,fun _=> ?_⟩
 rw [hc,iV,Nat.mul_assoc,Nat.mul_comm g,←Nat.mul_add,Nat.mul_mod_right]
theorem nY.next {U D n k nu cu gu gd cd gq m N Q g N':Nat}{w W V:World}(h:nY U D n (k+1) nu cu gu gd cd gq m N Q w W) (hk:k<m) (hg:g<4294967296) (hs:N=g*2^(32*k)*D+N') (hl:N'<D*2^(32*k))
  (hu:MSl V gu nu cu N') (hV:W.grownBy V (some gu)) (hdu:gd≠gu) (hqu:gq≠gu) (hgu:w.heap.size≤gu) (hgq:w.heap.size≤gq) (hug:gu≠gq) (hdg:gd≠gq):
  nY U D n k nu cu gu gd cd gq m N' (Q+g*2^(32*k)) w (V.setCell ⟨gq,k,none⟩ (.int .u32 (g:Nat))):=by
 obtain⟨e1,e2⟩:=aMp (g:=g) h.zero
 have hq:Row .u32 32 gq m Q V:=⟨h.q.1,by
  obtain⟨cur,c1,c2,c3⟩:=h.q.2
  exact⟨cur,(hV.block gq (Array.getElem?_eq_some_iff.1 c1).1 (by simpa using hqu)).trans c1,c2,c3⟩⟩
 refine⟨?_,hl,e2 hg,hu.of_block (heap_setCell_other V ⟨gq,k,none⟩ gu _ hug),(h.d.grown hV (by simpa using hdu)).of_block (heap_setCell_other V ⟨gq,k,none⟩ gd _ hdg),?_,((h.below.grown hV h.below.size (fun j hj=>by cases hj;exact hgu)).setCell hgq _)⟩
 ·rw [h.sum,hs,Nat.add_mul];omega
 ·rw [←e1];exact hq.set hg hk
end
section
set_option maxRecDepth 100000
set_option maxHeartbeats 6400000
open Go.RowKit
def aKx (X n nx:Nat) (w:World) (e:Ending) (w':World):Prop:=
 ∃cap,cap=n/32+nx+1∧e= .returned (.slice (some ⟨w.heap.size,0,none⟩) (ln 32 (X*2^n)) cap)∧MSl w' w.heap.size (ln 32 (X*2^n)) cap (X*2^n)∧Below w.heap.size w w'
theorem aDw (vx:Value) (X n nx:Nat) (w:World) (hx:Raw .u32 32 w vx nx X) (hn:n≤1099511627776) (hnx:nx≤68719476736) (hnx0:0<nx):
  Calls Tryz.prog 205 #[vx,.int .u64 n] w (aKx X n nx w):=by
 obtain⟨ax,cx,rfl,-,hX,-,hcx⟩:=hx
 have HCX:=jH hcx
 have hlt0:=jH hX
 clear hcx hX
 have hb1:((nx:Int)==0)=false:=by simp;omega
 obtain⟨W,r,hW,hr,hq1,hq2,hnWr⟩:∃W r:Nat,W≤34359738368∧r<32∧(n:Int)/32=(W:Int)∧(n:Int)%32=(r:Int)∧Hid (n=32*W+r):=
  ⟨n/32,n%32,by omega,by omega,by omega,by omega,jH (by omega)⟩
 have hmk:=run_make_row' (P:=Tryz.prog) 165 233 (.int .u32 0) 4 Tryz.underlying165 Tryz.nV rfl .i64 .i64 (W+nx+1) (by omega) (by omega)
 rw [show((W+nx+1:Nat):Int)=(W:Int)+(nx:Int)+1 from by omega]at hmk
 go_enter Tryz.func205,Tryz.ntmps205
 go_wp2
 clear hmk hb1
 have HR:=jH (Row.made .u32 32 (W+nx+1) w)
 go_loopw [8] (fun i wr=>∃k:Nat,k≤nx∧i= .int .i64 k∧Hid (Row .u32 32 w.heap.size (W+nx+1) (X%2^(32*k)*2^n) wr)∧Below w.heap.size w wr)
  (fun i _=>nx-(intOf i).toNat)
 case atStart=>exact⟨0,Nat.zero_le _,rfl,jH (by simp only [Nat.mul_zero,Nat.pow_zero,Nat.mod_one,Nat.zero_mul];exact HR.out),(Below.refl _ _).alloc (Nat.le_refl _) _⟩
 case round=>
  clear HR
  obtain⟨k,hk,rfl,HR,hbel⟩:=hrel
  have hs:=HR.out.2.lt
  have hf:=fun p=>HR.out.2.frozen p
  by_cases hlt:k<nx
  ·obtain⟨bx,ox,rfl,hbx,-,hcx⟩:=HCX.out (by omega)
   have hxk:wr.cell? ⟨bx,ox+k,none⟩=some (.int .u32 (dg 32 X k:Nat)):=(hbel.cell (p:=⟨bx,ox+k,none⟩) hbx).trans (hcx k hlt)
   have hz1:wr.cell? ⟨w.heap.size,W+k,none⟩=some (.int .u32 (dg 32 (X%2^(32*k)*2^n) (W+k):Nat)):=HR.out.2.cell (by omega)
   have hz2:∃v,wr.cell? ⟨w.heap.size,W+k+1,none⟩=some v:=⟨_,HR.out.2.cell (by omega)⟩
   obtain⟨v2,hz2⟩:=hz2
   have hf1:=hf (W+k)
   have hf2:=hf (W+k+1)
   have HB:=jH hbel
   have hlow:=vM (X:=X) (k:=k) hnWr.out (by omega)
   have hor:=aP1 (p:=dg 32 X k) hlow.1 (by omega)
   have hfit:=aG1 (bH X k) hr
   have hne1:¬(bx=w.heap.size):=by omega
   have HST:Hid (Row .u32 32 w.heap.size (W+nx+1) (X%2^(32*(k+1))*2^n)
     ((wr.setCell ⟨w.heap.size,W+k,none⟩ (.int .u32 (dg 32 (X%2^(32*k)*2^n) (W+k)+dg 32 X k*2^r%4294967296:Nat))).setCell ⟨w.heap.size,W+k+1,none⟩ (.int .u32 (dg 32 X k*2^r/4294967296:Nat)))):=by
    refine jH ?_
    have e:=(oL (a:=dg 32 X k) (r:=r) (s:=32) (by omega)).2
    rw [two32]at e
    rw [e,←left_step hnWr.out (by omega),two32]
    exact(HR.out.set (kS (by omega) hlow.1) (by omega)).set (Nat.lt_of_le_of_lt (Nat.div_le_self _ _) (iT _ _ _)) (by omega)
   have hdl:=bH (X%2^(32*k)*2^n) (W+k)
   have hdx:=bH X k
   clear hbel hf hcx HR hlow
   generalize dg 32 (X%2^(32*k)*2^n) (W+k)=d at*
   generalize dg 32 X k=x at*
   have hpp:IntKind.u64.wrap ((x:Int)*2^r)=((x*2^r:Nat):Int):=by rw [show(x:Int)*2^r=((x*2^r:Nat):Int)from by simp];exact dU _ hfit
   generalize x*2^r=p at*
   have hw:=gG p
   go_wp2
   go_roundw
   case rel=>
    have e1:bits .or .u32 (d:Int) ((p:Int)%4294967296)=((d+p%4294967296:Nat):Int):=by rw [←hor];simp
    have e2:(p:Int)/4294967296=((p/4294967296:Nat):Int):=by simp
    rw [e1,e2]
    exact⟨k+1,by omega,by go_num,HST,(HB.out.setCell (Nat.le_refl _) _).setCell (Nat.le_refl _) _⟩
   case measure=>simp [intOf];omega
  ·obtain rfl:k=nx:=by omega
   have hraw:=HR.out.raw (by omega)
   have hrow:=HR.out
   rw [Nat.mod_eq_of_lt hlt0.out]at hraw hrow
   have HRW:=jH hrow
   have HB:=jH hbel
   have HWn:Hid (W=n/32):=jH (by omega)
   clear hbel hf hrow
   go_wp2_with fail
   refine(oG _ _ _ _ _ hraw).mono ?_
   rintro e w1 ⟨rfl,rfl⟩
   clear hraw
   go_wp2
   go_ret
   refine⟨W+k+1,by rw [HWn.out],rfl,MSl.xM HRW.out ?_ (pW (by decide)),HB.out⟩
   exact(dL (by decide)).2 HRW.out.1
theorem aNa (x:Nat) (hx:x<4294967296) (w:World):
  Calls Tryz.prog 240 #[.int .u32 x] w fun e w'=>e= .returned (.int .i64 ((32-bl x:Nat):Int))∧w=w':=by
 have hb:bl x≤32:=aY (show x<2^32 from hx)
 have HL:=jH fun W=>aEg x hx W
 have hw:IntKind.i64.wrap ((32:Int)-(bl x:Nat))=((32-bl x:Nat):Int):=by rw [show(32:Int)-(bl x:Nat)=((32-bl x:Nat):Int) by omega];exact IntWalk.i64_in _ (by omega)
 go_enter Tryz.func240,Tryz.ntmps240
 go_wp2_with fail
 refine(HL.out _).mono ?_
 rintro e w1 ⟨rfl,rfl⟩
 go_wp2
 go_ret
 exact⟨rfl,rfl⟩
end
section
set_option maxRecDepth 100000
set_option maxHeartbeats 6400000
open Go.RowKit
def aBg (X Y:Nat) (w:World) (e:Ending) (w':World):Prop:=
 ∃q r,e= .returned (.tuple #[q,r])∧Raw .u32 32 w' q (ln 32 (X/Y)) (X/Y)∧Raw .u32 32 w' r (ln 32 (X%Y)) (X%Y)∧Below w.heap.size w w'
theorem aCl (vx vy:Value) (X Y:Nat) (w:World) (hx:Raw .u32 32 w vx (ln 32 X) X) (hy:Raw .u32 32 w vy (ln 32 Y) Y):
  Calls Tryz.prog 227 #[vx,vy] w fun e w'=>e= .returned (.int .i64 (dQ X Y))∧Below w.heap.size w w':=
 (oC vx vy X Y w hx hy).mono fun _ _ ⟨h1,n,h2⟩=>⟨h1,by rw [h2];exact⟨rfl,rfl,rfl,Nat.le_refl _,fun _ _=>rfl⟩⟩
theorem aJc (vx vy:Value) (X Y:Nat) (w:World) (hx:Raw .u32 32 w vx (ln 32 X) X) (hy:Raw .u32 32 w vy (ln 32 Y) Y) (h:X<Y):
  Calls Tryz.prog 204 #[vx,vy] w (aBg X Y w):=by
 have HX:=jH hx
 have HY:=jH hy
 have HC:=jH fun W h1 h2=>aCl vx vy X Y W h1 h2
 rw [show dQ X Y= -1 from if_pos (by omega)]at HC
 have HE:Hid (X/Y=0∧X%Y=X):=jH ⟨Nat.div_eq_of_lt h,Nat.mod_eq_of_lt h⟩
 obtain⟨ax,cx,rfl,-⟩:=hx
 obtain⟨ay,cy,rfl,-⟩:=hy
 obtain⟨nx,hnx⟩:∃k,ln 32 X=k:=⟨_,rfl⟩
 obtain⟨ny,hny⟩:∃k,ln 32 Y=k:=⟨_,rfl⟩
 have HNX:=jH hnx
 rw [hnx]at HX HC ⊢
 rw [hny]at HY HC ⊢
 clear h hnx hny
 go_enter Tryz.func204,Tryz.ntmps204
 go_wp2_with fail
 refine(HC.out _ HX.out HY.out).mono ?_
 rintro e w1 ⟨rfl,hb1⟩
 replace HX:=jH (HX.out.below hb1)
 have HB1:=jH hb1
 clear hb1
 go_wp2_with (at_builtin;refine yP rfl _ _ rfl rfl rfl rfl HX.out fun v' W2 hr ho hb=> ?_)
 have HR:=jH hr
 have HB:=jH (HB1.out.trans (hb.mono HB1.out.size))
 clear hr ho hb
 go_wp2
 refine bodyPost_ret (v:= .tuple #[.slice none 0 0,v']) (by simp [results,Tryz.results204,go_sem]) rfl ⟨_,_,rfl,?_,?_,HB.out⟩
 ·rw [HE.out.1,eG];exact Raw.nil .u32 32 W2
 ·rw [HE.out.2,HNX.out];exact HR.out
theorem Raw.aXq (w:World) (r:Nat) (hr:r<4294967296):Raw .u32 32 (w.alloc (.cells #[.int .u32 (r:Nat)] 233)) (.slice (some ⟨w.heap.size,0,none⟩) 1 1) 1 r:=by
 refine⟨_,1,rfl,by omega,hr,by omega,fun _=>⟨w.heap.size,0,rfl,by simp,Elem.new _ _ _,fun i hi=> ?_⟩⟩
 obtain rfl:i=0:=by omega
 rw [Nat.zero_add,World.cell?_alloc_new]
 have:r%4294967296=r:=Nat.mod_eq_of_lt hr
 simp [dg,this]
theorem aMh (vx vy:Value) (X Y:Nat) (w:World) (hx:Raw .u32 32 w vx (ln 32 X) X) (hy:Raw .u32 32 w vy (ln 32 Y) Y) (h:Y≤X) (h1:ln 32 Y=1) (hn:ln 32 X≤68719476736):
  Calls Tryz.prog 204 #[vx,vy] w (aBg X Y w):=by
 have hY0:Y≠0:=fun e=>by rw [e,eG]at h1;omega
 have hYB:Y<4294967296:=by have:=pW (s:=32) (N:=Y) (by decide);rw [h1]at this;exact this
 have HX:=jH hx
 have HY:=jH hy
 have HC:=jH fun W h1 h2=>aCl vx vy X Y W h1 h2
 have hcz:(dQ X Y<0)=False:=by simp only [eq_iff_iff,iff_false];unfold dQ;rw [if_neg (by omega)];split<;>omega
 generalize dQ X Y=cz at*
 have HSH:=jH fun W h=>aJp vx (ln 32 X) X Y W h (by omega) hYB (by omega)
 obtain⟨ax,cx,rfl,-⟩:=hx
 obtain⟨ay,cy,rfl,-,-,-,hcy⟩:=hy
 rw [h1]at HY HC hcy ⊢
 obtain⟨by',oy,rfl,hby,-,hc0⟩:=hcy (by decide)
 have hcell:=hc0 0 (by decide)
 rw [show dg 32 Y 0=Y by unfold dg;simp;omega,Nat.add_zero]at hcell
 have HCY:=jH fun W (hb:Below w.heap.size w W)=>(hb.cell (p:=⟨by',oy,none⟩) hby).trans hcell
 have hrl:X%Y<4294967296:=Nat.lt_trans (Nat.mod_lt _ (by omega)) hYB
 obtain⟨r,hr⟩:∃r,X%Y=r:=⟨_,rfl⟩
 have HRE:=jH hr
 rw [hr]at HSH hrl
 have HONE:=jH fun W=>Raw.aXq W r hrl
 clear hc0 hcell hr h
 generalize ln 32 X=nx at*
 go_enter Tryz.func204,Tryz.ntmps204
 go_wp2_with fail
 refine(HC.out _ HX.out HY.out).mono ?_
 rintro e w1 ⟨rfl,hb1⟩
 replace HX:=jH (HX.out.below hb1)
 have hc1:=HCY.out _ hb1
 have HB1:=jH hb1
 clear hb1
 go_wp2_with fail
 refine(HSH.out _ HX.out).mono ?_
 rintro e w2 ⟨q,rfl,hq2,hb2⟩
 have HQ:=jH (hq2.below (Below.aA w2 (.cells #[.int .u32 (r:Nat)] 233)))
 have HB2:=jH ((HB1.out.trans (hb2.mono HB1.out.size)).trans ((Below.aA w2 (.cells #[.int .u32 (r:Nat)] 233)).mono (HB1.out.trans (hb2.mono HB1.out.size)).size))
 clear hq2 hb2 hc1
 go_wp2_with fail
 refine(mZ _ _ _ _ (HONE.out _)).mono ?_
 rintro e w3 ⟨v3,rfl,rfl,hr3⟩
 have HR3:=jH hr3
 clear hr3
 go_wp2
 refine bodyPost_ret (v:= .tuple #[q,v3]) (by simp [results,Tryz.results204,go_sem]) rfl ⟨_,_,rfl,HQ.out,by rw [HRE.out];exact HR3.out,HB2.out⟩
end
end Go.Proofs.YtfmecpembnmnkaaGreatDoor
