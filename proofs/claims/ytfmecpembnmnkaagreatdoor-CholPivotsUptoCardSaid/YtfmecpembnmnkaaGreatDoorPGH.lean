/- Exact numbers z * 2^e and their one way to be written: plain laws, no program. -/
import Derived.Test.YtfmecpembnmnkaaGreatDoorPGA
import Derived.Test.YtfmecpembnmnkaaGreatDoorPGG
import Derived.Test.YtfmecpembnmnkaaGreatDoorPGC
namespace Go.Proofs.YtfmecpembnmnkaaGreatDoor
section
def hvZ (z:Int):Int:=z/2^tzb z.natAbs
def hvE (z e:Int):Int:=e+tzb z.natAbs
theorem bZ (k:Nat):((2:Int)^k).natAbs=2^k:=by rw [Int.natAbs_pow];rfl
theorem oV (k:Nat):(2:Int)^k≠0:=by
 have:=Int.pow_pos (n:=(2:Int)) (m:=k) (by decide);omega
theorem aHg :tzb 0=0:=rfl
theorem aPz {z:Int}(h:z≠0):∃m:Int,hvZ z=2*m+1∧z=hvZ z*2^tzb z.natAbs:=by
 obtain⟨m,hm⟩:=aCf (N:=z.natAbs) (by omega)
 unfold hvZ
 generalize tzb z.natAbs=t at*
 by_cases hz:0≤z
 ·have e:z=(2*(m:Int)+1)*2^t:=by
   have h1:(z.natAbs:Int)=((2^t*(2*m+1):Nat):Int):=by rw [←hm]
   rw [Int.natAbs_of_nonneg hz]at h1
   rw [h1,Int.natCast_mul,Int.natCast_pow,Int.mul_comm];rfl
  refine⟨m,?_,?_⟩
  ·rw [e,Int.mul_ediv_cancel _ (oV t)]
  ·conv=>rhs;rw [e,Int.mul_ediv_cancel _ (oV t)]
   exact e
 ·have e:z=(2*(-(m:Int)-1)+1)*2^t:=by
   have h1:(z.natAbs:Int)=((2^t*(2*m+1):Nat):Int):=by rw [←hm]
   have h2:z= -(z.natAbs:Int):=by omega
   rw [h2,h1,Int.natCast_mul,Int.natCast_pow]
   have:(2*(-(m:Int)-1)+1)= -(2*(m:Int)+1):=by omega
   rw [this,Int.neg_mul,Int.mul_comm];rfl
  refine⟨-(m:Int)-1,?_,?_⟩
  ·rw [e,Int.mul_ediv_cancel _ (oV t)]
  ·conv=>rhs;rw [e,Int.mul_ediv_cancel _ (oV t)]
   exact e
theorem mQ :hvZ 0=0:=by decide
theorem aVn {z:Int}:z=hvZ z*2^tzb z.natAbs:=by
 by_cases h:z=0
 ·subst h;decide
 ·obtain⟨m,-,h2⟩:=aPz h;exact h2
theorem aEp {z:Int}(h:z≠0):hvZ z%2=1:=by
 obtain⟨m,h1,-⟩:=aPz h;omega
theorem aJg {z:Int}(h:z≠0):hvZ z≠0:=by
 have:=aEp h;omega
theorem aLb {z:Int}(h:z%2=1):tzb z.natAbs=0:=by
 refine aSg (a:=0) (m:=z.natAbs/2) ?_
 omega
theorem pJ {z:Int}(h:z%2=1):hvZ z=z:=by unfold hvZ;rw [aLb h];simp
theorem oN {z e:Int}(h:z%2=1):hvE z e=e:=by unfold hvE;rw [aLb h];simp
theorem aJ1 {z:Int}:(hvZ z).natAbs=z.natAbs/2^tzb z.natAbs:=by
 have h1:=congrArg Int.natAbs (aVn (z:=z))
 rw [Int.natAbs_mul,bZ]at h1
 rw [show z.natAbs/2^tzb z.natAbs=((hvZ z).natAbs*2^tzb z.natAbs)/2^tzb z.natAbs from by rw [←h1],Nat.mul_div_cancel _ (Nat.two_pow_pos _)]
theorem xA {z:Int}:(hvZ z).natAbs≤z.natAbs:=by rw [aJ1];exact Nat.div_le_self _ _
def sc (M:Int) (z e:Int):Int:=z*2^(e+M).toNat
theorem fM (M e:Int):sc M 0 e=0:=by unfold sc;simp
theorem jF {M z e:Int}:sc M z e=0↔z=0:=by
 unfold sc;rw [Int.mul_eq_zero]
 exact⟨fun h=>h.resolve_right (oV _),fun h=> .inl h⟩
theorem aXv {M z e:Int}(h:0≤e+M):sc M (hvZ z) (hvE z e)=sc M z e:=by
 unfold sc hvE
 conv=>rhs;rw [aVn (z:=z)]
 rw [Int.mul_assoc,←Int.pow_add]
 congr 2;omega
def Nrm (z e:Int):Prop:=(z=0∧e=0)∨z%2=1
def nrE (z e:Int):Int:=if z=0 then 0 else hvE z e
theorem aV7 (z e:Int):Nrm (hvZ z) (nrE z e):=by
 by_cases h:z=0
 ·subst h;exact .inl ⟨mQ,by unfold nrE;rw [if_pos rfl]⟩
 ·exact .inr (aEp h)
theorem aAz {M z e:Int}(h:0≤e+M):sc M (hvZ z) (nrE z e)=sc M z e:=by
 unfold nrE
 by_cases h0:z=0
 ·subst h0;rw [mQ,fM,fM]
 ·rw [if_neg h0];exact aXv h
theorem uZ {M z e:Int}(hM:0≤M) (h:0≤e+M):0≤nrE z e+M:=by
 unfold nrE hvE;split<;>omega
def plZ (z e y f:Int):Int:=if z=0 then y else if y=0 then z else z*2^(e-min e f).toNat+y*2^(f-min e f).toNat
def plE (z e y f:Int):Int:=if z=0 then f else if y=0 then e else min e f
theorem aBw {M z e y f:Int}(h1:0≤e+M) (h2:0≤f+M):sc M (plZ z e y f) (plE z e y f)=sc M z e+sc M y f:=by
 unfold plZ plE
 by_cases hz:z=0
 ·rw [if_pos hz,if_pos hz,hz,fM,Int.zero_add]
 ·by_cases hy:y=0
  ·rw [if_neg hz,if_neg hz,if_pos hy,if_pos hy,hy,fM,Int.add_zero]
  ·rw [if_neg hz,if_neg hz,if_neg hy,if_neg hy]
   unfold sc
   rw [Int.add_mul,Int.mul_assoc,Int.mul_assoc,←Int.pow_add,←Int.pow_add]
   congr 3<;>omega
theorem aAq {M z e y f:Int}(h1:0≤e+M) (h2:0≤f+M):0≤plE z e y f+M:=by
 unfold plE;split
 ·exact h2
 ·split<;>omega
theorem aAd {M z e y f:Int}(h1:0≤e+M) (h2:0≤f+M):sc (M+M) (z*y) (e+f)=sc M z e*sc M y f:=by
 unfold sc
 rw [show(e+f+(M+M)).toNat=(e+M).toNat+(f+M).toNat from by omega,Int.pow_add]
 simp only [Int.mul_assoc,Int.mul_left_comm]
theorem aB9 {M z e:Int}:sc M (-z) e= -sc M z e:=by unfold sc;rw [Int.neg_mul]
theorem aN3 {M z e:Int}:(sc M z e).natAbs=z.natAbs*2^(e+M).toNat:=by unfold sc;rw [Int.natAbs_mul,bZ]
theorem fG (N k:Nat):bl (N*2^k)≤bl N+k:=by
 refine aY ?_
 rw [Nat.pow_add]
 exact Nat.mul_lt_mul_of_pos_right (lC N) (Nat.two_pow_pos k)
theorem aPl (a b:Nat):bl (a+b)≤max (bl a) (bl b)+1:=by
 refine aY ?_
 have h1:a<2^max (bl a) (bl b):=Nat.lt_of_lt_of_le (lC a) (Nat.pow_le_pow_right (by decide) (Nat.le_max_left _ _))
 have h2:b<2^max (bl a) (bl b):=Nat.lt_of_lt_of_le (lC b) (Nat.pow_le_pow_right (by decide) (Nat.le_max_right _ _))
 rw [Nat.pow_succ];omega
theorem aKm (a b:Nat):bl (a*b)≤bl a+bl b:=by
 refine aY ?_
 rw [Nat.pow_add]
 exact Nat.mul_lt_mul'' (lC a) (lC b)
theorem dV (s N:Nat) (hs:0<s):ln s N≤bl N:=by
 rw [dL hs]
 refine Nat.lt_of_lt_of_le (lC N) (Nat.pow_le_pow_right (by decide) ?_)
 exact Nat.le_mul_of_pos_left _ hs
theorem aSn {z e y f:Int}:bl (plZ z e y f).natAbs≤bl z.natAbs+bl y.natAbs+(e-f).natAbs+1:=by
 unfold plZ
 split
 ·omega
 ·split
  ·omega
  ·refine Nat.le_trans (lG (Int.natAbs_add_le _ _)) ?_
   rw [Int.natAbs_mul,Int.natAbs_mul,bZ,bZ]
   have h1:=aPl (z.natAbs*2^(e-min e f).toNat) (y.natAbs*2^(f-min e f).toNat)
   have h2:=fG z.natAbs (e-min e f).toNat
   have h3:=fG y.natAbs (f-min e f).toNat
   omega
end
section
set_option maxRecDepth 100000
set_option maxHeartbeats 6400000
open Go.RowKit
def aJ (w:World) (b t:Nat) (cs:Array Value):Prop:=w.heap[b]? =some (.cells cs t (0,0))
theorem aJ.lt {w:World}{b t:Nat}{cs:Array Value}(h:aJ w b t cs):b<w.heap.size:=(Array.getElem?_eq_some_iff.1 h).1
theorem aJ.cell {w:World}{b t:Nat}{cs:Array Value}(h:aJ w b t cs) (i:Nat):w.cell? ⟨b,i,none⟩=cs[i]? :=by
 unfold aJ at h;simp [World.cell?,h]
theorem aJ.frozen {w:World}{b t:Nat}{cs:Array Value}(h:aJ w b t cs) (i:Nat):w.frozen? ⟨b,i,none⟩=false:=by
 unfold aJ at h;simp [World.frozen?,h]
theorem aJ.elem {w:World}{b t:Nat}{cs:Array Value}(h:aJ w b t cs):Elem w b t:=⟨cs,(0,0),h⟩
theorem aJ.of_block {w w':World}{b t:Nat}{cs:Array Value}(h:aJ w b t cs) (e:w'.heap[b]? =w.heap[b]?):aJ w' b t cs:=e.trans h
theorem aJ.below {w w':World}{b t:Nat}{cs:Array Value}(h:aJ w b t cs) (hb:Below w.heap.size w w'):aJ w' b t cs:=h.of_block (hb.block b h.lt)
theorem aJ.new (w:World) (cs:Array Value) (t:Nat):aJ (w.alloc (.cells cs t)) w.heap.size t cs:=by show(w.heap.push _)[w.heap.size]? =_;simp
theorem aJ.alloc {w:World}{b t:Nat}{cs:Array Value}(h:aJ w b t cs) (o:_root_.Go.Obj):aJ (w.alloc o) b t cs:=h.below (Below.aA _ _)
theorem aJ.set {w:World}{b t i:Nat}{cs:Array Value}(h:aJ w b t cs) (v:Value):aJ (w.setCell ⟨b,i,none⟩ v) b t (cs.setIfInBounds i v):=by
 show(w.heap.modify b _)[b]? =_
 rw [Array.getElem?_modify,if_pos rfl,h];rfl
theorem aJ.setOther {w:World}{b c t i:Nat}{cs:Array Value}(h:aJ w b t cs) (hne:b≠c) (v:Value):aJ (w.setCell ⟨c,i,none⟩ v) b t cs:=h.of_block (Below.heap_setCell _ _ _ _ hne)
theorem aJ.mod {w w':World}{b c o t:Nat}{cs:Array Value}(h:aJ w b t cs) (hm:Mod c o w w') (hne:b≠c):aJ w' b t cs:=h.of_block (hm.block b h.lt hne)
theorem aJ.cells2 {w:World}{b t:Nat}{x y:Value}(h:aJ w b t #[x,y]):
  w.cell? ⟨b,0,none⟩=some x∧w.cell? ⟨b,1,none⟩=some y∧w.frozen? ⟨b,0,none⟩=false∧w.frozen? ⟨b,1,none⟩=false:=
 ⟨h.cell 0,h.cell 1,h.frozen 0,h.frozen 1⟩
theorem aJ.cells3 {w:World}{b t:Nat}{x y z:Value}(h:aJ w b t #[x,y,z]):
  w.cell? ⟨b,0,none⟩=some x∧w.cell? ⟨b,1,none⟩=some y∧w.cell? ⟨b,2,none⟩=some z∧w.frozen? ⟨b,0,none⟩=false∧w.frozen? ⟨b,1,none⟩=false∧w.frozen? ⟨b,2,none⟩=false:=
 ⟨h.cell 0,h.cell 1,h.cell 2,h.frozen 0,h.frozen 1,h.frozen 2⟩
theorem cZ :wL 199:=by intro k;cases k<;>decide
theorem iY :wL 167:=by intro k;cases k<;>decide
theorem dB.setOther {k:IntKind}{s b c p t i:Nat}{z:Int}{w:World}{cs:Array Value}(hz:dB k s w c p z) (hb:aJ w b t cs) (hT:wL t) (hne:c≠b) (v:Value):dB k s (w.setCell ⟨b,i,none⟩ v) c p z:=
 hz.mod (Mod.set (b:=b) (o:=i) w (.inl rfl) v) (.inl hne) ⟨t,hb.elem,hT⟩
theorem Raw.setOther {k:IntKind}{s b t i n N:Nat}{x:Value}{w:World}{cs:Array Value}(hz:Raw k s w x n N) (hb:aJ w b t cs) (hT:wL t) (v:Value):Raw k s (w.setCell ⟨b,i,none⟩ v) x n N:=
 hz.mod (Mod.set (b:=b) (o:=i) w (.inl rfl) v) ⟨t,hb.elem,hT⟩
def ExV (b:Nat) (e:Int):Value:= .agg #[.pointer (some ⟨b,0,none⟩),.int .i64 e]
def aLe (z e:Int) (w:World) (en:Ending) (w':World):Prop:=
 ∃b,en= .returned (ExV b e)∧w.heap.size≤b∧bM w' b 0 z∧Below w.heap.size w w'
theorem Raw.nil (k:IntKind) (s:Nat) (w:World):Raw k s w (.slice none 0 0) 0 0:=
 ⟨none,0,rfl,Nat.le_refl _,by simp,by omega,fun h=>absurd h (by omega)⟩
theorem dB.zero {k:IntKind}{s:Nat}(w:World) (t:Nat) (ht:wL t):dB k s (w.alloc (.cells #[.bool false,.slice none 0 0] t)) w.heap.size 0 0:=by
 refine⟨fO.new w t ht,by rw [World.cell?_alloc_new];rfl,.slice none 0 0,by rw [World.cell?_alloc_new];rfl,?_⟩
 have e:ln s (0:Int).natAbs=0:=eG s
 rw [e]
 exact Raw.nil k s _
theorem aRt {q d:Nat}(h:d<2^32):q*2^32|||d=q*2^32+d:=by
 rw [Nat.mul_comm,Nat.two_pow_add_eq_or_of_lt h]
theorem aOi (N j:Nat):N/2^(32*(j+1))*2^32+dg 32 N j=N/2^(32*j):=by
 rw [fQ 32 N j];omega
theorem aT7 (N j:Nat):((((N/2^(32*(j+1)):Nat):Int)*2^32).natAbs|||((dg 32 N j:Nat):Int).natAbs:Nat)=N/2^(32*j):=by
 have e:(((N/2^(32*(j+1)):Nat):Int)*2^32)=((N/2^(32*(j+1))*2^32:Nat):Int):=by simp
 rw [e,Int.natAbs_natCast,Int.natAbs_natCast,aRt (iT 32 N j),aOi]
theorem aCq {s n N:Nat}(hs:0<s) (h:N<2^(s*n)):ln s N≤n:=(dL hs).2 h
theorem aHt {N n:Nat}(h:N<2^(32*n)) (k:Nat):ln 64 (N/2^k)≤n:=
 aCq (by decide) (Nat.lt_of_le_of_lt (Nat.div_le_self _ _) (Nat.lt_of_lt_of_le h (Nat.pow_le_pow_right (by decide) (by omega))))
theorem aSr {N n:Nat}(h:N<2^(32*n)) (k:Nat):ln 64 (((N/2^k:Nat):Int)*2^32).natAbs≤n+1:=by
 rw [show(((N/2^k:Nat):Int)*2^32)=((N/2^k*2^32:Nat):Int)from by simp,Int.natAbs_natCast]
 refine aCq (by decide) ?_
 have h1:N/2^k<2^(32*n):=Nat.lt_of_le_of_lt (Nat.div_le_self _ _) h
 have h2:=Nat.mul_lt_mul_of_pos_right h1 (Nat.two_pow_pos 32)
 rw [←Nat.pow_add]at h2
 exact Nat.lt_of_lt_of_le h2 (Nat.pow_le_pow_right (by decide) (by omega))
def sZ (N b0 k:Nat) (bx:Array Value) (w0 wr:World):Prop:=
 bM wr b0 0 (N/2^(32*k):Nat)∧aJ wr w0.heap.size 167 bx∧aJ wr (w0.heap.size+1) 199 #[.pointer none,.int .i64 0]∧Below w0.heap.size w0 wr∧b0=w0.heap.size+1+1
theorem sZ.lsh {N b0 k:Nat}{bx:Array Value}{w0 wr w1:World}(h:sZ N b0 k bx w0 wr) (hm:Mod b0 0 wr w1):
  aJ w1 w0.heap.size 167 bx∧aJ w1 (w0.heap.size+1) 199 #[.pointer none,.int .i64 0]∧Below w0.heap.size w0 w1:=by
 obtain⟨h1,h2,h3,h4,rfl⟩:=h
 exact⟨h2.mod hm (by omega),h3.mod hm (by omega),hm.below h4 (by omega) h4.size⟩
theorem sZ.start (neg:Bool) (sl:Value) (e:Int) (n N:Nat) (w:World) (hN:N<2^(32*n)):
  sZ N (w.heap.size+1+1) n #[.bool neg,sl,.int .i64 e] w (((w.alloc (.cells #[.bool neg,sl,.int .i64 e] 167)).alloc (.cells #[.pointer none,.int .i64 0] 199)).alloc (.cells #[.bool false,.slice none 0 0] 220)):=by
 refine⟨?_,((aJ.new w _ _).alloc _).alloc _,?_,(((Below.refl _ _).alloc (Nat.le_refl _) _).alloc (by simp) _).alloc (by simp;omega) _,rfl⟩
 ·rw [Nat.div_eq_of_lt hN]
  have:=dB.zero (k:= .u64) (s:=64) ((w.alloc (.cells #[.bool neg,sl,.int .i64 e] 167)).alloc (.cells #[.pointer none,.int .i64 0] 199)) 220 dO
  simpa using this
 ·have:=(aJ.new (w.alloc (.cells #[.bool neg,sl,.int .i64 e] 167)) #[.pointer none,.int .i64 0] 199).alloc (.cells #[.bool false,.slice none 0 0] 220)
  simpa using this
theorem take_any (neg:Bool) (e:Int) (sl:Value) (n N:Nat) (w:World) (h:Raw .u32 32 w sl n N) (hn:n≤1073741824):
  Calls Tryz.prog 214 #[.agg #[.bool neg,sl,.int .i64 e]] w (aLe (if neg then-(N:Int)else N) e w):=by
 have HR:=jH h
 obtain⟨ao,cap,rfl,hcap,hN,-,hc⟩:=h
 have HN:=jH hN
 have HC:=jH hc
 have HR0:=jH (sZ.start neg (.slice ao n cap) e n N w hN)
 obtain⟨z,hz⟩:∃z,(if neg then-(N:Int)else N)=z:=⟨_,rfl⟩
 rw [hz]
 have HF:=jH hz
 clear hN hc hz
 go_enter Tryz.func214,Tryz.ntmps214
 go_wp2
 go_loopw [4] (fun i wr=>∃(k:Nat) (j:Int),k≤n∧i= .int .i64 j∧j+1=k∧Hid (sZ N (w.heap.size+1+1) k #[.bool neg,.slice ao n cap,.int .i64 e] w wr))
  (fun i _=>(intOf i+1).toNat)
 case atStart=>exact⟨n,_,Nat.le_refl _,rfl,by omega,HR0⟩
 case round=>
  obtain⟨k,j,hk,rfl,hj,HT⟩:=hrel
  obtain⟨q0,q1,q2,q3,q4,q5⟩:=HT.out.2.1.cells3
  by_cases h0:k=0
  ·subst h0
   obtain rfl:j= -1:=by omega
   obtain⟨r0,r1,r2,r3⟩:=HT.out.2.2.1.cells2
   cases neg
   ·have HE:Hid (((N/2^(32*0):Nat):Int)=z):=jH (by rw [←HF.out];simp)
    go_wp2
    refine bodyPost_ret (v:=ExV (w.heap.size+1+1) e) (by simp [results,Tryz.results214,go_sem,r0,r1,ExV]) rfl ⟨_,rfl,by omega,?_,?_⟩
    ·rw [←HE.out]
     exact(HT.out.1.setOther HT.out.2.2.1 cZ (by omega) _).setOther (HT.out.2.2.1.set _) cZ (by omega) _
    ·exact(HT.out.2.2.2.1.setCell (by simp) _).setCell (by simp) _
   ·have HE:Hid (-((N/2^(32*0):Nat):Int)=z):=jH (by rw [←HF.out];simp)
    go_wp2_with fail
    refine(aEu _ 0 _ 0 _ _ HT.out.1.1 HT.out.1 ?_).mono ?_
    ·exact Nat.le_trans (aHt HN.out _) (by omega)
    rintro e2 w2 ⟨rfl,hi2,hm2⟩
    rw [HE.out]at hi2
    have HT2:=jH (HT.out.lsh hm2)
    have HI2:=jH hi2
    obtain⟨q0,q1,q2,q3,q4,q5⟩:=HT2.out.1.cells3
    obtain⟨r0,r1,r2,r3⟩:=HT2.out.2.1.cells2
    clear hi2 hm2
    go_wp2
    refine bodyPost_ret (v:=ExV (w.heap.size+1+1) e) (by simp [results,Tryz.results214,go_sem,r0,r1,ExV]) rfl ⟨_,rfl,by omega,?_,?_⟩
    ·exact(HI2.out.setOther HT2.out.2.1 cZ (by omega) _).setOther (HT2.out.2.1.set _) cZ (by omega) _
    ·exact(HT2.out.2.2.setCell (by simp) _).setCell (by simp) _
  ·obtain⟨i,rfl⟩:∃i,k=i+1:=⟨k-1,by omega⟩
   obtain rfl:j=(i:Int):=by omega
   obtain⟨b1,off,rfl,hb1,-,hcc⟩:=HC.out (by omega)
   have HCC:=jH (hcc i (by omega))
   have HB1:=jH hb1
   clear h0 hj hcc hb1
   go_wp2_with fail
   refine(aLn _ 0 _ 0 32 _ _ HT.out.1.1 HT.out.1 ?_ (by omega)).mono ?_
   ·exact Nat.le_trans (aHt HN.out _) (by omega)
   rintro e2 w2 ⟨rfl,hi2,hm2⟩
   have HT2:=jH (HT.out.lsh hm2)
   have HI2:=jH hi2
   clear q0 q1 q2 q3 q4 q5 hi2 hm2
   obtain⟨q0,q1,q2,q3,q4,q5⟩:=HT2.out.1.cells3
   have hcell:=(HT2.out.2.2.cell (p:=⟨b1,off+i,none⟩) HB1.out).trans HCC.out
   have hd:=iT 32 N i
   generalize hdd:dg 32 N i=d at*
   have HD:=jH hdd
   clear hdd
   go_wp2_with fail
   refine(iE d _ (by omega) (by omega)).mono ?_
   rintro e3 w3 ⟨b3,rfl,hb3,hi3,hB3⟩
   have HB3:=jH hB3
   have HI3:=jH hi3
   have HI23:=jH (HI2.out.below hB3)
   have hb32:w2.heap.size≤b3:=hb3
   clear hb3 hi3 hB3
   go_wp2_with fail
   refine(aWa _ 0 _ 0 _ 0 _ _ _ HI23.out.1 HI23.out HI3.out ?_ ?_).mono ?_
   ·exact Nat.le_trans (aSr HN.out _) (by omega)
   ·exact Nat.le_trans (aCq (s:=64) (n:=1) (by decide) (by rw [Int.natAbs_natCast];omega)) (by omega)
   rintro e4 w4 ⟨rfl,hi4,hm4⟩
   have HT4:Hid (sZ N (w.heap.size+1+1) i #[.bool neg,.slice (some ⟨b1,off,none⟩) n cap,.int .i64 e] w w4):=by
    refine jH ⟨?_,(HT2.out.1.below HB3.out).mod hm4 (by omega),(HT2.out.2.1.below HB3.out).mod hm4 (by omega),?_,rfl⟩
    ·rw [←HD.out,aT7]at hi4;exact hi4
    ·exact hm4.below (HT2.out.2.2.trans (HB3.out.mono HT2.out.2.2.size)) (by omega) (HT2.out.2.2.trans (HB3.out.mono HT2.out.2.2.size)).size
   clear hi4 hm4 hd
   go_wp2_with fail
   go_roundw
   case rel=>exact⟨i,_,by omega,rfl,by omega,HT4⟩
   case measure=>simp [intOf]
end
section
set_option maxRecDepth 100000
set_option maxHeartbeats 6400000
open Go.RowKit
structure Own2 (w0 wr:World) (rb rt:Nat) (rcs:Array Value) (ib:Nat) (y:Int):Prop where
 int:bM wr ib 0 y
 res:aJ wr rb rt rcs
 objT:wL rt
 below:Below w0.heap.size w0 wr
 ne:rb≠ib
 rge:w0.heap.size≤rb
 ige:w0.heap.size≤ib
theorem Own2.puts {w0 wr w2:World}{rb rt ib:Nat}{rcs:Array Value}{y x:Int}(h:Own2 w0 wr rb rt rcs ib y) (hi:bM w2 ib 0 x) (hm:Mod ib 0 wr w2):Own2 w0 w2 rb rt rcs ib x:=
 ⟨hi,h.res.mod hm h.ne,h.objT,hm.below h.below h.ige h.below.size,h.ne,h.rge,h.ige⟩
theorem Own2.store2 {w0 wr:World}{rb rt ib:Nat}{rcs:Array Value}{y:Int}(h:Own2 w0 wr rb rt rcs ib y) (x0 x1:Value):
  bM ((wr.setCell ⟨rb,0,none⟩ x0).setCell ⟨rb,1,none⟩ x1) ib 0 y∧Below w0.heap.size w0 ((wr.setCell ⟨rb,0,none⟩ x0).setCell ⟨rb,1,none⟩ x1):=
 ⟨(h.int.setOther h.res h.objT h.ne.symm _).setOther (h.res.set _) h.objT h.ne.symm _,(h.below.setCell h.rge _).setCell h.rge _⟩
theorem aB (w:World):Below w.heap.size w w.drew:=(Below.refl _ _).drew
theorem aVh (y f:Int):hvZ (hvZ y)=hvZ y∧hvE (hvZ y) (hvE y f)=hvE y f:=by
 by_cases h:y=0
 ·subst h;exact⟨by decide,by rw [mQ];unfold hvE;simp [aHg]⟩
 ·have h1:=aEp h
  exact⟨pJ h1,oN h1⟩
theorem aXk (y:Int):(y.natAbs/2^0%2:Nat)=if y%2=1 then 1 else 0:=by
 rw [Nat.pow_zero,Nat.div_one];split<;>omega
theorem aT6 {y:Int}(h0:y≠0) (h:¬y%2=1):0<tzb y.natAbs:=by
 rcases Nat.eq_zero_or_pos (tzb y.natAbs)with h1|h1
 ·obtain⟨m,hm⟩:=aCf (N:=y.natAbs) (by omega)
  rw [h1]at hm;omega
 ·exact h1
theorem bV {N B:Nat}(h:bl N≤B):ln 64 N≤B:=Nat.le_trans (dV 64 N (by decide)) h
def aEw (z e:Int) (ib:Nat) (w0 wr:World) (y f:Int):Prop:=
 hvZ y=hvZ z∧hvE y f=hvE z e∧y.natAbs≤z.natAbs∧Own2 w0 wr (w0.heap.size+1) 199 #[.pointer none,.int .i64 0] ib y
theorem eY.below {w w':World}(h:eY w) (hs:1<w.heap.size) (hb:Below w.heap.size w w'):eY w':=
 fun j hj=>(hb.cell (p:=⟨_,j,none⟩) hs).trans (h j hj)
theorem sV {y:Int}(h:y≠0):(y.sign !=0)=true:=by
 rcases Int.lt_trichotomy y 0 with h1|h1|h1
 ·rw [Int.sign_eq_neg_one_of_neg h1];rfl
 ·exact absurd h1 h
 ·rw [Int.sign_eq_one_of_pos h1];rfl
theorem aD5 (b:Nat) (z e:Int) (w:World) (hx:bM w b 0 z) (hl:bl z.natAbs≤68719476736) (h1: -4611686018427387904≤e) (h2:e≤1099511627776) (hT:eY w) (hTs:1<w.heap.size):
  Calls Tryz.prog 250 #[ExV b e] w (aLe (hvZ z) (hvE z e) w):=by
 have HX:=jH hx
 have HL:=jH hl
 have HT:=jH hT
 have HTs:=jH hTs
 have HEB:Hid (hvE z e≤e+68719476736):=jH (by unfold hvE;have:=aKh (N:=z.natAbs);omega)
 clear hx hl hT hTs
 unfold ExV
 go_enter Tryz.func250,Tryz.ntmps250
 go_wp2
 refine bP (fun w':World=>w'.cell? ⟨w.heap.size,0,none⟩=some (.pointer (some ⟨b,0,none⟩))∧w'.cell? ⟨w.heap.size,1,none⟩=some (.int .i64 e)) 7 [(1,true),(2,true),(4,true),(5,true),(0,false),(3,false),(6,true)] (by kernel_rfl) (by kernel_rfl) ?_
 generalize hW:((w.alloc (.cells #[.pointer (some ⟨b,0,none⟩),.int .i64 e] 199)).alloc (.cells #[.pointer none,.int .i64 0] 199)).drew=W
 have HW:Hid (aJ W w.heap.size 199 #[.pointer (some ⟨b,0,none⟩),.int .i64 e]∧aJ W (w.heap.size+1) 199 #[.pointer none,.int .i64 0]∧Below w.heap.size w W):=by
  subst hW
  refine jH ⟨((aJ.new w _ _).alloc _).below (aB _),?_,(((Below.refl _ _).alloc (Nat.le_refl _) _).alloc (by simp) _).drew⟩
  have:=(aJ.new (w.alloc (.cells #[.pointer (some ⟨b,0,none⟩),.int .i64 e] 199)) #[.pointer none,.int .i64 0] 199).below (aB _)
  simpa using this
 have hS:(fun w':World=>w'.cell? ⟨w.heap.size,0,none⟩=some (.pointer (some ⟨b,0,none⟩))∧w'.cell? ⟨w.heap.size,1,none⟩=some (.int .i64 e)) W:=⟨HW.out.1.cell 0,HW.out.1.cell 1⟩
 clear hW
 repeat (refine bI (v:= ?_) rfl (fun _ _ _ h=>h) rfl (fun w' hSw=> ?_) hS ?_;rotate_left;focus (go_simp;with_reducible rfl);try simp only [Act.put,aF])
 refine dN rfl fun K' hK=> ?_
 go_simp
 have HW1:Hid (aJ (W.alloc (.cells #[.bool false,.slice none 0 0] 220)) w.heap.size 199 #[.pointer (some ⟨b,0,none⟩),.int .i64 e]):=jH (HW.out.1.alloc _)
 refine hK _ _ ⟨HW1.out.cell 0,HW1.out.cell 1⟩ ?_
 clear hK K' hS
 have HO:Hid (Own2 w (W.alloc (.cells #[.bool false,.slice none 0 0] 220)) (w.heap.size+1) 199 #[.pointer none,.int .i64 0] W.heap.size 0):=
  jH ⟨dB.zero W _ dO,HW.out.2.1.alloc _,cZ,HW.out.2.2.alloc HW.out.2.2.size _,by have:=HW.out.2.1.lt;omega,by omega,HW.out.2.2.size⟩
 refine dN rfl fun K' hK=> ?_
 go_simp
 refine(aUm _ 0 _ 0 z _ HO.out.int.1 ((HX.out.below HW.out.2.2).below (Below.aA _ _)) (bV HL.out)).mono ?_
 rintro e1 w1 ⟨rfl,hi1,hm1⟩
 have HO1:=jH (HO.out.puts hi1 hm1)
 have HW2:=jH (HW1.out.mod hm1 (by have:=HW.out.1.lt;omega))
 refine hK _ _ ⟨HW2.out.cell 0,HW2.out.cell 1⟩ ?_
 have hS:(fun w':World=>w'.cell? ⟨w.heap.size,0,none⟩=some (.pointer (some ⟨b,0,none⟩))∧w'.cell? ⟨w.heap.size,1,none⟩=some (.int .i64 e)) w1:=⟨HW2.out.cell 0,HW2.out.cell 1⟩
 clear hK K' hi1 hm1
 repeat (refine bI (v:= ?_) rfl (fun _ _ _ h=>h) rfl (fun w' hSw=> ?_) hS ?_;rotate_left;focus (go_simp;with_reducible rfl);try simp only [Act.put,aF])
 clear hS
 refine dG ?_
 simp only [drL]
 generalize W.heap.size=ib at HO1
 go_wp2
 clear HW HW1 HO HW2
 have HR1:Hid (aEw z e ib w w1 z e):=jH ⟨rfl,rfl,Nat.le_refl _,HO1.out⟩
 go_loopw [4] (fun i wr=>∃(y f:Int),i= .int .i64 f∧f≤hvE z e∧e≤f∧Hid (aEw z e ib w wr y f))
  (fun i _=>(hvE z e-intOf i).toNat)
 case atStart=>exact⟨z,e,rfl,by unfold hvE;omega,Int.le_refl _,HR1⟩
 case round=>
  obtain⟨y,f,rfl,hfE,hef,HR⟩:=hrel
  obtain⟨r0,r1,r2,r3⟩:=HR.out.2.2.2.res.cells2
  have HLy:Hid (bl y.natAbs≤68719476736):=jH (Nat.le_trans (lG HR.out.2.2.1) HL.out)
  have HEB2:=HEB.out
  by_cases h0:y=0
  ·have HS0:Hid (y.sign=0):=jH (by subst h0;rfl)
   have HE:Hid (ExV ib f=ExV ib (hvE z e)∧hvZ z=y):=by
    refine jH ⟨?_,by rw [←HR.out.1,h0];exact mQ⟩
    rw [←HR.out.2.1,h0];unfold hvE;simp [aHg]
   clear h0
   go_wp2_with fail
   refine(cO _ 0 y _ HR.out.2.2.2.int).mono ?_
   rintro e2 w2 ⟨rfl,rfl⟩
   rw [HS0.out]
   go_wp2
   refine bodyPost_ret (v:=ExV ib f) (by simp [results,Tryz.results250,go_sem,r0,r1,ExV]) rfl ⟨ib,by rw [HE.out.1],HR.out.2.2.2.ige,?_,?_⟩
   ·rw [HE.out.2];exact(HR.out.2.2.2.store2 _ _).1
   ·exact(HR.out.2.2.2.store2 _ _).2
  ·obtain⟨sg,HS,hsg⟩:∃sg,Hid (y.sign=sg)∧(sg !=0)=true:=⟨_,jH rfl,sV h0⟩
   by_cases hodd:y%2=1
   ·have HB:Hid ((y.natAbs/2^0%2:Nat)=1):=jH (by rw [aXk,if_pos hodd])
    have HE:Hid (ExV ib f=ExV ib (hvE z e)∧hvZ z=y):=by
     refine jH ⟨?_,by rw [←HR.out.1];exact pJ hodd⟩
     rw [←HR.out.2.1,oN hodd]
    clear h0 hodd
    go_wp2_with fail
    refine(cO _ 0 y _ HR.out.2.2.2.int).mono ?_
    rintro e2 w2 ⟨rfl,rfl⟩
    rw [HS.out]
    go_wp2_with fail
    refine(aBq _ 0 0 y _ HR.out.2.2.2.int (by omega)).mono ?_
    rintro e2 w2 ⟨rfl,rfl⟩
    rw [HB.out]
    go_wp2
    refine bodyPost_ret (v:=ExV ib f) (by simp [results,Tryz.results250,go_sem,r0,r1,ExV]) rfl ⟨ib,by rw [HE.out.1],HR.out.2.2.2.ige,?_,?_⟩
    ·rw [HE.out.2];exact(HR.out.2.2.2.store2 _ _).1
    ·exact(HR.out.2.2.2.store2 _ _).2
   ·have HB:Hid ((y.natAbs/2^0%2:Nat)=0):=jH (by rw [aXk,if_neg hodd])
    have htp:=aT6 h0 hodd
    have HfE:Hid (f+tzb y.natAbs=hvE z e):=jH (by rw [←HR.out.2.1];rfl)
    have HT2:=jH (HT.out.below HTs.out HR.out.2.2.2.below)
    have ht3:tzb y.natAbs≤68719476736:=Nat.le_trans (aKh (N:=y.natAbs)) HLy.out
    generalize htz:tzb y.natAbs=t at*
    have HTZ:=jH htz
    have ht2:f+t≤1168231104512:=by have:=HfE.out;omega
    clear h0 hodd htz
    go_wp2_with fail
    refine(cO _ 0 y _ HR.out.2.2.2.int).mono ?_
    rintro e2 w2 ⟨rfl,rfl⟩
    rw [HS.out]
    go_wp2_with fail
    refine(aBq _ 0 0 y _ HR.out.2.2.2.int (by omega)).mono ?_
    rintro e2 w2 ⟨rfl,rfl⟩
    rw [HB.out]
    go_wp2_with fail
    refine(uN _ 0 y _ HR.out.2.2.2.int HT2.out (bV HLy.out)).mono ?_
    rintro e2 w2 ⟨rfl,rfl⟩
    rw [HTZ.out]
    go_wp2_with fail
    refine(aBt _ 0 _ 0 t y _ HR.out.2.2.2.int.1 HR.out.2.2.2.int (bV HLy.out) (by omega)).mono ?_
    rintro e2 w2 ⟨rfl,hi2,hm2⟩
    have HR2:Hid (aEw z e ib w w2 (hvZ y) (f+t)):=by
     have h3:y/2^t=hvZ y:=by rw [←HTZ.out];rfl
     have h4:hvE y f=f+t:=by rw [←HTZ.out];rfl
     rw [h3]at hi2
     refine jH ⟨by rw [(aVh y f).1];exact HR.out.1,by rw [←h4,(aVh y f).2];exact HR.out.2.1,Nat.le_trans xA HR.out.2.2.1,HR.out.2.2.2.puts hi2 hm2⟩
    clear hi2 hm2
    go_wp2
    go_roundw
    case rel=>exact⟨hvZ y,f+t,rfl,by rw [HfE.out];exact Int.le_refl _,by omega,HR2⟩
    case measure=>simp [intOf];have:=HfE.out;omega
end
section
set_option maxRecDepth 100000
set_option maxHeartbeats 6400000
open Go.RowKit
def aG8 (z e:Int) (w:World) (en:Ending) (w':World):Prop:=
 ∃b,en= .returned (ExV b e)∧bM w' b 0 z∧Below w.heap.size w w'
theorem dB.aIr {k:IntKind}{s:Nat}(w:World) (o:_root_.Go.Obj) (t:Nat) (ht:wL t):dB k s ((w.alloc o).alloc (.cells #[.bool false,.slice none 0 0] t)) (w.heap.size+1) 0 0:=by
 have:=dB.zero (k:=k) (s:=s) (w.alloc o) t ht
 simpa using this
theorem aJ.new1 (w:World) (o:_root_.Go.Obj) (cs:Array Value) (t:Nat):aJ ((w.alloc o).alloc (.cells cs t)) (w.heap.size+1) t cs:=by
 have:=aJ.new (w.alloc o) cs t
 simpa using this
theorem aJ.new2 (w:World) (o p:_root_.Go.Obj) (cs:Array Value) (t:Nat):aJ (((w.alloc o).alloc p).alloc (.cells cs t)) (w.heap.size+1+1) t cs:=by
 have:=aJ.new1 (w.alloc o) p cs t
 simpa using this
theorem aJ.aH6 (w:World) (o p q:_root_.Go.Obj) (cs:Array Value) (t:Nat):aJ ((((w.alloc o).alloc p).alloc q).alloc (.cells cs t)) (w.heap.size+1+1+1) t cs:=by
 have:=aJ.new2 (w.alloc o) p q cs t
 simpa using this
theorem gJ (w:World) (o:_root_.Go.Obj):Below w.heap.size w (w.alloc o):=(Below.refl _ _).alloc (Nat.le_refl _) _
theorem below2 (w:World) (o p:_root_.Go.Obj):Below w.heap.size w ((w.alloc o).alloc p):=(gJ w o).alloc (by simp) _
theorem below3 (w:World) (o p q:_root_.Go.Obj):Below w.heap.size w (((w.alloc o).alloc p).alloc q):=(below2 w o p).alloc (by simp;omega) _
theorem aEy (b o c p:Nat) (n:Nat) (m:Int) (X:Int) (w:World) (hz:fO w b o) (hx:bM w c p X) (hl:ln 64 X.natAbs≤68719476736) (hn:n≤1099511627776) (hm:m=n):
  Calls Tryz.prog 246 #[.pointer (some ⟨b,o,none⟩),.pointer (some ⟨c,p,none⟩),.int .u64 m] w (Puts .u64 64 b o (X*2^n) w):=by
 subst hm;exact aLn b o c p n X w hz hx hl hn
theorem aW9 (b o c p:Nat) (n:Nat) (m:Int) (X:Int) (w:World) (hz:fO w b o) (hx:bM w c p X) (hl:ln 64 X.natAbs≤68719476736) (hn:n≤1099511627776) (hm:m=n):
  Calls Tryz.prog 252 #[.pointer (some ⟨b,o,none⟩),.pointer (some ⟨c,p,none⟩),.int .u64 m] w (Puts .u64 64 b o (X/2^n) w):=by
 subst hm;exact aBt b o c p n X w hz hx hl hn
theorem aCx (b:Nat) (z e f:Int) (w:World) (hx:bM w b 0 z) (hl:bl z.natAbs≤68719476736) (h1: -274877906944≤f) (h2:f≤e) (h3:e≤274877906944):
  Calls Tryz.prog 245 #[ExV b e,.int .i64 f] w (aJn .u64 64 (z*2^(e-f).toNat) w):=by
 have HX:=jH hx
 have HL:=jH hl
 have HN:Hid (e-f=((e-f).toNat:Int)):=jH (by omega)
 have HN2:Hid ((e-f).toNat≤1099511627776):=jH (by omega)
 generalize (e-f).toNat=n at*
 clear hx hl
 unfold ExV
 have HZ:=jH (dB.aIr (k:= .u64) (s:=64) w (.cells #[.pointer (some ⟨b,0,none⟩),.int .i64 e] 199) _ dO)
 go_enter Tryz.func245,Tryz.ntmps245
 go_wp2_with fail
 refine(aEy _ 0 _ 0 n _ z _ HZ.out.1 (HX.out.below (below2 _ _ _)) (bV HL.out) HN2.out HN.out).mono ?_
 rintro e2 w2 ⟨rfl,hi2,hm2⟩
 have HI:=jH hi2
 have HB:=jH (hm2.below (below2 _ _ _) (by omega) (below2 _ _ _).size)
 clear hi2 hm2
 go_wp2
 go_ret
 exact⟨_,rfl,by simp,HI.out,HB.out⟩
theorem aMl (b c:Nat) (e y f:Int) (w:World) (hx:bM w b 0 0) (hy:bM w c 0 y):
  Calls Tryz.prog 210 #[ExV b e,ExV c f] w (aG8 y f w):=by
 have HX:=jH hx
 have HY:=jH hy
 have hcy:=hy.1.1
 clear hx hy
 unfold ExV
 have HS0:Hid ((0:Int).sign=0):=jH rfl
 go_enter Tryz.func210,Tryz.ntmps210
 go_wp2_with fail
 refine(cO _ 0 0 _ (HX.out.below (below3 _ _ _ _))).mono ?_
 rintro e2 w2 ⟨rfl,rfl⟩
 rw [HS0.out]
 go_wp2
 refine bodyPost_ret (v:=ExV c f) (by simp [results,Tryz.results210,go_sem,ExV]) rfl ⟨c,rfl,HY.out.below (below3 _ _ _ _),below3 _ _ _ _⟩
theorem aKk (b c:Nat) (z e f:Int) (w:World) (hx:bM w b 0 z) (hy:bM w c 0 0) (h0:z≠0):
  Calls Tryz.prog 210 #[ExV b e,ExV c f] w (aG8 z e w):=by
 have HX:=jH hx
 have HY:=jH hy
 obtain⟨sg,HS,hsg⟩:∃sg,Hid (z.sign=sg)∧(sg==0)=false:=⟨_,jH rfl,by have:=sV h0;simpa using this⟩
 clear hx hy h0
 unfold ExV
 have HS0:Hid ((0:Int).sign=0):=jH rfl
 go_enter Tryz.func210,Tryz.ntmps210
 go_wp2_with fail
 refine(cO _ 0 z _ (HX.out.below (below3 _ _ _ _))).mono ?_
 rintro e2 w2 ⟨rfl,rfl⟩
 rw [HS.out]
 go_wp2_with fail
 refine(cO _ 0 0 _ (HY.out.below (below3 _ _ _ _))).mono ?_
 rintro e2 w2 ⟨rfl,rfl⟩
 rw [HS0.out]
 go_wp2
 refine bodyPost_ret (v:=ExV b e) (by simp [results,Tryz.results210,go_sem,ExV]) rfl ⟨b,rfl,HX.out.below (below3 _ _ _ _),below3 _ _ _ _⟩
theorem xO (z:Int) (k:Nat):bl (z*2^k).natAbs≤bl z.natAbs+k:=by
 rw [Int.natAbs_mul,bZ];exact fG _ _
def zN (s:Nat) (w0 W:World) (b c:Nat) (e f:Int):Prop:=
 aJ W s 199 #[.pointer (some ⟨b,0,none⟩),.int .i64 e]∧aJ W (s+1) 199 #[.pointer (some ⟨c,0,none⟩),.int .i64 f]∧aJ W (s+1+1) 199 #[.pointer none,.int .i64 0]∧Below w0.heap.size w0 W
theorem zN.cells {s:Nat}{w0 W:World}{b c:Nat}{e f:Int}(h:zN s w0 W b c e f):
  w0.heap.size≤W.heap.size∧(W.cell? ⟨s,0,none⟩=some (.pointer (some ⟨b,0,none⟩))∧W.cell? ⟨s,1,none⟩=some (.int .i64 e))∧W.cell? ⟨s+1,0,none⟩=some (.pointer (some ⟨c,0,none⟩))∧W.cell? ⟨s+1,1,none⟩=some (.int .i64 f):=
 ⟨h.2.2.2.size,⟨h.1.cell 0,h.1.cell 1⟩,h.2.1.cell 0,h.2.1.cell 1⟩
theorem zN.later {s:Nat}{w0 W V:World}{b c:Nat}{e f:Int}(h:zN s w0 W b c e f) (hb:Below W.heap.size W V):zN s w0 V b c e f:=
 ⟨h.1.below hb,h.2.1.below hb,h.2.2.1.below hb,h.2.2.2.trans (hb.mono h.2.2.2.size)⟩
theorem zN.mod {s ib:Nat}{w0 W V:World}{b c:Nat}{e f:Int}(h:zN s w0 W b c e f) (hm:Mod ib 0 W V) (hs:s+1+1<ib) (h0:w0.heap.size≤ib):zN s w0 V b c e f:=
 ⟨h.1.mod hm (by omega),h.2.1.mod hm (by omega),h.2.2.1.mod hm (by omega),hm.below h.2.2.2 h0 h.2.2.2.size⟩
theorem zN.start (w:World) (b c:Nat) (e f:Int):zN w.heap.size w (((w.alloc (.cells #[.pointer (some ⟨b,0,none⟩),.int .i64 e] 199)).alloc (.cells #[.pointer (some ⟨c,0,none⟩),.int .i64 f] 199)).alloc (.cells #[.pointer none,.int .i64 0] 199)).drew b c e f:=
 ⟨(((aJ.new w _ _).alloc _).alloc _).below (aB _),((aJ.new1 w _ _ _).alloc _).below (aB _),(aJ.new2 w _ _ _ _).below (aB _),(below3 _ _ _ _).drew⟩
theorem aOb (b c:Nat) (z e y f g:Int) (w:World) (hx:bM w b 0 z) (hy:bM w c 0 y) (hz:z≠0) (h0:y≠0) (hg:min e f=g)
  (hl:bl z.natAbs≤34359738368) (hl2:bl y.natAbs≤34359738368) (he1: -8589934592≤e) (he2:e≤8589934592) (hf1: -8589934592≤f) (hf2:f≤8589934592):
  Calls Tryz.prog 210 #[ExV b e,ExV c f] w (aG8 (z*2^(e-g).toNat+y*2^(f-g).toNat) g w):=by
 have HX:=jH hx
 have HY:=jH hy
 obtain⟨sg,HS,hsg⟩:∃sg,Hid (z.sign=sg)∧(sg==0)=false:=⟨_,jH rfl,by have:=sV hz;simpa using this⟩
 obtain⟨sh,HS2,hsh⟩:∃sg,Hid (y.sign=sg)∧(sg==0)=false:=⟨_,jH rfl,by have:=sV h0;simpa using this⟩
 have HL:=jH hl
 have HL2:=jH hl2
 have hg1:g≤e:=by omega
 have hg2:g≤f:=by omega
 have hg3: -8589934592≤g:=by omega
 clear hx hy h0 hz hl hl2
 unfold ExV
 go_enter Tryz.func210,Tryz.ntmps210
 go_wp2_with fail
 refine(cO _ 0 z _ (HX.out.below (below3 _ _ _ _))).mono ?_
 rintro e2 w2 ⟨rfl,rfl⟩
 rw [HS.out]
 go_wp2_with fail
 refine(cO _ 0 y _ (HY.out.below (below3 _ _ _ _))).mono ?_
 rintro e2 w2 ⟨rfl,rfl⟩
 rw [HS2.out]
 go_wp2
 refine aC (fun w':World=>(w'.cell? ⟨w.heap.size,0,none⟩=some (.pointer (some ⟨b,0,none⟩))∧w'.cell? ⟨w.heap.size,1,none⟩=some (.int .i64 e))∧w'.cell? ⟨w.heap.size+1,0,none⟩=some (.pointer (some ⟨c,0,none⟩))∧w'.cell? ⟨w.heap.size+1,1,none⟩=some (.int .i64 f)) 10 (.take 1 (.take 2 (.take 4 (.take 5 (.take 8 (.fork 0 (.run 3 (.run 6 (.run 7 (.take 9 .nil)))) 3 (.fork 0 (.run 6 (.run 7 (.take 9 .nil))) 6 (.run 0 (.run 7 (.take 9 .nil)))))))))) (by kernel_rfl) (by kernel_rfl) ?_
 generalize hW:(((w.alloc (.cells #[.pointer (some ⟨b,0,none⟩),.int .i64 e] 199)).alloc (.cells #[.pointer (some ⟨c,0,none⟩),.int .i64 f] 199)).alloc (.cells #[.pointer none,.int .i64 0] 199)).drew=W0
 have HW:Hid (zN w.heap.size w W0 b c e f):=by subst hW;exact jH (zN.start w b c e f)
 have hS:(fun w':World=>(w'.cell? ⟨w.heap.size,0,none⟩=some (.pointer (some ⟨b,0,none⟩))∧w'.cell? ⟨w.heap.size,1,none⟩=some (.int .i64 e))∧w'.cell? ⟨w.heap.size+1,0,none⟩=some (.pointer (some ⟨c,0,none⟩))∧w'.cell? ⟨w.heap.size+1,1,none⟩=some (.int .i64 f)) W0:=HW.out.cells.2
 clear hW
 repeat (refine bD (v:= ?_) rfl (fun _ _ _ h=>h) rfl (fun w' hSw=> ?_) hS ?_;rotate_left;focus (go_simp;with_reducible rfl);try simp only [Act.put,aF])
 clear hS
 refine kR ?_ ?_
 ·as_aux_lemma=>
   refine aZ rfl fun K' hK=> ?_
   go_simp
   have HV:=jH (HW.out.later (Below.aA W0 (.cells #[.bool false,.slice none 0 0] 220)))
   refine hK _ _ HV.out.cells.2 ?_
   clear hK K'
   have HZ:=jH (dB.zero (k:= .u64) (s:=64) W0 _ dO)
   have HI:=jH (HW.out.2.2.1.lt)
   have HI0:=jH (HW.out.2.2.2.size)
   clear HW
   generalize hWn:W0.alloc (.cells #[.bool false,.slice none 0 0] 220)=W1 at*
   generalize W0.heap.size=ib at*
   clear hWn
   have HW:=HV
   clear HV
   refine aZ rfl fun K' hK=> ?_
   go_simp
   refine(aCx b z e g _ (HX.out.below HW.out.2.2.2) (Nat.le_trans HL.out (by omega)) (by omega) hg1 (by omega)).mono ?_
   rintro e1 W2 ⟨p1,rfl,hp1,hi1,hb1⟩
   have HV:=jH (HW.out.later hb1)
   refine hK _ _ HV.out.cells.2 ?_
   clear hK K' HW hp1
   have HP1:=jH hi1
   replace HZ:=jH (HZ.out.below hb1)
   clear hi1 hb1
   have HW:=HV
   clear HV
   refine aZ rfl fun K' hK=> ?_
   go_simp
   refine(aCx c y f g _ (HY.out.below HW.out.2.2.2) (Nat.le_trans HL2.out (by omega)) (by omega) hg2 (by omega)).mono ?_
   rintro e1 W3 ⟨p2,rfl,hp2,hi1,hb1⟩
   have HV:=jH (HW.out.later hb1)
   refine hK _ _ HV.out.cells.2 ?_
   clear hK K' HW hp2
   have HP2:=jH hi1
   replace HZ:=jH (HZ.out.below hb1)
   replace HP1:=jH (HP1.out.below hb1)
   clear hi1 hb1
   have HW:=HV
   clear HV
   refine aZ rfl fun K' hK=> ?_
   go_simp
   refine(nZ ib 0 p1 0 p2 0 _ _ _ HZ.out.1 HP1.out HP2.out ?_ ?_).mono ?_
   ·exact bV (Nat.le_trans (xO _ _) (by have:=HL.out;omega))
   ·exact bV (Nat.le_trans (xO _ _) (by have:=HL2.out;omega))
   rintro e1 wf ⟨rfl,hi3,hm3⟩
   have HO:Hid (Own2 w wf (w.heap.size+1+1) 199 #[.pointer none,.int .i64 0] ib (z*2^(e-g).toNat+y*2^(f-g).toNat)):=by
    have h4:=HW.out.mod hm3 HI.out HI0.out
    exact jH ⟨hi3,h4.2.2.1,cZ,h4.2.2.2,by have:=HI.out;omega,by omega,HI0.out⟩
   have HC3:=(HW.out.mod hm3 HI.out HI0.out).cells.2
   have hS:(fun w':World=>(w'.cell? ⟨w.heap.size,0,none⟩=some (.pointer (some ⟨b,0,none⟩))∧w'.cell? ⟨w.heap.size,1,none⟩=some (.int .i64 e))∧w'.cell? ⟨w.heap.size+1,0,none⟩=some (.pointer (some ⟨c,0,none⟩))∧w'.cell? ⟨w.heap.size+1,1,none⟩=some (.int .i64 f)) wf:=HC3
   refine hK _ _ HC3 ?_
   clear hK K' hi3 hm3 HC3
   repeat (refine bD (v:= ?_) rfl (fun _ _ _ h=>h) rfl (fun w' hSw=> ?_) hS ?_;rotate_left;focus (go_simp;with_reducible rfl);try simp only [Act.put,aF])
   clear hS
   refine aN ?_
   simp only [drL]
   obtain⟨r0,r1,r2,r3⟩:=HO.out.res.cells2
   generalize z*2^(e-g).toNat+y*2^(f-g).toNat=R at*
   clear HW HZ HP1 HP2
   go_wp2
   refine bodyPost_ret (v:=ExV ib g) (by simp [results,Tryz.results210,go_sem,ExV,r0,r1]) rfl ⟨ib,rfl,(HO.out.store2 _ _).1,(HO.out.store2 _ _).2⟩
 ·refine aZ rfl fun K' hK=> ?_
  go_simp
  refine(aCx b z e g _ (HX.out.below HW.out.2.2.2) (Nat.le_trans HL.out (by omega)) (by omega) hg1 (by omega)).mono ?_
  rintro e1 W1 ⟨p1,rfl,hp1,hi1,hb1⟩
  have HV:=jH (HW.out.later hb1)
  refine hK _ _ HV.out.cells.2 ?_
  clear hK K' HW hp1
  have HP1:=jH hi1
  clear hi1 hb1
  have HW:=HV
  clear HV
  refine kR ?_ ?_
  ·as_aux_lemma=>
    refine aZ rfl fun K' hK=> ?_
    go_simp
    have HV:=jH (HW.out.later (Below.aA W1 (.cells #[.bool false,.slice none 0 0] 220)))
    refine hK _ _ HV.out.cells.2 ?_
    clear hK K'
    have HZ:=jH (dB.zero (k:= .u64) (s:=64) W1 _ dO)
    have HI:=jH (HW.out.2.2.1.lt)
    have HI0:=jH (HW.out.2.2.2.size)
    replace HP1:=jH (HP1.out.below (Below.aA W1 (.cells #[.bool false,.slice none 0 0] 220)))
    clear HW
    generalize hWn:W1.alloc (.cells #[.bool false,.slice none 0 0] 220)=W2 at*
    generalize W1.heap.size=ib at*
    clear hWn
    have HW:=HV
    clear HV
    refine aZ rfl fun K' hK=> ?_
    go_simp
    refine(aCx c y f g _ (HY.out.below HW.out.2.2.2) (Nat.le_trans HL2.out (by omega)) (by omega) hg2 (by omega)).mono ?_
    rintro e1 W3 ⟨p2,rfl,hp2,hi1,hb1⟩
    have HV:=jH (HW.out.later hb1)
    refine hK _ _ HV.out.cells.2 ?_
    clear hK K' HW hp2
    have HP2:=jH hi1
    replace HP1:=jH (HP1.out.below hb1)
    replace HZ:=jH (HZ.out.below hb1)
    clear hi1 hb1
    have HW:=HV
    clear HV
    refine aZ rfl fun K' hK=> ?_
    go_simp
    refine(nZ ib 0 p1 0 p2 0 _ _ _ HZ.out.1 HP1.out HP2.out ?_ ?_).mono ?_
    ·exact bV (Nat.le_trans (xO _ _) (by have:=HL.out;omega))
    ·exact bV (Nat.le_trans (xO _ _) (by have:=HL2.out;omega))
    rintro e1 wf ⟨rfl,hi3,hm3⟩
    have HO:Hid (Own2 w wf (w.heap.size+1+1) 199 #[.pointer none,.int .i64 0] ib (z*2^(e-g).toNat+y*2^(f-g).toNat)):=by
     have h4:=HW.out.mod hm3 HI.out HI0.out
     exact jH ⟨hi3,h4.2.2.1,cZ,h4.2.2.2,by have:=HI.out;omega,by omega,HI0.out⟩
    have HC3:=(HW.out.mod hm3 HI.out HI0.out).cells.2
    have hS:(fun w':World=>(w'.cell? ⟨w.heap.size,0,none⟩=some (.pointer (some ⟨b,0,none⟩))∧w'.cell? ⟨w.heap.size,1,none⟩=some (.int .i64 e))∧w'.cell? ⟨w.heap.size+1,0,none⟩=some (.pointer (some ⟨c,0,none⟩))∧w'.cell? ⟨w.heap.size+1,1,none⟩=some (.int .i64 f)) wf:=HC3
    refine hK _ _ HC3 ?_
    clear hK K' hi3 hm3 HC3
    repeat (refine bD (v:= ?_) rfl (fun _ _ _ h=>h) rfl (fun w' hSw=> ?_) hS ?_;rotate_left;focus (go_simp;with_reducible rfl);try simp only [Act.put,aF])
    clear hS
    refine aN ?_
    simp only [drL]
    obtain⟨r0,r1,r2,r3⟩:=HO.out.res.cells2
    generalize z*2^(e-g).toNat+y*2^(f-g).toNat=R at*
    clear HW HZ HP1 HP2
    go_wp2
    refine bodyPost_ret (v:=ExV ib g) (by simp [results,Tryz.results210,go_sem,ExV,r0,r1]) rfl ⟨ib,rfl,(HO.out.store2 _ _).1,(HO.out.store2 _ _).2⟩
  ·as_aux_lemma=>
    refine aZ rfl fun K' hK=> ?_
    go_simp
    refine(aCx c y f g _ (HY.out.below HW.out.2.2.2) (Nat.le_trans HL2.out (by omega)) (by omega) hg2 (by omega)).mono ?_
    rintro e1 W2 ⟨p2,rfl,hp2,hi1,hb1⟩
    have HV:=jH (HW.out.later hb1)
    refine hK _ _ HV.out.cells.2 ?_
    clear hK K' HW hp2
    have HP2:=jH hi1
    replace HP1:=jH (HP1.out.below hb1)
    clear hi1 hb1
    have HW:=HV
    clear HV
    refine aZ rfl fun K' hK=> ?_
    go_simp
    have HV:=jH (HW.out.later (Below.aA W2 (.cells #[.bool false,.slice none 0 0] 220)))
    refine hK _ _ HV.out.cells.2 ?_
    clear hK K'
    have HZ:=jH (dB.zero (k:= .u64) (s:=64) W2 _ dO)
    have HI:=jH (HW.out.2.2.1.lt)
    have HI0:=jH (HW.out.2.2.2.size)
    replace HP1:=jH (HP1.out.below (Below.aA W2 (.cells #[.bool false,.slice none 0 0] 220)))
    replace HP2:=jH (HP2.out.below (Below.aA W2 (.cells #[.bool false,.slice none 0 0] 220)))
    clear HW
    generalize hWn:W2.alloc (.cells #[.bool false,.slice none 0 0] 220)=W3 at*
    generalize W2.heap.size=ib at*
    clear hWn
    have HW:=HV
    clear HV
    refine aZ rfl fun K' hK=> ?_
    go_simp
    refine(nZ ib 0 p1 0 p2 0 _ _ _ HZ.out.1 HP1.out HP2.out ?_ ?_).mono ?_
    ·exact bV (Nat.le_trans (xO _ _) (by have:=HL.out;omega))
    ·exact bV (Nat.le_trans (xO _ _) (by have:=HL2.out;omega))
    rintro e1 wf ⟨rfl,hi3,hm3⟩
    have HO:Hid (Own2 w wf (w.heap.size+1+1) 199 #[.pointer none,.int .i64 0] ib (z*2^(e-g).toNat+y*2^(f-g).toNat)):=by
     have h4:=HW.out.mod hm3 HI.out HI0.out
     exact jH ⟨hi3,h4.2.2.1,cZ,h4.2.2.2,by have:=HI.out;omega,by omega,HI0.out⟩
    have HC3:=(HW.out.mod hm3 HI.out HI0.out).cells.2
    have hS:(fun w':World=>(w'.cell? ⟨w.heap.size,0,none⟩=some (.pointer (some ⟨b,0,none⟩))∧w'.cell? ⟨w.heap.size,1,none⟩=some (.int .i64 e))∧w'.cell? ⟨w.heap.size+1,0,none⟩=some (.pointer (some ⟨c,0,none⟩))∧w'.cell? ⟨w.heap.size+1,1,none⟩=some (.int .i64 f)) wf:=HC3
    refine hK _ _ HC3 ?_
    clear hK K' hi3 hm3 HC3
    repeat (refine bD (v:= ?_) rfl (fun _ _ _ h=>h) rfl (fun w' hSw=> ?_) hS ?_;rotate_left;focus (go_simp;with_reducible rfl);try simp only [Act.put,aF])
    clear hS
    refine aN ?_
    simp only [drL]
    obtain⟨r0,r1,r2,r3⟩:=HO.out.res.cells2
    generalize z*2^(e-g).toNat+y*2^(f-g).toNat=R at*
    clear HW HZ HP1 HP2
    go_wp2
    refine bodyPost_ret (v:=ExV ib g) (by simp [results,Tryz.results210,go_sem,ExV,r0,r1]) rfl ⟨ib,rfl,(HO.out.store2 _ _).1,(HO.out.store2 _ _).2⟩
theorem aCr (b c:Nat) (z e y f:Int) (w:World) (hx:bM w b 0 z) (hy:bM w c 0 y)
  (hl:bl z.natAbs≤34359738368) (hl2:bl y.natAbs≤34359738368) (he1: -8589934592≤e) (he2:e≤8589934592) (hf1: -8589934592≤f) (hf2:f≤8589934592):
  Calls Tryz.prog 210 #[ExV b e,ExV c f] w (aG8 (plZ z e y f) (plE z e y f) w):=by
 unfold plZ plE
 by_cases hz:z=0
 ·subst hz;rw [if_pos rfl,if_pos rfl];exact aMl b c e y f w hx hy
 ·rw [if_neg hz,if_neg hz]
  by_cases h0:y=0
  ·subst h0;rw [if_pos rfl,if_pos rfl];exact aKk b c z e f w hx hy hz
  ·rw [if_neg h0,if_neg h0];exact aOb b c z e y f _ w hx hy hz h0 rfl hl hl2 he1 he2 hf1 hf2
end
section
set_option maxRecDepth 100000
set_option maxHeartbeats 6400000
open Go.RowKit
theorem aG2 (b c:Nat) (z e y f:Int) (w:World) (hx:bM w b 0 z) (hy:bM w c 0 y)
  (hl:bl z.natAbs≤34359738368) (hl2:bl y.natAbs≤34359738368) (he1: -8589934592≤e) (he2:e≤8589934592) (hf1: -8589934592≤f) (hf2:f≤8589934592):
  Calls Tryz.prog 185 #[ExV b e,ExV c f] w (aLe (z*y) (e+f) w):=by
 have HX:=jH hx
 have HY:=jH hy
 have HL:=jH hl
 have HL2:=jH hl2
 clear hx hy hl hl2
 unfold ExV
 go_enter Tryz.func185,Tryz.ntmps185
 go_wp2
 refine aC (fun w':World=>(w'.cell? ⟨w.heap.size,0,none⟩=some (.pointer (some ⟨b,0,none⟩))∧w'.cell? ⟨w.heap.size,1,none⟩=some (.int .i64 e))∧w'.cell? ⟨w.heap.size+1,0,none⟩=some (.pointer (some ⟨c,0,none⟩))∧w'.cell? ⟨w.heap.size+1,1,none⟩=some (.int .i64 f)) 12 (.take 1 (.take 2 (.take 3 (.take 4 (.take 6 (.take 7 (.take 8 (.take 9 (.take 10 (.run 0 (.run 5 (.take 11 .nil)))))))))))) (by kernel_rfl) (by kernel_rfl) ?_
 generalize hW:(((w.alloc (.cells #[.pointer (some ⟨b,0,none⟩),.int .i64 e] 199)).alloc (.cells #[.pointer (some ⟨c,0,none⟩),.int .i64 f] 199)).alloc (.cells #[.pointer none,.int .i64 0] 199)).drew=W0
 have HW:Hid (zN w.heap.size w W0 b c e f):=by subst hW;exact jH (zN.start w b c e f)
 have hS:(fun w':World=>(w'.cell? ⟨w.heap.size,0,none⟩=some (.pointer (some ⟨b,0,none⟩))∧w'.cell? ⟨w.heap.size,1,none⟩=some (.int .i64 e))∧w'.cell? ⟨w.heap.size+1,0,none⟩=some (.pointer (some ⟨c,0,none⟩))∧w'.cell? ⟨w.heap.size+1,1,none⟩=some (.int .i64 f)) W0:=HW.out.cells.2
 clear hW
 repeat (refine bD (v:= ?_) rfl (fun _ _ _ h=>h) rfl (fun w' hSw=> ?_) hS ?_;rotate_left;focus (go_simp;with_reducible rfl);try simp only [Act.put,aF])
 clear hS
 refine aZ rfl fun K' hK=> ?_
 go_simp
 have HV:=jH (HW.out.later (Below.aA W0 (.cells #[.bool false,.slice none 0 0] 220)))
 refine hK _ _ HV.out.cells.2 ?_
 clear hK K'
 have HZ:=jH (dB.zero (k:= .u64) (s:=64) W0 _ dO)
 have HI:=jH (HW.out.2.2.1.lt)
 have HI0:=jH (HW.out.2.2.2.size)
 clear HW
 generalize hWn:W0.alloc (.cells #[.bool false,.slice none 0 0] 220)=W1 at*
 generalize W0.heap.size=ib at*
 clear hWn
 refine aZ rfl fun K' hK=> ?_
 go_simp
 refine(aTr ib 0 _ 0 _ 0 z y _ HZ.out.1 (HX.out.below HV.out.2.2.2) (HY.out.below HV.out.2.2.2) (bV (Nat.le_trans HL.out (by omega))) (bV (Nat.le_trans HL2.out (by omega)))).mono ?_
 rintro e1 wf ⟨rfl,hi3,hm3⟩
 have HO:Hid (Own2 w wf (w.heap.size+1+1) 199 #[.pointer none,.int .i64 0] ib (z*y)):=by
  have h4:=HV.out.mod hm3 HI.out HI0.out
  exact jH ⟨hi3,h4.2.2.1,cZ,h4.2.2.2,by have:=HI.out;omega,by omega,HI0.out⟩
 have HC3:=(HV.out.mod hm3 HI.out HI0.out).cells.2
 have hS:(fun w':World=>(w'.cell? ⟨w.heap.size,0,none⟩=some (.pointer (some ⟨b,0,none⟩))∧w'.cell? ⟨w.heap.size,1,none⟩=some (.int .i64 e))∧w'.cell? ⟨w.heap.size+1,0,none⟩=some (.pointer (some ⟨c,0,none⟩))∧w'.cell? ⟨w.heap.size+1,1,none⟩=some (.int .i64 f)) wf:=HC3
 refine hK _ _ HC3 ?_
 clear hK K' hi3 hm3 HC3
 repeat (refine bD (v:= ?_) rfl (fun _ _ _ h=>h) rfl (fun w' hSw=> ?_) hS ?_;rotate_left;focus (go_simp;with_reducible rfl);try simp only [Act.put,aF])
 clear hS
 refine aN ?_
 simp only [drL]
 obtain⟨r0,r1,r2,r3⟩:=HO.out.res.cells2
 generalize z*y=R at*
 clear HV HZ
 go_wp2
 refine bodyPost_ret (v:=ExV ib (e+f)) (by simp [results,Tryz.results185,go_sem,ExV,r0,r1]) rfl ⟨ib,rfl,HI0.out,(HO.out.store2 _ _).1,(HO.out.store2 _ _).2⟩
end
end Go.Proofs.YtfmecpembnmnkaaGreatDoor
