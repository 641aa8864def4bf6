/- Whole numbers in memory: a pointer to a sign and a slice of words; what a call that writes one of them leaves as it was. -/
import Derived.Test.YtfmecpembnmnkaaGreatDoorPGB
import Derived.Laws.AppendOwnNone
import Derived.OrdersHeld
import Derived.StillTail
import Derived.Tactics
import Derived.WalkKit
namespace Go.Proofs.YtfmecpembnmnkaaGreatDoor
section
open Go.RowKit
def wL (t:Nat):Prop:=∀k,t≠ety k
def fO (w:World) (b o:Nat):Prop:=
 b<w.heap.size∧(∃t,Elem w b t∧wL t)∧w.frozen? ⟨b,o,none⟩=false∧w.frozen? ⟨b,o+1,none⟩=false∧
  (∃s,w.cell? ⟨b,o,none⟩=some (.bool s))∧∃a n c,w.cell? ⟨b,o+1,none⟩=some (.slice a n c)
def dB (k:IntKind) (s:Nat) (w:World) (b o:Nat) (z:Int):Prop:=
 fO w b o∧w.cell? ⟨b,o,none⟩=some (.bool (decide (z<0)))∧∃v,w.cell? ⟨b,o+1,none⟩=some v∧Raw k s w v (ln s z.natAbs) z.natAbs
abbrev bM (w:World) (b o:Nat) (z:Int):Prop:=dB .u64 64 w b o z
structure Mod (b o:Nat) (w w':World):Prop where
 os:w'.os=w.os
 tape:w'.tape=w.tape
 output:w'.output=w.output
 size:w.heap.size≤w'.heap.size
 block:∀k,k<w.heap.size→k≠b→w'.heap[k]? =w.heap[k]?
 cell:∀i,i≠o→i≠o+1→w'.cell? ⟨b,i,none⟩=w.cell? ⟨b,i,none⟩
 frozen:∀i,b<w.heap.size→w'.frozen? ⟨b,i,none⟩=w.frozen? ⟨b,i,none⟩
 elem:∀t,Elem w b t→Elem w' b t
theorem Mod.of_below {b o:Nat}{w w':World}(h:Below w.heap.size w w') (hb:b<w.heap.size):Mod b o w w':=
 ⟨h.os,h.tape,h.output,h.size,fun k hk _=>h.block k hk,fun i _ _=>h.cell (p:=⟨b,i,none⟩) hb,fun i _=>h.frozen (p:=⟨b,i,none⟩) hb,fun _ he=>he.of_block (h.block b hb)⟩
theorem Mod.trans {b o:Nat}{u v w:World}(hb:b<u.heap.size) (h:Mod b o u v) (k:Mod b o v w):Mod b o u w:=
 ⟨k.os.trans h.os,k.tape.trans h.tape,k.output.trans h.output,Nat.le_trans h.size k.size,
  fun i hi hn=>(k.block i (Nat.lt_of_lt_of_le hi h.size) hn).trans (h.block i hi hn),fun i h1 h2=>(k.cell i h1 h2).trans (h.cell i h1 h2),
  fun i _=>(k.frozen i (Nat.lt_of_lt_of_le hb h.size)).trans (h.frozen i hb),fun t he=>k.elem t (h.elem t he)⟩
theorem Mod.below {b o B:Nat}{u w w':World}(hu:Below B u w) (h:Mod b o w w') (hB:B≤b) (hs:B≤w.heap.size):Below B u w':=
 hu.trans ⟨h.os,h.tape,h.output,h.size,fun k hk=>h.block k (by omega) (by omega)⟩
theorem Elem.mod {b o c t:Nat}{w w':World}(h:Mod b o w w') (hc:c<w.heap.size) (he:Elem w c t):Elem w' c t:=by
 by_cases e:c=b
 ·subst e;exact h.elem t he
 ·exact he.of_block (h.block c hc e)
theorem Elem.unique {w:World}{b t u:Nat}(h:Elem w b t) (k:Elem w b u):t=u:=by
 obtain⟨c,fr,h⟩:=h
 obtain⟨c',fr',k⟩:=k
 rw [h]at k;simp only [Option.some.injEq,_root_.Go.Obj.cells.injEq]at k;exact k.2.1
theorem Raw.mod {k:IntKind}{s:Nat}{w w':World}{v:Value}{n N b o:Nat}(hr:Raw k s w v n N) (h:Mod b o w w') (ho:∃t,Elem w b t∧wL t):Raw k s w' v n N:=by
 obtain⟨ao,cap,hv,hcap,hN,hn,hc⟩:=hr
 refine⟨ao,cap,hv,hcap,hN,hn,fun h0=> ?_⟩
 obtain⟨c,off,e,hlt,he,hc⟩:=hc h0
 obtain⟨t,ht,hT⟩:=ho
 have hne:c≠b:=fun e=>by subst e;exact hT k (ht.unique he)
 have hb:=h.block c hlt hne
 exact⟨c,off,e,Nat.lt_of_lt_of_le hlt h.size,he.of_block hb,fun i hi=>(World.cell?_of_block (w:=w) (a:=⟨c,off+i,none⟩) hb).trans (hc i hi)⟩
def Apart (b o c p:Nat):Prop:=b≠c∨o+1<p∨p+1<o
theorem Mod.cellOf {b o c p:Nat}{w w':World}(h:Mod b o w w') (hc:c<w.heap.size) (hp:c≠b∨(p≠o∧p≠o+1)):w'.cell? ⟨c,p,none⟩=w.cell? ⟨c,p,none⟩:=by
 by_cases e:c=b
 ·subst e
  rcases hp with hp|hp
  ·exact absurd rfl hp
  ·exact h.cell p hp.1 hp.2
 ·exact World.cell?_of_block (w:=w) (a:=⟨c,p,none⟩) (h.block c hc e)
theorem Mod.aGx {b o c p:Nat}{w w':World}(h:Mod b o w w') (hc:c<w.heap.size):w'.frozen? ⟨c,p,none⟩=w.frozen? ⟨c,p,none⟩:=by
 by_cases e:c=b
 ·subst e;exact h.frozen p hc
 ·exact World.frozen?_of_block (w:=w) (a:=⟨c,p,none⟩) (h.block c hc e)
theorem fO.mod {b o c p:Nat}{w w':World}(hz:fO w c p) (h:Mod b o w w') (ha:Apart c p b o):fO w' c p:=by
 obtain⟨h1,⟨t,h2,h2'⟩,h3,h4,⟨s,h5⟩,a,n,m,h6⟩:=hz
 unfold Apart at ha
 refine⟨Nat.lt_of_lt_of_le h1 h.size,⟨t,h2.mod h h1,h2'⟩,(h.aGx h1).trans h3,(h.aGx h1).trans h4,⟨s,?_⟩,a,n,m,?_⟩
 ·exact(h.cellOf h1 (by omega)).trans h5
 ·exact(h.cellOf h1 (by omega)).trans h6
theorem dB.mod {k:IntKind}{s b o c p:Nat}{z:Int}{w w':World}(hz:dB k s w c p z) (h:Mod b o w w') (ha:Apart c p b o) (ho:∃t,Elem w b t∧wL t):dB k s w' c p z:=by
 obtain⟨h1,h2,v,h3,h4⟩:=hz
 have hlt:=h1.1
 refine⟨h1.mod h ha,?_,v,?_,h4.mod h ho⟩
 ·unfold Apart at ha;exact(h.cellOf hlt (by omega)).trans h2
 ·unfold Apart at ha;exact(h.cellOf hlt (by omega)).trans h3
theorem fO.below {c p:Nat}{w w':World}(hz:fO w c p) (h:Below w.heap.size w w'):fO w' c p:=by
 obtain⟨h1,⟨t,h2,h2'⟩,h3,h4,⟨s,h5⟩,a,n,m,h6⟩:=hz
 refine⟨Nat.lt_of_lt_of_le h1 h.size,⟨t,h2.of_block (h.block c h1),h2'⟩,(h.frozen (p:=⟨c,p,none⟩) h1).trans h3,(h.frozen (p:=⟨c,p+1,none⟩) h1).trans h4,⟨s,?_⟩,a,n,m,?_⟩
 ·exact(h.cell (p:=⟨c,p,none⟩) h1).trans h5
 ·exact(h.cell (p:=⟨c,p+1,none⟩) h1).trans h6
theorem dB.below {k:IntKind}{s c p:Nat}{z:Int}{w w':World}(hz:dB k s w c p z) (h:Below w.heap.size w w'):dB k s w' c p z:=by
 obtain⟨h1,h2,v,h3,h4⟩:=hz
 exact⟨h1.below h,(h.cell (p:=⟨c,p,none⟩) h1.1).trans h2,v,(h.cell (p:=⟨c,p+1,none⟩) h1.1).trans h3,h4.below h⟩
theorem Below.aA (w:World) (o:_root_.Go.Obj):Below w.heap.size w (w.alloc o):=(Below.refl _ _).alloc (Nat.le_refl _) _
theorem dO :wL 220:=by
 intro k;cases k<;>decide
theorem vF {w:World}{a:Addr}{v u:Value}(h:w.cell? a=some u):(w.setCell a v).cell? a=some v:=by
 first|exact World.cell?_setCell_same _ _ _ h|exact World.cell?_setCell_same _ _ _ _ h
theorem lZ {w:World}{a b:Addr}{v:Value}(h:a≠b):(w.setCell a v).cell? b=w.cell? b:=by
 first|exact World.cell?_setCell_other _ _ _ _ h|exact World.cell?_setCell_other _ _ _ h
theorem zX {b o i:Nat}(h:i≠o):(⟨b,i,none⟩:Addr)≠⟨b,o,none⟩:=fun e=>by simp only [Addr.mk.injEq]at e;exact h e.2.1
theorem Mod.set {b o i:Nat}(w:World) (hi:i=o∨i=o+1) (v:Value):Mod b o w (w.setCell ⟨b,i,none⟩ v):=by
 refine⟨rfl,rfl,rfl,by simp,fun k _ hn=>Below.heap_setCell _ _ _ _ (by simpa using hn),fun j h1 h2=>lZ (zX (by omega)),fun j _=>by simp,fun t he=> ?_⟩
 obtain⟨c,fr,h⟩:=he
 refine⟨if(⟨b,i,none⟩:Addr).spot.isSome then c else c.setIfInBounds i v,fr,?_⟩
 show(w.heap.modify b _)[b]? =_
 rw [Array.getElem?_modify,if_pos rfl,h];rfl
theorem dB.stored {k:IntKind}{s b o N:Nat}{neg:Bool}{v:Value}{w:World}(hz:fO w b o) (hv:Raw k s w v (ln s N) N):
  dB k s ((w.setCell ⟨b,o,none⟩ (.bool (neg&&decide (0<N)))).setCell ⟨b,o+1,none⟩ v) b o (if neg then-(N:Int)else N)∧
   Mod b o w ((w.setCell ⟨b,o,none⟩ (.bool (neg&&decide (0<N)))).setCell ⟨b,o+1,none⟩ v):=by
 have h1:=Mod.set (b:=b) (o:=o) w (.inl rfl) (.bool (neg&&decide (0<N)))
 have h2:=Mod.set (b:=b) (o:=o) (w.setCell ⟨b,o,none⟩ (.bool (neg&&decide (0<N)))) (.inr rfl) v
 have hm:=h1.trans hz.1 h2
 have hv':=hv.mod hm hz.2.1
 obtain⟨g1,⟨t,g2,g2'⟩,g3,g4,⟨s0,g5⟩,a,n,m,g6⟩:=hz
 have e0:((w.setCell ⟨b,o,none⟩ (.bool (neg&&decide (0<N)))).setCell ⟨b,o+1,none⟩ v).cell? ⟨b,o,none⟩=some (.bool (neg&&decide (0<N))):=
  (lZ (zX (by omega))).trans (vF g5)
 have e1:((w.setCell ⟨b,o,none⟩ (.bool (neg&&decide (0<N)))).setCell ⟨b,o+1,none⟩ v).cell? ⟨b,o+1,none⟩=some v:=
  vF ((lZ (zX (by omega))).trans g6)
 have ez:(if neg then-(N:Int)else N).natAbs=N:=by cases neg<;>simp
 have es:(neg&&decide (0<N))=decide ((if neg then-(N:Int)else N)<0):=by
  cases neg
  ·simp
  ·simp
 refine⟨⟨⟨Nat.lt_of_lt_of_le g1 hm.size,⟨t,hm.elem t g2,g2'⟩,(hm.frozen _ g1).trans g3,(hm.frozen _ g1).trans g4,⟨_,e0⟩,?_⟩,e0.trans (by rw [es]),v,e1,by rw [ez];exact hv'⟩,hm⟩
 obtain⟨ao,cap,e,-⟩:=hv
 exact⟨ao,_,cap,by rw [e1,e]⟩
end
section
set_option maxRecDepth 100000
set_option maxHeartbeats 6400000
open Go.RowKit
def Puts (k:IntKind) (s b o:Nat) (z:Int) (w:World) (e:Ending) (w':World):Prop:=
 e= .returned (.pointer (some ⟨b,o,none⟩))∧dB k s w' b o z∧Mod b o w w'
theorem Puts.of {k:IntKind}{s b o N:Nat}{neg:Bool}{v:Value}{w:World}(h:fO w b o∧Raw k s w v (ln s N) N):
  Puts k s b o (if neg then-(N:Int)else N) w (.returned (.pointer (some ⟨b,o,none⟩))) ((w.setCell ⟨b,o,none⟩ (.bool (neg&&decide (0<N)))).setCell ⟨b,o+1,none⟩ v):=
 ⟨rfl,(dB.stored h.1 h.2).1,(dB.stored h.1 h.2).2⟩
theorem kL {s N:Nat}(hs:0<s):0<ln s N↔0<N:=by have:=jE (N:=N) hs;omega
theorem fZ (b o N:Nat) (neg:Bool) (v:Value) (w:World) (hz:fO w b o) (hv:Raw .u64 64 w v (ln 64 N) N):
  Calls Tryz.prog 254 #[.pointer (some ⟨b,o,none⟩),.bool neg,v] w (Puts .u64 64 b o (if neg then-(N:Int)else N) w):=by
 have HF:=jH (Puts.of (neg:=neg) (And.intro hz hv))
 obtain⟨g1,-,g3,g4,⟨s0,g5⟩,a,n,m,g6⟩:=hz
 obtain⟨ao,cap,rfl,-,-,hn,-⟩:=hv
 have hp:=kL (s:=64) (N:=N) (by decide)
 by_cases h0:0<N
 ·have h1:0<ln 64 N:=hp.2 h0
  rw [decide_eq_true h0]at HF
  clear hp
  cases neg
  ·go_enter Tryz.func254,Tryz.ntmps254
   go_wp2
   go_ret
   exact HF.out
  ·go_enter Tryz.func254,Tryz.ntmps254
   go_wp2
   go_ret
   exact HF.out
 ·have h1:ln 64 N=0:=by omega
  rw [decide_eq_false h0]at HF
  rw [h1]at HF ⊢
  clear hp h1 hn
  cases neg
  ·go_enter Tryz.func254,Tryz.ntmps254
   go_wp2
   go_ret
   exact HF.out
  ·go_enter Tryz.func254,Tryz.ntmps254
   go_wp2
   go_ret
   exact HF.out
theorem wpList_append_run {P:Program}{w:World}{ops:Array Oper}{rest:List Oper}{o:Oper}{a:Act}{Q:Exit→Act→World→Prop}(hgd:o.guard=none) (s x:Operand) (t:TypeId)
  (ho:o.op= .call {callee:= .builtin .append,args:= #[s,x],argTypes:= #[t,t]}) (v y v':Value) (w':World) (hs:a.eval s=v) (hx:a.eval x=y)
  (hrun:(Builtin.append_ #[t,t] o.type #[v,y]).run P w= .ok v' w') (h:wpList P ops Q rest (a.put o.dst v') w'):wpList P ops Q (o::rest) a w:=by
 refine wpList_plain hgd fun K hK=> ?_
 unfold Oper.wp
 simp [execOp,ho,resolve,invoke,builtin,hs,hx,hrun,Result.andThen]
 exact hK _ _ h
theorem Raw.mM {k:IntKind}{s:Nat}{w:World}{base n m N:Nat}{v:Value}{xs:List Value}(h:w.ownsRow base (ety k) 1 v m xs) (hm:m=n) (hx:∀i,i<n→xs[i]? =some (.int k (dg s N i:Nat)))
  (hN:N<2^(s*n)) (hn:n≤1099511627776):Raw k s w v n N:=by
 subst hm
 obtain⟨h1,⟨rfl,h0⟩|⟨g,cap,cur,rfl,hg,hh,hcap,hmax,hcs,ht⟩⟩:=h
 ·subst h0;exact⟨none,0,rfl,Nat.le_refl _,hN,hn,fun h=>absurd h (by omega)⟩
 ·refine⟨_,cap,rfl,hcap,hN,hn,fun _=>⟨g,0,rfl,(Array.getElem?_eq_some_iff.1 hh).1,⟨cur,_,hh⟩,fun i hi=> ?_⟩⟩
  have h2:=hx i hi
  rw [←ht,List.getElem?_take_of_lt (by omega)]at h2
  simp only [World.cell?,hh,Nat.zero_add]
  simpa using h2
theorem clone_any (v:Value) (n N:Nat) (w:World) (h:Raw .u64 64 w v n N) (hl:n≤1099511627776):
  Calls Tryz.prog 270 #[v] w (Makes .u64 64 n N w):=by
 obtain⟨i0,hi,hz0,hz1,hz2⟩:=info_parts Tryz.info33
 have HR:=jH h
 obtain⟨ao,cap,rfl,hcap,hN,hn,hc⟩:=h
 by_cases h0:0<n
 ·obtain⟨b,off,rfl,hb,he,hc⟩:=hc h0
  have hcells:Hid (∀(j:Nat) (u:Value),((List.range n).map fun i=>Value.int .u64 (dg 64 N i:Nat))[j]? =some u→w.cell? ((⟨b,off,none⟩:Addr).add j)=some u):=by
   refine jH fun j u hu=> ?_
   rw [List.getElem?_map]at hu
   by_cases hj:j<n
   ·rw [List.getElem?_range hj]at hu
    simp only [Option.map_some,Option.some.injEq]at hu
    rw [←hu,←hc j hj]
    unfold Addr.add
    by_cases hj0:j=0
    ·subst hj0;simp
    ·rw [if_neg hj0]
   ·rw [List.getElem?_eq_none (by simp;omega)]at hu;simp at hu
  have hone:Hid (∀u∈((List.range n).map fun i=>Value.int .u64 (dg 64 N i:Nat)),u.oneCell'=true):=by
   refine jH fun u hu=> ?_
   obtain⟨i,-,rfl⟩:=List.mem_map.1 hu
   rfl
  have HN:=jH hN
  clear hc hN
  go_enter Tryz.func270,Tryz.ntmps270
  go_wp2_with (at_builtin;refine wpList_append_own _ rfl _ _ 218 rfl w.heap.size 33 i0 (.int .u64 0) 1 8 Tryz.underlying218 hi hz0 hz1 hz2 rfl (by decide) _ _ _ rfl (World.ownsRow_nil _ _ _ _) ⟨b,off,none⟩ n cap ((List.range n).map fun i=>Value.int .u64 (dg 64 N i:Nat)) rfl (by simp) hcells.out hone.out (by unfold maxLen;omega) (by omega) (Nat.le_refl _) ?_)
  intro v' w1 hown hgrow hnil
  have hfin:Makes .u64 64 n N w (.returned v') w1:=by
   refine Makes.mk ((Below.refl _ _).grown hgrow (Nat.le_refl _) (fun k hk=>by simp [Value.ownBlock]at hk)) ?_
   refine Raw.mM hown (by omega) (fun i hi=> ?_) HN.out hn
   rw [List.getElem?_map,List.getElem?_range hi];rfl
  have HF:=jH hfin
  clear hfin hown hgrow hnil
  go_wp2
  go_ret
  exact HF.out
 ·obtain rfl:n=0:=by omega
  have hz:N=0:=by simp at hN;omega
  have hfin:Makes .u64 64 0 N w (.returned (.slice none 0 0)) w:=
   Makes.mk (Below.refl _ _) ⟨none,0,rfl,by omega,by subst hz;exact Nat.two_pow_pos _,by omega,fun h=>absurd h (by omega)⟩
  have HF:=jH hfin
  clear hfin hc hN hz
  have happ:∀W:World,(Builtin.append_ #[218,218] 218 #[.slice none 0 0,.slice ao 0 cap]).run Tryz.prog W= .ok (.slice none 0 0) W:=by
   intro W
   cases ao<;>simp [Builtin.append_,go_sem]
  have HA:=jH (happ w)
  clear happ hi
  go_enter Tryz.func270,Tryz.ntmps270
  go_wp2_with (at_builtin;refine wpList_append_run rfl _ _ 218 rfl _ _ _ _ rfl rfl HA.out ?_)
  go_ret
  exact HF.out
theorem Elem.new (w:World) (c:Array Value) (t:Nat):Elem (w.alloc (.cells c t)) w.heap.size t:=
 ⟨c,(0,0),by show(w.heap.push _)[w.heap.size]? =_;simp⟩
theorem aCa (N:Nat) (w:World) (h:N<18446744073709551616):
  Calls Tryz.prog 278 #[.int .u64 N] w (Makes .u64 64 (ln 64 N) N w):=by
 have hraw:Raw .u64 64 (w.alloc (.cells #[.int .u64 N] 33)) (.slice (some ⟨w.heap.size,0,none⟩) 1 1) 1 N:=by
  refine⟨_,1,rfl,by omega,h,by omega,fun _=>⟨w.heap.size,0,rfl,by simp,Elem.new _ _ _,fun i hi=> ?_⟩⟩
  obtain rfl:i=0:=by omega
  rw [show(⟨w.heap.size,0+0,none⟩:Addr)=⟨w.heap.size,0,none⟩from rfl,World.cell?_alloc_new]
  simp [dg,Nat.mod_eq_of_lt h]
 have HR:=jH hraw
 clear hraw h
 go_enter Tryz.func278,Tryz.ntmps278
 go_wp2_with fail
 refine(nC _ _ N _ HR.out).mono ?_
 rintro e w1 ⟨v,rfl,rfl,hr⟩
 have HF:=jH hr
 clear hr
 go_wp2
 go_ret
 exact⟨v,rfl,(Below.refl _ _).alloc (Nat.le_refl _) _,HF.out⟩
theorem aT8 (v:Value) (n N:Nat) (w:World) (h:Raw .u64 64 w v n N):
  Calls Tryz.prog 262 #[v] w fun e w'=>e= .returned (.int .u64 (dg 64 N 0:Nat))∧w=w':=by
 have HR:=jH h
 clear h
 go_enter Tryz.func262,Tryz.ntmps262
 go_wp2_with fail
 refine(yV _ _ N 0 _ _ HR.out (by omega) rfl).mono ?_
 rintro e w1 ⟨rfl,rfl⟩
 go_wp2
 go_ret
 exact⟨rfl,rfl⟩
theorem aJ9 (v:Value) (N:Nat) (w:World) (h:Raw .u64 64 w v (ln 64 N) N):
  Calls Tryz.prog 259 #[v] w fun e w'=>e= .returned (.int .i64 (bl N:Nat))∧w=w':=by
 obtain⟨ao,cap,rfl,-,-,hn,hc⟩:=h
 by_cases h0:N=0
 ·subst h0
  rw [aF9]
  rw [eG]at*
  clear hc hn
  go_enter Tryz.func259,Tryz.ntmps259
  go_wp2
  go_ret
  exact⟨rfl,rfl⟩
 ·have hl:=(kL (s:=64) (N:=N) (by decide)).2 (by omega)
  have HB:=jH (aJv (s:=64) (by decide) h0)
  obtain⟨b,off,rfl,hb,-,hc⟩:=hc hl
  have hcell:=hc (ln 64 N-1) (by omega)
  have hb1:((ln 64 N:Nat):Int)=0→False:=by omega
  have hle:=aY (k:=64) (iT 64 N (ln 64 N-1))
  clear hc h0
  generalize ln 64 N=n at*
  have hb1:((n:Int)==0)=false:=by simp;omega
  go_enter Tryz.func259,Tryz.ntmps259
  go_wp2_with fail
  refine(aEd _ (eH _ _) _).mono ?_
  rintro e w1 ⟨rfl,rfl⟩
  go_wp2
  go_ret
  exact⟨congrArg Ending.returned (congrArg (Value.int .i64) (by rw [HB.out];omega)),rfl⟩
end
section
open Go
section
variable {P : Program} {ops : Array Oper} {Q : Exit → Act → World → Prop} {S : World → Prop} {md : Region.Mode}
def jT (P:Program) (md:Region.Mode) (ops:Array Oper) (Q:Exit→Act→World→Prop) (S:World→Prop) (n:Nat):Nat→Array Bool→Act→World→Prop
 |0,listed,a,w=>Region.ready md ops listed=[]∧Q .normal a w
 | fuel+1,listed,a,w=>
  (Region.ready md ops listed=[]→Q .normal a w)∧
  ∀i∈Region.ready md ops listed,wpOp P ops Q i (fun a' w'=>(i<n→S w')∧jT P md ops Q S n fuel (listed.setIfInBounds i true) a' w') a w
theorem qA {n:Nat}:∀(fuel:Nat) (listed:Array Bool) (a:Act) (w:World),jT P md ops Q S n fuel listed a w→wpAny P md ops Q fuel listed a w
 |0,_,_,_,h=>h
 |fuel+1,_,_,_,h=>⟨h.1,fun i hi=>wpOp_mono (fun a' w' h'=>qA fuel _ a' w' h'.2) (h.2 i hi)⟩
theorem lH {n i:Nat}{oi:Oper}{v:Value}(hi:ops[i]? =some oi) (hsel:∀(j:Nat) (o:Oper) cs b,ops[j]? =some o→o.op≠ .select cs b)
  (hQ:∀c a w,Q (.panic c) (a.put oi.dst v) w→Q (.panic c) a w) (hs:Region.sinkB md ops n=true) (hc:Region.chainB md ops n=true) (hn:n<ops.size) (hin:i<n):
  ∀(fuel:Nat) (listed:Array Bool) (a:Act) (w:World),HeadInv md ops n listed→
   (∀j oj,ops[j]? =some oj→j≠i→listed.getD j true=false→(∀e∈oj.after,Region.binds md e=true→e.on≠i)→oi.apart ops oj=true)→
   i∈Region.ready md ops listed→YieldsIf P ops S oi v a→S w→
   jT P md ops Q S n fuel (listed.setIfInBounds i true) (a.put oi.dst v) w→jT P md ops Q S n (fuel+1) listed a w:=by
 intro fuel
 induction fuel with
 | zero=>
  intro listed a w _ _ hr hy hS H
  refine⟨fun h=>(by rw [h]at hr;cases hr),fun j hj=> ?_⟩
  by_cases hji:j=i
  ·subst hji;exact hy.wpOp hi hS ⟨fun _=>hS,H⟩
  ·have:=ready_mono hj hji
   rw [H.1]at this
   cases this
 | succ fuel ih=>
  intro listed a w inv hfree hr hy hS H
  have hun:=(mem_ready.1 hr).1
  refine⟨fun h=>(by rw [h]at hr;cases hr),fun j hj=> ?_⟩
  by_cases hji:j=i
  ·subst hji;exact hy.wpOp hi hS ⟨fun _=>hS,H⟩
  ·have hjn:j<n:=by
    rcases Nat.lt_or_ge j n with h|h
    ·exact h
    ·exact absurd hj (tail_waits hs hc hn inv _ i rfl hin hun j h)
   have h1:=H.2 j (ready_mono hj hji)
   obtain⟨hjun,oj,hoj,hall⟩:=mem_ready.1 hj
   have hnot:∀e∈oj.after,Region.binds md e=true→e.on≠i:=fun e he hb heq=>by
    have h1:=hall e he hb
    rw [heq,getD_both hun]at h1
    cases h1
   have h2:=wpOp_putIf hoj (hfree j oj hoj hji hjun hnot) (fun cs b=>hsel i oi cs b hi) (fun cs b=>hsel j oj cs b hoj) hQ hy h1
   have hfree':∀k ok,ops[k]? =some ok→k≠i→(listed.setIfInBounds j true).getD k true=false→
     (∀e∈ok.after,Region.binds md e=true→e.on≠i)→oi.apart ops ok=true:=fun k ok hk hki hun hno=>by
    refine hfree k ok hk hki ?_ hno
    by_cases hjk:j=k
    ·subst hjk;exact hjun
    ·rw [getD_set_ne true hjk]at hun;exact hun
   refine wpOp_mono (fun a' w' h3=>⟨h3.2.1,ih (listed.setIfInBounds j true) a' w' (inv.set hj hjn) hfree' (ready_mono hr (Ne.symm hji)) h3.1 (h3.2.1 hjn) ?_⟩) h2
   rw [Array.setIfInBounds_comm _ _ hji]
   exact h3.2.2
def qR (P:Program) (ops:Array Oper) (Q:Exit→Act→World→Prop) (S:World→Prop) (K:Act→World→Prop):List (Nat×Bool)→Act→World→Prop
 |[],a,w=>K a w
 |(i,true)::pl,a,w=>∃o v,ops[i]? =some o∧(∀c a' w',Q (.panic c) (a'.put o.dst v) w'→Q (.panic c) a' w')∧YieldsIf P ops S o v a∧S w∧qR P ops Q S K pl (a.put o.dst v) w
 |(i,false)::pl,a,w=>∃o,ops[i]? =some o∧wpOp P ops Q i (fun a' w'=>S w'∧qR P ops Q S K pl a' w') a w
def aEh (md:Region.Mode) (ops:Array Oper) (n:Nat):List (Nat×Bool)→Array Bool→Bool
 |[],listed=>Region.seqB md ops (ops.size-n) n listed
 |(i,true)::pl,listed=>decide (i<n)&&(Region.ready md ops listed).contains i&&Region.free md ops listed i&&aEh md ops n pl (listed.setIfInBounds i true)
 |(i,false)::pl,listed=>decide (i<n)&&decide (Region.ready md ops listed=[i])&&aEh md ops n pl (listed.setIfInBounds i true)
theorem pG {n:Nat}:∀(l:List Oper) (k:Nat) (listed:Array Bool) (a:Act) (w:World),n≤k→(∀j,l[j]? =ops[k+j]?)→
  Region.seqB md ops l.length k listed=true→wpList P ops Q l a w→jT P md ops Q S n l.length listed a w
 |[],_,_,_,_,_,_,hB,h=>⟨by simpa [Region.seqB]using hB,h⟩
 | o::l,k,listed,a,w,hk,hl,hB,h=>by
  have h0:ops[k]? =some o:=by simpa using (hl 0).symm
  simp only [List.length_cons,Region.seqB,Bool.and_eq_true,decide_eq_true_eq]at hB
  refine⟨fun h1=>(by rw [hB.1]at h1;cases h1),fun i hi=> ?_⟩
  rw [hB.1]at hi
  have hik:i=k:=by simpa using hi
  subst hik
  have hw:wpOp P ops Q i (wpList P ops Q l) a w:=by unfold wpOp;simp only [h0];exact h
  exact wpOp_mono (fun a' w' h'=>⟨fun hn=>by omega,pG l (i+1) _ a' w' (by omega) (fun j=>by have:=hl (j+1);simpa [Nat.add_assoc,Nat.add_comm 1 j]using this) hB.2 h'⟩) hw
theorem uJ {n:Nat}{L:List Oper}(hL:ops=L.toArray) (hsel:Region.noSelect ops=true) (hs:Region.sinkB md ops n=true) (hc:Region.chainB md ops n=true) (hn:n<ops.size):
  ∀(pl:List (Nat×Bool)) (listed:Array Bool) (a:Act) (w:World),HeadInv md ops n listed→aEh md ops n pl listed=true→
   qR P ops Q S (wpList P ops Q (L.drop n)) pl a w→jT P md ops Q S n (pl.length+(ops.size-n)) listed a w
 | [],listed,a,w,_,hB,h=>by
  subst hL
  have hlen:(L.drop n).length=L.toArray.size-n:=by simp
  have:=pG (P:=P) (Q:=Q) (S:=S) (md:=md) (ops:=L.toArray) (n:=n) (L.drop n) n listed a w (Nat.le_refl _) (fun j=>by simp) (by rw [hlen];exact hB) h
  rw [hlen]at this
  rw [List.length_nil,Nat.zero_add];exact this
 | (i,true)::pl,listed,a,w,inv,hB,h=>by
  simp only [aEh,Bool.and_eq_true,decide_eq_true_eq]at hB
  obtain⟨⟨⟨hin,hr⟩,hf⟩,hB'⟩:=hB
  obtain⟨o,v,ho,hQ,hy,hS,hK⟩:=h
  have hr':i∈Region.ready md ops listed:=by simpa using hr
  rw [List.length_cons,show pl.length+1+(ops.size-n)=pl.length+(ops.size-n)+1 from by omega]
  exact lH ho (Region.noSelect_spec hsel) hQ hs hc hn hin _ listed a w inv (Region.free_spec ho hf) hr' hy hS
   (uJ hL hsel hs hc hn pl _ _ _ (inv.set hr' hin) hB' hK)
 | (i,false)::pl,listed,a,w,inv,hB,h=>by
  simp only [aEh,Bool.and_eq_true,decide_eq_true_eq]at hB
  obtain⟨⟨hin,hr⟩,hB'⟩:=hB
  obtain⟨o,ho,hw⟩:=h
  rw [List.length_cons,show pl.length+1+(ops.size-n)=pl.length+(ops.size-n)+1 from by omega]
  refine⟨fun h1=>(by rw [hr]at h1;cases h1),fun j hj=> ?_⟩
  have hri:i∈Region.ready md ops listed:=by rw [hr];simp
  rw [hr]at hj
  have hji:j=i:=by simpa using hj
  subst hji
  exact wpOp_mono (fun a' w' h'=>⟨fun _=>h'.1,uJ hL hsel hs hc hn pl _ _ _ (inv.set hri hin) hB' h'.2⟩) hw
def goB (ops:Array Oper) (n:Nat) (pl:List (Nat×Bool)):Bool:=
 Region.noSelect ops&&decide (n<ops.size)&&decide (pl.length=n)&&Region.sinkB .any ops n&&Region.chainB .any ops n&&aEh .any ops n pl (Array.replicate ops.size false)
theorem bP {id:Nat}{a:Act}{w:World}{L:List Oper}(S:World→Prop) (n:Nat) (pl:List (Nat×Bool)) (hm:P.follows .mixedOrders=true) (hB:goB L.toArray n pl=true)
  (h:qR P L.toArray Q S (wpList P L.toArray Q (L.drop n)) pl a w.drew):(Code.region id L.toArray true).wp P Q a w:=by
 simp only [goB,Bool.and_eq_true,decide_eq_true_eq]at hB
 obtain⟨⟨⟨⟨⟨hsel,hn⟩,hlen⟩,hs⟩,hc⟩,hp⟩:=hB
 have inv0:HeadInv .any L.toArray n (Array.replicate L.toArray.size false):=
  ⟨by simp,fun j oj _ hl=>(by rw [getD_replicate_false]at hl;cases hl),fun t _ ht=>getD_in (by simpa using ht) (getD_replicate_false _ _)⟩
 have:=uJ (P:=P) (Q:=Q) (S:=S) rfl hsel hs hc hn pl _ a w.drew inv0 hp h
 rw [hlen,show n+(L.toArray.size-n)=L.toArray.size from by omega]at this
 exact wp_region_any hm (qA _ _ _ _ this)
theorem bI {i:Nat}{o:Oper}{v:Value}{K:Act→World→Prop}{pl:List (Nat×Bool)}{a:Act}{w:World}(ho:ops[i]? =some o) (hQ:∀c a' w',Q (.panic c) (a'.put o.dst v) w'→Q (.panic c) a' w')
  (hw:Region.wanted o (yielded ops a.tmps)=true) (hy:∀w',S w'→(execOp a.eval o).run P w'= .ok (.value v) w') (hS:S w) (h:qR P ops Q S K pl (a.put o.dst v) w):qR P ops Q S K ((i,true)::pl) a w:=
 ⟨o,v,ho,hQ,.inl ⟨hw,fun w' hw'=>hy w' hw'⟩,hS,h⟩
theorem dN {i:Nat}{o:Oper}{K:Act→World→Prop}{pl:List (Nat×Bool)}{a:Act}{w:World}(ho:ops[i]? =some o)
  (h:∀K':Act→World→Prop,(∀a' w',S w'→qR P ops Q S K pl a' w'→K' a' w')→if Region.wanted o (yielded ops a.tmps)then o.wp P a w K' Q else K' (a.put o.dst undef) w):qR P ops Q S K ((i,false)::pl) a w:=by
 refine⟨o,ho,?_⟩
 have:=h (fun a' w'=>S w'∧qR P ops Q S K pl a' w') fun a' w' h1 h2=>⟨h1,h2⟩
 unfold wpOp
 simp only [ho]
 split
 ·rename_i hw;simp only [hw,if_true]at this;exact .inl this
 ·rename_i hw;simp only [hw]at this;exact this
theorem dG {K:Act→World→Prop}{a:Act}{w:World}(h:K a w):qR P ops Q S K [] a w:=h
end
theorem aF {α:Type}:(∀(l:List α) (i:Nat) (a:α),l.toArray.setIfInBounds i a=(l.set i a).toArray)∧(∀(x a:α) (l:List α),(x::l).set 0 a=a::l)∧(∀(x a:α) (l:List α) (n:Nat),(x::l).set (n+1) a=x::l.set n a):=
 ⟨fun _ _ _=>List.setIfInBounds_toArray _ _ _,fun _ _ _=>List.set_cons_zero,fun _ _ _ _=>List.set_cons_succ⟩
theorem drL {α:Type}:(∀(a:α) (l:List α) (i:Nat),(a::l).drop (i+1)=l.drop i)∧∀l:List α,l.drop 0=l:=⟨fun _ _ _=>rfl,fun _=>rfl⟩
end
section
open Go
inductive Pl where
 |nil:Pl
 |take:Nat→Pl→Pl
 |run:Nat→Pl→Pl
 |fork:Nat→Pl→Nat→Pl→Pl
def Pl.depth :Pl→Nat
 | .nil=>0
 | .take _ p=>p.depth+1
 | .run _ p=>p.depth+1
 | .fork _ p _ _=>p.depth+1
section
variable {P : Program} {ops : Array Oper} {Q : Exit → Act → World → Prop} {S : World → Prop} {md : Region.Mode}
def kJ (P:Program) (ops:Array Oper) (Q:Exit→Act→World→Prop) (S:World→Prop) (K:Act→World→Prop):Pl→Act→World→Prop
 | .nil,a,w=>K a w
 | .take i p,a,w=>∃o v,ops[i]? =some o∧(∀c a' w',Q (.panic c) (a'.put o.dst v) w'→Q (.panic c) a' w')∧YieldsIf P ops S o v a∧S w∧kJ P ops Q S K p (a.put o.dst v) w
 | .run i p,a,w=>∃o,ops[i]? =some o∧wpOp P ops Q i (fun a' w'=>S w'∧kJ P ops Q S K p a' w') a w
 | .fork i p j q,a,w=>(∃o,ops[i]? =some o∧wpOp P ops Q i (fun a' w'=>S w'∧kJ P ops Q S K p a' w') a w)∧
   (∃o,ops[j]? =some o∧wpOp P ops Q j (fun a' w'=>S w'∧kJ P ops Q S K q a' w') a w)
def plB (md:Region.Mode) (ops:Array Oper) (n:Nat):Pl→Array Bool→Bool
 | .nil,listed=>Region.seqB md ops (ops.size-n) n listed
 | .take i p,listed=>decide (i<n)&&(Region.ready md ops listed).contains i&&Region.free md ops listed i&&plB md ops n p (listed.setIfInBounds i true)
 | .run i p,listed=>decide (i<n)&&decide (Region.ready md ops listed=[i])&&plB md ops n p (listed.setIfInBounds i true)
 | .fork i p j q,listed=>decide (i<n)&&decide (j<n)&&decide (Region.ready md ops listed=[i,j])&&decide (p.depth=q.depth)&&plB md ops n p (listed.setIfInBounds i true)&&plB md ops n q (listed.setIfInBounds j true)
theorem rF {n:Nat}{L:List Oper}(hL:ops=L.toArray) (hsel:Region.noSelect ops=true) (hs:Region.sinkB md ops n=true) (hc:Region.chainB md ops n=true) (hn:n<ops.size):
  ∀(pl:Pl) (listed:Array Bool) (a:Act) (w:World),HeadInv md ops n listed→plB md ops n pl listed=true→
   kJ P ops Q S (wpList P ops Q (L.drop n)) pl a w→jT P md ops Q S n (pl.depth+(ops.size-n)) listed a w
 | .nil,listed,a,w,_,hB,h=>by
  subst hL
  have hlen:(L.drop n).length=L.toArray.size-n:=by simp
  have:=pG (P:=P) (Q:=Q) (S:=S) (md:=md) (ops:=L.toArray) (n:=n) (L.drop n) n listed a w (Nat.le_refl _) (fun j=>by simp) (by rw [hlen];exact hB) h
  rw [hlen]at this
  rw [Pl.depth,Nat.zero_add];exact this
 | .take i pl,listed,a,w,inv,hB,h=>by
  simp only [plB,Bool.and_eq_true,decide_eq_true_eq]at hB
  obtain⟨⟨⟨hin,hr⟩,hf⟩,hB'⟩:=hB
  obtain⟨o,v,ho,hQ,hy,hS,hK⟩:=h
  have hr':i∈Region.ready md ops listed:=by simpa using hr
  rw [Pl.depth,show pl.depth+1+(ops.size-n)=pl.depth+(ops.size-n)+1 from by omega]
  exact lH ho (Region.noSelect_spec hsel) hQ hs hc hn hin _ listed a w inv (Region.free_spec ho hf) hr' hy hS
   (rF hL hsel hs hc hn pl _ _ _ (inv.set hr' hin) hB' hK)
 | .run i pl,listed,a,w,inv,hB,h=>by
  simp only [plB,Bool.and_eq_true,decide_eq_true_eq]at hB
  obtain⟨⟨hin,hr⟩,hB'⟩:=hB
  obtain⟨o,ho,hw⟩:=h
  rw [Pl.depth,show pl.depth+1+(ops.size-n)=pl.depth+(ops.size-n)+1 from by omega]
  refine⟨fun h1=>(by rw [hr]at h1;cases h1),fun j hj=> ?_⟩
  have hri:i∈Region.ready md ops listed:=by rw [hr];simp
  rw [hr]at hj
  have hji:j=i:=by simpa using hj
  subst hji
  exact wpOp_mono (fun a' w' h'=>⟨fun _=>h'.1,rF hL hsel hs hc hn pl _ _ _ (inv.set hri hin) hB' h'.2⟩) hw
 | .fork i p j q,listed,a,w,inv,hB,h=>by
  simp only [plB,Bool.and_eq_true,decide_eq_true_eq]at hB
  obtain⟨⟨⟨⟨⟨hin,hjn⟩,hr⟩,hd⟩,hB1⟩,hB2⟩:=hB
  obtain⟨⟨o,ho,hw⟩,o2,ho2,hw2⟩:=h
  rw [Pl.depth,show p.depth+1+(ops.size-n)=p.depth+(ops.size-n)+1 from by omega]
  refine⟨fun h1=>(by rw [hr]at h1;cases h1),fun k hk=> ?_⟩
  have hri:i∈Region.ready md ops listed:=by rw [hr];simp
  have hrj:j∈Region.ready md ops listed:=by rw [hr];simp
  rw [hr]at hk
  have hk':k=i∨k=j:=by simpa using hk
  rcases hk' with rfl|rfl
  ·exact wpOp_mono (fun a' w' h'=>⟨fun _=>h'.1,rF hL hsel hs hc hn p _ _ _ (inv.set hri hin) hB1 h'.2⟩) hw
  ·rw [hd]
   exact wpOp_mono (fun a' w' h'=>⟨fun _=>h'.1,rF hL hsel hs hc hn q _ _ _ (inv.set hrj hjn) hB2 h'.2⟩) hw2
def aXp (ops:Array Oper) (n:Nat) (pl:Pl):Bool:=
 Region.noSelect ops&&decide (n<ops.size)&&decide (pl.depth=n)&&Region.sinkB .any ops n&&Region.chainB .any ops n&&plB .any ops n pl (Array.replicate ops.size false)
theorem aC {id:Nat}{a:Act}{w:World}{L:List Oper}(S:World→Prop) (n:Nat) (pl:Pl) (hm:P.follows .mixedOrders=true) (hB:aXp L.toArray n pl=true)
  (h:kJ P L.toArray Q S (wpList P L.toArray Q (L.drop n)) pl a w.drew):(Code.region id L.toArray true).wp P Q a w:=by
 simp only [aXp,Bool.and_eq_true,decide_eq_true_eq]at hB
 obtain⟨⟨⟨⟨⟨hsel,hn⟩,hlen⟩,hs⟩,hc⟩,hp⟩:=hB
 have inv0:HeadInv .any L.toArray n (Array.replicate L.toArray.size false):=
  ⟨by simp,fun j oj _ hl=>(by rw [getD_replicate_false]at hl;cases hl),fun t _ ht=>getD_in (by simpa using ht) (getD_replicate_false _ _)⟩
 have:=rF (P:=P) (Q:=Q) (S:=S) rfl hsel hs hc hn pl _ a w.drew inv0 hp h
 rw [hlen,show n+(L.toArray.size-n)=L.toArray.size from by omega]at this
 exact wp_region_any hm (qA _ _ _ _ this)
theorem bD {i:Nat}{o:Oper}{v:Value}{K:Act→World→Prop}{pl:Pl}{a:Act}{w:World}(ho:ops[i]? =some o) (hQ:∀c a' w',Q (.panic c) (a'.put o.dst v) w'→Q (.panic c) a' w')
  (hw:Region.wanted o (yielded ops a.tmps)=true) (hy:∀w',S w'→(execOp a.eval o).run P w'= .ok (.value v) w') (hS:S w) (h:kJ P ops Q S K pl (a.put o.dst v) w):kJ P ops Q S K (.take i pl) a w:=
 ⟨o,v,ho,hQ,.inl ⟨hw,fun w' hw'=>hy w' hw'⟩,hS,h⟩
theorem aZ {i:Nat}{o:Oper}{K:Act→World→Prop}{pl:Pl}{a:Act}{w:World}(ho:ops[i]? =some o)
  (h:∀K':Act→World→Prop,(∀a' w',S w'→kJ P ops Q S K pl a' w'→K' a' w')→if Region.wanted o (yielded ops a.tmps)then o.wp P a w K' Q else K' (a.put o.dst undef) w):kJ P ops Q S K (.run i pl) a w:=by
 refine⟨o,ho,?_⟩
 have:=h (fun a' w'=>S w'∧kJ P ops Q S K pl a' w') fun a' w' h1 h2=>⟨h1,h2⟩
 unfold wpOp
 simp only [ho]
 split
 ·rename_i hw;simp only [hw,if_true]at this;exact .inl this
 ·rename_i hw;simp only [hw]at this;exact this
theorem aE1 {i:Nat}{o:Oper}{K:Act→World→Prop}{pl:Pl}{a:Act}{w:World}(ho:ops[i]? =some o) (hw:Region.wanted o (yielded ops a.tmps)=true)
  (h:∀K':Act→World→Prop,(∀a' w',S w'→kJ P ops Q S K pl a' w'→K' a' w')→o.wp P a w K' Q):kJ P ops Q S K (.run i pl) a w:=
 aZ ho fun K' hK=>by rw [if_pos hw];exact h K' hK
theorem kR {i j:Nat}{K:Act→World→Prop}{p q:Pl}{a:Act}{w:World}(h1:kJ P ops Q S K (.run i p) a w) (h2:kJ P ops Q S K (.run j q) a w):kJ P ops Q S K (.fork i p j q) a w:=⟨h1,h2⟩
theorem aN {K:Act→World→Prop}{a:Act}{w:World}(h:K a w):kJ P ops Q S K .nil a w:=h
end
end
section
open Go
section
variable {P : Program} {L : List Oper} {Q : Exit → Act → World → Prop} {S : World → Prop}
theorem aE3 {i:Nat}{o:Oper}(ho:L[i]? =some o):L.toArray[i]? =some o:=by rw [List.getElem?_toArray];exact ho
theorem aKf {i k:Nat}{o:Oper}{v:Value}{K:Act→World→Prop}{pl:Pl}{a:Act}{w:World}(ho:L[i]? =some o) (hd:o.dst=some k)
  (hQ:∀c a' w',Q (.panic c) (a'.put o.dst v) w'→Q (.panic c) a' w')
  (hw:Region.wanted o (yielded L.toArray a.tmps)=true) (hy:∀w',S w'→(execOp a.eval o).run P w'= .ok (.value v) w') (hS:S w)
  (h:kJ P L.toArray Q S K pl {tmps:=a.tmps.setIfInBounds k v,defers:=a.defers} w):kJ P L.toArray Q S K (.take i pl) a w:=by
 refine bD (aE3 ho) hQ hw hy hS ?_
 rw [hd];exact h
theorem aI {i:Nat}{o:Oper}{K:Act→World→Prop}{pl:Pl}{a:Act}{w:World}(ho:L[i]? =some o) (hw:Region.wanted o (yielded L.toArray a.tmps)=true)
  (h:∀K':Act→World→Prop,(∀a' w',S w'→kJ P L.toArray Q S K pl a' w'→K' a' w')→o.wp P a w K' Q):kJ P L.toArray Q S K (.run i pl) a w:=
 aE1 (aE3 ho) hw h
end
theorem tkL {P:Program}{Q:Exit→Act→World→Prop}{S:World→Prop}{L:List Oper}{i k:Nat}{o:Oper}{v:Value}{K:Act→World→Prop}{pl:Pl}{a:Act}{w:World}(ho:L[i]? =some o) (hd:o.dst=some k) (hw:Region.wanted o (yielded L.toArray a.tmps)=true) (hy:∀w',S w'→(execOp a.eval o).run P w'= .ok (.value v) w') (hS:S w)
 (h:kJ P L.toArray Q S K pl {tmps:=a.tmps.setIfInBounds k v,defers:=a.defers} w) (hQ:∀c a' w',Q (.panic c) (a'.put o.dst v) w'→Q (.panic c) a' w':=by exact fun _ _ _ h=>h):kJ P L.toArray Q S K (.take i pl) a w:=aKf ho hd hQ hw hy hS h
end
section
open Go Go.RowKit
abbrev Ent :=Nat×Nat×List (Nat×Nat)
def prE (l:List Ent):List (Nat×Nat):=l.flatMap fun q=>(q.1,q.2.1)::q.2.2
def fls (l:List Ent):List (Nat×Nat):=l.flatMap fun q=>q.2.2
inductive Pq where
 |nil:Pq
 |take:Nat→Pq→Pq
 |run:Nat→Pq→Pq
 |bag:List Ent→Pq→Pq
def Pq.depth :Pq→Nat
 | .nil=>0
 | .take _ p=>p.depth+1
 | .run _ p=>p.depth+1
 | .bag l p=>p.depth+(prE l).length
def mY :List (Nat×Nat)→(Nat→Value)→Array Value→Array Value
 |[],_,t=>t
 |(i,d)::r,vals,t=>mY r vals (t.setIfInBounds d (vals i))
def nodupB :List Nat→Bool
 |[]=>true
 |x::r=> !r.contains x&&nodupB r
section
variable {P : Program} {ops : Array Oper} {Q : Exit → Act → World → Prop} {S : World → Prop} {md : Region.Mode}
def aBf (P:Program) (md:Region.Mode) (S:World→Prop) (l:List (Nat×Nat)) (R:Nat→Value→World→Prop) (a:Act) (w:World) (i:Nat) (o:Oper):Prop:=
 ∀(a':Act) (w':World),a'.defers=a.defers→(∀k,(∀p∈l,p.2≠k)→a'.tmps.getD k undef=a.tmps.getD k undef)→
  (∀e∈o.after,Region.binds md e=true→∀d,(e.on,d)∈l→R e.on (a'.tmps.getD d undef) w')→Below w.heap.size w w'→
  ∃v,(∀w3,S w3→(execOp a'.eval o).run P w3= .ok (.value v) w3)∧R i v w'
def kH (P:Program) (md:Region.Mode) (Q:Exit→Act→World→Prop) (l:List (Nat×Nat)) (R:Nat→Value→World→Prop) (a:Act) (w:World) (i:Nat) (o:Oper):Prop:=
 ∀(a':Act) (w':World),a'.defers=a.defers→(∀k,(∀p∈l,p.2≠k)→a'.tmps.getD k undef=a.tmps.getD k undef)→
  (∀e∈o.after,Region.binds md e=true→∀d,(e.on,d)∈l→R e.on (a'.tmps.getD d undef) w')→Below w.heap.size w w'→
  ∀K:Act→World→Prop,(∀v w2,R i v w2→Below w'.heap.size w' w2→K (a'.put o.dst v) w2)→o.wp P a' w' K Q
def oW (P:Program) (md:Region.Mode) (Q:Exit→Act→World→Prop) (l:List (Nat×Nat)) (R:Nat→Value→World→Prop) (D:Nat→Value→Nat→Value→Prop) (a:Act) (w:World) (i:Nat) (o:Oper):Prop:=
 ∀(dn:Nat→Prop) (a':Act) (w':World),a'.defers=a.defers→(∀k,(∀p∈l,p.2≠k)→a'.tmps.getD k undef=a.tmps.getD k undef)→
  (∀e∈o.after,Region.binds md e=true→∀d,(e.on,d)∈l→R e.on (a'.tmps.getD d undef) w')→(∀p∈l,dn p.1→R p.1 (a'.tmps.getD p.2 undef) w')→Below w.heap.size w w'→
  ∀K:Act→World→Prop,(∀v w2,R i v w2→(∀p∈l,dn p.1→D i v p.1 (a'.tmps.getD p.2 undef))→Below w'.heap.size w' w2→K (a'.put o.dst v) w2)→o.wp P a' w' K Q
theorem kH.aX6 {l:List (Nat×Nat)}{R:Nat→Value→World→Prop}{a:Act}{w:World}{i:Nat}{o:Oper}(h:kH P md Q l R a w i o):oW P md Q l R (fun _ _ _ _=>True) a w i o:=
 fun _ a' w' h1 h2 h3 _ h5 K hK=>h a' w' h1 h2 h3 h5 K fun v w2 h6 h7=>hK v w2 h6 (fun _ _ _=>trivial) h7
def aA4 (P:Program) (md:Region.Mode) (ops:Array Oper) (Q:Exit→Act→World→Prop) (S:World→Prop) (K:Act→World→Prop):Pq→Act→World→Prop
 | .nil,a,w=>K a w
 | .take i p,a,w=>∃o v,ops[i]? =some o∧(∀c a' w',Q (.panic c) (a'.put o.dst v) w'→Q (.panic c) a' w')∧YieldsIf P ops S o v a∧S w∧aA4 P md ops Q S K p (a.put o.dst v) w
 | .run i p,a,w=>∃o,ops[i]? =some o∧wpOp P ops Q i (fun a' w'=>S w'∧aA4 P md ops Q S K p a' w') a w
 | .bag l p,a,w=>∃(R:Nat→Value→World→Prop) (D:Nat→Value→Nat→Value→Prop),(∀i v w1 w2,R i v w1→Below w1.heap.size w1 w2→R i v w2)∧(∀w',Below w.heap.size w w'→S w')∧(∀q∈prE l,q.2<a.tmps.size)∧
   (∀c (d:Nat) v (a':Act) w',Q (.panic c) {tmps:=a'.tmps.setIfInBounds d v,defers:=a'.defers} w'→Q (.panic c) a' w')∧
   (∀q∈l,∀o,ops[q.1]? =some o→oW P md Q (prE l) R D a w q.1 o)∧(∀q∈fls l,∀v j u,D q.1 v j u)∧(∀q∈fls l,∀o,ops[q.1]? =some o→aBf P md S (prE l) R a w q.1 o)∧
   (∀(vals:Nat→Value) w',Below w.heap.size w w'→(∀q∈prE l,R q.1 (vals q.1) w')→(∀p∈prE l,∀q∈prE l,p.1≠q.1→D p.1 (vals p.1) q.1 (vals q.1)∨D q.1 (vals q.1) p.1 (vals p.1))→aA4 P md ops Q S K p {tmps:=mY (prE l) vals a.tmps,defers:=a.defers} w')
def vP (md:Region.Mode) (ops:Array Oper) (n:Nat):List (Nat×Nat)→Array Bool→Option (Array Bool)
 |[],ls=>some ls
 |(k,_)::r,ls=>if decide (k<n)&&(Region.ready md ops ls).contains k&&Region.free md ops ls k then vP md ops n r (ls.setIfInBounds k true)else none
def aFw (md:Region.Mode) (ops:Array Oper) (n:Nat) (l:List (Nat×Nat)) (f:Array Bool→Bool):Nat→List Ent→Array Bool→Bool
 |_,[],ls=>l.all (fun q=>ls.getD q.1 false)&&f ls
 |0,_::_,_=>false
 | m+1,x::r,ls=> !(Region.ready md ops ls).isEmpty&&(Region.ready md ops ls).all fun i=>
   match (x::r).find? (fun q=>q.1==i)with
   |none=>false
   | some q=>decide (i<n)&&(match vP md ops n q.2.2 (ls.setIfInBounds i true)with
    |none=>false
    |some ls2=>aFw md ops n l f m ((x::r).erase q) ls2)
def pqB (md:Region.Mode) (ops:Array Oper) (n:Nat):Pq→Array Bool→Bool
 | .nil,listed=>Region.seqB md ops (ops.size-n) n listed
 | .take i p,listed=>decide (i<n)&&(Region.ready md ops listed).contains i&&Region.free md ops listed i&&pqB md ops n p (listed.setIfInBounds i true)
 | .run i p,listed=>decide (i<n)&&decide (Region.ready md ops listed=[i])&&pqB md ops n p (listed.setIfInBounds i true)
 | .bag l p,listed=>(prE l).all (fun q=>listed.getD q.1 true==false&&((ops[q.1]?).map fun o=>o.dst==some q.2&&o.guard.isNone)==some true)&&nodupB ((prE l).map (·.1))&&nodupB ((prE l).map (·.2))&&
   aFw md ops n (prE l) (pqB md ops n p) l.length l listed
theorem yZ {l:List (Nat×Nat)}(h1:nodupB (l.map (·.2))=true) {p q:Nat×Nat}(hp:p∈l) (hq:q∈l) (h:p.2=q.2):p=q:=by
 induction l with
 |nil=>cases hp
 | cons x r ih=>
  simp only [List.map_cons,nodupB,Bool.and_eq_true,Bool.not_eq_true',List.contains_eq_mem,decide_eq_false_iff_not,List.mem_map,not_exists,not_and]at h1
  rcases List.mem_cons.1 hp with rfl|hp'
  ·rcases List.mem_cons.1 hq with rfl|hq'
   ·rfl
   ·exact absurd h.symm (h1.1 q hq')
  ·rcases List.mem_cons.1 hq with rfl|hq'
   ·exact absurd h (h1.1 p hp')
   ·exact ih h1.2 hp' hq'
theorem aD3 {l:List (Nat×Nat)}(h1:nodupB (l.map (·.1))=true) {p q:Nat×Nat}(hp:p∈l) (hq:q∈l) (h:p.1=q.1):p=q:=by
 induction l with
 |nil=>cases hp
 | cons x r ih=>
  simp only [List.map_cons,nodupB,Bool.and_eq_true,Bool.not_eq_true',List.contains_eq_mem,decide_eq_false_iff_not,List.mem_map,not_exists,not_and]at h1
  rcases List.mem_cons.1 hp with rfl|hp'
  ·rcases List.mem_cons.1 hq with rfl|hq'
   ·rfl
   ·exact absurd h.symm (h1.1 q hq')
  ·rcases List.mem_cons.1 hq with rfl|hq'
   ·exact absurd h (h1.1 p hp')
   ·exact ih h1.2 hp' hq'
theorem qX (l:List (Nat×Nat)) (vals:Nat→Value) (t:Array Value):(mY l vals t).size=t.size:=by
 induction l generalizing t with
 |nil=>rfl
 |cons x r ih=>obtain⟨i,d⟩:=x;rw [mY,ih];simp
theorem nO (t:Array Value) (d k:Nat) (v:Value):(t.setIfInBounds d v).getD k undef=if d=k∧k<t.size then v else t.getD k undef:=by
 simp only [Array.getD_eq_getD_getElem?,Array.getElem?_setIfInBounds]
 by_cases h:d=k
 ·subst h
  by_cases h2:d<t.size
  ·simp [h2]
  ·simp [h2]
 ·simp [h]
theorem kP {l:List (Nat×Nat)}{vals:Nat→Value}{t:Array Value}{k:Nat}{u:Value}(hin:∀q∈l,q.2=k→vals q.1=u) (hout:(∀q∈l,q.2≠k)→t.getD k undef=u) (hk:k<t.size):(mY l vals t).getD k undef=u:=by
 induction l generalizing t with
 |nil=>exact hout fun q hq=>by cases hq
 | cons x r ih=>
  obtain⟨i,d⟩:=x
  rw [mY]
  refine ih (fun q hq=>hin q (List.mem_cons_of_mem _ hq)) (fun ho=> ?_) (by simpa using hk)
  rw [nO]
  by_cases h:d=k
  ·rw [if_pos ⟨h,hk⟩];exact hin (i,d) (List.mem_cons_self ..) h
  ·rw [if_neg fun hh=>h hh.1]
   exact hout fun q hq=>by
    rcases List.mem_cons.1 hq with rfl|hq'
    ·exact h
    ·exact ho q hq'
theorem aLy {s t:Array Value}(h:s.size=t.size) (hk:∀k,k<s.size→s.getD k undef=t.getD k undef):s=t:=by
 refine Array.ext h fun i h1 h2=> ?_
 have:=hk i h1
 simpa [Array.getD_eq_getD_getElem?,h1,h2]using this
structure BInv (l:List (Nat×Nat)) (R:Nat→Value→World→Prop) (D:Nat→Value→Nat→Value→Prop) (a:Act) (ls:Array Bool) (a':Act) (w':World):Prop where
 df:a'.defers=a.defers
 size:a'.tmps.size=a.tmps.size
 out:∀k,(∀p∈l,p.2≠k)→a'.tmps.getD k undef=a.tmps.getD k undef
 done:∀q∈l,ls.getD q.1 false=true→R q.1 (a'.tmps.getD q.2 undef) w'
 apart:∀p∈l,∀q∈l,p.1≠q.1→ls.getD p.1 false=true→ls.getD q.1 false=true→D p.1 (a'.tmps.getD p.2 undef) q.1 (a'.tmps.getD q.2 undef)∨D q.1 (a'.tmps.getD q.2 undef) p.1 (a'.tmps.getD p.2 undef)
theorem BInv.put {l:List (Nat×Nat)}{R:Nat→Value→World→Prop}{D:Nat→Value→Nat→Value→Prop}{a a':Act}{ls:Array Bool}{w' w2:World}{k d:Nat}{v:Value}(h:BInv l R D a ls a' w')
  (hmono:∀i v,R i v w'→R i v w2) (hR:R k v w2) (hD:∀p∈l,ls.getD p.1 false=true→D k v p.1 (a'.tmps.getD p.2 undef)) (hkd:(k,d)∈l) (hnd1:nodupB (l.map (·.1))=true) (hnd:nodupB (l.map (·.2))=true) (hsz:∀q∈l,q.2<a.tmps.size):
  BInv l R D a (ls.setIfInBounds k true) {tmps:=a'.tmps.setIfInBounds d v,defers:=a'.defers} w2:=by
 have val:∀r∈l,(a'.tmps.setIfInBounds d v).getD r.2 undef=if r.1=k then v else a'.tmps.getD r.2 undef:=fun r hr=>by
  rw [nO]
  by_cases hrk:r.1=k
  ·rw [if_pos hrk]
   have e:r=(k,d):=aD3 hnd1 hr hkd hrk
   subst e
   rw [if_pos ⟨rfl,by rw [h.size];exact hsz _ hr⟩]
  ·rw [if_neg hrk,if_neg fun hh=>hrk (by have:=yZ hnd hr hkd hh.1.symm;rw [this])]
 have old:∀r∈l,r.1≠k→(ls.setIfInBounds k true).getD r.1 false=true→ls.getD r.1 false=true:=fun r _ hne hl=>by
  rwa [getD_set_ne false (fun e=>hne e.symm)]at hl
 refine⟨h.df,by simpa using h.size,fun j hj=> ?_,fun p hp hl=> ?_,fun p hp q hq hne hlp hlq=> ?_⟩
 ·show(a'.tmps.setIfInBounds d v).getD j undef=_
  rw [nO,if_neg fun hh=>hj (k,d) hkd hh.1];exact h.out j hj
 ·show R p.1 ((a'.tmps.setIfInBounds d v).getD p.2 undef) w2
  rw [val p hp]
  by_cases hpk:p.1=k
  ·rw [if_pos hpk,hpk];exact hR
  ·rw [if_neg hpk];exact hmono _ _ (h.done p hp (old p hp hpk hl))
 ·show D p.1 ((a'.tmps.setIfInBounds d v).getD p.2 undef) q.1 ((a'.tmps.setIfInBounds d v).getD q.2 undef)∨D q.1 ((a'.tmps.setIfInBounds d v).getD q.2 undef) p.1 ((a'.tmps.setIfInBounds d v).getD p.2 undef)
  rw [val p hp,val q hq]
  by_cases h1:p.1=k
  ·have h2:q.1≠k:=fun e=>hne (h1.trans e.symm)
   rw [if_pos h1,if_neg h2,h1];exact .inl (hD q hq (old q hq h2 hlq))
  ·by_cases h2:q.1=k
   ·rw [if_neg h1,if_pos h2,h2];exact .inr (hD p hp (old p hp h1 hlp))
   ·rw [if_neg h1,if_neg h2];exact h.apart p hp q hq hne (old p hp h1 hlp) (old q hq h2 hlq)
theorem aH5 {n X:Nat}{l:List (Nat×Nat)}{f:Array Bool→Bool}{R:Nat→Value→World→Prop}{D:Nat→Value→Nat→Value→Prop}{a a':Act}{w w':World}{ls:Array Bool}{m:Nat}(hnd1:nodupB (l.map (·.1))=true)
  (hfin:∀(vals:Nat→Value) w',Below w.heap.size w w'→(∀q∈l,R q.1 (vals q.1) w')→(∀p∈l,∀q∈l,p.1≠q.1→D p.1 (vals p.1) q.1 (vals q.1)∨D q.1 (vals q.1) p.1 (vals p.1))→jT P md ops Q S n X ls {tmps:=mY l vals a.tmps,defers:=a.defers} w')
  (hb:aFw md ops n l f m [] ls=true) (hI:BInv l R D a ls a' w') (hbel:Below w.heap.size w w'):jT P md ops Q S n ((prE []).length+X) ls a' w':=by
 have hb1:∀q∈l,ls.getD q.1 false=true:=by
  unfold aFw at hb
  simp only [Bool.and_eq_true,List.all_eq_true]at hb
  exact hb.1
 show jT P md ops Q S n (0+X) ls a' w'
 rw [Nat.zero_add]
 have hvals:∃vals:Nat→Value,∀q∈l,vals q.1=a'.tmps.getD q.2 undef:=by
  refine⟨fun i=>(l.find? (fun q=>q.1==i)).elim undef fun q=>a'.tmps.getD q.2 undef,fun q hq=> ?_⟩
  have hfind:l.find? (fun p=>p.1==q.1)=some q:=by
   clear hfin hb hb1 hI
   induction l with
   |nil=>cases hq
   | cons x r ih=>
    simp only [List.map_cons,nodupB,Bool.and_eq_true,Bool.not_eq_true',List.contains_eq_mem,decide_eq_false_iff_not,List.mem_map,not_exists,not_and]at hnd1
    rcases List.mem_cons.1 hq with rfl|hq'
    ·simp
    ·rw [List.find?_cons_of_neg (by simp;exact fun h=>hnd1.1 q hq' h.symm)]
     exact ih hnd1.2 hq'
  simp only [hfind,Option.elim_some]
 obtain⟨vals,hv⟩:=hvals
 have e:a'={tmps:=mY l vals a.tmps,defers:=a.defers}:=by
  obtain⟨hdf,hszz,hout,-,-⟩:=hI
  cases a' with
  | mk t df=>
   simp only at hdf hszz hout hv
   subst hdf
   congr 1
   refine aLy (by rw [qX];exact hszz) fun k hk=> ?_
   refine(kP (u:=t.getD k undef) (fun q hq hqk=>by rw [hv q hq,hqk]) (fun ho=>(hout k ho).symm) (by rw [←hszz];exact hk)).symm
 have hR:=fun q hq=>hI.done q hq (hb1 q hq)
 have hA:=fun p hp q hq hne=>hI.apart p hp q hq hne (hb1 p hp) (hb1 q hq)
 rw [e]
 exact hfin vals w' hbel (fun q hq=>by rw [hv q hq];exact hR q hq) fun p hp q hq hne=>by rw [hv p hp,hv q hq];exact hA p hp q hq hne
theorem wW {n fuel:Nat}{l:List (Nat×Nat)}{R:Nat→Value→World→Prop}{D:Nat→Value→Nat→Value→Prop}{a:Act}{w w2:World}(hsel:Region.noSelect ops=true) (hs:Region.sinkB md ops n=true) (hc:Region.chainB md ops n=true) (hn:n<ops.size)
  (hQ:∀c (d:Nat) v (a':Act) w',Q (.panic c) {tmps:=a'.tmps.setIfInBounds d v,defers:=a'.defers} w'→Q (.panic c) a' w')
  (hdst:∀q∈l,∀o,ops[q.1]? =some o→o.dst=some q.2∧o.guard=none) (hnd1:nodupB (l.map (·.1))=true) (hnd:nodupB (l.map (·.2))=true) (hsz:∀q∈l,q.2<a.tmps.size) (hS:S w2) (hbel:Below w.heap.size w w2) {ls2:Array Bool}
  (fin:∀a3,HeadInv md ops n ls2→BInv l R D a ls2 a3 w2→jT P md ops Q S n fuel ls2 a3 w2):
  ∀(fs:List (Nat×Nat)) (ls:Array Bool) (a2:Act),(∀q∈fs,q∈l)→(∀q∈fs,∀v j u,D q.1 v j u)→(∀q∈fs,∀o,ops[q.1]? =some o→aBf P md S l R a w q.1 o)→HeadInv md ops n ls→vP md ops n fs ls=some ls2→BInv l R D a ls a2 w2→jT P md ops Q S n (fs.length+fuel) ls a2 w2
 | [],ls,a2,_,_,_,inv,hf,hI=>by
  simp only [vP,Option.some.injEq]at hf
  subst hf
  rw [List.length_nil,Nat.zero_add];exact fin a2 inv hI
 | (k,d)::r,ls,a2,hin,hfr,hrd0,inv,hf,hI=>by
  simp only [vP]at hf
  split at hf
  ·rename_i hcond
   simp only [Bool.and_eq_true,decide_eq_true_eq,List.contains_eq_mem]at hcond
   obtain⟨⟨hkn,hrd⟩,hfree⟩:=hcond
   obtain⟨hun,ok,hok,hall⟩:=mem_ready.1 hrd
   obtain⟨hd,hg⟩:=hdst (k,d) (hin _ (List.mem_cons_self ..)) ok hok
   obtain⟨v,hy,hRk⟩:=hrd0 (k,d) (List.mem_cons_self ..) ok hok a2 w2 hI.df hI.out (fun e he hbn d hd=>hI.done (e.on,d) hd (hall e he hbn)) hbel
   rw [List.length_cons,show r.length+1+fuel=r.length+fuel+1 from by omega]
   refine lH hok (Region.noSelect_spec hsel) (by rw [hd];exact fun c a' w'=>hQ c _ _ a' w') hs hc hn hkn _ ls a2 w2 inv (Region.free_spec hok hfree) hrd (.inl ⟨by unfold Region.wanted;rw [hg],hy⟩) hS ?_
   have hput:a2.put ok.dst v={tmps:=a2.tmps.setIfInBounds d v,defers:=a2.defers}:=by rw [hd];rfl
   rw [hput]
   exact wW hsel hs hc hn hQ hdst hnd1 hnd hsz hS hbel fin r _ _ (fun q hq=>hin q (List.mem_cons_of_mem _ hq)) (fun q hq=>hfr q (List.mem_cons_of_mem _ hq)) (fun q hq=>hrd0 q (List.mem_cons_of_mem _ hq)) (inv.set hrd hkn) hf (hI.put (fun _ _ h=>h) hRk (fun _ _ _=>hfr (k,d) (List.mem_cons_self ..) _ _ _) (hin _ (List.mem_cons_self ..)) hnd1 hnd hsz)
  ·cases hf
theorem rO {n:Nat}{L:List Oper}(hL:ops=L.toArray) (hsel:Region.noSelect ops=true) (hs:Region.sinkB md ops n=true) (hc:Region.chainB md ops n=true) (hn:n<ops.size):
  ∀(pl:Pq) (listed:Array Bool) (a:Act) (w:World),HeadInv md ops n listed→pqB md ops n pl listed=true→
   aA4 P md ops Q S (wpList P ops Q (L.drop n)) pl a w→jT P md ops Q S n (pl.depth+(ops.size-n)) listed a w
 | .nil,listed,a,w,_,hB,h=>by
  subst hL
  have hlen:(L.drop n).length=L.toArray.size-n:=by simp
  have:=pG (P:=P) (Q:=Q) (S:=S) (md:=md) (ops:=L.toArray) (n:=n) (L.drop n) n listed a w (Nat.le_refl _) (fun j=>by simp) (by rw [hlen];exact hB) h
  rw [hlen]at this
  rw [Pq.depth,Nat.zero_add];exact this
 | .take i pl,listed,a,w,inv,hB,h=>by
  simp only [pqB,Bool.and_eq_true,decide_eq_true_eq]at hB
  obtain⟨⟨⟨hin,hr⟩,hf⟩,hB'⟩:=hB
  obtain⟨o,v,ho,hQ,hy,hS,hK⟩:=h
  have hr':i∈Region.ready md ops listed:=by simpa using hr
  rw [Pq.depth,show pl.depth+1+(ops.size-n)=pl.depth+(ops.size-n)+1 from by omega]
  exact lH ho (Region.noSelect_spec hsel) hQ hs hc hn hin _ listed a w inv (Region.free_spec ho hf) hr' hy hS
   (rO hL hsel hs hc hn pl _ _ _ (inv.set hr' hin) hB' hK)
 | .run i pl,listed,a,w,inv,hB,h=>by
  simp only [pqB,Bool.and_eq_true,decide_eq_true_eq]at hB
  obtain⟨⟨hin,hr⟩,hB'⟩:=hB
  obtain⟨o,ho,hw⟩:=h
  rw [Pq.depth,show pl.depth+1+(ops.size-n)=pl.depth+(ops.size-n)+1 from by omega]
  refine⟨fun h1=>(by rw [hr]at h1;cases h1),fun j hj=> ?_⟩
  have hri:i∈Region.ready md ops listed:=by rw [hr];simp
  rw [hr]at hj
  have hji:j=i:=by simpa using hj
  subst hji
  exact wpOp_mono (fun a' w' h'=>⟨fun _=>h'.1,rO hL hsel hs hc hn pl _ _ _ (inv.set hri hin) hB' h'.2⟩) hw
 | .bag l pl,listed,a,w,inv,hB,h=>by
  simp only [pqB,Bool.and_eq_true,List.all_eq_true,beq_iff_eq]at hB
  obtain⟨⟨⟨hB0,hnd1⟩,hnd⟩,hBB⟩:=hB
  obtain⟨R,D,hmono,hS,hsz,hQ,hstep,hfree,hread,hfin⟩:=h
  have hdg:∀q∈prE l,∀o,ops[q.1]? =some o→o.dst=some q.2∧o.guard=none:=fun q hq o ho=>by
   have h0:=(hB0 q hq).2
   rw [ho]at h0
   simpa only [Option.map_some,Option.some.injEq,Bool.and_eq_true,beq_iff_eq,Option.isNone_iff_eq_none]using h0
  have key:∀(m:Nat) (rem:List Ent) (ls:Array Bool) (a':Act) (w':World),(∀q∈rem,q∈l)→HeadInv md ops n ls→aFw md ops n (prE l) (pqB md ops n pl) m rem ls=true→
    BInv (prE l) R D a ls a' w'→Below w.heap.size w w'→jT P md ops Q S n ((prE rem).length+(pl.depth+(ops.size-n))) ls a' w':=by
   intro m
   induction m with
   | zero=>
    intro rem ls a' w' hrem inv' hb hI hbel
    cases rem with
    |cons x r=>simp [aFw]at hb
    |nil=>exact aH5 hnd1 (fun vals w' h1 h2 h3=>rO hL hsel hs hc hn pl _ _ _ inv' (by simp only [aFw,Bool.and_eq_true]at hb;exact hb.2) (hfin vals w' h1 h2 h3)) hb hI hbel
   | succ m ih=>
    intro rem ls a' w' hrem inv' hb hI hbel
    cases rem with
    |nil=>exact aH5 hnd1 (fun vals w' h1 h2 h3=>rO hL hsel hs hc hn pl _ _ _ inv' (by simp only [aFw,Bool.and_eq_true]at hb;exact hb.2) (hfin vals w' h1 h2 h3)) hb hI hbel
    | cons x r=>
     simp only [aFw,Bool.and_eq_true,List.all_eq_true,Bool.not_eq_true']at hb
     obtain⟨hne,hall⟩:=hb
     have hlen:∀q∈x::r,(prE (x::r)).length=(q.2.2.length+(prE ((x::r).erase q)).length)+1:=fun q hq=>by
      have:=(List.perm_cons_erase hq).flatMap_right (fun q:Ent=>(q.1,q.2.1)::q.2.2)|>.length_eq
      unfold prE
      rw [this]
      simp only [List.flatMap_cons,List.length_append,List.length_cons]
      omega
     have hpos:∃q0,q0∈x::r:=⟨x,List.mem_cons_self ..⟩
     obtain⟨q0,hq0⟩:=hpos
     rw [hlen q0 hq0,show q0.2.2.length+(prE ((x::r).erase q0)).length+1+(pl.depth+(ops.size-n))=(q0.2.2.length+(prE ((x::r).erase q0)).length+(pl.depth+(ops.size-n)))+1 from by omega]
     refine⟨fun h1=>(by rw [h1]at hne;simp at hne),fun j hj=> ?_⟩
     have hb':=hall j hj
     cases hfq:(x::r).find? (fun q=>q.1==j)with
     |none=>rw [hfq]at hb';cases hb'
     | some q=>
      rw [hfq]at hb'
      have hqm:=List.mem_of_find?_eq_some hfq
      have hqj:q.1=j:=by have:=List.find?_some hfq;simpa using this
      subst hqj
      simp only [Bool.and_eq_true,decide_eq_true_eq]at hb'
      obtain⟨hjn,hb2⟩:=hb'
      cases hfb:vP md ops n q.2.2 (ls.setIfInBounds q.1 true)with
      |none=>rw [hfb]at hb2;cases hb2
      | some ls2=>
       rw [hfb]at hb2
       obtain⟨hun,oj,hoj,hallj⟩:=mem_ready.1 hj
       have hql:=hrem q hqm
       have hqp:(q.1,q.2.1)∈prE l:=List.mem_flatMap.2 ⟨q,hql,List.mem_cons_self ..⟩
       have hfp:∀p∈q.2.2,p∈prE l:=fun p hp=>List.mem_flatMap.2 ⟨q,hql,List.mem_cons_of_mem _ hp⟩
       obtain⟨hd,hg⟩:=hdg _ hqp oj hoj
       unfold wpOp
       simp only [hoj]
       rw [if_pos (by unfold Region.wanted;rw [hg])]
       refine .inl ?_
       refine hstep q hql oj hoj (fun i=>ls.getD i false=true) a' w' hI.df hI.out (fun e he hbn d hd=>hI.done (e.on,d) hd (hallj e he hbn)) (fun p hp hd=>hI.done p hp hd) hbel _ fun v w2 hRv hDv hb2'=> ?_
       have hbel2:Below w.heap.size w w2:=hbel.trans (hb2'.mono hbel.size)
       refine⟨fun _=>hS w2 hbel2,?_⟩
       have hput:a'.put oj.dst v={tmps:=a'.tmps.setIfInBounds q.2.1 v,defers:=a'.defers}:=by rw [hd];rfl
       rw [hput]
       have he:q0.2.2.length+(prE ((x::r).erase q0)).length+(pl.depth+(ops.size-n))=q.2.2.length+((prE ((x::r).erase q)).length+(pl.depth+(ops.size-n))):=by
        have h1:=hlen q0 hq0
        have h2:=hlen q hqm
        omega
       rw [he]
       exact wW hsel hs hc hn hQ hdg hnd1 hnd hsz (hS w2 hbel2) hbel2
        (fun a3 inv3 hI3=>ih _ _ _ _ (fun p hp=>hrem p (List.mem_of_mem_erase hp)) inv3 hb2 hI3 hbel2) q.2.2 _ _ hfp (fun p hp=>hfree p (List.mem_flatMap.2 ⟨q,hql,hp⟩)) (fun p hp=>hread p (List.mem_flatMap.2 ⟨q,hql,hp⟩)) (inv'.set hj hjn) hfb
        (hI.put (fun i v h=>hmono i v _ _ h hb2') hRv hDv hqp hnd1 hnd hsz)
  have:=key l.length l listed a w (fun _ h=>h) inv hBB ⟨rfl,rfl,fun _ _=>rfl,(fun q hq hl=>by
   have:=getD_both (hB0 q hq).1
   rw [this]at hl;cases hl),(fun p hp _ _ _ hl _=>by
   have:=getD_both (hB0 p hp).1
   rw [this]at hl;cases hl)⟩ (Below.refl _ _)
  rw [Pq.depth,show pl.depth+(prE l).length+(ops.size-n)=(prE l).length+(pl.depth+(ops.size-n))from by omega]
  exact this
def goQ (ops:Array Oper) (n:Nat) (pl:Pq):Bool:=
 Region.noSelect ops&&decide (n<ops.size)&&decide (pl.depth=n)&&Region.sinkB .any ops n&&Region.chainB .any ops n&&pqB .any ops n pl (Array.replicate ops.size false)
theorem aA0 {id:Nat}{a:Act}{w:World}{L:List Oper}(S:World→Prop) (n:Nat) (pl:Pq) (hm:P.follows .mixedOrders=true) (hB:goQ L.toArray n pl=true)
  (h:aA4 P .any L.toArray Q S (wpList P L.toArray Q (L.drop n)) pl a w.drew):(Code.region id L.toArray true).wp P Q a w:=by
 simp only [goQ,Bool.and_eq_true,decide_eq_true_eq]at hB
 obtain⟨⟨⟨⟨⟨hsel,hn⟩,hlen⟩,hs⟩,hc⟩,hp⟩:=hB
 have inv0:HeadInv .any L.toArray n (Array.replicate L.toArray.size false):=
  ⟨by simp,fun j oj _ hl=>(by rw [getD_replicate_false]at hl;cases hl),fun t _ ht=>getD_in (by simpa using ht) (getD_replicate_false _ _)⟩
 have:=rO (P:=P) (Q:=Q) (S:=S) rfl hsel hs hc hn pl _ a w.drew inv0 hp h
 rw [hlen,show n+(L.toArray.size-n)=L.toArray.size from by omega]at this
 exact wp_region_any hm (qA _ _ _ _ this)
section
variable {L : List Oper}
theorem aC4 {i k:Nat}{o:Oper}{v:Value}{K:Act→World→Prop}{pl:Pq}{a:Act}{w:World}(ho:L[i]? =some o) (hd:o.dst=some k)
  (hQ:∀c a' w',Q (.panic c) (a'.put o.dst v) w'→Q (.panic c) a' w')
  (hw:Region.wanted o (yielded L.toArray a.tmps)=true) (hy:∀w',S w'→(execOp a.eval o).run P w'= .ok (.value v) w') (hS:S w)
  (h:aA4 P md L.toArray Q S K pl {tmps:=a.tmps.setIfInBounds k v,defers:=a.defers} w):aA4 P md L.toArray Q S K (.take i pl) a w:=by
 refine⟨o,v,aE3 ho,hQ,.inl ⟨hw,fun w' hw'=>hy w' hw'⟩,hS,?_⟩
 rw [hd];exact h
theorem aQp {l:List Ent}{K:Act→World→Prop}{pl:Pq}{a:Act}{w:World}(R:Nat→Value→World→Prop) (hmono:∀i v w1 w2,R i v w1→Below w1.heap.size w1 w2→R i v w2)
  (hS:∀w',Below w.heap.size w w'→S w') (hsz:∀q∈prE l,q.2<a.tmps.size) (hQ:∀c (d:Nat) v (a':Act) w',Q (.panic c) {tmps:=a'.tmps.setIfInBounds d v,defers:=a'.defers} w'→Q (.panic c) a' w')
  (hstep:∀q∈l,∀o,L[q.1]? =some o→kH P md Q (prE l) R a w q.1 o) (hread:∀q∈fls l,∀o,L[q.1]? =some o→aBf P md S (prE l) R a w q.1 o)
  (h:∀(vals:Nat→Value) w',Below w.heap.size w w'→(∀q∈prE l,R q.1 (vals q.1) w')→aA4 P md L.toArray Q S K pl {tmps:=mY (prE l) vals a.tmps,defers:=a.defers} w'):
  aA4 P md L.toArray Q S K (.bag l pl) a w:=
 ⟨R,fun _ _ _ _=>True,hmono,hS,hsz,hQ,fun q hq o ho=>(hstep q hq o (by rw [←ho,List.getElem?_toArray])).aX6,fun _ _ _ _ _=>trivial,fun q hq o ho=>hread q hq o (by rw [←ho,List.getElem?_toArray]),fun vals w' h1 h2 _=>h vals w' h1 h2⟩
def aS0 (A:List Nat) (i:Nat) (v:Value) (j:Nat) (u:Value):Prop:=i∈A→j∈A→∀r s,v= .pointer (some ⟨r,0,none⟩)→u= .pointer (some ⟨s,0,none⟩)→r≠s
theorem aM7 {l:List Ent}{K:Act→World→Prop}{pl:Pq}{a:Act}{w:World}(A:List Nat) (R:Nat→Value→World→Prop) (hmono:∀i v w1 w2,R i v w1→Below w1.heap.size w1 w2→R i v w2)
  (hS:∀w',Below w.heap.size w w'→S w') (hsz:∀q∈prE l,q.2<a.tmps.size) (hQ:∀c (d:Nat) v (a':Act) w',Q (.panic c) {tmps:=a'.tmps.setIfInBounds d v,defers:=a'.defers} w'→Q (.panic c) a' w')
  (hA:∀q∈fls l,q.1∉A)
  (hstep:∀q∈l,∀o,L[q.1]? =some o→oW P md Q (prE l) R (aS0 A) a w q.1 o) (hread:∀q∈fls l,∀o,L[q.1]? =some o→aBf P md S (prE l) R a w q.1 o)
  (h:∀(vals:Nat→Value) w',Below w.heap.size w w'→(∀q∈prE l,R q.1 (vals q.1) w')→(∀p∈prE l,∀q∈prE l,p.1≠q.1→p.1∈A→q.1∈A→∀r s,vals p.1= .pointer (some ⟨r,0,none⟩)→vals q.1= .pointer (some ⟨s,0,none⟩)→r≠s)→
   aA4 P md L.toArray Q S K pl {tmps:=mY (prE l) vals a.tmps,defers:=a.defers} w'):
  aA4 P md L.toArray Q S K (.bag l pl) a w:=
 ⟨R,aS0 A,hmono,hS,hsz,hQ,fun q hq o ho=>hstep q hq o (by rw [←ho,List.getElem?_toArray]),fun q hq _ _ _ hi=>absurd hi (hA q hq),fun q hq o ho=>hread q hq o (by rw [←ho,List.getElem?_toArray]),
  fun vals w' h1 h2 h3=>h vals w' h1 h2 fun p hp q hq hne hpA hqA r s hr hs=>by
   rcases h3 p hp q hq hne with h4|h4
   ·exact h4 hpA hqA r s hr hs
   ·exact(h4 hqA hpA s r hs hr).symm⟩
theorem kH.other {A:List Nat}{l:List (Nat×Nat)}{R:Nat→Value→World→Prop}{a:Act}{w:World}{i:Nat}{o:Oper}(hi:i∉A) (h:kH P md Q l R a w i o):oW P md Q l R (aS0 A) a w i o:=
 fun _ a' w' h1 h2 h3 _ h5 K hK=>h a' w' h1 h2 h3 h5 K fun v w2 h6 h7=>hK v w2 h6 (fun _ _ _ hh=>absurd hh hi) h7
theorem kH.fresh {A:List Nat}{l:List (Nat×Nat)}{R:Nat→Value→World→Prop}{a:Act}{w:World}{i:Nat}{o:Oper}(hR:∀j∈A,∀s w',R j (.pointer (some ⟨s,0,none⟩)) w'→s<w'.heap.size)
  (h:∀(a':Act) (w':World),a'.defers=a.defers→(∀k,(∀p∈l,p.2≠k)→a'.tmps.getD k undef=a.tmps.getD k undef)→
   (∀e∈o.after,Region.binds md e=true→∀d,(e.on,d)∈l→R e.on (a'.tmps.getD d undef) w')→Below w.heap.size w w'→
   ∀K:Act→World→Prop,(∀w2,R i (.pointer (some ⟨w'.heap.size,0,none⟩)) w2→Below w'.heap.size w' w2→K (a'.put o.dst (.pointer (some ⟨w'.heap.size,0,none⟩))) w2)→o.wp P a' w' K Q):oW P md Q l R (aS0 A) a w i o:=
 fun _ a' w' h1 h2 h3 h4 h5 K hK=>h a' w' h1 h2 h3 h5 K fun w2 h6 h7=>hK _ w2 h6 (fun p hp hd _ hj r s hr hs=>by
  have h8:=h4 p hp hd
  rw [hs]at h8
  have h9:=hR p.1 hj s w' h8
  simp only [Value.pointer.injEq,Option.some.injEq,Addr.mk.injEq,and_true]at hr
  omega) h7
def pick :List (Nat×(Value→World→Prop))→Nat→Value→World→Prop
 |[],_=>fun _ _=>True
 |(j,F)::r,i=>if i=j then F else pick r i
theorem aAm :∀{l:List (Nat×(Value→World→Prop))},(∀q∈l,∀v w1 w2,q.2 v w1→Below w1.heap.size w1 w2→q.2 v w2)→∀i v w1 w2,pick l i v w1→Below w1.heap.size w1 w2→pick l i v w2
 |[],_,_,_,_,_,_,_=>trivial
 | (j,F)::r,h,i,v,w1,w2,hp,hb=>by
  unfold pick at hp ⊢
  by_cases e:i=j
  ·rw [if_pos e]at hp ⊢;exact h (j,F) (List.mem_cons_self ..) v w1 w2 hp hb
  ·rw [if_neg e]at hp ⊢;exact aAm (fun q hq=>h q (List.mem_cons_of_mem _ hq)) i v w1 w2 hp hb
theorem evT {a:Act}{k:Nat}{v:Value}(h:a.tmps.getD k undef=v):a.tmps[k]?.getD undef=v:=by rw [←h,Array.getD_eq_getD_getElem?]
theorem rV {α:Type}{F:α→Prop}:∀q∈([]:List α),F q:=fun _ h=>by cases h
theorem gB {α:Type}{F:α→Prop}{x:α}{r:List α}(h:F x) (t:∀q∈r,F q):∀q∈x::r,F q:=fun q hq=>by
 rcases List.mem_cons.1 hq with rfl|hq
 ·exact h
 ·exact t q hq
theorem aE0 {l:List (Nat×Nat)}{R:Nat→Value→World→Prop}{a:Act}{w:World}{i d:Nat}{fs:List (Nat×Nat)}{o:Oper}(ho:L[i]? =some o) (h:kH P md Q l R a w i o):
  ∀o',L[((i,d,fs):Ent).1]? =some o'→kH P md Q l R a w ((i,d,fs):Ent).1 o':=fun o' ho'=>by
 have e:o'=o:=Option.some.inj (ho'.symm.trans ho)
 subst e;exact h
theorem yL {l:List (Nat×Nat)}{R:Nat→Value→World→Prop}{D:Nat→Value→Nat→Value→Prop}{a:Act}{w:World}{i d:Nat}{fs:List (Nat×Nat)}{o:Oper}(ho:L[i]? =some o) (h:oW P md Q l R D a w i o):
  ∀o',L[((i,d,fs):Ent).1]? =some o'→oW P md Q l R D a w ((i,d,fs):Ent).1 o':=fun o' ho'=>by
 have e:o'=o:=Option.some.inj (ho'.symm.trans ho)
 subst e;exact h
theorem aGk {K:Act→World→Prop}{a:Act}{w:World}(h:K a w):aA4 P md L.toArray Q S K .nil a w:=h
end
end
end
section
open Go Go.RowKit
inductive Pm where
 |nil:Pm
 |take:Nat→Pm→Pm
 |run:Nat→Pm→Pm
 |mix:List (Nat×Nat)→Pm→Pm
def Pm.depth :Pm→Nat
 | .nil=>0
 | .take _ p=>p.depth+1
 | .run _ p=>p.depth+1
 | .mix l p=>p.depth+l.length
def aIe (vals:Nat→Value) (i:Nat) (v:Value):Nat→Value:=fun k=>if k=i then v else vals k
section
variable {P : Program} {ops : Array Oper} {Q : Exit → Act → World → Prop} {S : World → Prop} {md : Region.Mode}
def aAh (P:Program) (md:Region.Mode) (ops:Array Oper) (Q:Exit→Act→World→Prop) (S:World→Prop) (K:Act→World→Prop):Pm→Act→World→Prop
 | .nil,a,w=>K a w
 | .take i p,a,w=>∃o v,ops[i]? =some o∧(∀c a' w',Q (.panic c) (a'.put o.dst v) w'→Q (.panic c) a' w')∧YieldsIf P ops S o v a∧S w∧aAh P md ops Q S K p (a.put o.dst v) w
 | .run i p,a,w=>∃o,ops[i]? =some o∧wpOp P ops Q i (fun a' w'=>S w'∧aAh P md ops Q S K p a' w') a w
 | .mix l p,a,w=>∃(J:(Nat→Bool)→(Nat→Value)→World→Prop) (v0:Nat→Value),a={tmps:=mY l v0 a.tmps,defers:=a.defers}∧(∀q∈l,q.2<a.tmps.size)∧(∀dn,(∀q∈l,dn q.1=false)→J dn v0 w)∧
   (∀q∈l,∀o,ops[q.1]? =some o→∀dn vals w',dn q.1=false→(∀e∈o.after,Region.binds md e=true→∀d,(e.on,d)∈l→dn e.on=true)→J dn vals w'→
    ∀K':Act→World→Prop,(∀v w2 dn',dn' q.1=true→(∀j,j≠q.1→dn' j=dn j)→S w2→J dn' (aIe vals q.1 v) w2→K' (({tmps:=mY l vals a.tmps,defers:=a.defers}:Act).put o.dst v) w2)→o.wp P {tmps:=mY l vals a.tmps,defers:=a.defers} w' K' Q)∧
   ∀dn vals w',(∀q∈l,dn q.1=true)→J dn vals w'→aAh P md ops Q S K p {tmps:=mY l vals a.tmps,defers:=a.defers} w'
def aP0 (md:Region.Mode) (ops:Array Oper) (n:Nat) (l:List (Nat×Nat)) (f:Array Bool→Bool):Nat→Array Bool→Bool
 |0,ls=>l.all (fun q=>ls.getD q.1 false)&&f ls
 |m+1,ls=> !(Region.ready md ops ls).isEmpty&&(Region.ready md ops ls).all fun i=>l.any (fun q=>q.1==i)&&decide (i<n)&&aP0 md ops n l f m (ls.setIfInBounds i true)
def pmB (md:Region.Mode) (ops:Array Oper) (n:Nat):Pm→Array Bool→Bool
 | .nil,listed=>Region.seqB md ops (ops.size-n) n listed
 | .take i p,listed=>decide (i<n)&&(Region.ready md ops listed).contains i&&Region.free md ops listed i&&pmB md ops n p (listed.setIfInBounds i true)
 | .run i p,listed=>decide (i<n)&&decide (Region.ready md ops listed=[i])&&pmB md ops n p (listed.setIfInBounds i true)
 | .mix l p,listed=>l.all (fun q=>listed.getD q.1 true==false&&((ops[q.1]?).map fun o=>o.dst==some q.2&&o.guard.isNone)==some true)&&nodupB (l.map (·.1))&&nodupB (l.map (·.2))&&aP0 md ops n l (pmB md ops n p) l.length listed
theorem aQl {l:List (Nat×Nat)}{vals:Nat→Value}{t:Array Value}{i d:Nat}{v:Value}(h1:nodupB (l.map (·.1))=true) (h2:nodupB (l.map (·.2))=true) (hm:(i,d)∈l):
  (mY l vals t).setIfInBounds d v=mY l (aIe vals i v) t:=by
 refine aLy (by simp [qX]) fun k hk=> ?_
 have hkt:k<t.size:=by simpa [qX]using hk
 rw [nO,qX]
 by_cases hdk:d=k
 ·subst hdk
  rw [if_pos ⟨rfl,hkt⟩]
  exact(kP (fun q hq e=>by
   have:q=(i,d):=yZ h2 hq hm e
   subst this;exact if_pos rfl) (fun ho=>absurd rfl (ho _ hm)) hkt).symm
 ·rw [if_neg (fun h=>hdk h.1)]
  by_cases hin:∃q∈l,q.2=k
  ·obtain⟨q,hq,hqk⟩:=hin
   have hne:q.1≠i:=fun e=>hdk (by have:=aD3 h1 hq hm e;subst this;exact hqk)
   have uni:∀p∈l,p.2=k→p=q:=fun p hp e=>yZ h2 hp hq (e.trans hqk.symm)
   rw [kP (u:=vals q.1) (fun p hp e=>by rw [uni p hp e]) (fun ho=>absurd hqk (ho q hq)) hkt,
    kP (u:=vals q.1) (fun p hp e=>by rw [uni p hp e];exact if_neg hne) (fun ho=>absurd hqk (ho q hq)) hkt]
  ·have ho:∀q∈l,q.2≠k:=fun q hq e=>hin ⟨q,hq,e⟩
   rw [kP (u:=t.getD k undef) (fun q hq e=>absurd e (ho q hq)) (fun _=>rfl) hkt,kP (u:=t.getD k undef) (fun q hq e=>absurd e (ho q hq)) (fun _=>rfl) hkt]
theorem vV {n:Nat}{L:List Oper}(hL:ops=L.toArray) (hsel:Region.noSelect ops=true) (hs:Region.sinkB md ops n=true) (hc:Region.chainB md ops n=true) (hn:n<ops.size):
  ∀(pl:Pm) (listed:Array Bool) (a:Act) (w:World),HeadInv md ops n listed→pmB md ops n pl listed=true→
   aAh P md ops Q S (wpList P ops Q (L.drop n)) pl a w→jT P md ops Q S n (pl.depth+(ops.size-n)) listed a w
 | .nil,listed,a,w,_,hB,h=>by
  subst hL
  have hlen:(L.drop n).length=L.toArray.size-n:=by simp
  have:=pG (P:=P) (Q:=Q) (S:=S) (md:=md) (ops:=L.toArray) (n:=n) (L.drop n) n listed a w (Nat.le_refl _) (fun j=>by simp) (by rw [hlen];exact hB) h
  rw [hlen]at this
  rw [Pm.depth,Nat.zero_add];exact this
 | .take i pl,listed,a,w,inv,hB,h=>by
  simp only [pmB,Bool.and_eq_true,decide_eq_true_eq]at hB
  obtain⟨⟨⟨hin,hr⟩,hf⟩,hB'⟩:=hB
  obtain⟨o,v,ho,hQ,hy,hS,hK⟩:=h
  have hr':i∈Region.ready md ops listed:=by simpa using hr
  rw [Pm.depth,show pl.depth+1+(ops.size-n)=pl.depth+(ops.size-n)+1 from by omega]
  exact lH ho (Region.noSelect_spec hsel) hQ hs hc hn hin _ listed a w inv (Region.free_spec ho hf) hr' hy hS
   (vV hL hsel hs hc hn pl _ _ _ (inv.set hr' hin) hB' hK)
 | .run i pl,listed,a,w,inv,hB,h=>by
  simp only [pmB,Bool.and_eq_true,decide_eq_true_eq]at hB
  obtain⟨⟨hin,hr⟩,hB'⟩:=hB
  obtain⟨o,ho,hw⟩:=h
  rw [Pm.depth,show pl.depth+1+(ops.size-n)=pl.depth+(ops.size-n)+1 from by omega]
  refine⟨fun h1=>(by rw [hr]at h1;cases h1),fun j hj=> ?_⟩
  have hri:i∈Region.ready md ops listed:=by rw [hr];simp
  rw [hr]at hj
  have hji:j=i:=by simpa using hj
  subst hji
  exact wpOp_mono (fun a' w' h'=>⟨fun _=>h'.1,vV hL hsel hs hc hn pl _ _ _ (inv.set hri hin) hB' h'.2⟩) hw
 | .mix l pl,listed,a,w,inv,hB,h=>by
  simp only [pmB,Bool.and_eq_true,List.all_eq_true,beq_iff_eq]at hB
  obtain⟨⟨⟨hB0,hnd1⟩,hnd⟩,hBB⟩:=hB
  obtain⟨J,v0,ha,hsz,hJ0,hstep,hfin⟩:=h
  have hdg:∀q∈l,∀o,ops[q.1]? =some o→o.dst=some q.2∧o.guard=none:=fun q hq o ho=>by
   have h0:=(hB0 q hq).2
   rw [ho]at h0
   simpa only [Option.map_some,Option.some.injEq,Bool.and_eq_true,beq_iff_eq,Option.isNone_iff_eq_none]using h0
  have key:∀(m:Nat) (ls:Array Bool) (vals:Nat→Value) (w':World),HeadInv md ops n ls→aP0 md ops n l (pmB md ops n pl) m ls=true→J (fun i=>ls.getD i false) vals w'→
    jT P md ops Q S n (m+(pl.depth+(ops.size-n))) ls {tmps:=mY l vals a.tmps,defers:=a.defers} w':=by
   intro m
   induction m with
   | zero=>
    intro ls vals w' inv' hb hJ
    simp only [aP0,Bool.and_eq_true,List.all_eq_true]at hb
    rw [Nat.zero_add]
    exact vV hL hsel hs hc hn pl _ _ _ inv' hb.2 (hfin _ vals w' hb.1 hJ)
   | succ m ih=>
    intro ls vals w' inv' hb hJ
    simp only [aP0,Bool.and_eq_true,List.all_eq_true,Bool.not_eq_true',List.any_eq_true,beq_iff_eq,decide_eq_true_eq]at hb
    obtain⟨hne,hall⟩:=hb
    rw [show m+1+(pl.depth+(ops.size-n))=(m+(pl.depth+(ops.size-n)))+1 from by omega]
    refine⟨fun h1=>(by rw [h1]at hne;simp at hne),fun j hj=> ?_⟩
    obtain⟨⟨⟨q,hq,hqj⟩,hjn⟩,hb2⟩:=hall j hj
    subst hqj
    obtain⟨hun,oj,hoj,hallj⟩:=mem_ready.1 hj
    obtain⟨hd,hg⟩:=hdg _ hq oj hoj
    have hf:ls.getD q.1 false=false:=by
     rw [Array.getD_eq_getD_getElem?]at hun ⊢
     cases hx:ls[q.1]? with
     |none=>rfl
     |some b=>rw [hx]at hun;exact hun
    have hlt:q.1<ls.size:=by
     rcases Nat.lt_or_ge q.1 ls.size with h'|h'
     ·exact h'
     ·rw [Array.getD_eq_getD_getElem?,Array.getElem?_eq_none h']at hun;cases hun
    unfold wpOp
    simp only [hoj]
    rw [if_pos (by unfold Region.wanted;rw [hg])]
    refine .inl ?_
    refine hstep q hq oj hoj (fun i=>ls.getD i false) vals w' hf (fun e he hbn d hd=>hallj e he hbn) hJ _ fun v w2 dn' h1 h2 hS2 hJ2=> ?_
    refine⟨fun _=>hS2,?_⟩
    have hput:(({tmps:=mY l vals a.tmps,defers:=a.defers}:Act).put oj.dst v)={tmps:=mY l (aIe vals q.1 v) a.tmps,defers:=a.defers}:=by
     rw [hd,←aQl hnd1 hnd hq];rfl
    rw [hput]
    refine ih _ _ _ (inv'.set hj hjn) hb2 ?_
    have hdn:(fun i=>(ls.setIfInBounds q.1 true).getD i false)=dn':=by
     funext i
     by_cases hi:i=q.1
     ·subst hi
      rw [h1,Array.getD_eq_getD_getElem?,Array.getElem?_setIfInBounds_self_of_lt hlt];rfl
     ·rw [h2 i hi,getD_set_ne false (fun e=>hi e.symm)]
    rw [hdn];exact hJ2
  have h0:∀q∈l,listed.getD q.1 false=false:=fun q hq=>by
   have:=(hB0 q hq).1
   rw [Array.getD_eq_getD_getElem?]at this ⊢
   cases hx:listed[q.1]? with
   |none=>rfl
   |some b=>rw [hx]at this;exact this
  have:=key l.length listed v0 w inv hBB (hJ0 _ h0)
  rw [←ha]at this
  rw [Pm.depth,show pl.depth+l.length+(ops.size-n)=l.length+(pl.depth+(ops.size-n))from by omega]
  exact this
def goM (ops:Array Oper) (n:Nat) (pl:Pm):Bool:=
 Region.noSelect ops&&decide (n<ops.size)&&decide (pl.depth=n)&&Region.sinkB .any ops n&&Region.chainB .any ops n&&pmB .any ops n pl (Array.replicate ops.size false)
theorem aGd {id:Nat}{a:Act}{w:World}{L:List Oper}(S:World→Prop) (n:Nat) (pl:Pm) (hm:P.follows .mixedOrders=true) (hB:goM L.toArray n pl=true)
  (h:aAh P .any L.toArray Q S (wpList P L.toArray Q (L.drop n)) pl a w.drew):(Code.region id L.toArray true).wp P Q a w:=by
 simp only [goM,Bool.and_eq_true,decide_eq_true_eq]at hB
 obtain⟨⟨⟨⟨⟨hsel,hn⟩,hlen⟩,hs⟩,hc⟩,hp⟩:=hB
 have inv0:HeadInv .any L.toArray n (Array.replicate L.toArray.size false):=
  ⟨by simp,fun j oj _ hl=>(by rw [getD_replicate_false]at hl;cases hl),fun t _ ht=>getD_in (by simpa using ht) (getD_replicate_false _ _)⟩
 have:=vV (P:=P) (Q:=Q) (S:=S) rfl hsel hs hc hn pl _ a w.drew inv0 hp h
 rw [hlen,show n+(L.toArray.size-n)=L.toArray.size from by omega]at this
 exact wp_region_any hm (qA _ _ _ _ this)
end
section
variable {P : Program} {Q : Exit → Act → World → Prop} {S : World → Prop} {md : Region.Mode} {L : List Oper}
theorem aC1 {i k:Nat}{o:Oper}{v:Value}{K:Act→World→Prop}{pl:Pm}{a:Act}{w:World}(ho:L[i]? =some o) (hd:o.dst=some k)
  (hQ:∀c a' w',Q (.panic c) (a'.put o.dst v) w'→Q (.panic c) a' w')
  (hw:Region.wanted o (yielded L.toArray a.tmps)=true) (hy:∀w',S w'→(execOp a.eval o).run P w'= .ok (.value v) w') (hS:S w)
  (h:aAh P md L.toArray Q S K pl {tmps:=a.tmps.setIfInBounds k v,defers:=a.defers} w):aAh P md L.toArray Q S K (.take i pl) a w:=by
 refine⟨o,v,aE3 ho,hQ,.inl ⟨hw,fun w' hw'=>hy w' hw'⟩,hS,?_⟩
 rw [hd];exact h
theorem aQo {i:Nat}{o:Oper}{K:Act→World→Prop}{pl:Pm}{a:Act}{w:World}(ho:L[i]? =some o) (hw:Region.wanted o (yielded L.toArray a.tmps)=true)
  (h:∀K':Act→World→Prop,(∀a' w',S w'→aAh P md L.toArray Q S K pl a' w'→K' a' w')→o.wp P a w K' Q):aAh P md L.toArray Q S K (.run i pl) a w:=by
 refine⟨o,aE3 ho,?_⟩
 have:=h (fun a' w'=>S w'∧aAh P md L.toArray Q S K pl a' w') fun a' w' h1 h2=>⟨h1,h2⟩
 unfold wpOp
 simp only [aE3 ho,hw,if_true]
 exact .inl this
theorem aSc {K:Act→World→Prop}{a:Act}{w:World}(h:K a w):aAh P md L.toArray Q S K .nil a w:=h
def zO (P:Program) (md:Region.Mode) (Q:Exit→Act→World→Prop) (S:World→Prop) (l:List (Nat×Nat)) (J:(Nat→Bool)→(Nat→Value)→World→Prop) (a:Act) (i:Nat) (o:Oper):Prop:=
 ∀(a':Act) dn vals w',a'.defers=a.defers→(∀k,(∀p∈l,p.2≠k)→a'.tmps.getD k undef=a.tmps.getD k undef)→(∀q∈l,a'.tmps.getD q.2 undef=vals q.1)→
  dn i=false→(∀e∈o.after,Region.binds md e=true→∀d,(e.on,d)∈l→dn e.on=true)→J dn vals w'→
  ∀K':Act→World→Prop,(∀v w2 dn',dn' i=true→(∀j,j≠i→dn' j=dn j)→S w2→J dn' (aIe vals i v) w2→K' (a'.put o.dst v) w2)→o.wp P a' w' K' Q
theorem aTb {l:List (Nat×Nat)}{J:(Nat→Bool)→(Nat→Value)→World→Prop}{a:Act}:∀q∈([]:List (Nat×Nat)),∀o,L[q.1]? =some o→zO P md Q S l J a q.1 o:=fun q hq=>by cases hq
theorem zD {l:List (Nat×Nat)}{J:(Nat→Bool)→(Nat→Value)→World→Prop}{a:Act}{i d:Nat}{r:List (Nat×Nat)}{o:Oper}(ho:L[i]? =some o) (h:zO P md Q S l J a i o)
  (ht:∀q∈r,∀o,L[q.1]? =some o→zO P md Q S l J a q.1 o):∀q∈(i,d)::r,∀o,L[q.1]? =some o→zO P md Q S l J a q.1 o:=fun q hq o' ho'=>by
 rcases List.mem_cons.1 hq with rfl|hq
 ·have e:o'=o:=Option.some.inj (ho'.symm.trans ho)
  subst e;exact h
 ·exact ht q hq o' ho'
theorem aSf {l:List (Nat×Nat)}{vals:Nat→Value}{t:Array Value}{k:Nat}(h:∀q∈l,q.2≠k):(mY l vals t).getD k undef=t.getD k undef:=by
 by_cases hk:k<t.size
 ·exact kP (fun q hq e=>absurd e (h q hq)) (fun _=>rfl) hk
 ·rw [Array.getD_eq_getD_getElem?,Array.getD_eq_getD_getElem?,Array.getElem?_eq_none (by rw [qX];omega),Array.getElem?_eq_none (by omega)]
theorem aRc {l:List (Nat×Nat)}{K:Act→World→Prop}{pl:Pm}{a:Act}{w:World}(J:(Nat→Bool)→(Nat→Value)→World→Prop) (ha:a={tmps:=mY l (fun _=>undef) a.tmps,defers:=a.defers}) (hsz:∀q∈l,q.2<a.tmps.size)
  (hnd:nodupB (l.map (·.2))=true) (h0:∀dn,(∀q∈l,dn q.1=false)→J dn (fun _=>undef) w) (hstep:∀q∈l,∀o,L[q.1]? =some o→zO P md Q S l J a q.1 o)
  (h:∀dn vals w',(∀q∈l,dn q.1=true)→J dn vals w'→aAh P md L.toArray Q S K pl {tmps:=mY l vals a.tmps,defers:=a.defers} w'):aAh P md L.toArray Q S K (.mix l pl) a w:=
 ⟨J,fun _=>undef,ha,hsz,h0,fun q hq o ho dn vals w' h1 h2 h3 K' hK=>hstep q hq o (by rw [←ho,List.getElem?_toArray]) {tmps:=mY l vals a.tmps,defers:=a.defers} dn vals w' rfl (fun k hk=>aSf hk)
  (fun p hp=>kP (fun r hr e=>by rw [yZ hnd hr hp e]) (fun ho'=>absurd rfl (ho' p hp)) (hsz p hp)) h1 h2 h3 K' hK,h⟩
end
end
end Go.Proofs.YtfmecpembnmnkaaGreatDoor
