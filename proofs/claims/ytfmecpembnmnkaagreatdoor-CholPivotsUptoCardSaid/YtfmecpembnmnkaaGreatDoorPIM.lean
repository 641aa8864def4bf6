/- Plain: what a dot product of intervals holds: the exact sum, and the rounded one. -/
import Derived.Test.YtfmecpembnmnkaaGreatDoorPII
import Derived.Test.YtfmecpembnmnkaaGreatDoorPLS
import Derived.Test.YtfmecpembnmnkaaGreatDoorPGX
import Derived.Test.YtfmecpembnmnkaaGreatDoorPGR
import Derived.Test.YtfmecpembnmnkaaGreatDoorPHB
import Derived.Test.YtfmecpembnmnkaaGreatDoorPGV
import Derived.Test.YtfmecpembnmnkaaGreatDoorPGW
import Derived.Test.YtfmecpembnmnkaaGreatDoorPIF
namespace Go.Proofs.YtfmecpembnmnkaaGreatDoor
section
open Go.RowKit
def aVm (l:List (Nat×Nat)):Prop:=∀p∈l,W64 p.1∧W64 p.2
end
section
open Go.RowKit
attribute [local go_sem] bG
def PSl (f:Nat→Value) (w:World) (v:Value) (l:List (Nat×Nat)):Prop:=
 ∃ao cap,v= .slice ao l.length cap∧l.length≤cap∧l.length≤1099511627776∧aVm l∧
  (0<l.length→∃b off,ao=some ⟨b,off,none⟩∧b<w.heap.size∧∀i (h:i<l.length),w.cell? ⟨b,off+i*2,none⟩=some (f l[i].1)∧w.cell? ⟨b,off+i*2+1,none⟩=some (f l[i].2))
def wdF (x:Nat):Value:= .float .f64 x
def VSl (w:World) (v:Value) (l:List (Nat×Nat)):Prop:=PSl wdF w v l
theorem PSl.below {f:Nat→Value}{w w':World}{v:Value}{l:List (Nat×Nat)}(h:PSl f w v l) (hb:Below w.heap.size w w'):PSl f w' v l:=by
 obtain⟨ao,cap,h1,h2,h3,h4,h5⟩:=h
 refine⟨ao,cap,h1,h2,h3,h4,fun h0=> ?_⟩
 obtain⟨b,off,e,hlt,hc⟩:=h5 h0
 exact⟨b,off,e,Nat.lt_of_lt_of_le hlt hb.size,fun i hi=>⟨(hb.cell (p:=⟨b,off+i*2,none⟩) hlt).trans (hc i hi).1,(hb.cell (p:=⟨b,off+i*2+1,none⟩) hlt).trans (hc i hi).2⟩⟩
def prV (f:Nat→Value) (l:List (Nat×Nat)):List Value:=l.flatMap fun p=>[f p.1,f p.2]
theorem aS8 {f:Nat→Value}{l:List (Nat×Nat)}:∀{i:Nat}(h:i<l.length),(prV f l)[i*2]? =some (f l[i].1)∧(prV f l)[i*2+1]? =some (f l[i].2):=by
 induction l with
 |nil=>intro i h;cases h
 | cons p r ih=>
  intro i h
  cases i with
  |zero=>exact⟨rfl,rfl⟩
  | succ i=>
   have h2:i<r.length:=by simpa using h
   obtain⟨a,b⟩:=ih h2
   have e:prV f (p::r)=f p.1::f p.2::prV f r:=rfl
   rw [e,show(i+1)*2=i*2+1+1 by omega,show i*2+1+1+1=(i*2+1)+1+1 by omega]
   simp only [List.getElem?_cons_succ,List.getElem_cons_succ]
   exact⟨a,b⟩
theorem PSl.mM {f:Nat→Value}{w:World}{base t:Nat}{v:Value}{l:List (Nat×Nat)}(h:w.ownsRow base t 2 v l.length (prV f l)) (hn:l.length≤1099511627776) (hx:aVm l):PSl f w v l:=by
 obtain⟨h1,⟨rfl,h0⟩|⟨g,cap,cur,rfl,hg,hh,hcap,hmax,hcs,ht⟩⟩:=h
 ·exact⟨none,0,by rw [h0],by omega,hn,hx,fun h=>absurd h (by omega)⟩
 ·refine⟨_,cap,rfl,hcap,hn,hx,fun _=>⟨g,0,rfl,(Array.getElem?_eq_some_iff.1 hh).1,fun i hi=> ?_⟩⟩
  obtain⟨h2,h3⟩:=aS8 (f:=f) hi
  rw [←ht,List.getElem?_take_of_lt (by omega)]at h2 h3
  simp only [World.cell?,hh,Nat.zero_add]
  exact⟨by simpa using h2,by simpa using h3⟩
theorem Tryz.info37 :(Tryz.prog.info? 37).map (fun i=>(i.zero,i.size,i.bytes))=some (some (.agg #[.float .f64 0,.float .f64 0]),2,16):=by kernel_rfl
theorem cell_two_new (w:World) (x y:Value) (t:TypeId):∀j u,[x,y][j]? =some u→(w.alloc (.cells #[x,y] t)).cell? ((⟨w.heap.size,0,none⟩:Addr).add j)=some u:=by
 intro j u hj
 match j,hj with
 |0,hj=>simp at hj;subst hj;simp [Addr.add]
 |1,hj=>simp at hj;subst hj;simp [Addr.add]
theorem qC {w:World}{base t n sz:Nat}{v:Value}{xs:List Value}(h:w.ownsRow base t sz v n xs):∃ao cap,v= .slice ao n cap:=by
 rcases h.2 with ⟨rfl,rfl⟩|⟨g,cap,cur,rfl,-⟩
 ·exact⟨none,0,rfl⟩
 ·exact⟨_,cap,rfl⟩
end
end Go.Proofs.YtfmecpembnmnkaaGreatDoor
