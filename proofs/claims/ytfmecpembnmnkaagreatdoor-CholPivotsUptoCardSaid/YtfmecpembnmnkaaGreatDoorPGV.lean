/- Floats that may be NaNs: a number, or 'no number' whatever its bits; what an operation does to the world. -/
import Derived.Test.YtfmecpembnmnkaaGreatDoorPGM
import Derived.Test.YtfmecpembnmnkaaGreatDoorPGT
import Derived.Test.YtfmecpembnmnkaaGreatDoorPGR
namespace Go.Proofs.YtfmecpembnmnkaaGreatDoor
section
open Go.RowKit
def Rep (o:Option Nat) (v:Nat):Prop:=v<18446744073709551616∧match o with|some x=>v=x|none=>aU v=true
def oA (op:BinOp) (a b:Option Nat):Option Nat:=match a,b with|some x,some y=>floatBits op .f64 x y|_,_=>none
def nzB (u v:Nat) (w:World):Nat:=(Question.nanBits .f64 u v).cut (w.tape w.drawn (Question.nanBits .f64 u v))
def fV (op:BinOp) (u v:Nat) (w:World):Nat:=match floatBits op .f64 u v with|some r=>r|none=>nzB u v w
def fN (op:BinOp) (u v:Nat) (w:World):World:=match floatBits op .f64 u v with|some _=>w|none=>w.drew
theorem rG (op:BinOp) (u v:Nat) (w:World):Below w.heap.size w (fN op u v w):=by
 unfold fN;split
 ·exact Below.refl _ _
 ·exact aB w
theorem jA (op:BinOp) (hop:op= .add∨op= .sub∨op= .mul∨op= .quo) (t:TypeId) (u v:Nat) (w:World):
  (binOp op t (.float .f64 u) (.float .f64 v)).run Tryz.prog w= .ok (.float .f64 (fV op u v w)) (fN op u v w):=by
 cases h:floatBits op .f64 u v with
 | some r=>
  have h1:fV op u v w=r:=by unfold fV;rw [h]
  have h2:fN op u v w=w:=by unfold fN;rw [h]
  rw [h1,h2];exact run_float_arith w op t .f64 u v r h
 | none=>
  have h1:fV op u v w=nzB u v w:=by unfold fV;rw [h]
  have h2:fN op u v w=w.drew:=by unfold fN;rw [h]
  rw [h1,h2]
  unfold floatBits at h
  rcases hop with rfl|rfl|rfl|rfl<;>simp only at h<;>simp [binOp,Op.floatArith,h]<;>rfl
theorem aPj (u v:Nat) (w:World):nzB u v w<18446744073709551616∧aU (nzB u v w)=true:=by
 unfold nzB Question.cut
 simp only
 generalize w.tape w.drawn (Question.nanBits .f64 u v)=t
 have h1:t/2%(2^52-1)<2^52-1:=Nat.mod_lt _ (by decide)
 generalize t/2%(2^52-1)=s at*
 have h2:t%2<2:=Nat.mod_lt _ (by decide)
 generalize t%2=p at*
 have h3:p*2^63+9218868437227405312+1+s<18446744073709551616:=by omega
 refine⟨h3,?_⟩
 unfold aU
 rw [decide_eq_true_iff]
 have h4:(p*2^63+9218868437227405312+1+s)%aH=9218868437227405312+1+s:=by
  rw [show p*2^63+9218868437227405312+1+s=(9218868437227405312+1+s)+2^63*p by omega,show aH=2^63 from rfl,Nat.add_mul_mod_self_left]
  exact Nat.mod_eq_of_lt (by omega)
 show aG<(p*2^63+9218868437227405312+1+s)%aH
 rw [h4,show aG=9218868437227405312 from rfl]
 omega
theorem aAf {x:Ieee.Datum}{y:Ieee.Datum}(h:x.isNaN=true):x.sum y=none:=by
 cases x<;>cases y<;>first|rfl|(simp [Ieee.Datum.isNaN]at h)
theorem aEc {x:Ieee.Datum}{y:Ieee.Datum}(h:y.isNaN=true):x.sum y=none:=by
 cases x<;>cases y<;>first|rfl|(simp [Ieee.Datum.isNaN]at h)
theorem aUa {x:Ieee.Datum}(h:x.isNaN=true):x.opposite.isNaN=true:=by
 cases x<;>first|rfl|(simp [Ieee.Datum.isNaN]at h)
theorem aDn {x:Ieee.Datum}{y:Ieee.Datum}(h:x.isNaN=true):x.product y=none:=by
 cases x<;>cases y<;>first|rfl|(simp [Ieee.Datum.isNaN]at h)
theorem aDs {x:Ieee.Datum}{y:Ieee.Datum}(h:y.isNaN=true):x.product y=none:=by
 cases x<;>cases y<;>first|rfl|(simp [Ieee.Datum.isNaN]at h)
theorem aOv {k:Nat}{x:Ieee.Datum}{y:Ieee.Datum}(h:x.isNaN=true):x.quotient k y=none:=by
 cases x<;>cases y<;>first|rfl|(simp [Ieee.Datum.isNaN]at h)
theorem aNl {k:Nat}{x:Ieee.Datum}{y:Ieee.Datum}(h:y.isNaN=true):x.quotient k y=none:=by
 cases x<;>cases y<;>first|rfl|(simp [Ieee.Datum.isNaN]at h)
theorem aH4 {op:BinOp}{u v:Nat}(h:aU u=true∨aU v=true):floatBits op .f64 u v=none:=by
 rw [←rD,←rD]at h
 unfold floatBits
 split
 ·show((F6.read u).sum (F6.read v)).map _=none
  rcases h with h|h
  ·rw [aAf h];rfl
  ·rw [aEc h];rfl
 ·show((F6.read u).sum (F6.read v).opposite).map _=none
  rcases h with h|h
  ·rw [aAf h];rfl
  ·rw [aEc (aUa h)];rfl
 ·show((F6.read u).product (F6.read v)).map _=none
  rcases h with h|h
  ·rw [aDn h];rfl
  ·rw [aDs h];rfl
 ·show((F6.read u).quotient _ (F6.read v)).map _=none
  rcases h with h|h
  ·rw [aOv h];rfl
  ·rw [aNl h];rfl
 ·rfl
theorem aK8 {op:BinOp}{u v r:Nat}(h:floatBits op .f64 u v=some r):r<18446744073709551616:=by
 have h1:=floatBits_wf h
 simpa [Lit.wf]using h1
theorem Rep.op {op:BinOp}{a b:Option Nat}{u v:Nat}(ha:Rep a u) (hb:Rep b v) (w:World):Rep (oA op a b) (fV op u v w):=by
 have hn:∀o:Option Nat,o=none→floatBits op .f64 u v=none→Rep o (fV op u v w):=fun o ho hf=>by
  subst ho
  unfold fV;rw [hf];exact aPj u v w
 cases a with
 |none=>exact hn _ rfl (aH4 (.inl ha.2))
 | some x=>
  cases b with
  |none=>exact hn _ rfl (aH4 (.inr hb.2))
  | some y=>
   obtain rfl:u=x:=ha.2
   obtain rfl:v=y:=hb.2
   show Rep (floatBits op .f64 u v) (fV op u v w)
   cases h:floatBits op .f64 u v with
   |none=>exact hn _ rfl h
   | some r=>
    have h1:fV op u v w=r:=by unfold fV;rw [h]
    rw [h1]
    exact⟨aK8 h,rfl⟩
end
section
set_option maxRecDepth 100000
set_option maxHeartbeats 6400000
open Go.RowKit
theorem kT {x y:Nat}(h:aU x=true):F6.order x y=none:=by
 rw [←rD]at h
 unfold Ieee.Format.order
 revert h
 cases F6.read x<;>cases F6.read y<;>first|(intro _;rfl)|(intro h;simp [Ieee.Datum.isNaN]at h)
theorem aL2 (x:Nat):aU (x%aH)=aU x:=by unfold aU;rw [Nat.mod_mod]
theorem aE9 (x:Nat):(F6.order (x%aH) 9218868437227405311==some Ordering.gt)=decide (x%aH=aG):=by
 by_cases h:x%aH≤aG
 ·exact aGi h
 ·rw [kT (by rw [aL2];unfold aU;rw [decide_eq_true_iff];omega),decide_eq_false (by omega)];rfl
theorem aNu (x:Nat) (w:World) (hx:x<18446744073709551616):
  Calls Tryz.prog 140 #[.float .f64 x,.int .i64 0] w (Gives (.bool (decide (x%aH=aG))) w):=by
 have HA:=jH fun w=>yF x w hx
 have hT:=aE9 x
 generalize decide (x%aH=aG)=R at*
 generalize x%aH=m at*
 clear hx
 go_enter Tryz.func140,Tryz.ntmps140
 go_wp2_with fail
 refine(HA.out _).mono ?_
 rintro e1 w1 ⟨rfl,hb⟩
 have HB:=jH hb
 clear hb
 go_wp2
 go_ret
 exact⟨rfl,HB.out⟩
end
end Go.Proofs.YtfmecpembnmnkaaGreatDoor
