/- Walks: whether any dyad may be (dyad.May, the references' May). Printed by wip/gen/may.py. -/
import Derived.Test.YtfmecpembnmnkaaGreatDoorPGR
import Derived.Test.YtfmecpembnmnkaaGreatDoorPGS
import Derived.Lib.SmallJoins
namespace Go.Proofs.YtfmecpembnmnkaaGreatDoor
section
set_option maxRecDepth 100000
set_option maxHeartbeats 6400000
open Go.RowKit
def aFg (neg:Bool) (n N:Nat) (e:Int):Bool:=
 if n=0 then !neg&&decide (e=0)else decide (n≤2048)&&(decide (dg 32 N (n-1)≠0)&&(decide (dg 32 N 0%2=1)&&(decide (-100000≤e)&&decide (e≤100000))))
def yH (w:World) (v:Value) (neg:Bool) (n N:Nat) (e:Int):Prop:=∃sl,v=DyV neg sl e∧Raw .u32 32 w sl n N∧n≤1073741824
theorem yH.below {w w':World}{v:Value}{neg:Bool}{n N:Nat}{e:Int}(h:yH w v neg n N e) (hb:Below w.heap.size w w'):yH w' v neg n N e:=by
 obtain⟨sl,h1,h2,h3⟩:=h;exact⟨sl,h1,h2.below hb,h3⟩
def sgZ (neg:Bool) (N:Nat):Int:=if neg then-(N:Int)else N
theorem aL1 (neg:Bool) (N:Nat):(sgZ neg N).natAbs=N:=by unfold sgZ;split<;>omega
theorem aN8 {neg:Bool}{n N:Nat}{e:Int}(hN:N<2^(32*n)) (h:aFg neg n N e=true):gK (sgZ neg N) e∧n=ln 32 N∧decide (sgZ neg N<0)=neg:=by
 unfold aFg at h
 split at h
 ·next h0=>
  subst h0
  simp only [Bool.and_eq_true,Bool.not_eq_true',decide_eq_true_eq]at h
  obtain⟨rfl,rfl⟩:=h
  have h1:N=0:=by simpa using hN
  subst h1
  exact⟨by show gK 0 0;exact aN0,(eG 32).symm,rfl⟩
 ·next h0=>
  simp only [Bool.and_eq_true,decide_eq_true_eq]at h
  obtain⟨h1,h2,h3,h4,h5⟩:=h
  rw [tX]at h3
  have hln:n=ln 32 N:=by
   refine Nat.le_antisymm ?_ ?_
   ·rcases Nat.lt_or_ge (ln 32 N) n with h6|h6
    ·refine absurd ?_ h2
     have h7:N<2^(32*(n-1)):=(dL (by decide)).1 (by omega)
     unfold dg
     rw [Nat.div_eq_of_lt h7]
    ·exact h6
   ·exact(dL (by decide)).2 hN
  refine⟨⟨.inr ?_,?_,h4,h5⟩,hln,?_⟩
  ·unfold sgZ;split<;>omega
  ·rw [aL1]
   unfold ln at hln
   omega
  ·unfold sgZ
   cases neg<;>simp<;>omega
theorem yH.good {w:World}{v:Value}{neg:Bool}{n N:Nat}{e:Int}(h:yH w v neg n N e) (hm:aFg neg n N e=true):jS w v (sgZ neg N) e∧gK (sgZ neg N) e:=by
 obtain⟨sl,rfl,hr,-⟩:=h
 have hr2:=hr
 obtain⟨-,-,-,-,hN,-⟩:=hr2
 obtain⟨h1,h2,h3⟩:=aN8 hN hm
 refine⟨⟨sl,by rw [h3],?_⟩,h1⟩
 rw [aL1,←h2];exact hr
theorem aIh (v:Value) (neg:Bool) (n N:Nat) (e:Int) (w:World) (hv:yH w v neg n N e):
  Calls Tryz.prog 213 #[v] w (Gives (.bool (aFg neg n N e)) w):=by
 obtain⟨sl,rfl,⟨ao,cap,rfl,-,-,-,hc⟩,hn⟩:=hv
 unfold DyV aFg
 by_cases h0:n=0
 ·subst h0
  rw [if_pos rfl]
  clear hc hn
  cases neg
  ·by_cases h1:e=0
   ·subst h1
    rw [show(!false&&decide ((0:Int)=0))=true by decide]
    try clear h1
    go_enter Tryz.func213,Tryz.ntmps213
    go_wp2
    go_ret
    exact⟨by first|rfl|simp [*],Below.aA _ _⟩
   ·have h2:(e==0)=false:=by simpa using h1
    rw [show(!false&&decide (e=0))=false by simp [h1]]
    try clear h1
    go_enter Tryz.func213,Tryz.ntmps213
    go_wp2
    go_ret
    exact⟨by first|rfl|simp [*],Below.aA _ _⟩
  ·rw [show(!true&&decide (e=0))=false by simp]
   go_enter Tryz.func213,Tryz.ntmps213
   go_wp2
   go_ret
   exact⟨by first|rfl|simp [*],Below.aA _ _⟩
 ·rw [if_neg h0]
  have hl0:0<n:=by omega
  obtain⟨b,off,rfl,hb,-,hcc⟩:=hc hl0
  have c1:=hcc (n-1) (by omega)
  have c0:=hcc 0 hl0
  rw [Nat.add_zero]at c0
  clear hcc hc
  have hd0:dg 32 N (n-1)<4294967296:=iT 32 N (n-1)
  have hd1:dg 32 N 0<4294967296:=iT 32 N 0
  generalize dg 32 N (n-1)=dt at*
  generalize dg 32 N 0=d0 at*
  have hn0:((n:Int)==0)=false:=by simp;omega
  by_cases hA:n≤2048
  ·have fA:n≤2048:=hA
   by_cases hB:dt≠0
   ·have fB:((dt:Int) !=0)=true:=by simp;omega
    by_cases hC:d0%2=1
    ·have fC:((d0:Int)%2==1)=true:=by simp;omega
     by_cases hD: -100000≤e
     ·have fD: -100000≤e:=hD
      by_cases hE:e≤100000
      ·have fE:e≤100000:=hE
       rw [show(decide (n≤2048)&&(decide (dt≠0)&&(decide (d0%2=1)&&(decide (-100000≤e)&&decide (e≤100000)))))=true by simp [hA,hB,hC,hD,hE]]
       clear hA hB hC hD hE
       go_enter Tryz.func213,Tryz.ntmps213
       go_wp2
       go_ret
       exact⟨by first|rfl|simp [*],Below.aA _ _⟩
      ·have fE:decide (e≤100000)=false:=by simp;omega
       rw [show(decide (n≤2048)&&(decide (dt≠0)&&(decide (d0%2=1)&&(decide (-100000≤e)&&decide (e≤100000)))))=false by simp [hE]]
       clear hA hB hC hD hE
       go_enter Tryz.func213,Tryz.ntmps213
       go_wp2
       go_ret
       exact⟨by first|rfl|simp [*],Below.aA _ _⟩
     ·have fD:e< -100000:=by omega
      rw [show(decide (n≤2048)&&(decide (dt≠0)&&(decide (d0%2=1)&&(decide (-100000≤e)&&decide (e≤100000)))))=false by simp [hD]]
      clear hA hB hC hD
      go_enter Tryz.func213,Tryz.ntmps213
      go_wp2
      go_ret
      exact⟨by first|rfl|simp [*],Below.aA _ _⟩
    ·have fC:((d0:Int)%2==1)=false:=by simp;omega
     rw [show(decide (n≤2048)&&(decide (dt≠0)&&(decide (d0%2=1)&&(decide (-100000≤e)&&decide (e≤100000)))))=false by simp [hC]]
     clear hA hB hC
     go_enter Tryz.func213,Tryz.ntmps213
     go_wp2
     go_ret
     exact⟨by first|rfl|simp [*],Below.aA _ _⟩
   ·have fB:((dt:Int) !=0)=false:=by simp;omega
    rw [show(decide (n≤2048)&&(decide (dt≠0)&&(decide (d0%2=1)&&(decide (-100000≤e)&&decide (e≤100000)))))=false by simp [hB]]
    clear hA hB
    go_enter Tryz.func213,Tryz.ntmps213
    go_wp2
    go_ret
    exact⟨by first|rfl|simp [*],Below.aA _ _⟩
  ·have fA:2048<n:=by omega
   rw [show(decide (n≤2048)&&(decide (dt≠0)&&(decide (d0%2=1)&&(decide (-100000≤e)&&decide (e≤100000)))))=false by simp [hA]]
   clear hA
   go_enter Tryz.func213,Tryz.ntmps213
   go_wp2
   go_ret
   exact⟨by first|rfl|simp [*],Below.aA _ _⟩
end
section
set_option maxRecDepth 100000
set_option maxHeartbeats 6400000
open Go.ChangeShapes Go.WideShapes Go.ChangeAt Go.RowKit
theorem Tryz.laidOut :laidOutB Tryz.prog=true:=by kernel_rfl
theorem aWc {H:Type}{enc:TypeId×Value→H}{W:World}{a0:Option Addr}{len cap:Nat}{d:DataW H}{p:List MemPlace}
  (h:DataW.Trod enc Tryz.prog W 0 (fun _=>true) true 22 (.slice a0 len cap) d p) (hlt:∀x∈p,x.block<W.heap.size) (hb:Rows.uptoBulk d≤1048576):∃l,USl W (.slice a0 len cap) l:=by
 obtain⟨fuel,hf⟩:=h
 rcases open_ints Tryz.underlying22 Tryz.underlying33 (show Tryz.prog.cellsOf 33=1 by kernel_rfl) hf with ⟨hcs,hx⟩|⟨a,len',cap',zs,hcs,_,hl,hm,hz,hx,hcell,hwz⟩
 ·simp [Value.cells]at hcs
  obtain⟨rfl,rfl,rfl⟩:=hcs
  exact⟨[],none,0,rfl,Nat.zero_le _,Nat.zero_le _,(fun x hx=>nomatch hx),fun h=>absurd h (by simp)⟩
 ·simp [Value.cells]at hcs
  obtain⟨rfl,rfl,rfl⟩:=hcs
  simp only [Prod.mk.injEq]at hx
  obtain⟨rfl,rfl⟩:=hx
  simp only [if_true]at hz
  have hlen:=aI1 (H:=H) (lits .u64 (zs.take len)) (lits .u64 (zs.drop len))
  have hll:(lits (H:=H) .u64 (zs.take len)).length=len:=by unfold lits;simp;omega
  have hwf:∀z∈zs,0≤z∧z≤18446744073709551615:=fun z hz=>by simpa [Lit.wf,IntKind.min,IntKind.max,IntKind.signed,IntKind.bits]using hwz z hz
  refine⟨(zs.take len).map Int.toNat,some a,cap,by simp;omega,by simp;omega,by simp;omega,fun x hx=> ?_,fun h0=> ?_⟩
  ·obtain⟨z,hz,rfl⟩:=List.mem_map.1 hx
   have:=hwf z (List.mem_of_mem_take hz)
   omega
  ·have hpos:0<zs.length:=by simp at h0;omega
   obtain⟨b,off,rfl,hc⟩:=ints_at hcell hpos
   refine⟨b,off,rfl,hlt (.cell b off) (MemPlace.mem_row.2 ⟨0,by omega,by simp⟩),fun i hi=> ?_⟩
   have hi2:i<len:=by simp at hi;omega
   rw [hc i (by omega)]
   have:=hwf (zs.getD i 0) (by rw [List.getD_eq_getElem?_getD,List.getElem?_eq_getElem (by omega)];exact List.getElem_mem _)
   simp only [List.getElem_map,List.getElem_take]
   rw [List.getD_eq_getElem?_getD,List.getElem?_eq_getElem (by omega),Option.getD_some]at this ⊢
   rw [Int.toNat_of_nonneg this.1]
theorem aSd {H:Type}{enc:TypeId×Value→H}{W:World}{t:TypeId}{k:IntKind}{n:Int}{d:DataW H}{p:List MemPlace}(ht:Tryz.prog.underlying t=some (.int k))
  (h:DataW.Trod enc Tryz.prog W 0 (fun _=>true) true t (.int k n) d p):(Lit.int k n).wf=true:=by
 obtain⟨fuel,hf⟩:=h
 obtain⟨k',hc,-,hw⟩:=DataW.trod_int ht hf
 simp [Value.cells]at hc
 subst hc
 exact hw
theorem aQz {n:Int}(h:(Lit.int .i64 n).wf=true): -9223372036854775808≤n∧n≤9223372036854775807:=by
 simpa [Lit.wf,IntKind.min,IntKind.max,IntKind.signed,IntKind.bits]using h
end
end Go.Proofs.YtfmecpembnmnkaaGreatDoor
