/- Walks: the sum by halves (program, references). Printed by wip/gen/pairs.py. -/
import Derived.Test.YtfmecpembnmnkaaGreatDoorPGV
import Derived.Test.YtfmecpembnmnkaaGreatDoorPGC
import Derived.Test.YtfmecpembnmnkaaGreatDoorPGW
import Derived.Test.YtfmecpembnmnkaaGreatDoorPGR
namespace Go.Proofs.YtfmecpembnmnkaaGreatDoor
section
open Go.RowKit
def hfN (n:Nat):Nat:=2^(bl (n-1)-1)
end
section
set_option maxRecDepth 100000
set_option maxHeartbeats 6400000
open Go.RowKit
theorem aHd {y:Nat}(h:y<aH):Op.negFloat .f64 (aH+y)=y:=by
 rw [←yI h]
 unfold Op.negFloat
 rw [Nat.xor_assoc,Nat.xor_self,Nat.xor_zero]
theorem aLp {x:Nat}(h:x<18446744073709551616):(F6.order x 9218868437227405311==some Ordering.gt)=decide (x=aG):=by
 have hk:=lX
 have hi:aG=9218868437227405312:=rfl
 by_cases hn:aU x=true
 ·rw [kT hn]
  have:x≠aG:=fun e=>by rw [e]at hn;exact absurd hn (by decide)
  rw [decide_eq_false this];rfl
 ·have hle:x%aH≤aG:=by unfold aU at hn;simpa using hn
  rw [jX h (by decide) hle (by decide)]
  have h0:ky 9218868437227405311=9218868437227405311:=by unfold ky;rw [if_pos (by decide)];rfl
  rw [h0]
  unfold ky
  have hks:aH=9223372036854775808:=rfl
  by_cases hs:x<aH
  ·rw [if_pos hs]
   rw [Nat.mod_eq_of_lt hs]at hle
   by_cases he:x=aG
   ·rw [decide_eq_true he,he];decide
   ·rw [decide_eq_false he]
    rcases Nat.lt_or_ge x 9218868437227405311 with h1|h1
    ·rw [Int.compare_eq_lt.2 (by omega)];rfl
    ·rw [Int.compare_eq_eq.2 (by omega)];rfl
  ·rw [if_neg hs,decide_eq_false (by omega),Int.compare_eq_lt.2 (by omega)];rfl
theorem aQ9 (x:Nat) (w:World) (hx:x<18446744073709551616):
  Calls Tryz.prog 140 #[.float .f64 x,.int .i64 1] w (Gives (.bool (decide (x=aG))) w):=by
 have hT:=aLp hx
 generalize decide (x=aG)=R at*
 clear hx
 go_enter Tryz.func140,Tryz.ntmps140
 go_wp2
 go_ret
 exact⟨rfl,Below.refl _ _⟩
theorem aJ4 (x:Nat) (w:World) (hx:x<18446744073709551616):
  Calls Tryz.prog 140 #[.float .f64 x,.int .i64 (-1)] w (Gives (.bool (decide (x=aH+aG))) w):=by
 obtain⟨nx,hnx,hn1,hn2⟩:∃nx,Op.negFloat .f64 x=nx∧nx<18446744073709551616∧(nx=aG↔x=aH+aG):=by
  have hk:=lX
  have hks:aH=9223372036854775808:=rfl
  rcases Nat.lt_or_ge x aH with h|h
  ·exact⟨_,yI h,by omega,by omega⟩
  ·obtain⟨y,rfl⟩:=Nat.exists_eq_add_of_le h
   exact⟨_,aHd (by omega),by omega,by omega⟩
 have hT:=aLp hn1
 rw [show decide (nx=aG)=decide (x=aH+aG)from by rw [decide_eq_decide];exact hn2]at hT
 have H1:∀w,(Op.unary .neg (.float .f64 x)).run Tryz.prog w= .ok (.float .f64 nx) w:=fun w=>by rw [←hnx];rfl
 generalize decide (x=aH+aG)=R at*
 clear hx hnx hn2
 go_enter Tryz.func140,Tryz.ntmps140
 go_wp2
 go_ret
 exact⟨rfl,Below.refl _ _⟩
end
end Go.Proofs.YtfmecpembnmnkaaGreatDoor
