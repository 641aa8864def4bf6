/- Plain: singles; what the references' number comes to; no program. -/
import Derived.Test.YtfmecpembnmnkaaGreatDoorPZRi1
import Derived.Test.YtfmecpembnmnkaaGreatDoorPGO
import Derived.Test.YtfmecpembnmnkaaGreatDoorPGQ
import Derived.Test.YtfmecpembnmnkaaGreatDoorPGM
namespace Go.Proofs.YtfmecpembnmnkaaGreatDoor
section
open Go.RowKit
def cpB (neg:Bool) (x:Nat):Nat:=(if neg then aH else 0)+x%aH
end
section
set_option maxRecDepth 100000
set_option maxHeartbeats 6400000
open Go.RowKit
theorem aC7 (c p d q:Nat) (X Y:Nat) (w:World) (hx:dB .u32 32 w c p (X:Int)) (hy:dB .u32 32 w d q (Y:Int)):
  Calls Tryz.prog 231 #[.pointer (some ⟨c,p,none⟩),.pointer (some ⟨d,q,none⟩)] w (aLf (.int .i64 (dQ X Y)) w):=by
 obtain⟨hxs,hx0,vx,hx1,hrx⟩:=hx
 obtain⟨hys,hy0,vy,hy1,hry⟩:=hy
 rw [Int.natAbs_natCast]at hrx hry
 rw [decide_eq_false (by omega:¬(X:Int)<0)]at hx0
 rw [decide_eq_false (by omega:¬(Y:Int)<0)]at hy0
 have HRx:=jH hrx
 have HRy:=jH hry
 clear hrx hry hxs hys
 go_enter Tryz.func231,Tryz.ntmps231
 go_wp2
 go_quiet (fail)
 go_wp2_with fail
 refine aC (fun w':World=>w'.cell? ⟨c,p+1,none⟩=some vx∧w'.cell? ⟨d,q+1,none⟩=some vy) 8 (.take 0 (.take 1 (.take 2 (.take 3 (.take 4 (.take 5 (.take 6 (.take 7 .nil)))))))) (by kernel_rfl) (by kernel_rfl) ?_
 have hS:(fun w':World=>w'.cell? ⟨c,p+1,none⟩=some vx∧w'.cell? ⟨d,q+1,none⟩=some vy) (w.drewN nq).drew:=⟨by go_simp,by go_simp⟩
 repeat (refine bD (v:= ?_) rfl (fun _ _ _ h=>h) rfl (fun w' hSw=> ?_) hS ?_;rotate_left;focus (go_simp;with_reducible rfl);try simp only [Act.put,aF])
 clear hS
 refine aN ?_
 simp only [drL]
 have HB:=jH ((qM w nq).trans (aB (w.drewN nq)))
 go_wp2_with fail
 refine(oC _ _ X Y _ (HRx.out.below HB.out) (HRy.out.below HB.out)).mono ?_
 rintro e wd ⟨rfl,nd,rfl⟩
 go_wp2
 go_ret
 exact⟨rfl,_,rfl⟩
theorem aD6 {x:Nat}(h:x<4294967296):bits .and .u32 (x:Int) 1=((x%2:Nat):Int):=by
 have h1:=bits_and_u32_nat x 1 h (by decide)
 rw [Nat.and_one_is_mod]at h1
 exact h1
theorem aEk (N:Nat):dg 32 N 0%2=N%2:=by unfold dg;simp
theorem aRk (c p:Nat) (X:Int) (w:World) (hx:dB .u32 32 w c p X) (hl:ln 32 X.natAbs≤68719476736):
  Calls Tryz.prog 232 #[.pointer (some ⟨c,p,none⟩),.int .i64 0] w (Gives (.int .u64 (X%2)) w):=by
 obtain⟨hxs,hx0,vx,hx1,hrx⟩:=hx
 have HF:Hid ((decide (X<0)=false→X%2=((X.natAbs%2:Nat):Int))∧(decide (X<0)=true→1≤X.natAbs∧X%2=1-(((X.natAbs-1)%2:Nat):Int))):=
  jH ⟨fun h=>by have:=of_decide_eq_false h;omega,fun h=>by have:=of_decide_eq_true h;omega⟩
 obtain⟨R,hR⟩:∃R,X%2=R:=⟨_,rfl⟩
 rw [hR]at HF ⊢
 generalize decide (X<0)=sx at*
 generalize X.natAbs=N at*
 have hcx:=hxs.1
 clear hR hxs
 cases sx
 ·have HR:=jH (HF.out.1 rfl)
  clear HF
  obtain⟨ao,cap,rfl,-,hN,hn,hc⟩:=hrx
  by_cases h0:ln 32 N=0
  ·have hN0:N=0:=by
    rw [h0]at hN;simp at hN;exact hN
   rw [hN0]at HR
   rw [h0]at hx1
   clear hN hn hc h0 hN0
   rw [HR.out]
   go_enter Tryz.func232,Tryz.ntmps232
   go_wp2
   go_ret
   exact⟨rfl,Below.refl _ _⟩
  ·obtain⟨b,off,rfl,hb,-,hc⟩:=hc (by omega)
   have hc0:=hc 0 (by omega)
   rw [Nat.add_zero]at hc0
   have hd:=bH N 0
   have he:=aEk N
   rw [←he]at HR
   have hand:=aD6 hd
   have hn0:decide ((0:Int)<(ln 32 N:Nat))=true:=by simp;omega
   have hn1:(0:Int)<(ln 32 N:Nat):=by omega
   clear hN hc h0 he
   rw [HR.out]
   generalize dg 32 N 0=x at*
   generalize ln 32 N=n at*
   have hw:=dU (x%2) (by omega)
   go_enter Tryz.func232,Tryz.ntmps232
   go_wp2
   go_ret
   exact⟨rfl,Below.refl _ _⟩
 ·obtain⟨h1,hR⟩:=HF.out.2 rfl
  have HR:=jH hR
  have HRx:=jH hrx
  obtain⟨avx,cvx,rfl,-⟩:=hrx
  clear HF hR
  go_enter Tryz.func232,Tryz.ntmps232
  go_wp2_with fail
  refine(sK _ _ _ 1 N 1 _ (HRx.out.below (Below.aA _ _)) (Raw.uno _) (by omega) h1).mono ?_
  rintro e w1 ⟨v1,rfl,hb1,hr1⟩
  have HB:=jH ((Below.aA w _).trans (hb1.mono (by simp)))
  have hx0':=(HB.out.cell (p:=⟨c,p,none⟩) hcx).trans hx0
  have HR1:=jH hr1
  clear hb1
  obtain⟨ao,cap,rfl,-,hN,hn,hc⟩:=hr1
  by_cases h0:ln 32 (N-1)=0
  ·have hN0:N-1=0:=by
    rw [h0]at hN;simp at hN;exact hN
   rw [hN0]at HR
   clear hN hn hc hN0
   rw [h0]
   clear h0
   go_wp2
   go_ret
   exact⟨by rw [HR.out];rfl,HB.out⟩
  ·obtain⟨b,off,rfl,hb,-,hc⟩:=hc (by omega)
   have hc0:=hc 0 (by omega)
   rw [Nat.add_zero]at hc0
   have hd:=bH (N-1) 0
   have he:=aEk (N-1)
   rw [←he]at HR
   have hand:=aD6 hd
   have hn1:(0:Int)<(ln 32 (N-1):Nat):=by omega
   clear hN hc h0 he
   generalize dg 32 (N-1) 0=x at*
   generalize ln 32 (N-1)=n at*
   have hw:IntKind.u32.wrap (1-((x%2:Nat):Int))=1-((x%2:Nat):Int):=by rw [IntKind.wrap_u32];omega
   have hw2:IntKind.u64.wrap (1-((x%2:Nat):Int))=1-((x%2:Nat):Int):=by rw [IntKind.wrap_u64];omega
   generalize ((x%2:Nat):Int)=y at*
   go_wp2
   go_ret
   exact⟨by rw [HR.out];rfl,HB.out⟩
end
section
set_option maxRecDepth 100000
set_option maxHeartbeats 6400000
open Go.RowKit
theorem zS {b:Nat}(h:b<18446744073709551616):bits .and .u64 (b:Int) (aH:Int)=(((if aQ b then aH else 0):Nat):Int):=by
 have h0:=bits_and_u64_nat b aH h (by decide)
 rw [h0]
 congr 1
 have h1:b&&&aH=(b.testBit 63).toNat*2^63:=by
  apply Nat.eq_of_testBit_eq
  intro i
  rw [Nat.testBit_and,show aH=2^63 from rfl,Nat.testBit_two_pow]
  by_cases hi:63=i
  ·subst hi
   cases b.testBit 63<;>decide
  ·cases b.testBit 63
   ·simp [hi]
   ·rw [Bool.toNat_true,Nat.one_mul,Nat.testBit_two_pow];simp [hi]
 rw [h1,Nat.testBit_eq_decide_div_mod_eq]
 unfold aQ
 by_cases h2:aH≤b
 ·have:b/2^63%2=1:=by unfold aH at h2;omega
  simp [this,h2];rfl
 ·have:b/2^63%2=0:=by unfold aH at h2;omega
  simp [this,h2]
theorem aG3 {x:Nat}(hx:x<aH) (s:Bool):bits .or .u64 (x:Int) (((if s then aH else 0):Nat):Int)=(((if s then aH else 0)+x:Nat):Int):=by
 cases s
 ·have h0:=bits_or_u64_nat x 0 (Nat.lt_trans hx (by decide)) (by decide)
  simp only [Bool.false_eq_true,if_false,Nat.zero_add]
  rw [h0,Nat.or_zero]
 ·simp only [if_true]
  exact zW hx
theorem zL (x s:Nat) (w:World) (hx:x<18446744073709551616) (hs:s<18446744073709551616):
  Calls Tryz.prog 158 #[.float .f64 x,.float .f64 s] w (Gives (.float .f64 (cpB (aQ s) x)) w):=by
 have hp:x%aH<aH:=Nat.mod_lt _ (by decide)
 have h1:=qH hx
 have h2:=zS hs
 have h3:=aG3 hp (aQ s)
 have h4:=gZ x
 have h5:=gZ s
 have h6:=lM (cpB (aQ s) x)
 have HR:Hid ((if aQ s then aH else 0)+x%aH=cpB (aQ s) x):=jH rfl
 rw [HR.out]at h3
 generalize cpB (aQ s) x=R at*
 generalize (if aQ s then aH else 0)=k at*
 generalize x%aH=m at*
 clear hx hs HR hp
 rw [show((aH:Nat):Int)=9223372036854775808 from rfl]at h1 h2
 go_enter Tryz.func158,Tryz.ntmps158
 go_wp2
 go_ret
 exact⟨rfl,Below.refl _ _⟩
theorem yF (x:Nat) (w:World) (hx:x<18446744073709551616):
  Calls Tryz.prog 170 #[.float .f64 x] w (Gives (.float .f64 (x%aH)) w):=by
 have h1:=qH hx
 have h4:=gZ x
 have h6:=lM (x%aH)
 generalize x%aH=m at*
 clear hx
 rw [show((aH:Nat):Int)=9223372036854775808 from rfl]at h1
 go_enter Tryz.func170,Tryz.ntmps170
 go_wp2
 go_ret
 exact⟨rfl,Below.refl _ _⟩
theorem aGi {x:Nat}(hf:x%aH≤aG):(F6.order (x%aH) 9218868437227405311==some Ordering.gt)=decide (x%aH=aG):=by
 have hk:=lX
 have hm:x%aH%aH=x%aH:=Nat.mod_mod _ _
 have hl:x%aH<aH:=Nat.mod_lt _ (by decide)
 have hk2:aH<18446744073709551616:=by decide
 rw [jX (x:=x%aH) (y:=9218868437227405311) (by omega) (by decide) (by rw [hm];exact hf) (by decide)]
 unfold ky
 rw [if_pos hl,if_pos (by decide)]
 have hi:aG=9218868437227405312:=rfl
 by_cases h:x%aH=aG
 ·rw [decide_eq_true h,h];decide
 ·rw [decide_eq_false h]
  rcases Nat.lt_or_ge (x%aH) 9218868437227405311 with h1|h1
  ·rw [Int.compare_eq_lt.2 (by omega)];rfl
  ·rw [Int.compare_eq_eq.2 (by omega)];rfl
theorem aMo (x:Nat) (w:World) (hx:x<18446744073709551616) (hf:x%aH≤aG):
  Calls Tryz.prog 140 #[.float .f64 x,.int .i64 0] w (Gives (.bool (decide (x%aH=aG))) w):=by
 have HA:=jH fun w=>yF x w hx
 have hT:=aGi hf
 generalize decide (x%aH=aG)=R at*
 generalize x%aH=m at*
 clear hx hf
 go_enter Tryz.func140,Tryz.ntmps140
 go_wp2_with fail
 refine(HA.out _).mono ?_
 rintro e1 w1 ⟨rfl,hb⟩
 have HB:=jH hb
 clear hb
 go_wp2
 go_ret
 exact⟨rfl,HB.out⟩
theorem kK (w:World):
  Calls Tryz.prog 100 #[.int .i64 (-1)] w (Gives (.float .f64 18442240474082181120) w):=by
 have h1:∀w,(callFunc 68 #[.int .u64 18442240474082181120]).run Tryz.prog w= .ok (.value (.float .f64 18442240474082181120)) w:=lM 18442240474082181120
 go_enter Tryz.func100,Tryz.ntmps100
 go_wp2
 go_ret
 exact⟨rfl,Below.refl _ _⟩
end
section
open Go.RowKit
def aV (z e mode:Int):Nat:=if z=0 then 0 else eU z e mode
end
end Go.Proofs.YtfmecpembnmnkaaGreatDoor
