/- Plain: singles; what the references' number comes to; no program. -/
import Derived.Test.YtfmecpembnmnkaaGreatDoorZRi1
import Derived.Test.YtfmecpembnmnkaaGreatDoorGE
import Derived.Test.YtfmecpembnmnkaaGreatDoorGC
import Derived.Test.YtfmecpembnmnkaaGreatDoorGK
import Derived.Shelf.Small.Bits
import Derived.Test.YtfmecpembnmnkaaGreatDoorGQ
import Derived.Test.YtfmecpembnmnkaaGreatDoorGM
namespace Go.Proofs.YtfmecpembnmnkaaGreatDoor
section
open Go.RowKit
def cpB (neg : Bool) (x : Nat) : Nat := (if neg then kSign else 0) + x % kSign
end
section
open Go.RowKit
theorem and_sign_val {b : Nat} (h : b < 18446744073709551616) : bits .and .u64 (b : Int) (kSign : Int) = (((if sgnB b then kSign else 0) : Nat) : Int) := by
 have h0 := bits_and_u64_nat b kSign h (by decide)
 rw [h0]
 congr 1
 have h1 : b &&& kSign = (b.testBit 63).toNat * 2 ^ 63 := by
  apply Nat.eq_of_testBit_eq
  intro i
  rw [Nat.testBit_and, show kSign = 2 ^ 63 from rfl, Nat.testBit_two_pow]
  by_cases hi : 63 = i
  ·subst hi
   cases b.testBit 63 <;> decide
  ·cases b.testBit 63
   ·simp [hi]
   ·rw [Bool.toNat_true, Nat.one_mul, Nat.testBit_two_pow]; simp [hi]
 rw [h1, Nat.testBit_eq_decide_div_mod_eq]
 unfold sgnB
 by_cases h2 : kSign ≤ b
 ·have : b / 2 ^ 63 % 2 = 1 := by unfold kSign at h2; omega
  simp [this, h2]; rfl
 ·have : b / 2 ^ 63 % 2 = 0 := by unfold kSign at h2; omega
  simp [this, h2]
theorem or_sign_val {x : Nat} (hx : x < kSign) (s : Bool) : bits .or .u64 (x : Int) (((if s then kSign else 0) : Nat) : Int) = (((if s then kSign else 0) + x : Nat) : Int) := by
 cases s
 ·have h0 := bits_or_u64_nat x 0 (Nat.lt_trans hx (by decide)) (by decide)
  simp only [Bool.false_eq_true, if_false, Nat.zero_add]
  rw [h0, Nat.or_zero]
 ·simp only [if_true]
  exact join_sign hx
set_option maxRecDepth 100000 in
set_option maxHeartbeats 400000 in
theorem copysign_any (x s : Nat) (w : World) (hx : x < 18446744073709551616) (hs : s < 18446744073709551616) :
  Calls Tryz.prog 158 #[.float .f64 x, .float .f64 s] w (Gives (.float .f64 (cpB (sgnB s) x)) w) := by
 have hp : x % kSign < kSign := Nat.mod_lt _ (by decide)
 have h1 := andNot_sign hx
 have h2 := and_sign_val hs
 have h3 := or_sign_val hp (sgnB s)
 have h4 := fbits_eq x
 have h5 := fbits_eq s
 have h6 := ffrom_eq (cpB (sgnB s) x)
 have HR : Hid ((if sgnB s then kSign else 0) + x % kSign = cpB (sgnB s) x) := Lib.hid rfl
 rw [HR.out] at h3
 generalize cpB (sgnB s) x = R at *
 generalize (if sgnB s then kSign else 0) = k at *
 generalize x % kSign = m at *
 clear hx hs HR hp
 rw [show ((kSign : Nat) : Int) = 9223372036854775808 from rfl] at h1 h2
 go_enter Tryz.func158, Tryz.ntmps158
 go_wp2
 go_ret
 exact ⟨rfl, Below.refl _ _⟩
set_option maxRecDepth 100000 in
set_option maxHeartbeats 400000 in
theorem abs_any (x : Nat) (w : World) (hx : x < 18446744073709551616) :
  Calls Tryz.prog 170 #[.float .f64 x] w (Gives (.float .f64 (x % kSign)) w) := by
 have h1 := andNot_sign hx
 have h4 := fbits_eq x
 have h6 := ffrom_eq (x % kSign)
 generalize x % kSign = m at *
 clear hx
 rw [show ((kSign : Nat) : Int) = 9223372036854775808 from rfl] at h1
 go_enter Tryz.func170, Tryz.ntmps170
 go_wp2
 go_ret
 exact ⟨rfl, Below.refl _ _⟩
theorem inf_test {x : Nat} (hf : x % kSign ≤ kInf) : (F6.order (x % kSign) 9218868437227405311 == some Ordering.gt) = decide (x % kSign = kInf) := by
 have hk := kSign_big
 have hm : x % kSign % kSign = x % kSign := Nat.mod_mod _ _
 have hl : x % kSign < kSign := Nat.mod_lt _ (by decide)
 have hk2 : kSign < 18446744073709551616 := by decide
 rw [order_ky (x := x % kSign) (y := 9218868437227405311) (by omega) (by decide) (by rw [hm]; exact hf) (by decide)]
 unfold ky
 rw [if_pos hl, if_pos (by decide)]
 have hi : kInf = 9218868437227405312 := rfl
 by_cases h : x % kSign = kInf
 ·rw [decide_eq_true h, h]; decide
 ·rw [decide_eq_false h]
  rcases Nat.lt_or_ge (x % kSign) 9218868437227405311 with h1 | h1
  ·rw [Int.compare_eq_lt.2 (by omega)]; rfl
  ·rw [Int.compare_eq_eq.2 (by omega)]; rfl
set_option maxRecDepth 100000 in
set_option maxHeartbeats 400000 in
theorem infNeg_any (w : World) :
  Calls Tryz.prog 100 #[.int .i64 (-1)] w (Gives (.float .f64 18442240474082181120) w) := by
 have h1 : ∀ w, (callFunc 68 #[.int .u64 18442240474082181120]).run Tryz.prog w = .ok (.value (.float .f64 18442240474082181120)) w := ffrom_eq 18442240474082181120
 go_enter Tryz.func100, Tryz.ntmps100
 go_wp2
 go_ret
 exact ⟨rfl, Below.refl _ _⟩
end
section
open Go.RowKit
def rndX (z e mode : Int) : Nat := if z = 0 then 0 else rndB z e mode
end
end Go.Proofs.YtfmecpembnmnkaaGreatDoor
