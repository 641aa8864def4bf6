/- Walks: the sum by halves (program, references). Printed by wip/gen/pairs.py. -/
import Derived.Test.YtloohbkceppocaaGreatDoorGV
import Derived.Test.YtloohbkceppocaaGreatDoorGC
import Derived.Test.YtloohbkceppocaaGreatDoorGW
import Derived.Test.YtloohbkceppocaaGreatDoorGQ
import Derived.Test.YtloohbkceppocaaGreatDoorGM
import Derived.Test.YtloohbkceppocaaGreatDoorGL
namespace Go.Proofs.YtloohbkceppocaaGreatDoor
section
open Go.RowKit
def hfN (n : Nat) : Nat := 2 ^ (bl (n - 1) - 1)
end
section
open Go.RowKit
theorem neg_back {y : Nat} (h : y < kSign) : Op.negFloat .f64 (kSign + y) = y := by
 rw [← neg_bits h]
 unfold Op.negFloat
 rw [Nat.xor_assoc, Nat.xor_self, Nat.xor_zero]
theorem inf_pos {x : Nat} (h : x < 18446744073709551616) : (F6.order x 9218868437227405311 == some Ordering.gt) = decide (x = kInf) := by
 have hk := kSign_big
 have hi : kInf = 9218868437227405312 := rfl
 by_cases hn : nanB x = true
 ·rw [order_nan hn]
  have : x ≠ kInf := fun e => by rw [e] at hn; exact absurd hn (by decide)
  rw [decide_eq_false this]; rfl
 ·have hle : x % kSign ≤ kInf := by unfold nanB at hn; simpa using hn
  rw [order_ky h (by decide) hle (by decide)]
  have h0 : ky 9218868437227405311 = 9218868437227405311 := by unfold ky; rw [if_pos (by decide)]; rfl
  rw [h0]
  unfold ky
  have hks : kSign = 9223372036854775808 := rfl
  by_cases hs : x < kSign
  ·rw [if_pos hs]
   rw [Nat.mod_eq_of_lt hs] at hle
   by_cases he : x = kInf
   ·rw [decide_eq_true he, he]; decide
   ·rw [decide_eq_false he]
    rcases Nat.lt_or_ge x 9218868437227405311 with h1 | h1
    ·rw [Int.compare_eq_lt.2 (by omega)]; rfl
    ·rw [Int.compare_eq_eq.2 (by omega)]; rfl
  ·rw [if_neg hs, decide_eq_false (by omega), Int.compare_eq_lt.2 (by omega)]; rfl
set_option maxRecDepth 100000 in
set_option maxHeartbeats 400000 in
theorem isInf_up (x : Nat) (w : World) (hx : x < 18446744073709551616) :
  Calls Tryz.prog 45 #[.float .f64 x, .int .i64 1] w (Gives (.bool (decide (x = kInf))) w) := by
 have hT := inf_pos hx
 generalize decide (x = kInf) = R at *
 clear hx
 go_enter Tryz.func45, Tryz.ntmps45
 go_wp2
 go_ret
 exact ⟨rfl, Below.refl _ _⟩
set_option maxRecDepth 100000 in
set_option maxHeartbeats 400000 in
theorem isInf_down (x : Nat) (w : World) (hx : x < 18446744073709551616) :
  Calls Tryz.prog 45 #[.float .f64 x, .int .i64 (-1)] w (Gives (.bool (decide (x = kSign + kInf))) w) := by
 obtain ⟨nx, hnx, hn1, hn2⟩ : ∃ nx, Op.negFloat .f64 x = nx ∧ nx < 18446744073709551616 ∧ (nx = kInf ↔ x = kSign + kInf) := by
  have hk := kSign_big
  have hks : kSign = 9223372036854775808 := rfl
  rcases Nat.lt_or_ge x kSign with h | h
  ·exact ⟨_, neg_bits h, by omega, by omega⟩
  ·obtain ⟨y, rfl⟩ := Nat.exists_eq_add_of_le h
   exact ⟨_, neg_back (by omega), by omega, by omega⟩
 have hT := inf_pos hn1
 rw [show decide (nx = kInf) = decide (x = kSign + kInf) from by rw [decide_eq_decide]; exact hn2] at hT
 have H1 : ∀ w, (Op.unary .neg (.float .f64 x)).run Tryz.prog w = .ok (.float .f64 nx) w := fun w => by rw [← hnx]; rfl
 generalize decide (x = kSign + kInf) = R at *
 clear hx hnx hn2
 go_enter Tryz.func45, Tryz.ntmps45
 go_wp2
 go_ret
 exact ⟨rfl, Below.refl _ _⟩
end
end Go.Proofs.YtloohbkceppocaaGreatDoor
