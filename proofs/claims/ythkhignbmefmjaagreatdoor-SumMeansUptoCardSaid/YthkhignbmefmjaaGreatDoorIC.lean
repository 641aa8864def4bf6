/- Plain: what interval's quick ways come to: a sum, a product, a quotient rounded outward. No program. -/
import Derived.Test.YthkhignbmefmjaaGreatDoorIA
import Derived.Test.YthkhignbmefmjaaGreatDoorIB
import Derived.Test.YthkhignbmefmjaaGreatDoorGV
import Derived.Laws.Bits64
namespace Go.Proofs.YthkhignbmefmjaaGreatDoor
section
open Go.RowKit
theorem fI_vI (b : Nat) : fI b = vI 1074 b := rfl
end
section
open Go.RowKit
theorem rootFrom_spec (n : Nat) : ∀ (todo root : Nat), root * root ≤ n → n < (root + 2 ^ todo) * (root + 2 ^ todo) → Ieee.Datum.rootFrom n todo root * Ieee.Datum.rootFrom n todo root ≤ n ∧ n < (Ieee.Datum.rootFrom n todo root + 1) * (Ieee.Datum.rootFrom n todo root + 1) := by
 intro todo
 induction todo with
 | zero => intro root h1 h2; exact ⟨h1, by rw [Nat.pow_zero] at h2; exact h2⟩
 | succ todo ih =>
  intro root h1 h2
  unfold Ieee.Datum.rootFrom
  simp only [Nat.one_shiftLeft]
  split
  ·rename_i h
   exact ih _ h (by rw [Nat.pow_succ] at h2; rw [show root + 2 ^ todo + 2 ^ todo = root + 2 ^ todo * 2 by omega]; exact h2)
  ·rename_i h
   exact ih _ h1 (by omega)
def rtMore (x : Nat) : Nat := (108 - (mantB x).log2) + ((expB x - ((108 - (mantB x).log2 : Nat) : Int)) % 2).toNat
def rtN (x : Nat) : Nat := mantB x <<< rtMore x
def rtW (x : Nat) : Nat := Ieee.Datum.rootFrom (rtN x) ((rtN x).log2 / 2 + 1) 0
def rtZ (x : Nat) : Nat := 2 * rtW x + (rtW x * rtW x != rtN x).toNat
def rtE (x : Nat) : Int := (expB x - (rtMore x : Int)) / 2 - 1
theorem rtW_spec (x : Nat) : rtW x * rtW x ≤ rtN x ∧ rtN x < (rtW x + 1) * (rtW x + 1) := by
 unfold rtW
 refine rootFrom_spec _ _ _ (by simp) ?_
 rw [Nat.zero_add, ← Nat.pow_add]
 have := Nat.lt_log2_self (n := rtN x)
 exact Nat.lt_of_lt_of_le this (Nat.pow_le_pow_right (by decide) (by omega))
theorem rtW_large {x : Nat} (hm : mantB x ≠ 0) : 2 ^ 53 ≤ rtW x := by
 obtain ⟨-, h2⟩ := rtW_spec x
 have h3 : 2 ^ 108 ≤ rtN x := by
  unfold rtN
  rw [Nat.shiftLeft_eq]
  have h4 := Nat.log2_self_le hm
  have h5 : 2 ^ 108 ≤ 2 ^ ((mantB x).log2 + rtMore x) := Nat.pow_le_pow_right (by decide) (by unfold rtMore; omega)
  rw [Nat.pow_add] at h5
  exact Nat.le_trans h5 (Nat.mul_le_mul_right _ h4)
 rcases Nat.lt_or_ge (rtW x) (2 ^ 53) with h | h
 ·have := Nat.mul_le_mul (show rtW x + 1 ≤ 2 ^ 53 by omega) (show rtW x + 1 ≤ 2 ^ 53 by omega)
  omega
 ·exact h
theorem fsqrt_fin {x : Nat} (hx : W64 x) (fx : finB x = true) (x0 : valZ x ≠ 0) (hs : sgnB x = false) : F6.sqrt x = some (rndX (rtZ x) (rtE x) 0) ∧ (rtZ x : Int) ≠ 0 := by
 have mx : mantB x ≠ 0 := fun h => x0 (valZ_zero.2 h)
 have hW := rtW_large mx
 have hz : (rtZ x : Int) ≠ 0 := by unfold rtZ; have : 0 < 2 ^ 53 := by decide
                                   omega
 refine ⟨?_, hz⟩
 unfold rndX
 rw [if_neg hz, rnd_near hz, decide_eq_false (by omega), Int.natAbs_natCast]
 unfold Ieee.Format.sqrt
 rw [read_fin hx fx, F6_frac, hs]
 unfold Ieee.Datum.root
 simp only [if_neg mx]
 rfl
end
end Go.Proofs.YthkhignbmefmjaaGreatDoor
