/- Plain: numbers of 53 digits, rounded to the nearest: half a unit; what is lost can be had exactly; sums in order, by halves, Neumaier's. No program. -/
import Init
import Derived.Test.YtlhebpoiakpkoaaGreatDoorZRi1
import Derived.Test.YtlhebpoiakpkoaaGreatDoorGT
import Derived.Test.YtlhebpoiakpkoaaGreatDoorGW
section
namespace Go.Proofs.YtlhebpoiakpkoaaGreatDoor

/-- A whole number that a float of 53 digits can be, whatever its size. -/
def Rep53 (x : Int) : Prop := ∃ (m : Int) (k : Nat), x = m * 2 ^ k ∧ m.natAbs ≤ 9007199254740992

/-- r is of those the nearest to x. -/
def NearR (x r : Int) : Prop := Rep53 r ∧ ∀ y, Rep53 y → (x - r).natAbs ≤ (x - y).natAbs

theorem Rep53.neg {x : Int} (h : Rep53 x) : Rep53 (-x) := by
  obtain ⟨m, k, rfl, hm⟩ := h
  exact ⟨-m, k, by rw [Int.neg_mul], by rw [Int.natAbs_neg]; exact hm⟩

theorem Rep53.small {x : Int} (h : x.natAbs ≤ 9007199254740992) : Rep53 x := ⟨x, 0, by simp, h⟩

theorem Rep53.zero : Rep53 0 := Rep53.small (by decide)

theorem NearR.self {x r : Int} (h : NearR x r) (hx : Rep53 x) : r = x := by
  have := h.2 x hx
  omega

theorem NearR.neg {x r : Int} (h : NearR x r) : NearR (-x) (-r) := by
  refine ⟨h.1.neg, fun y hy => ?_⟩
  have := h.2 (-y) hy.neg
  omega

/-- Between 2^52 and 2^53 steps of size 2^k: no farther than half a step. -/
theorem NearR.half {x r : Int} (h : NearR x r) (k : Nat) (hx : x.natAbs ≤ 9007199254740992 * 2 ^ k) : 2 * (x - r).natAbs ≤ 2 ^ k := by
  have hP : (0 : Int) < 2 ^ k := Int.pow_pos (by decide)
  obtain ⟨q, hq⟩ : ∃ q, x / 2 ^ k = q := ⟨_, rfl⟩
  have hdm := Int.mul_ediv_add_emod x (2 ^ k)
  have h1 := Int.emod_nonneg x (Int.ne_of_gt hP)
  have h2 := Int.emod_lt_of_pos x hP
  rw [hq] at hdm
  have hc : ((2 ^ k : Nat) : Int) = 2 ^ k := by rw [Int.natCast_pow]; rfl
  have hlo : q.natAbs ≤ 9007199254740992 ∧ (x % 2 ^ k ≠ 0 → (q + 1).natAbs ≤ 9007199254740992) := by
    have hxx := Int.ofNat_le.2 hx
    rw [Int.natCast_mul, hc] at hxx
    have hx1 : x ≤ 9007199254740992 * 2 ^ k := by omega
    have hx2 : -(9007199254740992 * 2 ^ k) ≤ x := by omega
    have h3 : q ≤ 9007199254740992 := by
      rw [← hq]; exact Int.ediv_le_of_le_mul hP hx1
    have h4 : -9007199254740992 ≤ q := by
      rw [← hq]; exact (Int.le_ediv_iff_mul_le hP).2 (by rw [Int.neg_mul]; exact hx2)
    refine ⟨by omega, fun h0 => ?_⟩
    have h5 : q ≠ 9007199254740992 := by
      intro h6
      subst h6
      have : (2 : Int) ^ k * 9007199254740992 = 9007199254740992 * 2 ^ k := Int.mul_comm _ _
      omega
    omega
  have hA := h.2 (q * 2 ^ k) ⟨q, k, rfl, hlo.1⟩
  have hqm : q * 2 ^ k = 2 ^ k * q := Int.mul_comm _ _
  by_cases h0 : x % 2 ^ k = 0
  · have : x - q * 2 ^ k = 0 := by omega
    rw [this] at hA
    have : (x - r).natAbs = 0 := by simpa using hA
    omega
  · have hB := h.2 ((q + 1) * 2 ^ k) ⟨q + 1, k, rfl, hlo.2 h0⟩
    have hq2 : (q + 1) * 2 ^ k = 2 ^ k * q + 2 ^ k := by rw [Int.add_mul, Int.one_mul, hqm]
    rw [hq2] at hB
    rw [hqm] at hA
    generalize (2 : Int) ^ k * q = g at *
    generalize hPk : (2 : Int) ^ k = P at *
    have hPn : ((2 ^ k : Nat) : Int) = P := hc
    generalize (2 ^ k : Nat) = Pn at *
    omega

/-- What is not as small as 2^53 steps lies between two powers. -/
theorem bin_of (n : Nat) : n ≤ 9007199254740992 ∨ ∃ k : Nat, 4503599627370496 * 2 ^ (k + 1) < n ∧ n ≤ 9007199254740992 * 2 ^ (k + 1) := by
  by_cases h : n ≤ 9007199254740992
  · exact .inl h
  · right
    have key : ∀ j : Nat, n ≤ 9007199254740992 * 2 ^ j → ∃ k : Nat, 4503599627370496 * 2 ^ (k + 1) < n ∧ n ≤ 9007199254740992 * 2 ^ (k + 1) := by
      intro j
      induction j with
      | zero => intro h2; simp at h2; omega
      | succ j ih =>
        intro h2
        by_cases h3 : n ≤ 9007199254740992 * 2 ^ j
        · exact ih h3
        · refine ⟨j, ?_, h2⟩
          rw [Nat.pow_succ]; omega
    refine key n ?_
    have := Nat.lt_two_pow_self (n := n)
    omega

/-- Half a unit in the last place. -/
theorem NearR.ulp {x r : Int} (h : NearR x r) : 9007199254740992 * (x - r).natAbs ≤ x.natAbs := by
  rcases bin_of x.natAbs with h1 | ⟨k, h1, h2⟩
  · rw [h.self (Rep53.small h1)]; simp
  · have := h.half (k + 1) h2
    omega

end Go.Proofs.YtlhebpoiakpkoaaGreatDoor
end

/- Plain: floats as whole numbers of units of 2^-1074; a sum, a difference is the nearest to the exact one. -/
section
namespace Go.Proofs.YtlhebpoiakpkoaaGreatDoor
open Go.RowKit

/-- A number in units of 2^-1074. -/
def fI (b : Nat) : Int := sc 1074 (valZ b) (pE b)

/-- Where sums of numbers begin to be no numbers: (2^54 - 1) U, with U = 2^2044. -/
def unE : Nat := 2044
def unU : Nat := 2 ^ unE
theorem fI_zero {r : Nat} (h : r = 0 ∨ r = kSign) : fI r = 0 := by
  rcases h with rfl | rfl
  · unfold fI; rw [show valZ 0 = 0 by decide, sc_zero]
  · unfold fI; rw [show valZ kSign = 0 by decide, sc_zero]

/-- The other sign. -/
def flipB (b : Nat) : Nat := if b < kSign then b + kSign else b - kSign

theorem flip_lt {b : Nat} (h : b < 18446744073709551616) : flipB b < 18446744073709551616 := by unfold flipB kSign; split <;> omega
theorem flip_fin {b : Nat} : finB (flipB b) = finB b := by
  unfold finB expF flipB kHid kSign
  congr 2
  rw [show ((if b < 9223372036854775808 then b + 9223372036854775808 else b - 9223372036854775808) / 4503599627370496 % 2048 = b / 4503599627370496 % 2048) by split <;> omega]

theorem flip_parts {b : Nat} (h : b < 18446744073709551616) : mantB (flipB b) = mantB b ∧ expB (flipB b) = expB b ∧ sgnB (flipB b) = !sgnB b := by
  have h1 : expF (flipB b) = expF b := by unfold expF flipB kHid kSign; split <;> omega
  have h2 : fracF (flipB b) = fracF b := by unfold fracF flipB kHid kSign; split <;> omega
  refine ⟨by unfold mantB; rw [h1, h2], by unfold expB; rw [h1], ?_⟩
  unfold sgnB flipB kSign
  by_cases h3 : b < 9223372036854775808
  · rw [if_pos h3, decide_eq_true (by omega), decide_eq_false (by omega)]; rfl
  · rw [if_neg h3, decide_eq_false (by omega), decide_eq_true (by omega)]; rfl

end Go.Proofs.YtlhebpoiakpkoaaGreatDoor
end
