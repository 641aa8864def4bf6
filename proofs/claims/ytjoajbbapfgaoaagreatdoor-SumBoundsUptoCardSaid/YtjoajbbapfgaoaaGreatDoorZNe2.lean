/- Plain: nearest, with signs; what is answered for too great. -/
import Derived.Test.YtjoajbbapfgaoaaGreatDoorZNe1
import Derived.Test.YtjoajbbapfgaoaaGreatDoorGT
namespace Go.Proofs.YtjoajbbapfgaoaaGreatDoor
open Go.RowKit

/-- An answer that is no finite number: an infinity of the sum's sign; and the sum lies beyond the middle of the greatest number and the next power of 2. -/
theorem near_inf {M z e : Int} (hM : 1074 ≤ M) (h1 : 0 ≤ e + M) (hf : finB (rndX z e 0) = false) :
    z ≠ 0 ∧ rndX z e 0 = (if decide (z < 0) then kSign else 0) + kInf ∧ (2 ^ 54 - 1) * 2 ^ (970 + M).toNat ≤ z.natAbs * 2 ^ (e + M).toNat := by
  unfold rndX at *
  by_cases hz : z = 0
  · rw [if_pos hz] at hf; exact absurd hf (by decide)
  · rw [if_neg hz] at hf ⊢
    have hbey : beyB (decide (z < 0)) 0 = false := by cases decide (z < 0) <;> rfl
    have hw : kInf ≤ wdN z e 0 := by
      rcases Nat.lt_or_ge (wdN z e 0) kInf with h | h
      · exfalso
        have hr : rndB z e 0 = (if decide (z < 0) then kSign else 0) + wdN z e 0 := by
          rw [rnd_cap hz]; unfold capW; rw [if_pos h]
        have hk := kSign_big
        have hm : rndB z e 0 % kSign = wdN z e 0 := by
          rw [hr]
          split
          · rw [Nat.add_mod_left, Nat.mod_eq_of_lt (by omega)]
          · rw [Nat.zero_add, Nat.mod_eq_of_lt (by omega)]
        rcases fin_word (b := rndB z e 0) (by omega) with h2 | h2
        · rw [h2.1] at hf; cases hf
        · omega
      · exact h
    refine ⟨hz, ?_, ?_⟩
    · have hcap : capW false (wdN z e 0) = kInf := by unfold capW; rw [if_neg (by omega)]; rfl
      rw [rnd_cap hz, hbey, hcap]
    · obtain ⟨w2, hww, h2, h3, h4, h5⟩ := near_two hM h1 hz
      obtain ⟨K, J, hJe, hK1, hK2, hK3, hK4, hK5, hK6⟩ : ∃ K J : Nat, J + 1 = kInf ∧ kInf / kHid - 1 = K + 2 ∧ J / kHid - 1 = K + 1 ∧ K = 2044 ∧ ¬ J < kHid ∧ J % kHid + kHid = 9007199254740991 ∧ kInf % kHid + kHid = 4503599627370496 := ⟨2044, 9218868437227405311, by decide, by decide, by decide, rfl, by decide, by decide, by decide⟩
      have hK7 : (970 + M).toNat = K + (M - 1074).toNat := by clear h2 h3 h4 h5; omega
      have hp : 2 ^ (970 + M).toNat = 2 ^ K * 2 ^ (M - 1074).toNat := by rw [← Nat.pow_add, hK7]
      clear hK3 hK7
      have hI : wv kInf = 4503599627370496 * 2 ^ (K + 2) := by
        unfold wv; rw [if_neg (by decide), hK6, hK1]
      have hJ : wv J = 9007199254740991 * 2 ^ (K + 1) := by
        unfold wv; rw [if_neg hK4, hK5, hK2]
      have e1 : 2 ^ (K + 2) = 4 * 2 ^ K := by rw [Nat.pow_succ, Nat.pow_succ]; omega
      have e2 : 2 ^ (K + 1) = 2 * 2 ^ K := by rw [Nat.pow_succ]; omega
      rw [e1] at hI
      rw [e2] at hJ
      rw [hp, show 2 ^ 54 - 1 = 18014398509481983 from rfl]
      clear e1 e2 hp hK1 hK2 hK4 hK5 hK6
      generalize 2 ^ K = P at *
      generalize z.natAbs * 2 ^ (e + M).toNat = A at *
      generalize 2 ^ (M - 1074).toNat = U at *
      have hIU : wv kInf * U = 18014398509481984 * (P * U) := by rw [hI, show 4503599627370496 * (4 * P) = 18014398509481984 * P by omega, Nat.mul_assoc]
      have hJU : wv J * U = 18014398509481982 * (P * U) := by rw [hJ, show 9007199254740991 * (2 * P) = 18014398509481982 * P by omega, Nat.mul_assoc]
      generalize P * U = Q at *
      rcases Nat.lt_or_ge w2 kInf with hc | hc
      · have hk : kInf ≠ 0 := by decide
        obtain rfl : w2 = J := by omega
        have h6 := h5 (by omega)
        rw [hJe] at h6 h3
        omega
      · have h6 : wv kInf * U ≤ wv w2 * U := Nat.mul_le_mul_right _ (wv_mono hc)
        omega

end Go.Proofs.YtjoajbbapfgaoaaGreatDoor
