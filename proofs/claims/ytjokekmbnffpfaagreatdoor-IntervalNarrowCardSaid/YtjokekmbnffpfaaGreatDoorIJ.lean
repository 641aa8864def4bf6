/- Plain: what is inside stays inside. -/
import Derived.Test.YtjokekmbnffpfaaGreatDoorII
import Derived.Test.YtjokekmbnffpfaaGreatDoorZIwr
section
namespace Go.Proofs.YtjokekmbnffpfaaGreatDoor
open Go.RowKit

theorem own_parts {b : Nat} (hb : W64 b) : valZ (kb (ky b)) = valZ b ∧ pE (kb (ky b)) = pE b := by
  by_cases h : b = kSign
  · subst h; decide
  · rw [kb_own h]; exact ⟨rfl, rfl⟩
theorem flip_own {b : Nat} (hb : W64 b) : valZ (flipB b) = -valZ b ∧ pE (flipB b) = pE b := by
  obtain ⟨h1, h2, h3⟩ := flip_parts hb
  unfold valZ pE pM
  rw [h1, h2, h3]
  cases sgnB b <;> simp

theorem pt_plc {u : Nat} (hu : W64 u) (fu : finB u = true) : (-(kInf : Int) < ky u ∧ ky u < kInf) ∧ PlcR (ky u) := by
  have := (fin_ky hu (num_of (nan_fin fu))).1 fu
  exact ⟨this, by unfold PlcR; omega⟩
theorem pr_pt {u v : Nat} (hu : W64 u) (hv : W64 v) (fu : finB u = true) (fv : finB v = true) (mode : Int) : prK (kb (ky u)) (kb (ky v)) mode = mlK u v mode := by
  obtain ⟨a1, a2⟩ := pt_plc hu fu
  obtain ⟨b1, b2⟩ := pt_plc hv fv
  have hz : ky 0 = 0 := by decide
  rw [pr_form a2 b2]
  by_cases h : ky u = 0 ∨ ky v = 0
  · rw [if_pos h]
    have : valZ u * valZ v = 0 := by
      rcases h with h | h
      · rw [(fI_zero_iff hu fu).1.1 (by have := fI_zero_iff hu fu; omega), Int.zero_mul]
      · rw [(fI_zero_iff hv fv).1.1 (by have := fI_zero_iff hv fv; omega), Int.mul_zero]
    unfold mlK
    rw [this]
    show 0 = ky (rndX 0 _ mode)
    unfold rndX
    rw [if_pos rfl, hz]
  · rw [if_neg h, if_pos ⟨a1, b1⟩]
    unfold mlK
    rw [(own_parts hu).1, (own_parts hu).2, (own_parts hv).1, (own_parts hv).2]
theorem sc_shift {M N z e : Int} (h1 : 0 ≤ e + M) (h2 : 0 ≤ N) : sc (M + N) z e = sc M z e * 2 ^ N.toNat := by
  unfold sc
  rw [show (e + (M + N)).toNat = (e + M).toNat + N.toNat by omega, Int.pow_add, Int.mul_assoc]
theorem fI_shift {u : Nat} (fu : finB u = true) : sc 2148 (valZ u) (pE u) = fI u * 2 ^ 1074 := by
  have := pE_bd fu
  exact sc_shift (M := 1074) (N := 1074) (by omega) (by omega)
theorem fI_times {u v : Nat} (fu : finB u = true) (fv : finB v = true) : sc 2148 (valZ u * valZ v) (pE u + pE v) = fI u * fI v := by
  have := pE_bd fu
  have := pE_bd fv
  exact sc_times (M := 1074) (by omega) (by omega)

theorem by_pt {u v : Nat} (hu : W64 u) (hv : W64 v) (fu : finB u = true) (fv : finB v = true) (h : 0 < ky v) (h0 : ky u ≠ 0) (mode : Int) : byK (kb (ky u)) (kb (ky v)) mode = dvK u v mode := by
  obtain ⟨a1, a2⟩ := pt_plc hu fu
  obtain ⟨b1, b2⟩ := pt_plc hv fv
  rw [by_form a2 b2 (by omega), if_neg (by omega), if_neg (by omega), if_pos a1]
  have e1 : kb (ky u) = u := kb_own fun e => by rw [e] at h0; exact h0 ky_sign
  have e2 : kb (ky v) = v := kb_own fun e => by rw [e, ky_sign] at h; omega
  rw [e1, e2]
end Go.Proofs.YtjokekmbnffpfaaGreatDoor
end

/- Plain: roots and powers of what is inside. -/
section
namespace Go.Proofs.YtjokekmbnffpfaaGreatDoor
open Go.RowKit

theorem ro_pt {u : Nat} (hu : W64 u) (fu : finB u = true) (mode : Int) : (0 < ky u → roK (kb (ky u)) mode = rtK u mode) ∧ (ky u = 0 → roK (kb (ky u)) mode = 0) := by
  obtain ⟨a1, a2⟩ := pt_plc hu fu
  rw [ro_form a2]
  refine ⟨fun h => ?_, fun h => by rw [if_pos h]⟩
  rw [if_neg (by omega), kb_own fun e => by rw [e, ky_sign] at h; omega]

theorem two_cast (k : Nat) : ((2 ^ k : Nat) : Int) = 2 ^ k := by rw [Int.natCast_pow]; rfl
theorem nn_of {x : Int} (h : 0 ≤ x) : (x.natAbs : Int) = x := Int.natAbs_of_nonneg h

end Go.Proofs.YtjokekmbnffpfaaGreatDoor
end
