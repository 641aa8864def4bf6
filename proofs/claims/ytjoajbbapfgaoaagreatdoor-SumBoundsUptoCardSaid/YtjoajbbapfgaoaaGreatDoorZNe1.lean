/- Plain: the number nearest to an exact one is no farther from it than any other; what is too great lies beyond the middle. -/
import Derived.Test.YtjoajbbapfgaoaaGreatDoorZRi1
namespace Go.Proofs.YtjoajbbapfgaoaaGreatDoor
open Go.RowKit

theorem fl_two (neg : Bool) : FlM neg 2 := fun N d => by unfold upB; split <;> rfl

/-- Up or not, to the nearest: the rest says. -/
theorem cut_near {N : Nat} {d : Int} {neg : Bool} (hd : 0 < d) :
    (cutZ N d neg 0 = N / 2 ^ d.toNat ∧ N % 2 ^ d.toNat ≤ 2 ^ d.toNat - N % 2 ^ d.toNat) ∨ (cutZ N d neg 0 = N / 2 ^ d.toNat + 1 ∧ 2 ^ d.toNat - N % 2 ^ d.toNat ≤ N % 2 ^ d.toNat) := by
  obtain ⟨k, rfl⟩ : ∃ k : Nat, d = ((k + 1 : Nat) : Int) := ⟨d.toNat - 1, by omega⟩
  unfold cutZ
  rw [if_neg (by omega), Int.toNat_natCast]
  have hp : 2 ^ (k + 1) = 2 * 2 ^ k := by rw [Nat.pow_succ, Nat.mul_comm]
  have hm := Nat.mod_lt N (Nat.two_pow_pos (k + 1))
  by_cases h0 : N % 2 ^ (k + 1) = 0
  · left
    rw [up_z h0, h0]; simp
  · rw [up_0 h0, show k + 1 - 1 = k from rfl]
    generalize N % 2 ^ (k + 1) = r at *
    generalize N / 2 ^ (k + 1) = q at *
    rw [hp] at hm ⊢
    generalize 2 ^ k = h at *
    cases hb : (decide (h < r) || (decide (r = h) && decide (q % 2 = 1)))
    · left
      refine ⟨by simp, ?_⟩
      simp at hb; omega
    · right
      refine ⟨by simp, ?_⟩
      simp at hb; omega

/-- The two words around an exact amount: what the nearest is. -/
theorem near_two {M z e : Int} (hM : 1074 ≤ M) (h1 : 0 ≤ e + M) (hz : z ≠ 0) :
    ∃ w2 : Nat, (wdN z e 0 = w2 ∨ wdN z e 0 = w2 + 1) ∧ wv w2 * 2 ^ (M - 1074).toNat ≤ z.natAbs * 2 ^ (e + M).toNat ∧ z.natAbs * 2 ^ (e + M).toNat ≤ wv (w2 + 1) * 2 ^ (M - 1074).toNat ∧
      (wdN z e 0 = w2 → (z.natAbs * 2 ^ (e + M).toNat - wv w2 * 2 ^ (M - 1074).toNat) ≤ (wv (w2 + 1) * 2 ^ (M - 1074).toNat - z.natAbs * 2 ^ (e + M).toNat)) ∧
      (wdN z e 0 = w2 + 1 → (wv (w2 + 1) * 2 ^ (M - 1074).toNat - z.natAbs * 2 ^ (e + M).toNat) ≤ (z.natAbs * 2 ^ (e + M).toNat - wv w2 * 2 ^ (M - 1074).toNat)) := by
  have hl : -1074 ≤ lastE z e 53 (-1074) := by unfold lastE; omega
  refine ⟨wdN z e 2, ?_, ?_, ?_, ?_, ?_⟩
  · have := wdN_adj (z := z) (e := e) (m2 := 0) (fl_two (decide (z < 0))); omega
  · exact val_fl hM h1 hz (fl_two _) _ (Nat.le_refl _)
  · obtain ⟨mc, hmc⟩ : ∃ mc, CeM (decide (z < 0)) mc := by
      cases decide (z < 0)
      · exact ⟨3, ce_pos⟩
      · exact ⟨4, ce_neg⟩
    have h2 := (wdN_adj (z := z) (e := e) (m2 := mc) (fl_two (decide (z < 0)))).2
    exact Nat.le_trans (val_ce hM h1 hz hmc) (Nat.mul_le_mul_right _ (wv_mono h2))
  all_goals
    intro hw
    have hv2 := wv_up (e := e) (mode := 2) hM hz
    by_cases hd : lastE z e 53 (-1074) - e ≤ 0
    · have hr : ∀ m, roundZ z e 53 (-1074) m = z.natAbs * 2 ^ (-(lastE z e 53 (-1074) - e)).toNat := fun m => by unfold roundZ cutZ; rw [if_pos hd]
      have he : wv (wdN z e 2) * 2 ^ (M - 1074).toNat = z.natAbs * 2 ^ (e + M).toNat := by
        rw [hv2, hr, Nat.mul_assoc, ← Nat.pow_add]; congr 2; omega
      first
      | (rw [he, Nat.sub_self]; exact Nat.zero_le _)
      | (exfalso
         have : wdN z e 0 = wdN z e 2 := by unfold wdN; rw [hr 0, hr 2]
         omega)
    · have hd0 : 0 < lastE z e 53 (-1074) - e := by omega
      have hq : roundZ z e 53 (-1074) 2 = z.natAbs / 2 ^ (lastE z e 53 (-1074) - e).toNat := by
        unfold roundZ cutZ; rw [if_neg hd, fl_two]; simp
      have hle := roundZ_le z e 53 (-1074) 0 53 rfl
      have hlow := roundZ_low (e := e) (mode := 2) hz
      have hw2 : wdN z e 2 = (lastE z e 53 (-1074) + 1074).toNat * kHid + z.natAbs / 2 ^ (lastE z e 53 (-1074) - e).toNat := by unfold wdN; rw [hq]
      have hw0 : wdN z e 0 = (lastE z e 53 (-1074) + 1074).toNat * kHid + roundZ z e 53 (-1074) 0 := rfl
      have hc := cut_near (N := z.natAbs) (neg := decide (z < 0)) hd0
      have hrz : roundZ z e 53 (-1074) 0 = cutZ z.natAbs (lastE z e 53 (-1074) - e) (decide (z < 0)) 0 := rfl
      rw [← hrz] at hc
      have hA : z.natAbs * 2 ^ (e + M).toNat = (z.natAbs / 2 ^ (lastE z e 53 (-1074) - e).toNat) * 2 ^ (lastE z e 53 (-1074) + M).toNat + (z.natAbs % 2 ^ (lastE z e 53 (-1074) - e).toNat) * 2 ^ (e + M).toNat := by
        have hdm := Nat.div_add_mod z.natAbs (2 ^ (lastE z e 53 (-1074) - e).toNat)
        have hpp : 2 ^ (lastE z e 53 (-1074) + M).toNat = 2 ^ (lastE z e 53 (-1074) - e).toNat * 2 ^ (e + M).toNat := by rw [← Nat.pow_add]; congr 1; omega
        rw [hpp, ← Nat.mul_assoc, Nat.mul_comm (z.natAbs / _) _, ← Nat.add_mul, hdm]
      have hpp : 2 ^ (lastE z e 53 (-1074) + M).toNat = 2 ^ (lastE z e 53 (-1074) - e).toNat * 2 ^ (e + M).toNat := by rw [← Nat.pow_add]; congr 1; omega
      rw [hq] at hv2 hlow
      have hml := Nat.mod_lt z.natAbs (Nat.two_pow_pos (lastE z e 53 (-1074) - e).toNat)
      have hv3 : (roundZ z e 53 (-1074) 0 = z.natAbs / 2 ^ (lastE z e 53 (-1074) - e).toNat + 1 ∨ z.natAbs / 2 ^ (lastE z e 53 (-1074) - e).toNat + 1 ≤ 2 ^ 53) → wv (wdN z e 2 + 1) * 2 ^ (M - 1074).toNat = (z.natAbs / 2 ^ (lastE z e 53 (-1074) - e).toNat + 1) * 2 ^ (lastE z e 53 (-1074) + M).toNat := by
        intro h
        rw [hw2, Nat.add_assoc, wv_word (by omega) (by rcases hlow with h | h; left; omega; right; omega), Nat.mul_assoc, ← Nat.pow_add]
        congr 2; omega
      have hqlt : z.natAbs / 2 ^ (lastE z e 53 (-1074) - e).toNat + 1 ≤ 2 ^ 53 := by
        have hb : bl z.natAbs ≤ 53 + (lastE z e 53 (-1074) - e).toNat := by unfold lastE; omega
        have := (bl_le_iff (N := z.natAbs) (k := 53 + (lastE z e 53 (-1074) - e).toNat)).1 hb
        rw [Nat.pow_add] at this
        exact Nat.div_lt_of_lt_mul (by rw [Nat.mul_comm]; exact this)
      rw [hv3 (.inr hqlt), hv2, hA, hpp]
      rw [hw2, hw0] at hw
      generalize roundZ z e 53 (-1074) 0 = c0 at *
      generalize z.natAbs / 2 ^ (lastE z e 53 (-1074) - e).toNat = q at *
      generalize z.natAbs % 2 ^ (lastE z e 53 (-1074) - e).toNat = r at *
      generalize 2 ^ (lastE z e 53 (-1074) - e).toNat = P at *
      generalize 2 ^ (e + M).toNat = g at *
      have hgap1 : q * (P * g) + r * g - q * (P * g) = r * g := by omega
      have hgap2 : (q + 1) * (P * g) - (q * (P * g) + r * g) = (P - r) * g := by
        rw [Nat.add_mul, Nat.one_mul, Nat.sub_mul]; omega
      rw [hgap1, hgap2]
      refine Nat.mul_le_mul_right _ ?_
      rcases hc with ⟨h, h'⟩ | ⟨h, h'⟩
      · first
        | exact h'
        | (exfalso; omega)
      · first
        | exact h'
        | (exfalso; omega)

/-- No word is nearer. -/
theorem near_word {M z e : Int} (hM : 1074 ≤ M) (h1 : 0 ≤ e + M) (hz : z ≠ 0) (c : Nat) :
    ((z.natAbs * 2 ^ (e + M).toNat : Nat) - (wv (wdN z e 0) * 2 ^ (M - 1074).toNat : Nat) : Int).natAbs ≤ ((z.natAbs * 2 ^ (e + M).toNat : Nat) - (wv c * 2 ^ (M - 1074).toNat : Nat) : Int).natAbs := by
  obtain ⟨w2, hw, h2, h3, h4, h5⟩ := near_two hM h1 hz
  rcases Nat.lt_or_ge w2 c with hc | hc
  · have h6 : wv (w2 + 1) * 2 ^ (M - 1074).toNat ≤ wv c * 2 ^ (M - 1074).toNat := Nat.mul_le_mul_right _ (wv_mono hc)
    rcases hw with hw | hw
    · have := h4 hw; rw [hw]; omega
    · have := h5 hw; rw [hw]; omega
  · have h6 : wv c * 2 ^ (M - 1074).toNat ≤ wv w2 * 2 ^ (M - 1074).toNat := Nat.mul_le_mul_right _ (wv_mono hc)
    rcases hw with hw | hw
    · have := h4 hw; rw [hw]; omega
    · have := h5 hw; rw [hw]; omega

end Go.Proofs.YtjoajbbapfgaoaaGreatDoor
