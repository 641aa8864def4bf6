/- Plain: the number nearest to an exact one is no farther from it than any other; what is too great lies beyond the middle. -/
import Derived.Test.YtfmecpembnmnkaaGreatDoorZRi1
import Derived.Test.YtfmecpembnmnkaaGreatDoorGT
import Init
import Derived.Test.YtfmecpembnmnkaaGreatDoorGW
namespace Go.Proofs.YtfmecpembnmnkaaGreatDoor
section
open Go.RowKit
theorem fl_two (neg : Bool) : FlM neg 2 := fun N d => by unfold upB; split <;> rfl
theorem cut_near {N : Nat} {d : Int} {neg : Bool} (hd : 0 < d) :
  (cutZ N d neg 0 = N / 2 ^ d.toNat ∧ N % 2 ^ d.toNat ≤ 2 ^ d.toNat - N % 2 ^ d.toNat) ∨ (cutZ N d neg 0 = N / 2 ^ d.toNat + 1 ∧ 2 ^ d.toNat - N % 2 ^ d.toNat ≤ N % 2 ^ d.toNat) := by
 obtain ⟨k, rfl⟩ : ∃ k : Nat, d = ((k + 1 : Nat) : Int) := ⟨d.toNat - 1, by omega⟩
 unfold cutZ
 rw [if_neg (by omega), Int.toNat_natCast]
 have hp : 2 ^ (k + 1) = 2 * 2 ^ k := by rw [Nat.pow_succ, Nat.mul_comm]
 have hm := Nat.mod_lt N (Nat.two_pow_pos (k + 1))
 by_cases h0 : N % 2 ^ (k + 1) = 0
 ·left
  rw [up_z h0, h0]; simp
 ·rw [up_0 h0, show k + 1 - 1 = k from rfl]
  generalize N % 2 ^ (k + 1) = r at *
  generalize N / 2 ^ (k + 1) = q at *
  rw [hp] at hm ⊢
  generalize 2 ^ k = h at *
  cases hb : (decide (h < r) || (decide (r = h) && decide (q % 2 = 1)))
  ·left
   refine ⟨by simp, ?_⟩
   simp at hb; omega
  ·right
   refine ⟨by simp, ?_⟩
   simp at hb; omega
theorem near_two {M z e : Int} (hM : 1074 ≤ M) (h1 : 0 ≤ e + M) (hz : z ≠ 0) :
  ∃ w2 : Nat, (wdN z e 0 = w2 ∨ wdN z e 0 = w2 + 1) ∧ wv w2 * 2 ^ (M - 1074).toNat ≤ z.natAbs * 2 ^ (e + M).toNat ∧ z.natAbs * 2 ^ (e + M).toNat ≤ wv (w2 + 1) * 2 ^ (M - 1074).toNat ∧
   (wdN z e 0 = w2 → (z.natAbs * 2 ^ (e + M).toNat - wv w2 * 2 ^ (M - 1074).toNat) ≤ (wv (w2 + 1) * 2 ^ (M - 1074).toNat - z.natAbs * 2 ^ (e + M).toNat)) ∧
   (wdN z e 0 = w2 + 1 → (wv (w2 + 1) * 2 ^ (M - 1074).toNat - z.natAbs * 2 ^ (e + M).toNat) ≤ (z.natAbs * 2 ^ (e + M).toNat - wv w2 * 2 ^ (M - 1074).toNat)) := by
 have hl : -1074 ≤ lastE z e 53 (-1074) := by unfold lastE; omega
 refine ⟨wdN z e 2, ?_, ?_, ?_, ?_, ?_⟩
 ·have := wdN_adj (z := z) (e := e) (m2 := 0) (fl_two (decide (z < 0))); omega
 ·exact val_fl hM h1 hz (fl_two _) _ (Nat.le_refl _)
 ·obtain ⟨mc, hmc⟩ : ∃ mc, CeM (decide (z < 0)) mc := by
   cases decide (z < 0)
   ·exact ⟨3, ce_pos⟩
   ·exact ⟨4, ce_neg⟩
  have h2 := (wdN_adj (z := z) (e := e) (m2 := mc) (fl_two (decide (z < 0)))).2
  exact Nat.le_trans (val_ce hM h1 hz hmc) (Nat.mul_le_mul_right _ (wv_mono h2))
 all_goals
  intro hw
  have hv2 := wv_up (e := e) (mode := 2) hM hz
  by_cases hd : lastE z e 53 (-1074) - e ≤ 0
  ·have hr : ∀ m, roundZ z e 53 (-1074) m = z.natAbs * 2 ^ (-(lastE z e 53 (-1074) - e)).toNat := fun m => by unfold roundZ cutZ; rw [if_pos hd]
   have he : wv (wdN z e 2) * 2 ^ (M - 1074).toNat = z.natAbs * 2 ^ (e + M).toNat := by
    rw [hv2, hr, Nat.mul_assoc, ← Nat.pow_add]; congr 2; omega
   first
   | (rw [he, Nat.sub_self]; exact Nat.zero_le _)
   | (exfalso
      have : wdN z e 0 = wdN z e 2 := by unfold wdN; rw [hr 0, hr 2]
      omega)
  ·have hd0 : 0 < lastE z e 53 (-1074) - e := by omega
   have hq : roundZ z e 53 (-1074) 2 = z.natAbs / 2 ^ (lastE z e 53 (-1074) - e).toNat := by
    unfold roundZ cutZ; rw [if_neg hd, fl_two]; simp
   have hle := roundZ_le z e 53 (-1074) 0 53 rfl
   have hlow := roundZ_low (e := e) (mode := 2) hz
   have hw2 : wdN z e 2 = (lastE z e 53 (-1074) + 1074).toNat * kHid + z.natAbs / 2 ^ (lastE z e 53 (-1074) - e).toNat := by unfold wdN; rw [hq]
   have hw0 : wdN z e 0 = (lastE z e 53 (-1074) + 1074).toNat * kHid + roundZ z e 53 (-1074) 0 := rfl
   have hc := cut_near (N := z.natAbs) (neg := decide (z < 0)) hd0
   have hrz : roundZ z e 53 (-1074) 0 = cutZ z.natAbs (lastE z e 53 (-1074) - e) (decide (z < 0)) 0 := rfl
   rw [← hrz] at hc
   have hA : z.natAbs * 2 ^ (e + M).toNat = (z.natAbs / 2 ^ (lastE z e 53 (-1074) - e).toNat) * 2 ^ (lastE z e 53 (-1074) + M).toNat + (z.natAbs % 2 ^ (lastE z e 53 (-1074) - e).toNat) * 2 ^ (e + M).toNat := by
    have hdm := Nat.div_add_mod z.natAbs (2 ^ (lastE z e 53 (-1074) - e).toNat)
    have hpp : 2 ^ (lastE z e 53 (-1074) + M).toNat = 2 ^ (lastE z e 53 (-1074) - e).toNat * 2 ^ (e + M).toNat := by rw [← Nat.pow_add]; congr 1; omega
    rw [hpp, ← Nat.mul_assoc, Nat.mul_comm (z.natAbs / _) _, ← Nat.add_mul, hdm]
   have hpp : 2 ^ (lastE z e 53 (-1074) + M).toNat = 2 ^ (lastE z e 53 (-1074) - e).toNat * 2 ^ (e + M).toNat := by rw [← Nat.pow_add]; congr 1; omega
   rw [hq] at hv2 hlow
   have hml := Nat.mod_lt z.natAbs (Nat.two_pow_pos (lastE z e 53 (-1074) - e).toNat)
   have hv3 : (roundZ z e 53 (-1074) 0 = z.natAbs / 2 ^ (lastE z e 53 (-1074) - e).toNat + 1 ∨ z.natAbs / 2 ^ (lastE z e 53 (-1074) - e).toNat + 1 ≤ 2 ^ 53) → wv (wdN z e 2 + 1) * 2 ^ (M - 1074).toNat = (z.natAbs / 2 ^ (lastE z e 53 (-1074) - e).toNat + 1) * 2 ^ (lastE z e 53 (-1074) + M).toNat := by
    intro h
    rw [hw2, Nat.add_assoc, wv_word (by omega) (by rcases hlow with h | h; left; omega; right; omega), Nat.mul_assoc, ← Nat.pow_add]
    congr 2; omega
   have hqlt : z.natAbs / 2 ^ (lastE z e 53 (-1074) - e).toNat + 1 ≤ 2 ^ 53 := by
    have hb : bl z.natAbs ≤ 53 + (lastE z e 53 (-1074) - e).toNat := by unfold lastE; omega
    have := (bl_le_iff (N := z.natAbs) (k := 53 + (lastE z e 53 (-1074) - e).toNat)).1 hb
    rw [Nat.pow_add] at this
    exact Nat.div_lt_of_lt_mul (by rw [Nat.mul_comm]; exact this)
   rw [hv3 (.inr hqlt), hv2, hA, hpp]
   rw [hw2, hw0] at hw
   generalize roundZ z e 53 (-1074) 0 = c0 at *
   generalize z.natAbs / 2 ^ (lastE z e 53 (-1074) - e).toNat = q at *
   generalize z.natAbs % 2 ^ (lastE z e 53 (-1074) - e).toNat = r at *
   generalize 2 ^ (lastE z e 53 (-1074) - e).toNat = P at *
   generalize 2 ^ (e + M).toNat = g at *
   have hgap1 : q * (P * g) + r * g - q * (P * g) = r * g := by omega
   have hgap2 : (q + 1) * (P * g) - (q * (P * g) + r * g) = (P - r) * g := by
    rw [Nat.add_mul, Nat.one_mul, Nat.sub_mul]; omega
   rw [hgap1, hgap2]
   refine Nat.mul_le_mul_right _ ?_
   rcases hc with ⟨h, h'⟩ | ⟨h, h'⟩
   ·first
    | exact h'
    | (exfalso; omega)
   ·first
    | exact h'
    | (exfalso; omega)
theorem near_word {M z e : Int} (hM : 1074 ≤ M) (h1 : 0 ≤ e + M) (hz : z ≠ 0) (c : Nat) :
  ((z.natAbs * 2 ^ (e + M).toNat : Nat) - (wv (wdN z e 0) * 2 ^ (M - 1074).toNat : Nat) : Int).natAbs ≤ ((z.natAbs * 2 ^ (e + M).toNat : Nat) - (wv c * 2 ^ (M - 1074).toNat : Nat) : Int).natAbs := by
 obtain ⟨w2, hw, h2, h3, h4, h5⟩ := near_two hM h1 hz
 rcases Nat.lt_or_ge w2 c with hc | hc
 ·have h6 : wv (w2 + 1) * 2 ^ (M - 1074).toNat ≤ wv c * 2 ^ (M - 1074).toNat := Nat.mul_le_mul_right _ (wv_mono hc)
  rcases hw with hw | hw
  ·have := h4 hw; rw [hw]; omega
  ·have := h5 hw; rw [hw]; omega
 ·have h6 : wv c * 2 ^ (M - 1074).toNat ≤ wv w2 * 2 ^ (M - 1074).toNat := Nat.mul_le_mul_right _ (wv_mono hc)
  rcases hw with hw | hw
  ·have := h4 hw; rw [hw]; omega
  ·have := h5 hw; rw [hw]; omega
end
section
open Go.RowKit
theorem near_inf {M z e : Int} (hM : 1074 ≤ M) (h1 : 0 ≤ e + M) (hf : finB (rndX z e 0) = false) :
  z ≠ 0 ∧ rndX z e 0 = (if decide (z < 0) then kSign else 0) + kInf ∧ (2 ^ 54 - 1) * 2 ^ (970 + M).toNat ≤ z.natAbs * 2 ^ (e + M).toNat := by
 unfold rndX at *
 by_cases hz : z = 0
 ·rw [if_pos hz] at hf; exact absurd hf (by decide)
 ·rw [if_neg hz] at hf ⊢
  have hbey : beyB (decide (z < 0)) 0 = false := by cases decide (z < 0) <;> rfl
  have hw : kInf ≤ wdN z e 0 := by
   rcases Nat.lt_or_ge (wdN z e 0) kInf with h | h
   ·exfalso
    have hr : rndB z e 0 = (if decide (z < 0) then kSign else 0) + wdN z e 0 := by
     rw [rnd_cap hz]; unfold capW; rw [if_pos h]
    have hk := kSign_big
    have hm : rndB z e 0 % kSign = wdN z e 0 := by
     rw [hr]
     split
     ·rw [Nat.add_mod_left, Nat.mod_eq_of_lt (by omega)]
     ·rw [Nat.zero_add, Nat.mod_eq_of_lt (by omega)]
    rcases fin_word (b := rndB z e 0) (by omega) with h2 | h2
    ·rw [h2.1] at hf; cases hf
    ·omega
   ·exact h
  refine ⟨hz, ?_, ?_⟩
  ·have hcap : capW false (wdN z e 0) = kInf := by unfold capW; rw [if_neg (by omega)]; rfl
   rw [rnd_cap hz, hbey, hcap]
  ·obtain ⟨w2, hww, h2, h3, h4, h5⟩ := near_two hM h1 hz
   obtain ⟨K, J, hJe, hK1, hK2, hK3, hK4, hK5, hK6⟩ : ∃ K J : Nat, J + 1 = kInf ∧ kInf / kHid - 1 = K + 2 ∧ J / kHid - 1 = K + 1 ∧ K = 2044 ∧ ¬ J < kHid ∧ J % kHid + kHid = 9007199254740991 ∧ kInf % kHid + kHid = 4503599627370496 := ⟨2044, 9218868437227405311, by decide, by decide, by decide, rfl, by decide, by decide, by decide⟩
   have hK7 : (970 + M).toNat = K + (M - 1074).toNat := by clear h2 h3 h4 h5; omega
   have hp : 2 ^ (970 + M).toNat = 2 ^ K * 2 ^ (M - 1074).toNat := by rw [← Nat.pow_add, hK7]
   clear hK3 hK7
   have hI : wv kInf = 4503599627370496 * 2 ^ (K + 2) := by
    unfold wv; rw [if_neg (by decide), hK6, hK1]
   have hJ : wv J = 9007199254740991 * 2 ^ (K + 1) := by
    unfold wv; rw [if_neg hK4, hK5, hK2]
   have e1 : 2 ^ (K + 2) = 4 * 2 ^ K := by rw [Nat.pow_succ, Nat.pow_succ]; omega
   have e2 : 2 ^ (K + 1) = 2 * 2 ^ K := by rw [Nat.pow_succ]; omega
   rw [e1] at hI
   rw [e2] at hJ
   rw [hp, show 2 ^ 54 - 1 = 18014398509481983 from rfl]
   clear e1 e2 hp hK1 hK2 hK4 hK5 hK6
   generalize 2 ^ K = P at *
   generalize z.natAbs * 2 ^ (e + M).toNat = A at *
   generalize 2 ^ (M - 1074).toNat = U at *
   have hIU : wv kInf * U = 18014398509481984 * (P * U) := by rw [hI, show 4503599627370496 * (4 * P) = 18014398509481984 * P by omega, Nat.mul_assoc]
   have hJU : wv J * U = 18014398509481982 * (P * U) := by rw [hJ, show 9007199254740991 * (2 * P) = 18014398509481982 * P by omega, Nat.mul_assoc]
   generalize P * U = Q at *
   rcases Nat.lt_or_ge w2 kInf with hc | hc
   ·have hk : kInf ≠ 0 := by decide
    obtain rfl : w2 = J := by omega
    have h6 := h5 (by omega)
    rw [hJe] at h6 h3
    omega
   ·have h6 : wv kInf * U ≤ wv w2 * U := Nat.mul_le_mul_right _ (wv_mono hc)
    omega
end
section
def Rep53 (x : Int) : Prop := ∃ (m : Int) (k : Nat), x = m * 2 ^ k ∧ m.natAbs ≤ 9007199254740992
def NearR (x r : Int) : Prop := Rep53 r ∧ ∀ y, Rep53 y → (x - r).natAbs ≤ (x - y).natAbs
theorem Rep53.neg {x : Int} (h : Rep53 x) : Rep53 (-x) := by
 obtain ⟨m, k, rfl, hm⟩ := h
 exact ⟨-m, k, by rw [Int.neg_mul], by rw [Int.natAbs_neg]; exact hm⟩
theorem Rep53.small {x : Int} (h : x.natAbs ≤ 9007199254740992) : Rep53 x := ⟨x, 0, by simp, h⟩
theorem Rep53.zero : Rep53 0 := Rep53.small (by decide)
theorem NearR.self {x r : Int} (h : NearR x r) (hx : Rep53 x) : r = x := by
 have := h.2 x hx
 omega
theorem NearR.half {x r : Int} (h : NearR x r) (k : Nat) (hx : x.natAbs ≤ 9007199254740992 * 2 ^ k) : 2 * (x - r).natAbs ≤ 2 ^ k := by
 have hP : (0 : Int) < 2 ^ k := Int.pow_pos (by decide)
 obtain ⟨q, hq⟩ : ∃ q, x / 2 ^ k = q := ⟨_, rfl⟩
 have hdm := Int.mul_ediv_add_emod x (2 ^ k)
 have h1 := Int.emod_nonneg x (Int.ne_of_gt hP)
 have h2 := Int.emod_lt_of_pos x hP
 rw [hq] at hdm
 have hc : ((2 ^ k : Nat) : Int) = 2 ^ k := by rw [Int.natCast_pow]; rfl
 have hlo : q.natAbs ≤ 9007199254740992 ∧ (x % 2 ^ k ≠ 0 → (q + 1).natAbs ≤ 9007199254740992) := by
  have hxx := Int.ofNat_le.2 hx
  rw [Int.natCast_mul, hc] at hxx
  have hx1 : x ≤ 9007199254740992 * 2 ^ k := by omega
  have hx2 : -(9007199254740992 * 2 ^ k) ≤ x := by omega
  have h3 : q ≤ 9007199254740992 := by
   rw [← hq]; exact Int.ediv_le_of_le_mul hP hx1
  have h4 : -9007199254740992 ≤ q := by
   rw [← hq]; exact (Int.le_ediv_iff_mul_le hP).2 (by rw [Int.neg_mul]; exact hx2)
  refine ⟨by omega, fun h0 => ?_⟩
  have h5 : q ≠ 9007199254740992 := by
   intro h6
   subst h6
   have : (2 : Int) ^ k * 9007199254740992 = 9007199254740992 * 2 ^ k := Int.mul_comm _ _
   omega
  omega
 have hA := h.2 (q * 2 ^ k) ⟨q, k, rfl, hlo.1⟩
 have hqm : q * 2 ^ k = 2 ^ k * q := Int.mul_comm _ _
 by_cases h0 : x % 2 ^ k = 0
 ·have : x - q * 2 ^ k = 0 := by omega
  rw [this] at hA
  have : (x - r).natAbs = 0 := by simpa using hA
  omega
 ·have hB := h.2 ((q + 1) * 2 ^ k) ⟨q + 1, k, rfl, hlo.2 h0⟩
  have hq2 : (q + 1) * 2 ^ k = 2 ^ k * q + 2 ^ k := by rw [Int.add_mul, Int.one_mul, hqm]
  rw [hq2] at hB
  rw [hqm] at hA
  generalize (2 : Int) ^ k * q = g at *
  generalize hPk : (2 : Int) ^ k = P at *
  have hPn : ((2 ^ k : Nat) : Int) = P := hc
  generalize (2 ^ k : Nat) = Pn at *
  omega
theorem bin_of (n : Nat) : n ≤ 9007199254740992 ∨ ∃ k : Nat, 4503599627370496 * 2 ^ (k + 1) < n ∧ n ≤ 9007199254740992 * 2 ^ (k + 1) := by
 by_cases h : n ≤ 9007199254740992
 ·exact .inl h
 ·right
  have key : ∀ j : Nat, n ≤ 9007199254740992 * 2 ^ j → ∃ k : Nat, 4503599627370496 * 2 ^ (k + 1) < n ∧ n ≤ 9007199254740992 * 2 ^ (k + 1) := by
   intro j
   induction j with
   | zero => intro h2; simp at h2; omega
   | succ j ih =>
    intro h2
    by_cases h3 : n ≤ 9007199254740992 * 2 ^ j
    ·exact ih h3
    ·refine ⟨j, ?_, h2⟩
     rw [Nat.pow_succ]; omega
  refine key n ?_
  have := Nat.lt_two_pow_self (n := n)
  omega
theorem NearR.ulp {x r : Int} (h : NearR x r) : 9007199254740992 * (x - r).natAbs ≤ x.natAbs := by
 rcases bin_of x.natAbs with h1 | ⟨k, h1, h2⟩
 ·rw [h.self (Rep53.small h1)]; simp
 ·have := h.half (k + 1) h2
  omega
theorem NearR.dvd {x r : Int} (h : NearR x r) {j : Nat} (hd : (2 : Int) ^ j ∣ x) : (2 : Int) ^ j ∣ r := by
 obtain ⟨q, rfl⟩ := hd
 by_cases hq : q.natAbs ≤ 9007199254740992
 ·rw [h.self ⟨q, j, Int.mul_comm _ _, hq⟩]; exact Int.dvd_mul_right _ _
 ·have hP : (0 : Int) < 2 ^ j := Int.pow_pos (by decide)
  have hr : (9007199254740992 * 2 ^ j : Int) ≤ r.natAbs := by
   have e1 : (9007199254740992 : Int) * 2 ^ j = 2 ^ j * 9007199254740992 := Int.mul_comm _ _
   rcases Int.lt_or_lt_of_ne (show q ≠ 0 by omega) with hn | hp
   ·have h1 := h.2 (-(9007199254740992 * 2 ^ j)) ⟨-9007199254740992, j, by rw [Int.neg_mul], by decide⟩
    have h2 : (2 : Int) ^ j * q ≤ 2 ^ j * (-9007199254740992) := Int.mul_le_mul_of_nonneg_left (by omega) (Int.le_of_lt hP)
    have e2 : (2 : Int) ^ j * (-9007199254740992) = -(2 ^ j * 9007199254740992) := Int.mul_neg _ _
    generalize (2 : Int) ^ j * q = x at *
    generalize (2 : Int) ^ j = P at *
    omega
   ·have h1 := h.2 (9007199254740992 * 2 ^ j) ⟨9007199254740992, j, rfl, by decide⟩
    have h2 : (2 : Int) ^ j * 9007199254740992 ≤ 2 ^ j * q := Int.mul_le_mul_of_nonneg_left (by omega) (Int.le_of_lt hP)
    generalize (2 : Int) ^ j * q = x at *
    generalize (2 : Int) ^ j = P at *
    omega
  obtain ⟨m, i, rfl, hm⟩ := h.1
  by_cases hij : j ≤ i
  ·refine Int.dvd_trans ?_ (Int.dvd_mul_left _ _)
   exact ⟨2 ^ (i - j), by rw [← Int.pow_add]; congr 1; omega⟩
  ·exfalso
   have h3 : (m * 2 ^ i).natAbs = m.natAbs * 2 ^ i := by
    rw [Int.natAbs_mul, Int.natAbs_pow]; rfl
   have h4 : m.natAbs * 2 ^ i ≤ 9007199254740992 * 2 ^ i := Nat.mul_le_mul_right _ hm
   have h5 : (2 : Nat) ^ i < 2 ^ j := Nat.pow_lt_pow_right (by decide) (by omega)
   rw [h3] at hr
   have h6 : ((9007199254740992 * 2 ^ j : Nat) : Int) ≤ ((m.natAbs * 2 ^ i : Nat) : Int) := by
    rw [Int.natCast_mul, Int.natCast_pow]; exact hr
   have h7 := Int.ofNat_le.1 h6
   omega
theorem dvd_natAbs_le {j : Nat} {x : Int} (hd : (2 : Int) ^ j ∣ x) (hb : x.natAbs ≤ 9007199254740992 * 2 ^ j) : Rep53 x := by
 obtain ⟨q, rfl⟩ := hd
 refine ⟨q, j, Int.mul_comm _ _, ?_⟩
 have h3 : ((2 : Int) ^ j * q).natAbs = 2 ^ j * q.natAbs := by rw [Int.natAbs_mul, Int.natAbs_pow]; rfl
 rw [h3, Nat.mul_comm] at hb
 exact Nat.le_of_mul_le_mul_right hb (Nat.two_pow_pos j)
theorem Rep53.big {j : Nat} {t : Int} (h : Rep53 t) (hb : 9007199254740992 * 2 ^ j ≤ t.natAbs) : (2 : Int) ^ (j + 1) ∣ t := by
 obtain ⟨m, i, rfl, hm⟩ := h
 have h3 : (m * 2 ^ i).natAbs = m.natAbs * 2 ^ i := by rw [Int.natAbs_mul, Int.natAbs_pow]; rfl
 rw [h3] at hb
 by_cases hij : j + 1 ≤ i
 ·refine Int.dvd_trans ?_ (Int.dvd_mul_left _ _)
  exact ⟨2 ^ (i - (j + 1)), by rw [← Int.pow_add]; congr 1; omega⟩
 ·have h4 : m.natAbs * 2 ^ i ≤ 9007199254740992 * 2 ^ i := Nat.mul_le_mul_right _ hm
  have h5 : 2 ^ j ≤ 2 ^ i := by
   refine Nat.le_of_mul_le_mul_left (c := 9007199254740992) ?_ (by decide)
   exact Nat.le_trans hb h4
  have h6 : i = j := by
   have := (Nat.pow_le_pow_iff_right (a := 2) (by decide)).1 h5
   omega
  subst h6
  have h7 : m.natAbs = 9007199254740992 := by
   have := Nat.le_of_mul_le_mul_right hb (Nat.two_pow_pos i)
   omega
  rw [Int.pow_succ]
  rcases Int.natAbs_eq m with h8 | h8
  ·rw [h8, h7]; exact ⟨4503599627370496, by rw [Int.mul_assoc, Int.mul_comm]; rfl⟩
  ·rw [h8, h7]; exact ⟨-4503599627370496, by rw [Int.mul_assoc, Int.mul_comm]; rfl⟩
theorem fast_two {a b t : Int} (ha : Rep53 a) (hb : Rep53 b) (hab : b.natAbs ≤ a.natAbs) (h : NearR (a + b) t) : Rep53 (t - a) ∧ Rep53 (a + b - t) := by
 obtain ⟨j, mb, hbj, hmb, hda⟩ : ∃ (j : Nat) (mb : Int), b = mb * 2 ^ j ∧ mb.natAbs ≤ 9007199254740992 ∧ ((2 : Int) ^ j ∣ a) := by
  obtain ⟨mb, j, rfl, hmb⟩ := hb
  obtain ⟨ma, i, rfl, hma⟩ := ha
  by_cases hij : j ≤ i
  ·refine ⟨j, mb, rfl, hmb, Int.dvd_trans ?_ (Int.dvd_mul_left _ _)⟩
   exact ⟨2 ^ (i - j), by rw [← Int.pow_add]; congr 1; omega⟩
  ·refine ⟨i, mb * 2 ^ (j - i), by rw [Int.mul_assoc, ← Int.pow_add]; congr 2; omega, ?_, Int.dvd_mul_left _ _⟩
   have e1 : (ma * 2 ^ i).natAbs = ma.natAbs * 2 ^ i := by rw [Int.natAbs_mul, Int.natAbs_pow]; rfl
   have e2 : (mb * 2 ^ j).natAbs = (mb * 2 ^ (j - i)).natAbs * 2 ^ i := by
    rw [show (mb * 2 ^ j : Int) = mb * 2 ^ (j - i) * 2 ^ i by rw [Int.mul_assoc, ← Int.pow_add]; congr 2; omega, Int.natAbs_mul _ (2 ^ i), Int.natAbs_pow]; rfl
   rw [e1, e2] at hab
   exact Nat.le_trans (Nat.le_of_mul_le_mul_right hab (Nat.two_pow_pos i)) hma
 have hdb : (2 : Int) ^ j ∣ b := ⟨mb, by rw [hbj, Int.mul_comm]⟩
 have hbb : b.natAbs = mb.natAbs * 2 ^ j := by rw [hbj, Int.natAbs_mul, Int.natAbs_pow]; rfl
 have hble : b.natAbs ≤ 9007199254740992 * 2 ^ j := by rw [hbb]; exact Nat.mul_le_mul_right _ hmb
 have hds : (2 : Int) ^ j ∣ a + b := Int.dvd_add hda hdb
 have hdt := h.dvd hds
 have hde : (2 : Int) ^ j ∣ a + b - t := Int.dvd_sub hds hdt
 have he : (a + b - t).natAbs ≤ b.natAbs := by
  have := h.2 a ha
  omega
 refine ⟨?_, dvd_natAbs_le hde (Nat.le_trans he hble)⟩
 by_cases hsm : (t - a).natAbs ≤ 9007199254740992 * 2 ^ j
 ·exact dvd_natAbs_le (Int.dvd_sub hdt hda) hsm
 ·-- the sum is no float
  have hns : ¬ Rep53 (a + b) := fun hr => by
   have := h.self hr
   omega
  have hbig : 9007199254740992 * 2 ^ j < (a + b).natAbs := by
   rcases Nat.lt_or_ge (9007199254740992 * 2 ^ j) (a + b).natAbs with h1 | h1
   ·exact h1
   ·exact absurd (dvd_natAbs_le hds h1) hns
  have htb : 9007199254740992 * 2 ^ j ≤ t.natAbs := by
   have hc : ((2 ^ j : Nat) : Int) = 2 ^ j := by rw [Int.natCast_pow]; rfl
   have h1 := h.2 (9007199254740992 * 2 ^ j) ⟨9007199254740992, j, rfl, by decide⟩
   have h2 := h.2 (-(9007199254740992 * 2 ^ j)) ⟨-9007199254740992, j, by rw [Int.neg_mul], by decide⟩
   have hP : (0 : Int) < 2 ^ j := Int.pow_pos (by decide)
   rw [← hc] at h1 h2
   generalize (2 ^ j : Nat) = P at *
   omega
  have hd1 := h.1.big htb
  have hd2 : (2 : Int) ^ (j + 1) ∣ a := by
   obtain ⟨ma, i, hai, hma⟩ := ha
   by_cases hij : j + 1 ≤ i
   ·rw [hai]
    refine Int.dvd_trans ?_ (Int.dvd_mul_left _ _)
    exact ⟨2 ^ (i - (j + 1)), by rw [← Int.pow_add]; congr 1; omega⟩
   ·exfalso
    have haa : a.natAbs = ma.natAbs * 2 ^ i := by rw [hai, Int.natAbs_mul, Int.natAbs_pow]; rfl
    have hale : a.natAbs ≤ 9007199254740992 * 2 ^ j := by
     rw [haa]
     exact Nat.le_trans (Nat.mul_le_mul_right _ hma) (Nat.mul_le_mul_left _ (Nat.pow_le_pow_right (by decide) (by omega)))
    have hp : 2 ^ (j + 1) = 2 * 2 ^ j := by rw [Nat.pow_succ, Nat.mul_comm]
    have hh := h.half (j + 1) (by rw [hp]; omega)
    rw [hp] at hh
    by_cases hm : mb.natAbs = 9007199254740992
    ·refine hns ?_
     rw [hm] at hbb
     have : a.natAbs = b.natAbs := by omega
     rcases Int.natAbs_eq_natAbs_iff.1 this with h5 | h5
     ·rw [h5]
      refine ⟨mb, j + 1, ?_, hmb⟩
      rw [hbj, Int.pow_succ, ← Int.mul_assoc]; omega
     ·rw [h5, Int.add_left_neg]; exact Rep53.zero
    ·have h6 : mb.natAbs + 1 ≤ 9007199254740992 := by omega
     have h7 := Nat.mul_le_mul_right (2 ^ j) h6
     rw [Nat.add_mul, ← hbb, Nat.one_mul] at h7
     omega
  refine dvd_natAbs_le (j := j + 1) (Int.dvd_sub hd1 hd2) ?_
  rw [Nat.pow_succ]; omega
end
section
open Go.RowKit
def fI (b : Nat) : Int := sc 1074 (valZ b) (pE b)
def unE : Nat := 2044
def unU : Nat := 2 ^ unE
theorem fI_rep {b : Nat} (hf : finB b = true) : Rep53 (fI b) := by
 refine ⟨ownZ b, (expB b + 1074).toNat, ?_, ?_⟩
 ·unfold fI; rw [← sc_own hf (by omega)]; rfl
 ·rw [ownZ_natAbs]; exact Nat.le_of_lt (mantB_lt b)
theorem wv_rep (k : Nat) : ∀ m : Nat, m ≤ 2 ^ 53 → ∃ c, wv c = m * 2 ^ k := by
 induction k with
 | zero => intro m hm; exact ⟨0 * kHid + m, wv_word hm (.inl rfl)⟩
 | succ k ih =>
  intro m hm
  by_cases h : 2 ^ 52 ≤ m
  ·exact ⟨(k + 1) * kHid + m, wv_word hm (.inr h)⟩
  ·obtain ⟨c, hc⟩ := ih (2 * m) (by omega)
   exact ⟨c, by rw [hc, Nat.pow_succ, Nat.mul_comm 2 m, Nat.mul_assoc, Nat.mul_comm 2]⟩
theorem near_rnd {z e : Int} (he : 0 ≤ e + 1074) (hz : z ≠ 0) (hf : finB (rndB z e 0) = true) : NearR (sc 1074 z e) (fI (rndB z e 0)) := by
 have hb : beyB (decide (z < 0)) 0 = false := by cases decide (z < 0) <;> rfl
 have h1 := sc_rnd (M := 1074) (by omega) hz hf
 have h2 : capW (beyB (decide (z < 0)) 0) (wdN z e 0) = wdN z e 0 := by unfold capW; rw [if_pos (fin_cap hz hb hf)]
 rw [h2, show ((1074 : Int) - 1074).toNat = 0 from rfl, Int.pow_zero, Int.mul_one] at h1
 refine ⟨fI_rep hf, fun y hy => ?_⟩
 obtain ⟨m, k, rfl, hm⟩ := hy
 obtain ⟨c, hc⟩ := wv_rep k m.natAbs hm
 have k1 := near_word (M := 1074) (by omega) he hz c
 have k2 := near_word (M := 1074) (by omega) he hz 0
 rw [show ((1074 : Int) - 1074).toNat = 0 from rfl, Nat.pow_zero, Nat.mul_one, Nat.mul_one] at k1 k2
 rw [wv_zero] at k2
 have hy : (m * 2 ^ k).natAbs = wv c := by rw [hc, Int.natAbs_mul, Int.natAbs_pow]; rfl
 have hsc := sc_abs (M := 1074) (z := z) (e := e)
 show (sc 1074 z e - fI (rndB z e 0)).natAbs ≤ (sc 1074 z e - m * 2 ^ k).natAbs
 have h1' : fI (rndB z e 0) = (if z < 0 then -(wv (wdN z e 0) : Int) else (wv (wdN z e 0) : Int)) := h1
 rw [h1', hsc]
 generalize m * 2 ^ k = y at *
 generalize wv (wdN z e 0) = a at *
 generalize wv c = b at *
 generalize z.natAbs * 2 ^ (e + 1074).toNat = g at *
 clear h1 h1' hsc
 split <;> omega
theorem fI_zero {r : Nat} (h : r = 0 ∨ r = kSign) : fI r = 0 := by
 rcases h with rfl | rfl
 ·unfold fI; rw [show valZ 0 = 0 by decide, sc_zero]
 ·unfold fI; rw [show valZ kSign = 0 by decide, sc_zero]
theorem add_near {x y : Nat} (hx : x < 18446744073709551616) (hy : y < 18446744073709551616) (fx : finB x = true) (fy : finB y = true) (hB : (fI x + fI y).natAbs < 18014398509481983 * unU) :
  ∃ r, F6.add x y = some r ∧ r < 18446744073709551616 ∧ finB r = true ∧ NearR (fI x + fI y) (fI r) := by
 obtain ⟨r, hr, h1, h2⟩ := fadd_fin hx hy fx fy
 have hrl : r < 18446744073709551616 := bits_lt (op := .add) hr
 have hpx := pE_bd fx
 have hpy := pE_bd fy
 have hE : 0 ≤ plE (valZ x) (pE x) (valZ y) (pE y) + 1074 := plE_ge (by omega) (by omega)
 have hs := sc_pl (M := 1074) (z := valZ x) (e := pE x) (y := valZ y) (f := pE y) (by omega) (by omega)
 have hs' : sc 1074 (plZ (valZ x) (pE x) (valZ y) (pE y)) (plE (valZ x) (pE x) (valZ y) (pE y)) = fI x + fI y := hs
 rw [← hs'] at hB ⊢
 generalize plZ (valZ x) (pE x) (valZ y) (pE y) = P at *
 generalize plE (valZ x) (pE x) (valZ y) (pE y) = PE at *
 by_cases hP : P = 0
 ·refine ⟨r, hr, hrl, ?_, ?_⟩
  ·rcases h2 hP with h | h <;> rw [h] <;> decide
  ·rw [hP, sc_zero, fI_zero (h2 hP)]
   exact ⟨Rep53.zero, fun y _ => by simp⟩
 ·have h3 := h1 hP
  rw [rndX_hv, rndX, if_neg hP] at h3
  subst h3
  have hf : finB (rndB P PE 0) = true := by
   cases hf : finB (rndB P PE 0)
   ·have h4 : finB (rndX P PE 0) = false := by rw [rndX, if_neg hP]; exact hf
    obtain ⟨-, -, h5⟩ := near_inf (M := 1074) (by omega) hE h4
    rw [natAbs_sc] at hB
    exfalso
    have h6 : (970 + 1074 : Int).toNat = unE := rfl
    rw [h6] at h5
    unfold unU at hB
    omega
   ·rfl
  exact ⟨_, hr, hrl, hf, near_rnd hE hP hf⟩
def flipB (b : Nat) : Nat := if b < kSign then b + kSign else b - kSign
theorem flip_lt {b : Nat} (h : b < 18446744073709551616) : flipB b < 18446744073709551616 := by unfold flipB kSign; split <;> omega
theorem flip_fin {b : Nat} : finB (flipB b) = finB b := by
 unfold finB expF flipB kHid kSign
 congr 2
 rw [show ((if b < 9223372036854775808 then b + 9223372036854775808 else b - 9223372036854775808) / 4503599627370496 % 2048 = b / 4503599627370496 % 2048) by split <;> omega]
theorem flip_parts {b : Nat} (h : b < 18446744073709551616) : mantB (flipB b) = mantB b ∧ expB (flipB b) = expB b ∧ sgnB (flipB b) = !sgnB b := by
 have h1 : expF (flipB b) = expF b := by unfold expF flipB kHid kSign; split <;> omega
 have h2 : fracF (flipB b) = fracF b := by unfold fracF flipB kHid kSign; split <;> omega
 refine ⟨by unfold mantB; rw [h1, h2], by unfold expB; rw [h1], ?_⟩
 unfold sgnB flipB kSign
 by_cases h3 : b < 9223372036854775808
 ·rw [if_pos h3, decide_eq_true (by omega), decide_eq_false (by omega)]; rfl
 ·rw [if_neg h3, decide_eq_false (by omega), decide_eq_true (by omega)]; rfl
theorem flip_fI {b : Nat} (h : b < 18446744073709551616) (hf : finB b = true) : fI (flipB b) = -fI b := by
 obtain ⟨h1, h2, h3⟩ := flip_parts h
 unfold fI
 rw [← sc_own hf (by omega), ← sc_own (by rw [flip_fin]; exact hf) (by omega), ← sc_neg]
 unfold ownZ
 rw [h1, h2, h3]
 cases sgnB b
 ·rw [if_pos (by rfl), if_neg (by decide)]
 ·rw [if_neg (by decide), if_pos rfl, Int.neg_neg]
theorem sub_flip {x y : Nat} (hy : y < 18446744073709551616) (fy : finB y = true) : F6.sub x y = F6.add x (flipB y) := by
 obtain ⟨h1, h2, h3⟩ := flip_parts hy
 unfold Ieee.Format.sub Ieee.Format.add
 rw [read_fin hy fy, read_fin (flip_lt hy) (by rw [flip_fin]; exact fy), h1, h2, h3]
 rfl
theorem sub_near {x y : Nat} (hx : x < 18446744073709551616) (hy : y < 18446744073709551616) (fx : finB x = true) (fy : finB y = true) (hB : (fI x - fI y).natAbs < 18014398509481983 * unU) :
  ∃ r, F6.sub x y = some r ∧ r < 18446744073709551616 ∧ finB r = true ∧ NearR (fI x - fI y) (fI r) := by
 rw [sub_flip hy fy]
 have h := add_near hx (flip_lt hy) fx (by rw [flip_fin]; exact fy) (by rw [flip_fI hy fy]; rw [Int.sub_eq_add_neg] at hB; exact hB)
 rw [flip_fI hy fy, ← Int.sub_eq_add_neg] at h
 exact h
end
end Go.Proofs.YtfmecpembnmnkaaGreatDoor
