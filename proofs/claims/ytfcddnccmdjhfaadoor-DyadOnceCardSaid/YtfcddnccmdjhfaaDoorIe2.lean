/- Plain: sums and products of two numbers, as the model's floats have them; no program. -/
import Derived.Test.YtfcddnccmdjhfaaDoorIe1
namespace Go.Proofs.YtfcddnccmdjhfaaDoor
open Go.RowKit

/-- A finite number's whole part in its own place. -/
def ownZ (b : Nat) : Int := if sgnB b then -(mantB b : Int) else mantB b

theorem ownZ_natAbs (b : Nat) : (ownZ b).natAbs = mantB b := by unfold ownZ; split <;> omega
theorem ownZ_zero {b : Nat} : ownZ b = 0 ↔ valZ b = 0 := by rw [valZ_zero, ← ownZ_natAbs]; omega
theorem ownZ_sign {b : Nat} (h : ownZ b ≠ 0) : decide (ownZ b < 0) = sgnB b := by
  have := ownZ_natAbs b
  unfold ownZ at *
  cases hs : sgnB b <;> simp only [hs, if_true, if_false, Bool.false_eq_true] at * <;> first | exact decide_eq_true (by omega) | exact decide_eq_false (by omega)

theorem signed_own (b k : Nat) : Ieee.signed (sgnB b) (mantB b) k = ownZ b * 2 ^ k := by
  unfold Ieee.signed ownZ
  rw [Nat.shiftLeft_eq]
  split <;> simp [Int.neg_mul]

theorem sc_own {b : Nat} (hf : finB b = true) {M : Int} (hM : 1074 ≤ M) : sc M (ownZ b) (expB b) = sc M (valZ b) (pE b) := (sc_valZ hf M hM).symm

/-- What + answers on two numbers. -/
theorem fadd_fin {x y : Nat} (hx : x < 18446744073709551616) (hy : y < 18446744073709551616) (fx : finB x = true) (fy : finB y = true) :
    ∃ r, F6.add x y = some r ∧ (plZ (valZ x) (pE x) (valZ y) (pE y) ≠ 0 → r = rndB (hvZ (plZ (valZ x) (pE x) (valZ y) (pE y))) (nrE (plZ (valZ x) (pE x) (valZ y) (pE y)) (plE (valZ x) (pE x) (valZ y) (pE y))) 0) ∧
      (plZ (valZ x) (pE x) (valZ y) (pE y) = 0 → r = 0 ∨ r = kSign) := by
  unfold Ieee.Format.add
  rw [read_fin hx fx, read_fin hy fy]
  unfold Ieee.Datum.sum
  simp only [signed_own]
  have hx1 := expB_bd fx
  have hy1 := expB_bd fy
  have hpx := pE_bd fx
  have hpy := pE_bd fy
  have hs : sc 1074 (ownZ x * 2 ^ (expB x - min (expB x) (expB y)).toNat + ownZ y * 2 ^ (expB y - min (expB x) (expB y)).toNat) (min (expB x) (expB y)) = sc 1074 (plZ (valZ x) (pE x) (valZ y) (pE y)) (plE (valZ x) (pE x) (valZ y) (pE y)) := by
    rw [sc_pl (by omega) (by omega), ← sc_own fx (by omega), ← sc_own fy (by omega)]
    unfold sc
    rw [Int.add_mul, Int.mul_assoc, Int.mul_assoc, ← Int.pow_add, ← Int.pow_add]
    congr 3 <;> omega
  have hE : 0 ≤ plE (valZ x) (pE x) (valZ y) (pE y) + 1074 := plE_ge (by omega) (by omega)
  have hb : 0 ≤ min (expB x) (expB y) + 1074 := by omega
  generalize plZ (valZ x) (pE x) (valZ y) (pE y) = P at *
  generalize plE (valZ x) (pE x) (valZ y) (pE y) = PE at *
  generalize min (expB x) (expB y) = base at *
  generalize ownZ x * 2 ^ (expB x - base).toNat + ownZ y * 2 ^ (expB y - base).toNat = total at *
  have h0 : total = 0 ↔ P = 0 := by rw [← sc_eq_zero (M := 1074) (e := base), hs, sc_eq_zero]
  refine ⟨_, rfl, fun hP => ?_, fun hP => ?_⟩
  · have ht : total ≠ 0 := fun e => hP (h0.1 e)
    rw [if_neg ht]
    have hn : 0 ≤ nrE P PE + 1074 := nrE_ge (by omega) hE
    rw [← sc_nr hE] at hs
    obtain ⟨a1, a2, a3, a4⟩ := round_val (digits := 53) (least := -1074) (mode := 0) ht hb hn hs
    rw [show F6.write (.number (decide (total < 0)) total.natAbs base) = F6.nearest (decide (total < 0)) total.natAbs base from rfl, ← rnd_near ht]
    unfold rndB
    rw [a1, a2, a3]
  · have ht : total = 0 := h0.2 hP
    subst ht
    rw [if_pos rfl, show F6.write (.number (sgnB x && sgnB y) (0 : Int).natAbs base) = F6.word (sgnB x && sgnB y) 0 from rfl, F6_word]
    cases sgnB x && sgnB y
    · exact .inl rfl
    · exact .inr rfl

theorem mul_sign {a b : Int} (ha : a ≠ 0) (hb : b ≠ 0) : decide (a * b < 0) = (decide (a < 0) ^^ decide (b < 0)) := by
  rcases Int.lt_or_lt_of_ne ha with h1 | h1 <;> rcases Int.lt_or_lt_of_ne hb with h2 | h2
  · have := Int.mul_pos_of_neg_of_neg h1 h2
    rw [decide_eq_true h1, decide_eq_true h2, decide_eq_false (by omega)]; rfl
  · have := Int.mul_neg_of_neg_of_pos h1 h2
    rw [decide_eq_true h1, decide_eq_false (by omega : ¬ b < 0), decide_eq_true this]; rfl
  · have := Int.mul_neg_of_pos_of_neg h1 h2
    rw [decide_eq_true h2, decide_eq_false (by omega : ¬ a < 0), decide_eq_true this]; rfl
  · have := Int.mul_pos h1 h2
    rw [decide_eq_false (by omega : ¬ a < 0), decide_eq_false (by omega : ¬ b < 0), decide_eq_false (by omega)]; rfl

/-- What * answers on two numbers. -/
theorem fmul_fin {x y : Nat} (hx : x < 18446744073709551616) (hy : y < 18446744073709551616) (fx : finB x = true) (fy : finB y = true) :
    ∃ r, F6.mul x y = some r ∧ (valZ x * valZ y ≠ 0 → r = rndB (hvZ (valZ x * valZ y)) (nrE (valZ x * valZ y) (pE x + pE y)) 0) ∧
      (valZ x * valZ y = 0 → r = 0 ∨ r = kSign) := by
  unfold Ieee.Format.mul
  rw [read_fin hx fx, read_fin hy fy]
  unfold Ieee.Datum.product
  have hx1 := expB_bd fx
  have hy1 := expB_bd fy
  have hpx := pE_bd fx
  have hpy := pE_bd fy
  refine ⟨_, rfl, fun hP => ?_, fun hP => ?_⟩
  · have hvx : valZ x ≠ 0 := fun e => hP (by rw [e, Int.zero_mul])
    have hvy : valZ y ≠ 0 := fun e => hP (by rw [e, Int.mul_zero])
    have hox : ownZ x ≠ 0 := fun e => hvx (ownZ_zero.1 e)
    have hoy : ownZ y ≠ 0 := fun e => hvy (ownZ_zero.1 e)
    have ht : ownZ x * ownZ y ≠ 0 := Int.mul_ne_zero hox hoy
    have hs : sc (1074 + 1074) (ownZ x * ownZ y) (expB x + expB y) = sc (1074 + 1074) (hvZ (valZ x * valZ y)) (nrE (valZ x * valZ y) (pE x + pE y)) := by
      rw [sc_nr (by omega), sc_mul (by omega) (by omega), sc_mul (by omega) (by omega), sc_own fx (by omega), sc_own fy (by omega)]
    have hn : 0 ≤ nrE (valZ x * valZ y) (pE x + pE y) + (1074 + 1074) := nrE_ge (by omega) (by omega)
    obtain ⟨a1, a2, a3, a4⟩ := round_val (digits := 53) (least := -1074) (mode := 0) ht (by omega) hn hs
    rw [show F6.write (.number (sgnB x ^^ sgnB y) (mantB x * mantB y) (expB x + expB y)) = F6.nearest (sgnB x ^^ sgnB y) (mantB x * mantB y) (expB x + expB y) from rfl,
      ← ownZ_natAbs x, ← ownZ_natAbs y, ← Int.natAbs_mul, ← ownZ_sign hox, ← ownZ_sign hoy, ← mul_sign hox hoy, ← rnd_near ht]
    unfold rndB
    rw [a1, a2, a3]
  · have hm : mantB x * mantB y = 0 := by
      rcases Int.mul_eq_zero.1 hP with h | h
      · rw [valZ_zero.1 h, Nat.zero_mul]
      · rw [valZ_zero.1 h, Nat.mul_zero]
    rw [hm, show F6.write (.number (sgnB x ^^ sgnB y) 0 (expB x + expB y)) = F6.word (sgnB x ^^ sgnB y) 0 from rfl, F6_word]
    cases sgnB x ^^ sgnB y
    · exact .inl rfl
    · exact .inr rfl

theorem compare_self_int (a : Int) : compare a a = Ordering.eq := by
  show compareOfLessAndEq a a = _
  unfold compareOfLessAndEq; rw [if_neg (by omega), if_pos rfl]

theorem read_nan {b : Nat} : (F6.read b).isNaN = nanB b := by
  unfold Ieee.Format.read nanB
  simp only [F6_binade, F6_inf, F6_sign]
  unfold kHid kInf
  split
  · rw [decide_eq_false (by omega)]; rfl
  · split
    · rw [decide_eq_false (by omega)]; rfl
    · split
      · rw [decide_eq_false (by omega)]; rfl
      · rw [decide_eq_true (by omega)]; rfl

theorem order_self (b : Nat) : (F6.order b b == some Ordering.eq) = !nanB b := by
  rw [← read_nan]
  unfold Ieee.Format.order
  cases F6.read b with
  | number s m e => unfold Ieee.Datum.order; simp only [compare_self_int]; rfl
  | infinity s => cases s <;> rfl
  | nan s t => rfl

theorem nan_fin {b : Nat} (hf : finB b = true) : nanB b = false := by
  have h2 : expF b ≠ 2047 := of_decide_eq_true hf
  unfold nanB expF kHid kInf kSign at *
  exact decide_eq_false (by omega)

theorem order_zero {b : Nat} (h : b < 18446744073709551616) (hf : finB b = true) : (F6.order b 0 == some Ordering.eq) = decide (valZ b = 0) := by
  unfold Ieee.Format.order
  rw [read_fin h hf, show F6.read 0 = .number false 0 (-1074) by decide]
  unfold Ieee.Datum.order
  have hb := expB_bd hf
  simp only [signed_own]
  rw [show min (expB b) (-1074) = -1074 by omega]
  have h1 : Ieee.signed false 0 ((-1074 : Int) - (-1074)).toNat = 0 := by decide
  rw [h1]
  have h2 : (2 : Int) ^ (expB b - -1074).toNat ≠ 0 := two_pow_ne _
  have h3 : ownZ b * 2 ^ (expB b - -1074).toNat = 0 ↔ valZ b = 0 := by
    rw [Int.mul_eq_zero, ownZ_zero]
    exact ⟨fun h => h.elim id fun h => absurd h h2, .inl⟩
  generalize ownZ b * 2 ^ (expB b - -1074).toNat = u at *
  by_cases hu : u = 0
  · rw [decide_eq_true (h3.1 hu), hu]; decide
  · rw [decide_eq_false (fun e => hu (h3.2 e))]
    show (some (compareOfLessAndEq u 0) == some Ordering.eq) = false
    unfold compareOfLessAndEq
    split
    · rfl
    · rfl

theorem order_sym0 {b : Nat} (h : b < 18446744073709551616) (hf : finB b = true) (h0 : valZ b = 0) : (F6.order 0 b == some Ordering.eq) = true := by
  unfold Ieee.Format.order
  rw [read_fin h hf, show F6.read 0 = .number false 0 (-1074) by decide]
  unfold Ieee.Datum.order
  simp only [signed_own]
  rw [ownZ_zero.2 h0, Int.zero_mul]
  have : ∀ k, Ieee.signed false 0 k = 0 := fun k => by unfold Ieee.signed; rw [Nat.zero_shiftLeft]; rfl
  rw [this]; decide

theorem rnd_nan {z e : Int} (hz : z ≠ 0) : nanB (rndB z e 0) = false := by
  rw [rnd_near hz, nearest_eq hz rfl]
  generalize (lastE z e 53 (-1074) + 1074).toNat * kHid + roundZ z e 53 (-1074) 0 = r
  unfold nanB kSign kInf
  refine decide_eq_false ?_
  split <;> omega

theorem rnd_zero (e mode : Int) (h : e = 0) : rndB 0 e mode = 0 := by
  subst h
  unfold rndB roundZ
  rw [show lastE 0 0 53 (-1074) = -53 by decide, show cutZ (0 : Int).natAbs (-53 - 0) (decide ((0 : Int) < 0)) mode = 0 by unfold cutZ; rw [if_pos (by decide)]; rfl, if_pos (by decide)]
  decide

/-- The two numbers that DyadOnce compares: equal as floats; where the dyad isn't 0, bit by bit. -/
theorem once_order {P E : Int} {r : Nat} (h1 : P ≠ 0 → r = rndB (hvZ P) (nrE P E) 0) (h0 : P = 0 → r = 0 ∨ r = kSign) :
    (FloatKind.f64.format.order (rndB (hvZ P) (nrE P E) 0) r == some Ordering.eq) = true := by
  by_cases h : P = 0
  · subst h
    rw [hvZ_zero, show nrE 0 E = 0 from rfl, rnd_zero 0 0 rfl]
    rcases h0 rfl with rfl | rfl
    · decide
    · exact order_sym0 (by decide) (by decide) (by decide)
  · rw [h1 h]
    have := order_self (rndB (hvZ P) (nrE P E) 0)
    rw [rnd_nan (hvZ_ne h)] at this
    exact this

end Go.Proofs.YtfcddnccmdjhfaaDoor
