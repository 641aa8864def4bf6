/- Plain: powers of two as floats; the place of a number's first digit. No program. -/
import Derived.Test.YthkhignbmefmjaaGreatDoorZNm1
namespace Go.Proofs.YthkhignbmefmjaaGreatDoor
open Go.RowKit
def topE (m : Nat) : Int := if m < kHid then (bl m : Int) - 1075 else (expF m : Int) - 1023
theorem sub_scaled {f : Nat} (h0 : f ≠ 0) (h : f < kHid) : ∃ y g, rndX (f : Int) (-1022) 0 = y ∧ y = joinB false (bl f) g ∧ g < kHid ∧ 1 ≤ bl f ∧ bl f ≤ 52 := by
 have hz : (f : Int) ≠ 0 := by omega
 have hb : bl f ≤ 52 := bl_le_of_lt h
 have hb1 := bl_pos h0
 have hp := pack_rnd (e := -1022) (mode := 0) hz
 refine ⟨_, _, rfl, ?_, Nat.mod_lt (f * 2 ^ (53 - bl f)) (by decide), by omega, hb⟩
 unfold rndX
 rw [if_neg hz, ← hp]
 have hL : lastE (f : Int) (-1022) 53 (-1074) = (bl f : Int) - 1075 := by unfold lastE; rw [Int.natAbs_natCast]; omega
 have hq : roundZ (f : Int) (-1022) 53 (-1074) 0 = f * 2 ^ (53 - bl f) := by
  unfold roundZ cutZ
  rw [hL, if_pos (by omega), Int.natAbs_natCast]
  congr 2; omega
 have hbq : bl (f * 2 ^ (53 - bl f)) = 53 := by rw [bl_shlN h0]; omega
 rw [hL, hq, decide_eq_false (by omega)]
 unfold packB
 rw [hbq, if_neg (by omega), if_neg (by omega), if_neg (by omega)]
 congr 1; omega
theorem join_exp {e g : Nat} (he : e < 2048) (hg : g < kHid) : expF (joinB false e g) = e := by
 unfold expF joinB
 have hk : kHid = 4503599627370496 := rfl
 rw [if_neg (by decide), Nat.zero_add, Nat.mul_comm, Nat.mul_add_div (by decide), Nat.div_eq_of_lt hg, Nat.add_zero]
 exact Nat.mod_eq_of_lt he
theorem fmul_known {x y : Nat} {z e : Int} (hx : x < 18446744073709551616) (hy : y < 18446744073709551616) (fx : finB x = true) (fy : finB y = true) (hP : valZ x * valZ y ≠ 0) (he : -2148 ≤ e)
  (h : sc 1074 (valZ x) (pE x) * sc 1074 (valZ y) (pE y) = sc 2148 z e) : F6.mul x y = some (rndX z e 0) := by
 obtain ⟨r, h1, h2, -⟩ := fmul_fin hx hy fx fy
 have p1 := pE_bd fx
 have p2 := pE_bd fy
 rw [h1, h2 hP, rndX_hv]
 congr 1
 refine rndX_same (M := 2148) 0 (by decide) (by omega) (by omega) ?_
 rw [← h]
 exact sc_mul (M := 1074) (by omega) (by omega)
theorem sc_plain {b : Nat} (hf : finB b = true) (hs : sgnB b = false) : sc 1074 (valZ b) (pE b) = (mantB b : Int) * 2 ^ (expB b + 1074).toNat := by
 rw [sc_valZ hf 1074 (by decide), hs, if_neg (by decide)]; rfl
theorem mul_sub {m : Nat} (h0 : m ≠ 0) (h : m < kHid) : F6.mul m 4841369599423283200 = some (rndX (m : Int) (-1022) 0) := by
 have hk : kHid = 4503599627370496 := rfl
 have he : expF m = 0 := by unfold expF; rw [Nat.div_eq_of_lt h]
 have hs : sgnB m = false := by unfold sgnB; exact decide_eq_false (by unfold kSign; omega)
 have hf : finB m = true := by unfold finB; rw [he]; decide
 have hm : mantB m = m := by unfold mantB; rw [if_pos he]; exact Nat.mod_eq_of_lt h
 have hx : expB m = -1074 := by unfold expB; rw [if_pos he]; rfl
 have hv : valZ m ≠ 0 := fun t => by have := valZ_zero.1 t; omega
 refine fmul_known (by omega) (by decide) hf (by decide) (Int.mul_ne_zero hv (by decide)) (by decide) ?_
 rw [sc_plain hf hs, sc_plain (by decide) (by decide), hm, hx, show mantB 4841369599423283200 = 4503599627370496 by decide, show expB 4841369599423283200 = 0 by decide]
 unfold sc
 rw [show (-1074 + 1074 : Int).toNat = 0 from rfl, Int.pow_zero, Int.mul_one, show ((4503599627370496 : Nat) : Int) = 2 ^ 52 by decide, ← Int.pow_add]
 rfl
theorem pow_join (a b c d t : Nat) (h : a + b + (c + d) = t) : (2 : Int) ^ a * 2 ^ b * (2 ^ c * 2 ^ d) = 1 * 2 ^ t := by
 rw [← Int.pow_add, ← Int.pow_add, ← Int.pow_add, h, Int.one_mul]
theorem mul_pow {c E : Nat} (hc : c = E * kHid) (h1 : 1 ≤ E) (h2 : E ≤ 2046) : F6.mul 4607182418800017408 c = some (rndX 1 ((E : Int) - 1023) 0) ∧ F6.mul 4368491638549381120 c = some (rndX 1 ((E : Int) - 1023 - 53) 0) := by
 have hk : kHid = 4503599627370496 := rfl
 have hlt : c < kSign := by
  have h3 := Nat.mul_le_mul_right kHid h2
  rw [← hc, hk] at h3
  unfold kSign; omega
 have hw : c < 18446744073709551616 := by unfold kSign at hlt; omega
 have he : expF c = E := by unfold expF; rw [hc, Nat.mul_div_cancel _ (by decide)]; exact Nat.mod_eq_of_lt (by omega)
 have hs : sgnB c = false := by unfold sgnB; exact decide_eq_false (by omega)
 have hf : finB c = true := by unfold finB; rw [he]; exact decide_eq_true (by omega)
 have hm : mantB c = kHid := by unfold mantB fracF; rw [he, if_neg (by omega), hc, Nat.mul_mod_left, Nat.zero_add]
 have hx : expB c = (E : Int) - 1075 := by unfold expB; rw [he, if_neg (by omega)]
 have hv : valZ c ≠ 0 := fun t => by have := valZ_zero.1 t; omega
 obtain ⟨j, hj⟩ : ∃ j : Nat, (E : Int) - 1075 + 1074 = j := ⟨E - 1, by omega⟩
 constructor
 ·refine fmul_known (by decide) hw (by decide) hf (Int.mul_ne_zero (by decide) hv) (by omega) ?_
  rw [sc_plain hf hs, sc_plain (by decide) (by decide), hm, hx, hj, show mantB 4607182418800017408 = 4503599627370496 by decide, show expB 4607182418800017408 = -52 by decide, hk]
  unfold sc
  rw [show ((E : Int) - 1023 + 2148).toNat = j + 1126 by omega, show (-52 + 1074 : Int).toNat = 1022 from rfl, Int.toNat_natCast, show ((4503599627370496 : Nat) : Int) = 2 ^ 52 by decide]
  exact pow_join _ _ _ _ _ (by omega)
 ·refine fmul_known (by decide) hw (by decide) hf (Int.mul_ne_zero (by decide) hv) (by omega) ?_
  rw [sc_plain hf hs, sc_plain (by decide) (by decide), hm, hx, hj, show mantB 4368491638549381120 = 4503599627370496 by decide, show expB 4368491638549381120 = -105 by decide, hk]
  unfold sc
  rw [show ((E : Int) - 1023 - 53 + 2148).toNat = j + 1073 by omega, show (-105 + 1074 : Int).toNat = 969 from rfl, Int.toNat_natCast, show ((4503599627370496 : Nat) : Int) = 2 ^ 52 by decide]
  exact pow_join _ _ _ _ _ (by omega)
end Go.Proofs.YthkhignbmefmjaaGreatDoor
