/- Plain: a dyad's number, as the model's floats have it; no program. -/
import Derived.Test.YtfmecpembnmnkaaGreatDoorGL
namespace Go.Proofs.YtfmecpembnmnkaaGreatDoor
section
open Go.RowKit
abbrev F6 : Ieee.Format := FloatKind.f64.format
theorem F6_place : F6.leastPlace = -1074 := by decide
theorem F6_binade : F6.binade = kHid := by decide
theorem F6_inf : F6.infRung = kInf := by decide
theorem F6_sign : F6.signWeight = kSign := by decide
theorem F6_frac : F6.fractionBits = 52 := by decide
theorem F6_word (neg : Bool) (r : Nat) : F6.word neg r = (if neg then kSign else 0) + r := by
 unfold Ieee.Format.word; rw [F6_sign]; cases neg <;> simp
theorem read_fin {b : Nat} (h : b < 18446744073709551616) (hf : finB b = true) : F6.read b = .number (sgnB b) (mantB b) (expB b) := by
 have h2 : expF b ≠ 2047 := of_decide_eq_true hf
 unfold Ieee.Format.read
 simp only [F6_place, F6_binade, F6_inf, F6_sign]
 have hs : (b / kSign % 2 == 1) = sgnB b := by
  unfold sgnB kSign; rw [Bool.eq_iff_iff]; simp; omega
 rw [hs]
 unfold mantB expB fracF
 unfold expF kHid at *
 unfold kSign kInf
 by_cases h0 : b / 4503599627370496 % 2048 = 0
 ·rw [if_pos (by omega), if_pos h0, if_pos h0]
  congr 1; omega
 ·rw [if_neg (by omega), if_pos (by omega), if_neg h0, if_neg h0]
  congr 1 <;> omega
theorem up_0' {N d : Nat} {neg : Bool} : upB N d neg 0 = (decide (2 ^ (d - 1) < N % 2 ^ d) || (decide (N % 2 ^ d = 2 ^ (d - 1)) && decide (N / 2 ^ d % 2 = 1))) := by
 by_cases h : N % 2 ^ d = 0
 ·rw [up_z h, h]
  have := Nat.two_pow_pos (d - 1)
  rw [decide_eq_false (by omega), decide_eq_false (by omega)]; rfl
 ·exact up_0 h
theorem ite_toNat (b : Bool) : (if b then 1 else 0) = b.toNat := by cases b <;> rfl
theorem even_cut (neg : Bool) (N : Nat) (p l : Int) : Ieee.Toward.even.cut neg (N <<< (p - l).toNat) (l - p).toNat = cutZ N (l - p) neg 0 := by
 unfold Ieee.Toward.cut cutZ
 by_cases h : l - p ≤ 0
 ·rw [if_pos h, show (l - p).toNat = 0 by omega, show (-(l - p)).toNat = (p - l).toNat by omega]
  simp [Nat.shiftLeft_eq, Nat.mod_one]
 ·rw [if_neg h, show (p - l).toNat = 0 by omega]
  obtain ⟨d, hd⟩ : ∃ d : Nat, (l - p).toNat = d + 1 := ⟨(l - p).toNat - 1, by omega⟩
  rw [hd, Nat.shiftLeft_zero, ite_toNat, up_0', Nat.add_sub_cancel]
  simp only [Nat.shiftLeft_eq, Nat.one_mul]
  have hlt := Nat.lt_log2_self (n := N)
  have hp : 2 ^ (d + 1) = 2 * 2 ^ d := by rw [Nat.pow_succ]; omega
  by_cases h2 : d + 1 ≤ N.log2 + 2
  ·rw [Nat.min_eq_left h2, hp]
   generalize N / (2 * 2 ^ d) = q
   generalize N % (2 * 2 ^ d) = r
   generalize 2 ^ d = g
   congr 2
   rw [Bool.eq_iff_iff]; simp; omega
  ·rw [Nat.min_eq_right (by omega)]
   have h3 : N < 2 ^ (N.log2 + 2) := Nat.lt_of_lt_of_le hlt (Nat.pow_le_pow_right (by decide) (by omega))
   have h4 : 2 ^ (N.log2 + 2) ≤ 2 ^ d := Nat.pow_le_pow_right (by decide) (by omega)
   have h5 : 2 ^ (N.log2 + 2) = 2 * 2 ^ (N.log2 + 1) := by rw [Nat.pow_succ]; omega
   rw [Nat.div_eq_of_lt h3, Nat.mod_eq_of_lt h3, Nat.div_eq_of_lt (by omega : N < 2 ^ (d + 1)), Nat.mod_eq_of_lt (by omega : N < 2 ^ (d + 1)), h5]
   generalize 2 ^ (N.log2 + 1) = g at *
   generalize 2 ^ d = u at *
   congr 2
   rw [Bool.eq_iff_iff]; simp; omega
theorem nearest_eq {neg : Bool} {z e : Int} (hz : z ≠ 0) (hn : neg = decide (z < 0)) : F6.nearest neg z.natAbs e = (if neg then kSign else 0) + min ((lastE z e 53 (-1074) + 1074).toNat * kHid + roundZ z e 53 (-1074) 0) kInf := by
 unfold Ieee.Format.nearest
 have h0 : z.natAbs ≠ 0 := by omega
 rw [if_neg h0]
 have hl : max (e + z.natAbs.log2 - (52 : Nat)) (-1074) = lastE z e 53 (-1074) := by
  unfold lastE bl; rw [if_neg h0]; omega
 simp only [F6_word, F6_binade, F6_inf, F6_place, F6_frac, hl, even_cut]
 unfold roundZ; rw [hn, Int.sub_neg]
theorem upB_scale {N d k : Nat} {neg : Bool} {mode : Int} (h : 0 < d) : upB (N * 2 ^ k) (d + k) neg mode = upB N d neg mode := by
 unfold upB
 have h1 : N * 2 ^ k % 2 ^ (d + k) = N % 2 ^ d * 2 ^ k := by rw [Nat.pow_add, Nat.mul_mod_mul_right]
 have h2 : N * 2 ^ k / 2 ^ (d + k) = N / 2 ^ d := by rw [Nat.pow_add, Nat.mul_div_mul_right _ _ (Nat.two_pow_pos k)]
 have h3 : 2 ^ (d + k - 1) = 2 ^ (d - 1) * 2 ^ k := by rw [← Nat.pow_add]; congr 1; omega
 have hk := Nat.two_pow_pos k
 rw [h1, h2, h3]
 simp only [Nat.mul_le_mul_right_iff hk, Nat.mul_lt_mul_right hk, Nat.mul_right_cancel_iff hk, Nat.mul_eq_zero, Nat.pos_iff_ne_zero.1 hk, or_false]
theorem cutZ_scale {N k : Nat} {down : Int} {neg : Bool} {mode : Int} : cutZ (N * 2 ^ k) (down + k) neg mode = cutZ N down neg mode := by
 unfold cutZ
 by_cases h1 : down + k ≤ 0
 ·rw [if_pos h1, if_pos (by omega), Nat.mul_assoc, ← Nat.pow_add]
  congr 2; omega
 ·rw [if_neg h1]
  by_cases h2 : down ≤ 0
  ·rw [if_pos h2]
   have h3 : N * 2 ^ k = N * 2 ^ (-down).toNat * 2 ^ (down + k).toNat := by rw [Nat.mul_assoc, ← Nat.pow_add]; congr 2; omega
   rw [h3, Nat.mul_div_cancel _ (Nat.two_pow_pos _), up_z (Nat.mul_mod_left _ _)]; simp
  ·rw [if_neg h2, show (down + k).toNat = down.toNat + k by omega, upB_scale (by omega), Nat.pow_add, Nat.mul_div_mul_right _ _ (Nat.two_pow_pos k)]
theorem natAbs_shift (z : Int) (k : Nat) : (z * 2 ^ k).natAbs = z.natAbs * 2 ^ k := by rw [Int.natAbs_mul, natAbs_two_pow]
theorem shift_neg (z : Int) (k : Nat) : decide (z * 2 ^ k < 0) = decide (z < 0) := by
 rw [decide_eq_decide]
 have : (0 : Int) < 2 ^ k := Int.pow_pos (by decide)
 constructor
 ·intro h; exact Int.lt_of_not_ge fun h2 => by have := Int.mul_nonneg h2 (Int.le_of_lt this); omega
 ·intro h; exact Int.mul_neg_of_neg_of_pos h this
theorem last_scale {z e digits least : Int} (hz : z ≠ 0) (k : Nat) : lastE (z * 2 ^ k) (e - k) digits least = lastE z e digits least := by
 unfold lastE; rw [natAbs_shift, bl_mul_pow (by omega)]; congr 1; omega
theorem round_scale {z e digits least mode : Int} (hz : z ≠ 0) (k : Nat) : roundZ (z * 2 ^ k) (e - k) digits least mode = roundZ z e digits least mode := by
 unfold roundZ
 rw [last_scale hz, natAbs_shift, shift_neg, show lastE z e digits least - (e - k) = lastE z e digits least - e + k by omega, cutZ_scale]
theorem round_val {M z e y f digits least mode : Int} (hz : z ≠ 0) (h1 : 0 ≤ e + M) (h2 : 0 ≤ f + M) (h : sc M z e = sc M y f) :
  lastE z e digits least = lastE y f digits least ∧ roundZ z e digits least mode = roundZ y f digits least mode ∧ decide (z < 0) = decide (y < 0) ∧ y ≠ 0 := by
 have hy : y ≠ 0 := fun h0 => hz (sc_eq_zero.1 (by rw [h, h0, sc_zero]))
 have a1 := last_scale (e := e) (digits := digits) (least := least) hz (e + M).toNat
 have a2 := round_scale (e := e) (digits := digits) (least := least) (mode := mode) hz (e + M).toNat
 have a3 := shift_neg z (e + M).toNat
 have b1 := last_scale (e := f) (digits := digits) (least := least) hy (f + M).toNat
 have b2 := round_scale (e := f) (digits := digits) (least := least) (mode := mode) hy (f + M).toNat
 have b3 := shift_neg y (f + M).toNat
 rw [show e - ((e + M).toNat : Int) = -M by omega] at a1 a2
 rw [show f - ((f + M).toNat : Int) = -M by omega] at b1 b2
 unfold sc at h
 rw [h] at a1 a2 a3
 exact ⟨a1.symm.trans b1, a2.symm.trans b2, a3.symm.trans b3, hy⟩
theorem mkB_word {neg : Bool} {m : Nat} {last : Int} (h0 : m ≤ 2 ^ 53) (h1 : -1074 ≤ last) (h2 : last = -1074 ∨ 2 ^ 52 ≤ m) : mkB neg m last = (if neg then kSign else 0) + ((last + 1074).toNat * kHid + m) := by
 unfold mkB joinB
 by_cases hm : m = 0
 ·subst hm
  rw [if_pos rfl]
  obtain h2 | h2 := h2
  ·subst h2; simp
  ·omega
 rw [if_neg hm]
 obtain ⟨k1, k2⟩ := ctz_spec hm (by omega)
 have hb : bl m = bl (m / 2 ^ Lib.ctz 64 m) + Lib.ctz 64 m := by
  conv => lhs; rw [k1]
  exact bl_mul_pow (by omega) _
 have hc1 : m = 2 ^ 53 → Lib.ctz 64 m = 53 ∧ m / 2 ^ Lib.ctz 64 m = 1 := by
  intro h; rw [h]
  have := ctz_two_pow53
  rw [show (9007199254740992 : Nat) = 2 ^ 53 from rfl] at this
  rw [this]; decide
 have hc2 : m ≠ 2 ^ 53 → bl m ≤ 53 := fun h => bl_le_of_lt (by omega)
 have hc3 : 2 ^ 52 ≤ m → 53 ≤ bl m := fun h => by
  rcases Nat.lt_or_ge (bl m) 53 with h5 | h5
  ·have := (bl_le_iff (N := m) (k := 52)).1 (by omega); omega
  ·exact h5
 have hc4 : m < 2 ^ 52 → bl m ≤ 52 := fun h => bl_le_of_lt h
 generalize Lib.ctz 64 m = t at *
 by_cases hx : m = 2 ^ 53
 ·obtain ⟨rfl, h4⟩ := hc1 hx
  simp only [h4]
  have hd : min (53 - ((bl 1 : Nat) : Int)) (last + ((53 : Nat) : Int) + 1074) = 52 := by
   rw [show bl 1 = 1 by decide]; omega
  rw [hd, show 1 * 2 ^ (52 : Int).toNat = 4503599627370496 by decide, if_neg (by decide)]
  rw [show (last + ((53 : Nat) : Int) - 52 + 1075).toNat = (last + 1074).toNat + 2 by omega, hx]
  unfold kHid; omega
 ·have hb2 := hc2 hx
  have hd : min (53 - ((bl (m / 2 ^ t) : Nat) : Int)) (last + (t : Int) + 1074) = t := by
   rcases h2 with h2 | h2
   ·omega
   ·have := hc3 h2; omega
  simp only [hd]
  rw [show m / 2 ^ t * 2 ^ (t : Int).toNat = m by rw [Int.toNat_natCast]; exact k1.symm]
  by_cases hk : m < kHid
  ·rw [if_pos hk]
   have : last = -1074 := by
    rcases h2 with h2 | h2
    ·exact h2
    ·unfold kHid at hk; omega
   subst this; simp
  ·rw [if_neg hk, show (last + (t : Int) - (t : Int) + 1075).toNat = (last + 1074).toNat + 1 by omega]
   unfold kHid at *; omega
theorem cutZ_low {N : Nat} {down : Int} {neg : Bool} {mode : Int} (h0 : N ≠ 0) (h : (bl N : Int) - down = 53) : 2 ^ 52 ≤ cutZ N down neg mode := by
 unfold cutZ
 by_cases h1 : down ≤ 0
 ·rw [if_pos h1]
  have h2 := bl_mul_pow h0 (-down).toNat
  rcases Nat.lt_or_ge (N * 2 ^ (-down).toNat) (2 ^ 52) with h3 | h3
  ·have := bl_le_of_lt h3; omega
  ·exact h3
 ·rw [if_neg h1]
  refine Nat.le_trans ?_ (Nat.le_add_right _ _)
  rw [Nat.le_div_iff_mul_le (Nat.two_pow_pos _), ← Nat.pow_add]
  rcases Nat.lt_or_ge N (2 ^ (52 + down.toNat)) with h3 | h3
  ·have := bl_le_of_lt h3; omega
  ·exact h3
theorem roundZ_low {z e mode : Int} (hz : z ≠ 0) : lastE z e 53 (-1074) = -1074 ∨ 2 ^ 52 ≤ roundZ z e 53 (-1074) mode := by
 by_cases h : lastE z e 53 (-1074) = -1074
 ·exact .inl h
 ·refine .inr (cutZ_low (by omega) ?_)
  unfold lastE at *; omega
def beyB (neg : Bool) (mode : Int) : Bool := decide (mode = 2) || (decide (mode = 3) && neg) || (decide (mode = 4) && !neg)
def rndB (z e mode : Int) : Nat :=
 if lastE z e 53 (-1074) + bl (roundZ z e 53 (-1074) mode) ≤ 1024 then mkB (decide (z < 0)) (roundZ z e 53 (-1074) mode) (lastE z e 53 (-1074))
 else (if decide (z < 0) then kSign else 0) + (if beyB (decide (z < 0)) mode then kInf - 1 else kInf)
theorem rnd_near {z e : Int} (hz : z ≠ 0) : rndB z e 0 = F6.nearest (decide (z < 0)) z.natAbs e := by
 rw [nearest_eq hz rfl]
 unfold rndB
 have h1 := roundZ_le z e 53 (-1074) 0 53 rfl
 have h2 : -1074 ≤ lastE z e 53 (-1074) := by unfold lastE; omega
 have h3 := roundZ_low (e := e) (mode := 0) hz
 generalize roundZ z e 53 (-1074) 0 = m at *
 generalize lastE z e 53 (-1074) = last at *
 have hm52 : m < 2 ^ 52 → bl m ≤ 52 := bl_le_of_lt
 have hm53 : m < 2 ^ 53 → bl m ≤ 53 := bl_le_of_lt
 have hm54 : m = 2 ^ 53 → bl m = 54 := fun h => by rw [h]; exact bl_two_pow 53
 have hm52' : 2 ^ 52 ≤ m → 53 ≤ bl m := fun h => by
  rcases Nat.lt_or_ge (bl m) 53 with h5 | h5
  ·have := (bl_le_iff (N := m) (k := 52)).1 (by omega); omega
  ·exact h5
 split
 ·rw [mkB_word h1 h2 h3, Nat.min_eq_left]
  unfold kHid kInf
  by_cases ha : m = 2 ^ 53
  ·have := hm54 ha; omega
  ·rcases h3 with h3 | h3
   ·omega
   ·have := hm52' h3; omega
 ·rw [Nat.min_eq_right]
  ·rfl
  ·unfold kHid kInf
   by_cases ha : m = 2 ^ 53
   ·have := hm54 ha; omega
   ·have := hm53 (by omega)
    rcases h3 with h3 | h3 <;> omega
theorem bits_eq {b : Nat} (h : b < 18446744073709551616) (hf : finB b = true) : b = (if sgnB b then kSign else 0) + ((expB b + 1074).toNat * kHid + mantB b) := by
 have h2 : expF b ≠ 2047 := of_decide_eq_true hf
 unfold mantB expB fracF sgnB
 unfold expF kHid kSign at *
 simp only [decide_eq_true_eq]
 split <;> split <;> omega
theorem mantB_bl {b : Nat} (hf : finB b = true) : max (expB b + bl (mantB b) - 53) (-1074) = expB b := by
 have h1 := expB_bd hf
 have h2 := mantB_lt b
 have h3 : bl (mantB b) ≤ 53 := bl_le_of_lt h2
 unfold mantB expB fracF at *
 by_cases h : expF b = 0
 ·rw [if_pos h] at *
  rw [if_pos h] at *; omega
 ·rw [if_neg h] at *
  rw [if_neg h] at *
  have h5 : 53 ≤ bl (b % kHid + kHid) := by
   rcases Nat.lt_or_ge (bl (b % kHid + kHid)) 53 with h5 | h5
   ·have := (bl_le_iff (N := b % kHid + kHid) (k := 52)).1 (by omega); unfold kHid at this; omega
   ·exact h5
  omega
theorem sc_valZ {b : Nat} (hf : finB b = true) (M : Int) (hM : 1074 ≤ M) : sc M (valZ b) (pE b) = sc M (if sgnB b then -(mantB b : Int) else mantB b) (expB b) := by
 have h1 := expB_bd hf
 unfold valZ
 rcases pM_spec b with ⟨h2, h3, h4⟩ | ⟨h2, h3, h4, h5⟩
 ·rw [h2, h3]; simp [sc_zero]
 ·have key : sc M (pM b : Int) (pE b) = sc M (mantB b : Int) (expB b) := by
   conv => rhs; rw [h4]
   unfold sc
   rw [Int.natCast_mul, Int.natCast_pow, Int.mul_assoc, h5]
   congr 1
   rw [show ((2 : Nat) : Int) = 2 from rfl, ← Int.pow_add]
   congr 1; omega
  split
  ·rw [sc_neg, sc_neg, key]
  ·exact key
theorem valZ_zero {b : Nat} : valZ b = 0 ↔ mantB b = 0 := by
 have := valZ_natAbs b
 rcases pM_spec b with ⟨h2, h3, h4⟩ | ⟨h2, h3, h4, h5⟩ <;> omega
theorem rnd_own {b : Nat} (h : b < 18446744073709551616) (hf : finB b = true) (h0 : valZ b ≠ 0) (mode : Int) : rndB (valZ b) (pE b) mode = b := by
 have hm : mantB b ≠ 0 := fun e => h0 (valZ_zero.2 e)
 have h1 := expB_bd hf
 have hp := pE_bd hf
 have hlt := mantB_lt b
 obtain ⟨a1, a2, a3, a4⟩ := round_val (M := 1074) (digits := 53) (least := -1074) (mode := mode) h0 (by omega) (by omega) (sc_valZ hf 1074 (by omega))
 unfold rndB
 rw [a1, a2, a3]
 have hl : lastE (if sgnB b then -(mantB b : Int) else mantB b) (expB b) 53 (-1074) = expB b := by
  unfold lastE
  have := mantB_bl hf
  split
  ·rw [Int.natAbs_neg, Int.natAbs_natCast]; exact this
  ·rw [Int.natAbs_natCast]; exact this
 have hr : roundZ (if sgnB b then -(mantB b : Int) else mantB b) (expB b) 53 (-1074) mode = mantB b := by
  unfold roundZ cutZ
  rw [hl, if_pos (by omega), show (-(expB b - expB b)).toNat = 0 by omega]
  split
  ·rw [Int.natAbs_neg, Int.natAbs_natCast]; simp
  ·rw [Int.natAbs_natCast]; simp
 have hs : decide ((if sgnB b then -(mantB b : Int) else mantB b) < 0) = sgnB b := by
  split
  ·rename_i h5; rw [h5]; exact decide_eq_true (by omega)
  ·rename_i h5; rw [Bool.not_eq_true] at h5; rw [h5]; exact decide_eq_false (by omega)
 rw [hl, hr, hs, if_pos (by have : bl (mantB b) ≤ 53 := bl_le_of_lt hlt; omega)]
 rw [mkB_word (by omega) h1.1]
 ·exact (bits_eq h hf).symm
 ·by_cases he : expF b = 0
  ·left; unfold expB; rw [if_pos he]; rfl
  ·right; unfold mantB; rw [if_neg he]; unfold kHid; omega
end
section
open Go.RowKit
def ownZ (b : Nat) : Int := if sgnB b then -(mantB b : Int) else mantB b
theorem ownZ_natAbs (b : Nat) : (ownZ b).natAbs = mantB b := by unfold ownZ; split <;> omega
theorem ownZ_zero {b : Nat} : ownZ b = 0 ↔ valZ b = 0 := by rw [valZ_zero, ← ownZ_natAbs]; omega
theorem ownZ_sign {b : Nat} (h : ownZ b ≠ 0) : decide (ownZ b < 0) = sgnB b := by
 have := ownZ_natAbs b
 unfold ownZ at *
 cases hs : sgnB b <;> simp only [hs, if_true, if_false, Bool.false_eq_true] at * <;> first | exact decide_eq_true (by omega) | exact decide_eq_false (by omega)
theorem signed_own (b k : Nat) : Ieee.signed (sgnB b) (mantB b) k = ownZ b * 2 ^ k := by
 unfold Ieee.signed ownZ
 rw [Nat.shiftLeft_eq]
 split <;> simp [Int.neg_mul]
theorem sc_own {b : Nat} (hf : finB b = true) {M : Int} (hM : 1074 ≤ M) : sc M (ownZ b) (expB b) = sc M (valZ b) (pE b) := (sc_valZ hf M hM).symm
theorem fadd_fin {x y : Nat} (hx : x < 18446744073709551616) (hy : y < 18446744073709551616) (fx : finB x = true) (fy : finB y = true) :
  ∃ r, F6.add x y = some r ∧ (plZ (valZ x) (pE x) (valZ y) (pE y) ≠ 0 → r = rndB (hvZ (plZ (valZ x) (pE x) (valZ y) (pE y))) (nrE (plZ (valZ x) (pE x) (valZ y) (pE y)) (plE (valZ x) (pE x) (valZ y) (pE y))) 0) ∧
   (plZ (valZ x) (pE x) (valZ y) (pE y) = 0 → r = 0 ∨ r = kSign) := by
 unfold Ieee.Format.add
 rw [read_fin hx fx, read_fin hy fy]
 unfold Ieee.Datum.sum
 simp only [signed_own]
 have hx1 := expB_bd fx
 have hy1 := expB_bd fy
 have hpx := pE_bd fx
 have hpy := pE_bd fy
 have hs : sc 1074 (ownZ x * 2 ^ (expB x - min (expB x) (expB y)).toNat + ownZ y * 2 ^ (expB y - min (expB x) (expB y)).toNat) (min (expB x) (expB y)) = sc 1074 (plZ (valZ x) (pE x) (valZ y) (pE y)) (plE (valZ x) (pE x) (valZ y) (pE y)) := by
  rw [sc_pl (by omega) (by omega), ← sc_own fx (by omega), ← sc_own fy (by omega)]
  unfold sc
  rw [Int.add_mul, Int.mul_assoc, Int.mul_assoc, ← Int.pow_add, ← Int.pow_add]
  congr 3 <;> omega
 have hE : 0 ≤ plE (valZ x) (pE x) (valZ y) (pE y) + 1074 := plE_ge (by omega) (by omega)
 have hb : 0 ≤ min (expB x) (expB y) + 1074 := by omega
 generalize plZ (valZ x) (pE x) (valZ y) (pE y) = P at *
 generalize plE (valZ x) (pE x) (valZ y) (pE y) = PE at *
 generalize min (expB x) (expB y) = base at *
 generalize ownZ x * 2 ^ (expB x - base).toNat + ownZ y * 2 ^ (expB y - base).toNat = total at *
 have h0 : total = 0 ↔ P = 0 := by rw [← sc_eq_zero (M := 1074) (e := base), hs, sc_eq_zero]
 refine ⟨_, rfl, fun hP => ?_, fun hP => ?_⟩
 ·have ht : total ≠ 0 := fun e => hP (h0.1 e)
  rw [if_neg ht]
  have hn : 0 ≤ nrE P PE + 1074 := nrE_ge (by omega) hE
  rw [← sc_nr hE] at hs
  obtain ⟨a1, a2, a3, a4⟩ := round_val (digits := 53) (least := -1074) (mode := 0) ht hb hn hs
  rw [show F6.write (.number (decide (total < 0)) total.natAbs base) = F6.nearest (decide (total < 0)) total.natAbs base from rfl, ← rnd_near ht]
  unfold rndB
  rw [a1, a2, a3]
 ·have ht : total = 0 := h0.2 hP
  subst ht
  rw [if_pos rfl, show F6.write (.number (sgnB x && sgnB y) (0 : Int).natAbs base) = F6.word (sgnB x && sgnB y) 0 from rfl, F6_word]
  cases sgnB x && sgnB y
  ·exact .inl rfl
  ·exact .inr rfl
theorem mul_sign {a b : Int} (ha : a ≠ 0) (hb : b ≠ 0) : decide (a * b < 0) = (decide (a < 0) ^^ decide (b < 0)) := by
 rcases Int.lt_or_lt_of_ne ha with h1 | h1 <;> rcases Int.lt_or_lt_of_ne hb with h2 | h2
 ·have := Int.mul_pos_of_neg_of_neg h1 h2
  rw [decide_eq_true h1, decide_eq_true h2, decide_eq_false (by omega)]; rfl
 ·have := Int.mul_neg_of_neg_of_pos h1 h2
  rw [decide_eq_true h1, decide_eq_false (by omega : ¬ b < 0), decide_eq_true this]; rfl
 ·have := Int.mul_neg_of_pos_of_neg h1 h2
  rw [decide_eq_true h2, decide_eq_false (by omega : ¬ a < 0), decide_eq_true this]; rfl
 ·have := Int.mul_pos h1 h2
  rw [decide_eq_false (by omega : ¬ a < 0), decide_eq_false (by omega : ¬ b < 0), decide_eq_false (by omega)]; rfl
theorem fmul_fin {x y : Nat} (hx : x < 18446744073709551616) (hy : y < 18446744073709551616) (fx : finB x = true) (fy : finB y = true) :
  ∃ r, F6.mul x y = some r ∧ (valZ x * valZ y ≠ 0 → r = rndB (hvZ (valZ x * valZ y)) (nrE (valZ x * valZ y) (pE x + pE y)) 0) ∧
   (valZ x * valZ y = 0 → r = 0 ∨ r = kSign) := by
 unfold Ieee.Format.mul
 rw [read_fin hx fx, read_fin hy fy]
 unfold Ieee.Datum.product
 have hx1 := expB_bd fx
 have hy1 := expB_bd fy
 have hpx := pE_bd fx
 have hpy := pE_bd fy
 refine ⟨_, rfl, fun hP => ?_, fun hP => ?_⟩
 ·have hvx : valZ x ≠ 0 := fun e => hP (by rw [e, Int.zero_mul])
  have hvy : valZ y ≠ 0 := fun e => hP (by rw [e, Int.mul_zero])
  have hox : ownZ x ≠ 0 := fun e => hvx (ownZ_zero.1 e)
  have hoy : ownZ y ≠ 0 := fun e => hvy (ownZ_zero.1 e)
  have ht : ownZ x * ownZ y ≠ 0 := Int.mul_ne_zero hox hoy
  have hs : sc (1074 + 1074) (ownZ x * ownZ y) (expB x + expB y) = sc (1074 + 1074) (hvZ (valZ x * valZ y)) (nrE (valZ x * valZ y) (pE x + pE y)) := by
   rw [sc_nr (by omega), sc_mul (by omega) (by omega), sc_mul (by omega) (by omega), sc_own fx (by omega), sc_own fy (by omega)]
  have hn : 0 ≤ nrE (valZ x * valZ y) (pE x + pE y) + (1074 + 1074) := nrE_ge (by omega) (by omega)
  obtain ⟨a1, a2, a3, a4⟩ := round_val (digits := 53) (least := -1074) (mode := 0) ht (by omega) hn hs
  rw [show F6.write (.number (sgnB x ^^ sgnB y) (mantB x * mantB y) (expB x + expB y)) = F6.nearest (sgnB x ^^ sgnB y) (mantB x * mantB y) (expB x + expB y) from rfl,
   ← ownZ_natAbs x, ← ownZ_natAbs y, ← Int.natAbs_mul, ← ownZ_sign hox, ← ownZ_sign hoy, ← mul_sign hox hoy, ← rnd_near ht]
  unfold rndB
  rw [a1, a2, a3]
 ·have hm : mantB x * mantB y = 0 := by
   rcases Int.mul_eq_zero.1 hP with h | h
   ·rw [valZ_zero.1 h, Nat.zero_mul]
   ·rw [valZ_zero.1 h, Nat.mul_zero]
  rw [hm, show F6.write (.number (sgnB x ^^ sgnB y) 0 (expB x + expB y)) = F6.word (sgnB x ^^ sgnB y) 0 from rfl, F6_word]
  cases sgnB x ^^ sgnB y
  ·exact .inl rfl
  ·exact .inr rfl
theorem compare_self_int (a : Int) : compare a a = Ordering.eq := by
 show compareOfLessAndEq a a = _
 unfold compareOfLessAndEq; rw [if_neg (by omega), if_pos rfl]
theorem read_nan {b : Nat} : (F6.read b).isNaN = nanB b := by
 unfold Ieee.Format.read nanB
 simp only [F6_binade, F6_inf, F6_sign]
 unfold kHid kInf
 split
 ·rw [decide_eq_false (by omega)]; rfl
 ·split
  ·rw [decide_eq_false (by omega)]; rfl
  ·split
   ·rw [decide_eq_false (by omega)]; rfl
   ·rw [decide_eq_true (by omega)]; rfl
theorem order_self (b : Nat) : (F6.order b b == some Ordering.eq) = !nanB b := by
 rw [← read_nan]
 unfold Ieee.Format.order
 cases F6.read b with
 | number s m e => unfold Ieee.Datum.order; simp only [compare_self_int]; rfl
 | infinity s => cases s <;> rfl
 | nan s t => rfl
theorem nan_fin {b : Nat} (hf : finB b = true) : nanB b = false := by
 have h2 : expF b ≠ 2047 := of_decide_eq_true hf
 unfold nanB expF kHid kInf kSign at *
 exact decide_eq_false (by omega)
theorem rnd_zero (e mode : Int) (h : e = 0) : rndB 0 e mode = 0 := by
 subst h
 unfold rndB roundZ
 rw [show lastE 0 0 53 (-1074) = -53 by decide, show cutZ (0 : Int).natAbs (-53 - 0) (decide ((0 : Int) < 0)) mode = 0 by unfold cutZ; rw [if_pos (by decide)]; rfl, if_pos (by decide)]
 decide
end
section
open Go.RowKit
set_option maxRecDepth 100000 in
set_option maxHeartbeats 400000 in
theorem rBits_any (b : Nat) (w : World) :
  Calls Tryz.prog 131 #[.float .f64 b] w (Gives (.int .u64 (canonB b : Nat)) w) := by
 have hf := fbits_eq b
 have ho : (FloatKind.f64.format.order b b != some Ordering.eq) = nanB b := by
  have := order_self b
  unfold F6 at this
  rw [bne, this, Bool.not_not]
 unfold canonB
 cases hn : nanB b
 ·rw [hn] at ho
  rw [if_neg (by decide)]
  go_enter Tryz.func131, Tryz.ntmps131
  go_wp2
  go_ret
  exact ⟨rfl, Below.refl _ _⟩
 ·rw [hn] at ho
  rw [if_pos rfl]
  go_enter Tryz.func131, Tryz.ntmps131
  go_wp2
  go_ret
  exact ⟨rfl, Below.refl _ _⟩
set_option maxRecDepth 100000 in
set_option maxHeartbeats 400000 in
theorem rSplit_any (b : Nat) (w : World) (h : b < 18446744073709551616) :
  Calls Tryz.prog 176 #[.float .f64 b] w (Gives (.tuple #[.bool (sgnB (canonB b)), .int .i64 (expF (canonB b)), .int .u64 (fracF (canonB b))]) w) := by
 have HB := Lib.hid fun W => rBits_any b W
 have hc := canonB_lt h
 clear h
 generalize canonB b = c at *
 have h1 : ((c : Int) / 9223372036854775808 == 1) = sgnB c := by unfold sgnB kSign; rw [Bool.eq_iff_iff]; simp; omega
 have h2 : (c : Int) / 4503599627370496 % 2048 = (expF c : Int) := by unfold expF kHid; omega
 have h3 : (c : Int) % 4503599627370496 = (fracF c : Int) := by unfold fracF kHid; omega
 have he : expF c < 2048 := Nat.mod_lt _ (by decide)
 have H1 := Lib.hid h1
 have H2 := Lib.hid h2
 have H3 := Lib.hid h3
 clear h1 h2 h3
 generalize hs : sgnB c = s at *
 generalize hee : expF c = e at *
 generalize hff : fracF c = f at *
 clear hs hee hff
 go_enter Tryz.func176, Tryz.ntmps176
 go_wp2_with fail
 refine (HB.out _).mono ?_
 rintro e1 w1 ⟨rfl, hb1⟩
 have HB1 := Lib.hid hb1
 clear hb1
 go_wp2
 go_ret3
 exact ⟨by simp only [H1.out, H2.out, H3.out]; rfl, HB1.out⟩
set_option maxRecDepth 100000 in
set_option maxHeartbeats 1000000 in
theorem classify_any (e f : Nat) (w : World) :
  Calls Tryz.prog 177 #[.int .i64 e, .int .u64 f, .int .i64 2047] w (Gives (.int .i64 (clsOf e f)) w) := by
 have k1 : ((e : Int) == 2047) = decide (e = 2047) := by rw [Bool.eq_iff_iff]; simp; omega
 have k2 : ((f : Int) != 0) = decide (f ≠ 0) := by rw [Bool.eq_iff_iff]; simp
 have k3 : ((e : Int) == 0) = decide (e = 0) := by rw [Bool.eq_iff_iff]; simp
 have k4 : ((f : Int) == 0) = decide (f = 0) := by rw [Bool.eq_iff_iff]; simp
 unfold clsOf
 by_cases h1 : e = 2047
 ·rw [if_pos h1]
  rw [decide_eq_true h1] at k1
  by_cases h2 : f = 0
  ·rw [if_pos h2]
   rw [decide_eq_false (fun x => x h2)] at k2
   clear h1 h2 k3 k4
   go_enter Tryz.func177, Tryz.ntmps177
   go_wp2
   go_ret
   exact ⟨rfl, Below.refl _ _⟩
  ·rw [if_neg h2]
   rw [decide_eq_true h2] at k2
   clear h1 h2 k3 k4
   go_enter Tryz.func177, Tryz.ntmps177
   go_wp2
   go_ret
   exact ⟨rfl, Below.refl _ _⟩
 ·rw [if_neg h1]
  rw [decide_eq_false h1] at k1
  by_cases h2 : e = 0
  ·rw [if_pos h2]
   rw [decide_eq_true h2] at k3
   by_cases h3 : f = 0
   ·rw [if_pos h3]
    rw [decide_eq_true h3] at k4
    clear h1 h2 h3 k2
    go_enter Tryz.func177, Tryz.ntmps177
    go_wp2
    go_ret
    exact ⟨rfl, Below.refl _ _⟩
   ·rw [if_neg h3]
    rw [decide_eq_false h3] at k4
    clear h1 h2 h3 k2
    go_enter Tryz.func177, Tryz.ntmps177
    go_wp2
    go_ret
    exact ⟨rfl, Below.refl _ _⟩
  ·rw [if_neg h2]
   rw [decide_eq_false h2] at k3
   clear h1 h2 k2 k4
   go_enter Tryz.func177, Tryz.ntmps177
   go_wp2
   go_ret
   exact ⟨rfl, Below.refl _ _⟩
set_option maxRecDepth 100000 in
set_option maxHeartbeats 400000 in
theorem rClass_any (b : Nat) (w : World) (h : b < 18446744073709551616) :
  Calls Tryz.prog 144 #[.float .f64 b] w (Gives (.int .i64 (clsB b)) w) := by
 have HS := Lib.hid fun W => rSplit_any b W h
 unfold clsB
 clear h
 generalize sgnB (canonB b) = s at *
 generalize expF (canonB b) = e at *
 generalize fracF (canonB b) = f at *
 go_enter Tryz.func144, Tryz.ntmps144
 go_wp2_with fail
 refine (HS.out _).mono ?_
 rintro e1 w1 ⟨rfl, hb1⟩
 have HB1 := Lib.hid hb1
 clear hb1
 go_wp2_with fail
 refine (classify_any e f _).mono ?_
 rintro e2 w2 ⟨rfl, hb2⟩
 have HB2 := Lib.hid (HB1.out.trans (hb2.mono HB1.out.size))
 clear hb2
 go_wp2
 go_ret
 exact ⟨rfl, HB2.out⟩
theorem cls_gt (b : Nat) : decide (2 < clsB b) = finB b := by
 have h := cls_fin b
 cases hf : finB b
 ·have := h.2 hf
  simp only [beq_iff_eq] at this
  rcases this with h1 | ⟨-, h1⟩ <;> rw [h1] <;> rfl
 ·refine decide_eq_true ?_
  have h2 : expF b ≠ 2047 := of_decide_eq_true hf
  unfold clsB clsOf
  rw [canon_fin hf, if_neg h2]
  split
  ·split <;> decide
  ·decide
set_option maxRecDepth 100000 in
set_option maxHeartbeats 400000 in
theorem rFinite_any (b : Nat) (w : World) (h : b < 18446744073709551616) :
  Calls Tryz.prog 118 #[.float .f64 b] w (Gives (.bool (finB b)) w) := by
 have HS := Lib.hid fun W => rClass_any b W h
 have hg := cls_gt b
 have HG := Lib.hid hg
 clear h hg
 generalize clsB b = c at *
 go_enter Tryz.func118, Tryz.ntmps118
 go_wp2_with fail
 refine (HS.out _).mono ?_
 rintro e1 w1 ⟨rfl, hb1⟩
 have HB1 := Lib.hid hb1
 clear hb1
 go_wp2
 go_ret
 exact ⟨by rw [← HG.out]; rfl, HB1.out⟩
set_option maxRecDepth 100000 in
set_option maxHeartbeats 400000 in
theorem inf_any (w : World) :
  Calls Tryz.prog 100 #[.int .i64 1] w (Gives (.float .f64 9218868437227405312) w) := by
 have h1 : ∀ w, (callFunc 68 #[.int .u64 9218868437227405312]).run Tryz.prog w = .ok (.value (.float .f64 9218868437227405312)) w := ffrom_eq 9218868437227405312
 go_enter Tryz.func100, Tryz.ntmps100
 go_wp2
 go_ret
 exact ⟨rfl, Below.refl _ _⟩
theorem neg_bits {b : Nat} (h : b < kSign) : Op.negFloat .f64 b = kSign + b := by
 unfold Op.negFloat
 rw [show FloatKind.f64.format.exponentBits + FloatKind.f64.format.fractionBits = 63 by decide]
 unfold kSign at *
 rw [Nat.xor_comm, show (9223372036854775808 : Nat) = 2 ^ 63 from rfl]
 have h2 := Nat.two_pow_add_eq_or_of_lt (i := 63) (b := b) h 1
 rw [Nat.mul_one] at h2
 rw [h2]
 apply Nat.eq_of_testBit_eq
 intro i
 rw [Nat.testBit_xor, Nat.testBit_or]
 by_cases hi : i = 63
 ·subst hi
  rw [Nat.testBit_lt_two_pow (x := b) h]; simp
 ·rw [Nat.testBit_two_pow_of_ne (fun e => hi e.symm)]; simp
set_option maxRecDepth 100000 in
set_option maxHeartbeats 400000 in
theorem signed_any (b : Nat) (neg : Bool) (w : World) (h : b < kSign) :
  Calls Tryz.prog 222 #[.float .f64 b, .bool neg] w (Gives (.float .f64 ((if neg then kSign else 0) + b)) w) := by
 have h1 := neg_bits h
 clear h
 cases neg
 ·rw [if_neg (by decide), Nat.zero_add]
  go_enter Tryz.func222, Tryz.ntmps222
  go_wp2
  go_ret
  exact ⟨rfl, Below.refl _ _⟩
 ·rw [if_pos rfl]
  generalize kSign + b = c at *
  have H1 : ∀ w, (Op.unary .neg (.float .f64 b)).run Tryz.prog w = .ok (.float .f64 c) w := fun w => by rw [← h1]; rfl
  clear h1
  go_enter Tryz.func222, Tryz.ntmps222
  go_wp2
  go_ret
  exact ⟨rfl, Below.refl _ _⟩
set_option maxRecDepth 100000 in
set_option maxHeartbeats 1000000 in
theorem beyond_any (neg : Bool) (mode : Int) (w : World) (h1 : 0 ≤ mode) (h2 : mode ≤ 4) :
  Calls Tryz.prog 221 #[.bool neg, .int .i64 mode] w (Gives (.bool (beyB neg mode)) w) := by
 have hm : mode = 0 ∨ mode = 1 ∨ mode = 2 ∨ mode = 3 ∨ mode = 4 := by omega
 clear h1 h2
 unfold beyB
 rcases hm with rfl | rfl | rfl | rfl | rfl <;> cases neg <;>
  (go_enter Tryz.func221, Tryz.ntmps221
   go_wp2
   go_ret
   exact ⟨rfl, Below.refl _ _⟩)
end
section
open Go.RowKit
set_option maxRecDepth 100000 in
set_option maxHeartbeats 1600000 in
theorem dRound_great (va : Value) (z e mode : Int) (w : World) (ha : DyAt w va z e) (hga : GoodD z e) (hm1 : 0 ≤ mode) (hm2 : mode ≤ 4) (hT : Tab64 w) (hTs : 1 < w.heap.size)
  (hfit : ¬ lastE z e 53 (-1074) + bl (roundZ z e 53 (-1074) mode) ≤ 1024) :
  Calls Tryz.prog 188 #[va, .int .i64 mode] w (Gives (.tuple #[.float .f64 ((if decide (z < 0) then kSign else 0) + (if beyB (decide (z < 0)) mode then kInf - 1 else kInf)), .int .i64 0]) w) := by
 have HA := Lib.hid ha
 obtain ⟨sa, rfl, hra⟩ := ha
 have HRa := Lib.hid hra
 obtain ⟨aa, ca, rfl, -⟩ := hra
 have HG := Lib.hid hga
 have HF := Lib.hid (set_fin z)
 have HT := Lib.hid (And.intro hT hTs)
 have HL : Hid (ln 32 z.natAbs ≤ 1073741824) := Lib.hid (Nat.le_trans (ln_le_bl 32 _ (by decide)) (Nat.le_trans hga.2.1 (by decide)))
 have HRD : Hid (∀ (b : Nat) (W : World), IntAt W b 0 z → Calls Tryz.prog 219 #[ExV b e, .int .i64 53, .int .i64 (-1074), .int .i64 mode] W (Rounds z e 53 (-1074) mode W)) :=
  Lib.hid fun b W h => rounded_any b z e 53 (-1074) mode W h (Nat.le_trans hga.2.1 (by decide)) (by have := hga.2.2.1; omega) (by have := hga.2.2.2; omega) (by decide) (by decide) (by decide) (by decide) (by omega)
 have hl1 : -1074 ≤ lastE z e 53 (-1074) := by unfold lastE; omega
 have hl2 : lastE z e 53 (-1074) ≤ 200000 := by have := hga.2.1; have := hga.2.2.2; unfold lastE; omega
 have hmB := roundZ_le z e 53 (-1074) mode 53 rfl
 have HBY := Lib.hid fun W => beyond_any (decide (z < 0)) mode W hm1 hm2
 have HSG1 := Lib.hid fun W => signed_any 9218868437227405311 (decide (z < 0)) W (by decide)
 have HSG2 := Lib.hid fun W => signed_any 9218868437227405312 (decide (z < 0)) W (by decide)
 unfold DyV Rounds at *
 rw [show kInf - 1 = 9218868437227405311 by decide, show kInf = 9218868437227405312 from rfl]
 generalize roundZ z e 53 (-1074) mode = m at *
 generalize lastE z e 53 (-1074) = last at *
 have hfit2 : decide ((1024 : Int) < last + (bl m : Int)) = true := by simp; omega
 have HBM : Hid (bl ((m : Int)).natAbs = bl m) := Lib.hid (by rw [Int.natAbs_natCast])
 have hblm : bl m ≤ 54 := Nat.le_trans (bl_mono hmB) (by rw [bl_two_pow]; omega)
 generalize beyB (decide (z < 0)) mode = by1 at *
 generalize hN : (if decide (z < 0) then kSign else 0) = sg at *
 clear hN
 generalize hR : sg + (if by1 = true then 9218868437227405311 else 9218868437227405312) = R
 have HR1 : Hid (by1 = true → sg + 9218868437227405311 = R) := Lib.hid fun h => by rw [← hR, if_pos h]
 have HR2 : Hid (by1 = false → sg + 9218868437227405312 = R) := Lib.hid fun h => by rw [← hR, h]; rfl
 clear hR
 generalize decide (z < 0) = na at *
 generalize z.natAbs = Na at *
 generalize ln 32 Na = la at *
 generalize bl m = q at *
 have HW0 := Lib.hid (BlkT.new w #[.bool na, .slice aa la ca, .int .i64 e] 167)
 clear hga hT hTs hmB
 go_enter Tryz.func188, Tryz.ntmps188
 go_wp2_with fail
 refine (may_true _ z e _ (HA.out.below (below1 _ _)) HG.out).mono ?_
 rintro e1 w1 ⟨rfl, hb1⟩
 have HW1 : Hid (BlkT w1 w.heap.size 167 #[.bool na, .slice aa la ca, .int .i64 e] ∧ Below w.heap.size w w1) := Lib.hid ⟨HW0.out.below hb1, (below1 _ _).trans (hb1.mono (below1 _ _).size)⟩
 obtain ⟨x0, x1, x2, x3, x4, x5⟩ := HW1.out.1.cells3
 clear hb1 HW0
 go_wp2_with fail
 refine (known_any mode _ hm1 hm2).mono ?_
 rintro e2 w2 ⟨rfl, rfl⟩
 go_wp2_with fail
 refine (take_any na e _ la Na _ (HRa.out.below HW1.out.2) HL.out).mono ?_
 rintro e3 w3 ⟨p, rfl, hp, hi3, hb3⟩
 rw [HF.out] at hi3
 have HW3 : Hid (BlkT w3 w.heap.size 167 #[.bool na, .slice aa la ca, .int .i64 e] ∧ Below w.heap.size w w3) := Lib.hid ⟨HW1.out.1.below hb3, HW1.out.2.trans (hb3.mono HW1.out.2.size)⟩
 have HI3 := Lib.hid hi3
 clear hp hi3 hb3 HW1 x0 x1 x2 x3 x4 x5
 unfold ExV at *
 go_wp2_with fail
 refine (HRD.out p _ (HI3.out.below (below1 _ _))).mono ?_
 rintro e4 w4 ⟨p2, rfl, hi4, hb4⟩
 have HW4 : Hid (BlkT w4 w.heap.size 167 #[.bool na, .slice aa la ca, .int .i64 e] ∧ Below w.heap.size w w4) := Lib.hid ⟨(HW3.out.1.alloc _).below hb4, (HW3.out.2.alloc HW3.out.2.size _).trans (hb4.mono (HW3.out.2.alloc HW3.out.2.size _).size)⟩
 have HI4 := Lib.hid hi4
 clear hi4 hb4 HW3 HI3
 go_wp2_with fail
 refine (BitLen_any p2 0 _ _ HI4.out).mono ?_
 rintro e5 w5 ⟨rfl, rfl⟩
 rw [HBM.out]
 obtain ⟨x0, x1, x2, x3, x4, x5⟩ := HW4.out.1.cells3
 go_wp2_with fail
 refine (HBY.out _).mono ?_
 rintro e6 w6 ⟨rfl, hb6⟩
 have HW6 : Hid (BlkT w6 w.heap.size 167 #[.bool na, .slice aa la ca, .int .i64 e] ∧ Below w.heap.size w w6) := Lib.hid ⟨HW4.out.1.below hb6, HW4.out.2.trans (hb6.mono HW4.out.2.size)⟩
 clear hb6 x0 x1 x2 x3 x4 x5 HW4
 cases by1
 ·have HR := Lib.hid (HR2.out rfl)
  clear HR1 HR2
  go_wp2
  refine wp_region_pl (fun w' : World => w'.cell? ⟨w.heap.size, 0, none⟩ = some (.bool na)) 4 (.take 1 (.take 2 (.run 0 (.run 3 .nil)))) (by kernel_rfl) (by kernel_rfl) ?_
  have HW7 : Hid (BlkT w6.drew w.heap.size 167 #[.bool na, .slice aa la ca, .int .i64 e] ∧ Below w.heap.size w w6.drew) := Lib.hid ⟨HW6.out.1.below (drew_below _), HW6.out.2.drew⟩
  clear HW6
  generalize w6.drew = V at HW7 ⊢
  have hS : (fun w' : World => w'.cell? ⟨w.heap.size, 0, none⟩ = some (.bool na)) V := HW7.out.1.cell 0
  repeat (refine wpPl_take (v := ?_) rfl (fun _ _ _ h => h) rfl (fun w' hSw => ?_) hS ?_; rotate_left; focus (go_simp; with_reducible rfl); try simp only [Act.put, setL])
  refine wpPl_run rfl fun K' hK => ?_
  go_simp
  refine (inf_any _).mono ?_
  rintro e8 w8 ⟨rfl, hb8⟩
  have HW8 : Hid (BlkT w8 w.heap.size 167 #[.bool na, .slice aa la ca, .int .i64 e] ∧ Below w.heap.size w w8) := Lib.hid ⟨HW7.out.1.below hb8, HW7.out.2.trans (hb8.mono HW7.out.2.size)⟩
  have hS : (fun w' : World => w'.cell? ⟨w.heap.size, 0, none⟩ = some (.bool na)) w8 := HW8.out.1.cell 0
  refine hK _ _ hS ?_
  clear hK K' hb8 HW7
  refine wpPl_run rfl fun K' hK => ?_
  go_simp
  refine (HSG2.out _).mono ?_
  rintro e9 w9 ⟨rfl, hb9⟩
  have HW9 : Hid (BlkT w9 w.heap.size 167 #[.bool na, .slice aa la ca, .int .i64 e] ∧ Below w.heap.size w w9) := Lib.hid ⟨HW8.out.1.below hb9, HW8.out.2.trans (hb9.mono HW8.out.2.size)⟩
  have hS : (fun w' : World => w'.cell? ⟨w.heap.size, 0, none⟩ = some (.bool na)) w9 := HW9.out.1.cell 0
  refine hK _ _ hS ?_
  clear hK K' hb9 HW8 hS
  refine wpPl_nil ?_
  simp only [drL]
  go_wp2
  go_ret2
  exact ⟨by rw [← HR.out]; rfl, HW9.out.2⟩
 ·have HR := Lib.hid (HR1.out rfl)
  clear HR1 HR2
  obtain ⟨x0, x1, x2, x3, x4, x5⟩ := HW6.out.1.cells3
  go_wp2_with fail
  refine (HSG1.out _).mono ?_
  rintro e9 w9 ⟨rfl, hb9⟩
  have HB9 := Lib.hid (HW6.out.2.trans (hb9.mono HW6.out.2.size))
  clear hb9
  go_wp2
  go_ret2
  exact ⟨by rw [← HR.out]; rfl, HB9.out⟩
theorem dRound_any (va : Value) (z e mode : Int) (w : World) (ha : DyAt w va z e) (hga : GoodD z e) (hm1 : 0 ≤ mode) (hm2 : mode ≤ 4) (hT : Tab64 w) (hTs : 1 < w.heap.size) :
  Calls Tryz.prog 188 #[va, .int .i64 mode] w (Gives (.tuple #[.float .f64 (rndB z e mode), .int .i64 0]) w) := by
 unfold rndB
 by_cases h : lastE z e 53 (-1074) + bl (roundZ z e 53 (-1074) mode) ≤ 1024
 ·rw [if_pos h]; exact dRound_norm va z e mode w ha hga hm1 hm2 hT hTs h
 ·rw [if_neg h]; exact dRound_great va z e mode w ha hga hm1 hm2 hT hTs h
end
end Go.Proofs.YtfmecpembnmnkaaGreatDoor
