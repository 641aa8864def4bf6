/- Plain: a dyad's number, as the model's floats have it; no program. -/
import Derived.Test.YtfcddnccmdjhfaaDoorDyh
namespace Go.Proofs.YtfcddnccmdjhfaaDoor
open Go.RowKit

abbrev F6 : Ieee.Format := FloatKind.f64.format

theorem F6_place : F6.leastPlace = -1074 := by decide
theorem F6_binade : F6.binade = kHid := by decide
theorem F6_inf : F6.infRung = kInf := by decide
theorem F6_sign : F6.signWeight = kSign := by decide
theorem F6_frac : F6.fractionBits = 52 := by decide

theorem F6_word (neg : Bool) (r : Nat) : F6.word neg r = (if neg then kSign else 0) + r := by
  unfold Ieee.Format.word; rw [F6_sign]; cases neg <;> simp

theorem read_fin {b : Nat} (h : b < 18446744073709551616) (hf : finB b = true) : F6.read b = .number (sgnB b) (mantB b) (expB b) := by
  have h2 : expF b ≠ 2047 := of_decide_eq_true hf
  unfold Ieee.Format.read
  simp only [F6_place, F6_binade, F6_inf, F6_sign]
  have hs : (b / kSign % 2 == 1) = sgnB b := by
    unfold sgnB kSign; rw [Bool.eq_iff_iff]; simp; omega
  rw [hs]
  unfold mantB expB fracF
  unfold expF kHid at *
  unfold kSign kInf
  by_cases h0 : b / 4503599627370496 % 2048 = 0
  · rw [if_pos (by omega), if_pos h0, if_pos h0]
    congr 1; omega
  · rw [if_neg (by omega), if_pos (by omega), if_neg h0, if_neg h0]
    congr 1 <;> omega

theorem up_0' {N d : Nat} {neg : Bool} : upB N d neg 0 = (decide (2 ^ (d - 1) < N % 2 ^ d) || (decide (N % 2 ^ d = 2 ^ (d - 1)) && decide (N / 2 ^ d % 2 = 1))) := by
  by_cases h : N % 2 ^ d = 0
  · rw [up_z h, h]
    have := Nat.two_pow_pos (d - 1)
    rw [decide_eq_false (by omega), decide_eq_false (by omega)]; rfl
  · exact up_0 h

theorem ite_toNat (b : Bool) : (if b then 1 else 0) = b.toNat := by cases b <;> rfl

theorem even_cut (neg : Bool) (N : Nat) (p l : Int) : Ieee.Toward.even.cut neg (N <<< (p - l).toNat) (l - p).toNat = cutZ N (l - p) neg 0 := by
  unfold Ieee.Toward.cut cutZ
  by_cases h : l - p ≤ 0
  · rw [if_pos h, show (l - p).toNat = 0 by omega, show (-(l - p)).toNat = (p - l).toNat by omega]
    simp [Nat.shiftLeft_eq, Nat.mod_one]
  · rw [if_neg h, show (p - l).toNat = 0 by omega]
    obtain ⟨d, hd⟩ : ∃ d : Nat, (l - p).toNat = d + 1 := ⟨(l - p).toNat - 1, by omega⟩
    rw [hd, Nat.shiftLeft_zero, ite_toNat, up_0', Nat.add_sub_cancel]
    simp only [Nat.shiftLeft_eq, Nat.one_mul]
    have hlt := Nat.lt_log2_self (n := N)
    have hp : 2 ^ (d + 1) = 2 * 2 ^ d := by rw [Nat.pow_succ]; omega
    by_cases h2 : d + 1 ≤ N.log2 + 2
    · rw [Nat.min_eq_left h2, hp]
      generalize N / (2 * 2 ^ d) = q
      generalize N % (2 * 2 ^ d) = r
      generalize 2 ^ d = g
      congr 2
      rw [Bool.eq_iff_iff]; simp; omega
    · rw [Nat.min_eq_right (by omega)]
      have h3 : N < 2 ^ (N.log2 + 2) := Nat.lt_of_lt_of_le hlt (Nat.pow_le_pow_right (by decide) (by omega))
      have h4 : 2 ^ (N.log2 + 2) ≤ 2 ^ d := Nat.pow_le_pow_right (by decide) (by omega)
      have h5 : 2 ^ (N.log2 + 2) = 2 * 2 ^ (N.log2 + 1) := by rw [Nat.pow_succ]; omega
      rw [Nat.div_eq_of_lt h3, Nat.mod_eq_of_lt h3, Nat.div_eq_of_lt (by omega : N < 2 ^ (d + 1)), Nat.mod_eq_of_lt (by omega : N < 2 ^ (d + 1)), h5]
      generalize 2 ^ (N.log2 + 1) = g at *
      generalize 2 ^ d = u at *
      congr 2
      rw [Bool.eq_iff_iff]; simp; omega

theorem nearest_eq {neg : Bool} {z e : Int} (hz : z ≠ 0) (hn : neg = decide (z < 0)) : F6.nearest neg z.natAbs e = (if neg then kSign else 0) + min ((lastE z e 53 (-1074) + 1074).toNat * kHid + roundZ z e 53 (-1074) 0) kInf := by
  unfold Ieee.Format.nearest
  have h0 : z.natAbs ≠ 0 := by omega
  rw [if_neg h0]
  have hl : max (e + z.natAbs.log2 - (52 : Nat)) (-1074) = lastE z e 53 (-1074) := by
    unfold lastE bl; rw [if_neg h0]; omega
  simp only [F6_word, F6_binade, F6_inf, F6_place, F6_frac, hl, even_cut]
  unfold roundZ; rw [hn, Int.sub_neg]

/-- Rounding is of the number, not of the way it is written. -/
theorem upB_scale {N d k : Nat} {neg : Bool} {mode : Int} (h : 0 < d) : upB (N * 2 ^ k) (d + k) neg mode = upB N d neg mode := by
  unfold upB
  have h1 : N * 2 ^ k % 2 ^ (d + k) = N % 2 ^ d * 2 ^ k := by rw [Nat.pow_add, Nat.mul_mod_mul_right]
  have h2 : N * 2 ^ k / 2 ^ (d + k) = N / 2 ^ d := by rw [Nat.pow_add, Nat.mul_div_mul_right _ _ (Nat.two_pow_pos k)]
  have h3 : 2 ^ (d + k - 1) = 2 ^ (d - 1) * 2 ^ k := by rw [← Nat.pow_add]; congr 1; omega
  have hk := Nat.two_pow_pos k
  rw [h1, h2, h3]
  simp only [Nat.mul_le_mul_right_iff hk, Nat.mul_lt_mul_right hk, Nat.mul_right_cancel_iff hk, Nat.mul_eq_zero, Nat.pos_iff_ne_zero.1 hk, or_false]

theorem cutZ_scale {N k : Nat} {down : Int} {neg : Bool} {mode : Int} : cutZ (N * 2 ^ k) (down + k) neg mode = cutZ N down neg mode := by
  unfold cutZ
  by_cases h1 : down + k ≤ 0
  · rw [if_pos h1, if_pos (by omega), Nat.mul_assoc, ← Nat.pow_add]
    congr 2; omega
  · rw [if_neg h1]
    by_cases h2 : down ≤ 0
    · rw [if_pos h2]
      have h3 : N * 2 ^ k = N * 2 ^ (-down).toNat * 2 ^ (down + k).toNat := by rw [Nat.mul_assoc, ← Nat.pow_add]; congr 2; omega
      rw [h3, Nat.mul_div_cancel _ (Nat.two_pow_pos _), up_z (Nat.mul_mod_left _ _)]; simp
    · rw [if_neg h2, show (down + k).toNat = down.toNat + k by omega, upB_scale (by omega), Nat.pow_add, Nat.mul_div_mul_right _ _ (Nat.two_pow_pos k)]

theorem natAbs_shift (z : Int) (k : Nat) : (z * 2 ^ k).natAbs = z.natAbs * 2 ^ k := by rw [Int.natAbs_mul, natAbs_two_pow]

theorem shift_neg (z : Int) (k : Nat) : decide (z * 2 ^ k < 0) = decide (z < 0) := by
  rw [decide_eq_decide]
  have : (0 : Int) < 2 ^ k := Int.pow_pos (by decide)
  constructor
  · intro h; exact Int.lt_of_not_ge fun h2 => by have := Int.mul_nonneg h2 (Int.le_of_lt this); omega
  · intro h; exact Int.mul_neg_of_neg_of_pos h this

theorem last_scale {z e digits least : Int} (hz : z ≠ 0) (k : Nat) : lastE (z * 2 ^ k) (e - k) digits least = lastE z e digits least := by
  unfold lastE; rw [natAbs_shift, bl_mul_pow (by omega)]; congr 1; omega

theorem round_scale {z e digits least mode : Int} (hz : z ≠ 0) (k : Nat) : roundZ (z * 2 ^ k) (e - k) digits least mode = roundZ z e digits least mode := by
  unfold roundZ
  rw [last_scale hz, natAbs_shift, shift_neg, show lastE z e digits least - (e - k) = lastE z e digits least - e + k by omega, cutZ_scale]

/-- What a value's rounding is, for two ways to write the value. -/
theorem round_val {M z e y f digits least mode : Int} (hz : z ≠ 0) (h1 : 0 ≤ e + M) (h2 : 0 ≤ f + M) (h : sc M z e = sc M y f) :
    lastE z e digits least = lastE y f digits least ∧ roundZ z e digits least mode = roundZ y f digits least mode ∧ decide (z < 0) = decide (y < 0) ∧ y ≠ 0 := by
  have hy : y ≠ 0 := fun h0 => hz (sc_eq_zero.1 (by rw [h, h0, sc_zero]))
  have a1 := last_scale (e := e) (digits := digits) (least := least) hz (e + M).toNat
  have a2 := round_scale (e := e) (digits := digits) (least := least) (mode := mode) hz (e + M).toNat
  have a3 := shift_neg z (e + M).toNat
  have b1 := last_scale (e := f) (digits := digits) (least := least) hy (f + M).toNat
  have b2 := round_scale (e := f) (digits := digits) (least := least) (mode := mode) hy (f + M).toNat
  have b3 := shift_neg y (f + M).toNat
  rw [show e - ((e + M).toNat : Int) = -M by omega] at a1 a2
  rw [show f - ((f + M).toNat : Int) = -M by omega] at b1 b2
  unfold sc at h
  rw [h] at a1 a2 a3
  exact ⟨a1.symm.trans b1, a2.symm.trans b2, a3.symm.trans b3, hy⟩

/-- The bits of a sign, and of an amount in its own place. -/
theorem mkB_word {neg : Bool} {m : Nat} {last : Int} (h0 : m ≤ 2 ^ 53) (h1 : -1074 ≤ last) (h2 : last = -1074 ∨ 2 ^ 52 ≤ m) : mkB neg m last = (if neg then kSign else 0) + ((last + 1074).toNat * kHid + m) := by
  unfold mkB joinB
  by_cases hm : m = 0
  · subst hm
    rw [if_pos rfl]
    obtain h2 | h2 := h2
    · subst h2; simp
    · omega
  rw [if_neg hm]
  obtain ⟨k1, k2⟩ := ctz_spec hm (by omega)
  have hb : bl m = bl (m / 2 ^ Lib.ctz 64 m) + Lib.ctz 64 m := by
    conv => lhs; rw [k1]
    exact bl_mul_pow (by omega) _
  have hc1 : m = 2 ^ 53 → Lib.ctz 64 m = 53 ∧ m / 2 ^ Lib.ctz 64 m = 1 := by
    intro h; rw [h]
    have := ctz_two_pow53
    rw [show (9007199254740992 : Nat) = 2 ^ 53 from rfl] at this
    rw [this]; decide
  have hc2 : m ≠ 2 ^ 53 → bl m ≤ 53 := fun h => bl_le_of_lt (by omega)
  have hc3 : 2 ^ 52 ≤ m → 53 ≤ bl m := fun h => by
    rcases Nat.lt_or_ge (bl m) 53 with h5 | h5
    · have := (bl_le_iff (N := m) (k := 52)).1 (by omega); omega
    · exact h5
  have hc4 : m < 2 ^ 52 → bl m ≤ 52 := fun h => bl_le_of_lt h
  generalize Lib.ctz 64 m = t at *
  by_cases hx : m = 2 ^ 53
  · obtain ⟨rfl, h4⟩ := hc1 hx
    simp only [h4]
    have hd : min (53 - ((bl 1 : Nat) : Int)) (last + ((53 : Nat) : Int) + 1074) = 52 := by
      rw [show bl 1 = 1 by decide]; omega
    rw [hd, show 1 * 2 ^ (52 : Int).toNat = 4503599627370496 by decide, if_neg (by decide)]
    rw [show (last + ((53 : Nat) : Int) - 52 + 1075).toNat = (last + 1074).toNat + 2 by omega, hx]
    unfold kHid; omega
  · have hb2 := hc2 hx
    have hd : min (53 - ((bl (m / 2 ^ t) : Nat) : Int)) (last + (t : Int) + 1074) = t := by
      rcases h2 with h2 | h2
      · omega
      · have := hc3 h2; omega
    simp only [hd]
    rw [show m / 2 ^ t * 2 ^ (t : Int).toNat = m by rw [Int.toNat_natCast]; exact k1.symm]
    by_cases hk : m < kHid
    · rw [if_pos hk]
      have : last = -1074 := by
        rcases h2 with h2 | h2
        · exact h2
        · unfold kHid at hk; omega
      subst this; simp
    · rw [if_neg hk, show (last + (t : Int) - (t : Int) + 1075).toNat = (last + 1074).toNat + 1 by omega]
      unfold kHid at *; omega

theorem cutZ_low {N : Nat} {down : Int} {neg : Bool} {mode : Int} (h0 : N ≠ 0) (h : (bl N : Int) - down = 53) : 2 ^ 52 ≤ cutZ N down neg mode := by
  unfold cutZ
  by_cases h1 : down ≤ 0
  · rw [if_pos h1]
    have h2 := bl_mul_pow h0 (-down).toNat
    rcases Nat.lt_or_ge (N * 2 ^ (-down).toNat) (2 ^ 52) with h3 | h3
    · have := bl_le_of_lt h3; omega
    · exact h3
  · rw [if_neg h1]
    refine Nat.le_trans ?_ (Nat.le_add_right _ _)
    rw [Nat.le_div_iff_mul_le (Nat.two_pow_pos _), ← Nat.pow_add]
    rcases Nat.lt_or_ge N (2 ^ (52 + down.toNat)) with h3 | h3
    · have := bl_le_of_lt h3; omega
    · exact h3

theorem roundZ_low {z e mode : Int} (hz : z ≠ 0) : lastE z e 53 (-1074) = -1074 ∨ 2 ^ 52 ≤ roundZ z e 53 (-1074) mode := by
  by_cases h : lastE z e 53 (-1074) = -1074
  · exact .inl h
  · refine .inr (cutZ_low (by omega) ?_)
    unfold lastE at *; omega

/-- What stands in the place of what is too great: the greatest number (not infinity)? -/
def beyB (neg : Bool) (mode : Int) : Bool := decide (mode = 2) || (decide (mode = 3) && neg) || (decide (mode = 4) && !neg)
/-- The bits of a dyad's number. -/
def rndB (z e mode : Int) : Nat :=
  if lastE z e 53 (-1074) + bl (roundZ z e 53 (-1074) mode) ≤ 1024 then mkB (decide (z < 0)) (roundZ z e 53 (-1074) mode) (lastE z e 53 (-1074))
  else (if decide (z < 0) then kSign else 0) + (if beyB (decide (z < 0)) mode then kInf - 1 else kInf)

theorem rnd_near {z e : Int} (hz : z ≠ 0) : rndB z e 0 = F6.nearest (decide (z < 0)) z.natAbs e := by
  rw [nearest_eq hz rfl]
  unfold rndB
  have h1 := roundZ_le z e 53 (-1074) 0 53 rfl
  have h2 : -1074 ≤ lastE z e 53 (-1074) := by unfold lastE; omega
  have h3 := roundZ_low (e := e) (mode := 0) hz
  generalize roundZ z e 53 (-1074) 0 = m at *
  generalize lastE z e 53 (-1074) = last at *
  have hm52 : m < 2 ^ 52 → bl m ≤ 52 := bl_le_of_lt
  have hm53 : m < 2 ^ 53 → bl m ≤ 53 := bl_le_of_lt
  have hm54 : m = 2 ^ 53 → bl m = 54 := fun h => by rw [h]; exact bl_two_pow 53
  have hm52' : 2 ^ 52 ≤ m → 53 ≤ bl m := fun h => by
    rcases Nat.lt_or_ge (bl m) 53 with h5 | h5
    · have := (bl_le_iff (N := m) (k := 52)).1 (by omega); omega
    · exact h5
  split
  · rw [mkB_word h1 h2 h3, Nat.min_eq_left]
    unfold kHid kInf
    by_cases ha : m = 2 ^ 53
    · have := hm54 ha; omega
    · rcases h3 with h3 | h3
      · omega
      · have := hm52' h3; omega
  · rw [Nat.min_eq_right]
    · rfl
    · unfold kHid kInf
      by_cases ha : m = 2 ^ 53
      · have := hm54 ha; omega
      · have := hm53 (by omega)
        rcases h3 with h3 | h3 <;> omega

/-- A number is its own, in each mode. -/
theorem bits_eq {b : Nat} (h : b < 18446744073709551616) (hf : finB b = true) : b = (if sgnB b then kSign else 0) + ((expB b + 1074).toNat * kHid + mantB b) := by
  have h2 : expF b ≠ 2047 := of_decide_eq_true hf
  unfold mantB expB fracF sgnB
  unfold expF kHid kSign at *
  simp only [decide_eq_true_eq]
  split <;> split <;> omega

theorem mantB_bl {b : Nat} (hf : finB b = true) : max (expB b + bl (mantB b) - 53) (-1074) = expB b := by
  have h1 := expB_bd hf
  have h2 := mantB_lt b
  have h3 : bl (mantB b) ≤ 53 := bl_le_of_lt h2
  unfold mantB expB fracF at *
  by_cases h : expF b = 0
  · rw [if_pos h] at *
    rw [if_pos h] at *; omega
  · rw [if_neg h] at *
    rw [if_neg h] at *
    have h5 : 53 ≤ bl (b % kHid + kHid) := by
      rcases Nat.lt_or_ge (bl (b % kHid + kHid)) 53 with h5 | h5
      · have := (bl_le_iff (N := b % kHid + kHid) (k := 52)).1 (by omega); unfold kHid at this; omega
      · exact h5
    omega

theorem sc_valZ {b : Nat} (hf : finB b = true) (M : Int) (hM : 1074 ≤ M) : sc M (valZ b) (pE b) = sc M (if sgnB b then -(mantB b : Int) else mantB b) (expB b) := by
  have h1 := expB_bd hf
  unfold valZ
  rcases pM_spec b with ⟨h2, h3, h4⟩ | ⟨h2, h3, h4, h5⟩
  · rw [h2, h3]; simp [sc_zero]
  · have key : sc M (pM b : Int) (pE b) = sc M (mantB b : Int) (expB b) := by
      conv => rhs; rw [h4]
      unfold sc
      rw [Int.natCast_mul, Int.natCast_pow, Int.mul_assoc, h5]
      congr 1
      rw [show ((2 : Nat) : Int) = 2 from rfl, ← Int.pow_add]
      congr 1; omega
    split
    · rw [sc_neg, sc_neg, key]
    · exact key

theorem valZ_zero {b : Nat} : valZ b = 0 ↔ mantB b = 0 := by
  have := valZ_natAbs b
  rcases pM_spec b with ⟨h2, h3, h4⟩ | ⟨h2, h3, h4, h5⟩ <;> omega

theorem rnd_own {b : Nat} (h : b < 18446744073709551616) (hf : finB b = true) (h0 : valZ b ≠ 0) (mode : Int) : rndB (valZ b) (pE b) mode = b := by
  have hm : mantB b ≠ 0 := fun e => h0 (valZ_zero.2 e)
  have h1 := expB_bd hf
  have hp := pE_bd hf
  have hlt := mantB_lt b
  obtain ⟨a1, a2, a3, a4⟩ := round_val (M := 1074) (digits := 53) (least := -1074) (mode := mode) h0 (by omega) (by omega) (sc_valZ hf 1074 (by omega))
  unfold rndB
  rw [a1, a2, a3]
  have hl : lastE (if sgnB b then -(mantB b : Int) else mantB b) (expB b) 53 (-1074) = expB b := by
    unfold lastE
    have := mantB_bl hf
    split
    · rw [Int.natAbs_neg, Int.natAbs_natCast]; exact this
    · rw [Int.natAbs_natCast]; exact this
  have hr : roundZ (if sgnB b then -(mantB b : Int) else mantB b) (expB b) 53 (-1074) mode = mantB b := by
    unfold roundZ cutZ
    rw [hl, if_pos (by omega), show (-(expB b - expB b)).toNat = 0 by omega]
    split
    · rw [Int.natAbs_neg, Int.natAbs_natCast]; simp
    · rw [Int.natAbs_natCast]; simp
  have hs : decide ((if sgnB b then -(mantB b : Int) else mantB b) < 0) = sgnB b := by
    split
    · rename_i h5; rw [h5]; exact decide_eq_true (by omega)
    · rename_i h5; rw [Bool.not_eq_true] at h5; rw [h5]; exact decide_eq_false (by omega)
  rw [hl, hr, hs, if_pos (by have : bl (mantB b) ≤ 53 := bl_le_of_lt hlt; omega)]
  rw [mkB_word (by omega) h1.1]
  · exact (bits_eq h hf).symm
  · by_cases he : expF b = 0
    · left; unfold expB; rw [if_pos he]; rfl
    · right; unfold mantB; rw [if_neg he]; unfold kHid; omega

end Go.Proofs.YtfcddnccmdjhfaaDoor
