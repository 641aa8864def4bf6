/- Plain: singles; what the references' number comes to; no program. -/
import Derived.Test.YtjoajbbapfgaoaaGreatDoorZRd1
namespace Go.Proofs.YtjoajbbapfgaoaaGreatDoor
open Go.RowKit

abbrev F3 : Ieee.Format := FloatKind.f32.format
def jHid : Nat := 8388608
def jSign : Nat := 2147483648
def jInf : Nat := 2139095040
def jNone : Nat := 2143289344

theorem F3_place : F3.leastPlace = -149 := by decide
theorem F3_binade : F3.binade = jHid := by decide
theorem F3_inf : F3.infRung = jInf := by decide
theorem F3_sign : F3.signWeight = jSign := by decide
theorem F3_frac : F3.fractionBits = 23 := by decide

theorem F3_word (neg : Bool) (r : Nat) : F3.word neg r = (if neg then jSign else 0) + r := by
  unfold Ieee.Format.word; rw [F3_sign]; cases neg <;> simp

theorem nearest3_eq {neg : Bool} {z e : Int} (hz : z ≠ 0) (hn : neg = decide (z < 0)) : F3.nearest neg z.natAbs e = (if neg then jSign else 0) + min ((lastE z e 24 (-149) + 149).toNat * jHid + roundZ z e 24 (-149) 0) jInf := by
  unfold Ieee.Format.nearest
  have h0 : z.natAbs ≠ 0 := by omega
  rw [if_neg h0]
  have hl : max (e + z.natAbs.log2 - (23 : Nat)) (-149) = lastE z e 24 (-149) := by
    unfold lastE bl; rw [if_neg h0]; omega
  simp only [F3_word, F3_binade, F3_inf, F3_place, F3_frac, hl, even_cut]
  unfold roundZ; rw [hn, Int.sub_neg]

/-- The word of a single's amount. -/
def wdS (m : Nat) (last : Int) : Nat := (last + 149).toNat * jHid + m
def joinS (neg : Bool) (e f : Nat) : Nat := (if neg then jSign else 0) + e * jHid + f
def mkS (neg : Bool) (m : Nat) (e : Int) : Nat :=
  if m = 0 then joinS neg 0 0
  else
    let t := Lib.ctz 64 m
    let down := min (24 - (bl (m / 2 ^ t) : Int)) (e + t + 149)
    let M := m / 2 ^ t * 2 ^ down.toNat
    if M < jHid then joinS neg 0 M else joinS neg (e + t - down + 150).toNat (M - jHid)

theorem ctz_two_pow24 : Lib.ctz 64 16777216 = 24 := by decide

theorem mkS_word {neg : Bool} {m : Nat} {last : Int} (h0 : m ≤ 2 ^ 24) (h1 : -149 ≤ last) (h2 : last = -149 ∨ 2 ^ 23 ≤ m) : mkS neg m last = (if neg then jSign else 0) + wdS m last := by
  unfold mkS joinS wdS
  by_cases hm : m = 0
  · subst hm
    rw [if_pos rfl]
    obtain h2 | h2 := h2
    · subst h2; simp
    · omega
  rw [if_neg hm]
  obtain ⟨k1, k2⟩ := ctz_spec hm (by omega)
  have hb : bl m = bl (m / 2 ^ Lib.ctz 64 m) + Lib.ctz 64 m := by
    conv => lhs; rw [k1]
    exact bl_mul_pow (by omega) _
  have hc1 : m = 2 ^ 24 → Lib.ctz 64 m = 24 ∧ m / 2 ^ Lib.ctz 64 m = 1 := by
    intro h; rw [h]
    have := ctz_two_pow24
    rw [show (16777216 : Nat) = 2 ^ 24 from rfl] at this
    rw [this]; decide
  have hc2 : m ≠ 2 ^ 24 → bl m ≤ 24 := fun h => bl_le_of_lt (by omega)
  have hc3 : 2 ^ 23 ≤ m → 24 ≤ bl m := fun h => by
    rcases Nat.lt_or_ge (bl m) 24 with h5 | h5
    · have := (bl_le_iff (N := m) (k := 23)).1 (by omega); omega
    · exact h5
  have hc4 : m < 2 ^ 23 → bl m ≤ 23 := fun h => bl_le_of_lt h
  generalize Lib.ctz 64 m = t at *
  by_cases hx : m = 2 ^ 24
  · obtain ⟨rfl, h4⟩ := hc1 hx
    simp only [h4]
    have hd : min (24 - ((bl 1 : Nat) : Int)) (last + ((24 : Nat) : Int) + 149) = 23 := by
      rw [show bl 1 = 1 by decide]; omega
    rw [hd, show 1 * 2 ^ (23 : Int).toNat = 8388608 by decide, if_neg (by decide)]
    rw [show (last + ((24 : Nat) : Int) - 23 + 150).toNat = (last + 149).toNat + 2 by omega, hx]
    unfold jHid; omega
  · have hb2 := hc2 hx
    have hd : min (24 - ((bl (m / 2 ^ t) : Nat) : Int)) (last + (t : Int) + 149) = t := by
      rcases h2 with h2 | h2
      · omega
      · have := hc3 h2; omega
    simp only [hd]
    rw [show m / 2 ^ t * 2 ^ (t : Int).toNat = m by rw [Int.toNat_natCast]; exact k1.symm]
    by_cases hk : m < jHid
    · rw [if_pos hk]
      have : last = -149 := by
        rcases h2 with h2 | h2
        · exact h2
        · unfold jHid at hk; omega
      subst this; simp
    · rw [if_neg hk, show (last + (t : Int) - (t : Int) + 150).toNat = (last + 149).toNat + 1 by omega]
      unfold jHid at *; omega

theorem wdS_lt {m : Nat} {last : Int} (h0 : m ≤ 2 ^ 24) (_h1 : -149 ≤ last) (h2 : last = -149 ∨ 2 ^ 23 ≤ m) (h3 : last + bl m ≤ 128) : wdS m last < jInf := by
  unfold wdS jHid jInf
  have hm24 : m = 2 ^ 24 → bl m = 25 := fun h => by rw [h]; exact bl_two_pow 24
  have hc3 : 2 ^ 23 ≤ m → 24 ≤ bl m := fun h => by
    rcases Nat.lt_or_ge (bl m) 24 with h5 | h5
    · have := (bl_le_iff (N := m) (k := 23)).1 (by omega); omega
    · exact h5
  by_cases ha : m = 2 ^ 24
  · have := hm24 ha; omega
  · rcases h2 with h2 | h2
    · omega
    · have := hc3 h2; omega

theorem roundS_le (z e mode : Int) : roundZ z e 24 (-149) mode ≤ 2 ^ 24 := roundZ_le z e 24 (-149) mode 24 rfl

theorem cutZ_lowS {N : Nat} {down : Int} {neg : Bool} {mode : Int} (h0 : N ≠ 0) (h : (bl N : Int) - down = 24) : 2 ^ 23 ≤ cutZ N down neg mode := by
  unfold cutZ
  by_cases h1 : down ≤ 0
  · rw [if_pos h1]
    have h2 := bl_mul_pow h0 (-down).toNat
    rcases Nat.lt_or_ge (N * 2 ^ (-down).toNat) (2 ^ 23) with h3 | h3
    · have := bl_le_of_lt h3; omega
    · exact h3
  · rw [if_neg h1]
    refine Nat.le_trans ?_ (Nat.le_add_right _ _)
    rw [Nat.le_div_iff_mul_le (Nat.two_pow_pos _), ← Nat.pow_add]
    rcases Nat.lt_or_ge N (2 ^ (23 + down.toNat)) with h3 | h3
    · have := bl_le_of_lt h3; omega
    · exact h3

theorem roundS_low {z e mode : Int} (hz : z ≠ 0) : lastE z e 24 (-149) = -149 ∨ 2 ^ 23 ≤ roundZ z e 24 (-149) mode := by
  by_cases h : lastE z e 24 (-149) = -149
  · exact .inl h
  · refine .inr (cutZ_lowS (by omega) ?_)
    unfold lastE at *; omega

/-- The rounding of what has a single's digits already. -/
theorem roundS_own {y last : Int} (_hy : y ≠ 0) (h0 : y.natAbs ≤ 2 ^ 24) (h1 : -149 ≤ last) (h2 : last = -149 ∨ 2 ^ 23 ≤ y.natAbs) :
    (lastE y last 24 (-149) + 149).toNat * jHid + roundZ y last 24 (-149) 0 = wdS y.natAbs last := by
  have hc3 : 2 ^ 23 ≤ y.natAbs → 24 ≤ bl y.natAbs := fun h => by
    rcases Nat.lt_or_ge (bl y.natAbs) 24 with h5 | h5
    · have := (bl_le_iff (N := y.natAbs) (k := 23)).1 (by omega); omega
    · exact h5
  unfold wdS
  by_cases hx : y.natAbs = 2 ^ 24
  · have hb : bl y.natAbs = 25 := by rw [hx]; exact bl_two_pow 24
    have hl : lastE y last 24 (-149) = last + 1 := by unfold lastE; rw [hb]; omega
    have hr : roundZ y last 24 (-149) 0 = 2 ^ 23 := by
      unfold roundZ cutZ
      rw [hl, if_neg (by omega), show (last + 1 - last).toNat = 1 by omega, hx, up_z (by decide)]; decide
    rw [hl, hr, hx, show (last + 1 + 149).toNat = (last + 149).toNat + 1 by omega]
    unfold jHid; omega
  · have hb : bl y.natAbs ≤ 24 := bl_le_of_lt (by omega)
    have hl : lastE y last 24 (-149) = last := by
      unfold lastE
      rcases h2 with h2 | h2
      · omega
      · have := hc3 h2; omega
    have hr : roundZ y last 24 (-149) 0 = y.natAbs := by
      unfold roundZ cutZ
      rw [hl, if_pos (by omega), show (-(last - last)).toNat = 0 by omega]; simp
    rw [hl, hr]

/-- A float that is a single's number, as a single. -/
theorem single_fin {x : Nat} {y last : Int} (hx : x < 18446744073709551616) (hf : finB x = true) (hy : y ≠ 0) (hv : sc 1074 (valZ x) (pE x) = sc 1074 y last)
    (h0 : y.natAbs ≤ 2 ^ 24) (h1 : -149 ≤ last) (h2 : last = -149 ∨ 2 ^ 23 ≤ y.natAbs) (h3 : last + bl y.natAbs ≤ 128) :
    floatToFloatBits .f64 x .f32 = some ((if decide (y < 0) then jSign else 0) + wdS y.natAbs last) := by
  have hlt := wdS_lt h0 h1 h2 h3
  rw [← sc_own hf (by omega)] at hv
  have hoz : ownZ x ≠ 0 := fun h => hy (sc_eq_zero.1 (by rw [← hv, h, sc_zero]))
  have hxb := expB_bd hf
  obtain ⟨a1, a2, a3, -⟩ := round_val (M := 1074) (digits := 24) (least := -149) (mode := 0) hoz (by omega) (by omega) hv
  have hn := nearest3_eq (neg := sgnB x) (e := expB x) hoz (ownZ_sign hoz).symm
  rw [ownZ_natAbs, a1, a2, roundS_own hy h0 h1 h2, Nat.min_eq_left (Nat.le_of_lt hlt)] at hn
  rw [ownZ_sign hoz] at a3
  unfold floatToFloatBits
  rw [if_neg (by decide), show FloatKind.f64.decode x = .number (sgnB x) (mantB x) (expB x) from read_fin hx hf]
  show (if (FloatKind.f32.decode (F3.nearest (sgnB x) (mantB x) (expB x))).isInfinity = true then none else some (F3.nearest (sgnB x) (mantB x) (expB x))) = _
  rw [hn, a3]
  generalize wdS y.natAbs last = W at *
  have hni : (FloatKind.f32.decode ((if decide (y < 0) = true then jSign else 0) + W)).isInfinity = false := by
    show (F3.read _).isInfinity = false
    unfold Ieee.Format.read
    simp only [F3_place, F3_binade, F3_inf, F3_sign]
    have hm : ((if decide (y < 0) = true then jSign else 0) + W) % jSign = W := by
      have : jInf < jSign := by decide
      split
      · rw [Nat.add_mod_left, Nat.mod_eq_of_lt (by omega)]
      · rw [Nat.zero_add, Nat.mod_eq_of_lt (by omega)]
    rw [hm]
    by_cases h : W < jHid
    · rw [if_pos h]; rfl
    · rw [if_neg h, if_pos hlt]; rfl
  rw [hni]; rfl

/-- The word of a dyad's single. -/
def rndS (z e mode : Int) : Nat :=
  if lastE z e 24 (-149) + bl (roundZ z e 24 (-149) mode) ≤ 128 then mkS (decide (z < 0)) (roundZ z e 24 (-149) mode) (lastE z e 24 (-149))
  else (if decide (z < 0) then jSign else 0) + (if beyB (decide (z < 0)) mode then jInf - 1 else jInf)

/-- What the references' number answers for n * 2^e. -/
def numB (n e : Int) : Nat := if n = 0 then 0 else rndB n e 0

/-- The sign of one, the amount of the other. -/
def cpB (neg : Bool) (x : Nat) : Nat := (if neg then kSign else 0) + x % kSign

theorem near_last (z e digits least mode : Int) : nearZ z (lastE z e digits least - e) mode = (if z < 0 then -(roundZ z e digits least mode : Int) else (roundZ z e digits least mode : Int)) := rfl

/-- The references' Round, where it is not too great. -/
theorem rnd_back {z e mode : Int} (hz : z ≠ 0) (hfit : lastE z e 53 (-1074) + bl (roundZ z e 53 (-1074) mode) ≤ 1024) :
    cpB (decide (z < 0)) (numB (hvZ (nearZ z (lastE z e 53 (-1074) - e) mode)) (nrE (nearZ z (lastE z e 53 (-1074) - e) mode) (lastE z e 53 (-1074)))) = rndB z e mode := by
  rw [near_last]
  unfold rndB
  rw [if_pos hfit]
  have h1 := roundZ_le z e 53 (-1074) mode 53 rfl
  have h2 : -1074 ≤ lastE z e 53 (-1074) := by unfold lastE; omega
  have h3 := roundZ_low (e := e) (mode := mode) hz
  generalize roundZ z e 53 (-1074) mode = m at *
  generalize lastE z e 53 (-1074) = last at *
  rw [mkB_word h1 h2 h3]
  by_cases hm : m = 0
  · subst hm
    have : (if z < 0 then -((0 : Nat) : Int) else ((0 : Nat) : Int)) = 0 := by split <;> rfl
    rw [this, hvZ_zero]
    have hl : last = -1074 := by rcases h3 with h | h; exact h; omega
    subst hl
    unfold numB cpB
    rw [if_pos rfl]; simp
  · obtain ⟨n, hn⟩ : ∃ n, (if z < 0 then -(m : Int) else (m : Int)) = n := ⟨_, rfl⟩
    rw [hn]
    have hna : n.natAbs = m := by rw [← hn]; split <;> omega
    have hn0 : n ≠ 0 := by omega
    have hE : 0 ≤ last + 1074 := by omega
    have hnr := nrE_ge (M := 1074) (z := n) (by omega) hE
    have hs := sc_nr (M := 1074) (z := n) (e := last) hE
    have hb := hvZ_ne hn0
    have habs := congrArg Int.natAbs hs
    unfold sc at habs
    rw [natAbs_shift, natAbs_shift, hna] at habs
    have hbe : bl (hvZ n).natAbs + (nrE n last + 1074).toNat = bl m + (last + 1074).toNat := by
      rw [← bl_mul_pow (by omega), ← bl_mul_pow hm, habs]
    have hb53 : bl (hvZ n).natAbs ≤ 53 := by
      have ho := hvZ_mod hn0
      have hle : (hvZ n).natAbs ≤ 2 ^ 53 := by
        have := hvZ_natAbs_le (z := n)
        omega
      exact bl_le_of_lt (by omega)
    obtain ⟨g1, g2, g3⟩ := rnd_exact (M := 1074) (e := nrE n last) (by omega) hb hb53 (by omega) (by omega)
    obtain ⟨-, -, g4, -⟩ := rnd_fin hb hb53 (e := nrE n last) (by omega) (by omega)
    unfold numB cpB
    rw [if_neg hb, g4]
    refine congrArg (HAdd.hAdd _) ?_
    have hw := wv_word h1 (l := (last + 1074).toNat) (by rcases h3 with h | h; left; omega; exact .inr h)
    rw [show ((1074 : Int) - 1074).toNat = 0 by decide, Nat.pow_zero, Nat.mul_one, habs] at g2
    rw [← hw] at g2
    rcases Nat.lt_trichotomy (wdN (hvZ n) (nrE n last) 0) ((last + 1074).toNat * kHid + m) with h | h | h
    · have := wv_lt h; omega
    · exact h
    · have := wv_lt h; omega

/-- The references' Round32, where it is not too great. -/
theorem rndS_back {z e mode : Int} (hz : z ≠ 0) (hfit : lastE z e 24 (-149) + bl (roundZ z e 24 (-149) mode) ≤ 128) :
    floatToFloatBits .f64 (cpB (decide (z < 0)) (numB (nearZ z (lastE z e 24 (-149) - e) mode) (lastE z e 24 (-149)))) .f32 = some (rndS z e mode) := by
  rw [near_last]
  unfold rndS
  rw [if_pos hfit]
  have h1 := roundS_le z e mode
  have h2 : -149 ≤ lastE z e 24 (-149) := by unfold lastE; omega
  have h3 := roundS_low (e := e) (mode := mode) hz
  generalize roundZ z e 24 (-149) mode = m at *
  generalize lastE z e 24 (-149) = last at *
  rw [mkS_word h1 h2 h3]
  by_cases hm : m = 0
  · subst hm
    have : (if z < 0 then -((0 : Nat) : Int) else ((0 : Nat) : Int)) = 0 := by split <;> rfl
    rw [this]
    have hl : last = -149 := by rcases h3 with h | h; exact h; omega
    subst hl
    unfold numB cpB
    rw [if_pos rfl]
    cases decide (z < 0) <;> decide
  · obtain ⟨n, hn⟩ : ∃ n, (if z < 0 then -(m : Int) else (m : Int)) = n := ⟨_, rfl⟩
    rw [hn]
    have hna : n.natAbs = m := by rw [← hn]; split <;> omega
    have hn0 : n ≠ 0 := by omega
    have hsg : decide (z < 0) = decide (n < 0) := by
      rw [decide_eq_decide]; rw [← hn]; split <;> omega
    have hb53 : bl n.natAbs ≤ 53 := bl_le_of_lt (by omega)
    have hbm : bl n.natAbs = bl m := by rw [hna]
    obtain ⟨g1, g2, g3⟩ := rnd_exact (M := 1074) (e := last) (by omega) hn0 hb53 (by omega) (by omega)
    obtain ⟨k1, k2, k3, k4⟩ := rnd_fin (e := last) hn0 hb53 (by omega) (by omega)
    have hv := rnd_val (M := 1074) (e := last) (by omega) hn0 hb53 (by omega) (by omega)
    have hc : cpB (decide (z < 0)) (numB n last) = rndB n last 0 := by
      unfold numB cpB
      rw [if_neg hn0, k3, hsg, g3]
    rw [hc, hsg, ← hna]
    refine single_fin k1 k2 hn0 hv (by omega) h2 (by rw [hna]; exact h3) (by omega)

end Go.Proofs.YtjoajbbapfgaoaaGreatDoor
