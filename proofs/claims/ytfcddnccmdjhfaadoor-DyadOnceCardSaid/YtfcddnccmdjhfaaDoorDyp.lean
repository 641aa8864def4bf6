/- Exact numbers z * 2^e and their one way to be written: plain laws, no program. -/
import Derived.Test.YtfcddnccmdjhfaaDoorNum
namespace Go.Proofs.YtfcddnccmdjhfaaDoor

/-- The odd part of z (0 of 0), and the exponent that goes with it. -/
def hvZ (z : Int) : Int := z / 2 ^ tzb z.natAbs
def hvE (z e : Int) : Int := e + tzb z.natAbs

theorem natAbs_two_pow (k : Nat) : ((2 : Int) ^ k).natAbs = 2 ^ k := by rw [Int.natAbs_pow]; rfl

theorem two_pow_ne (k : Nat) : (2 : Int) ^ k ≠ 0 := by
  have := Int.pow_pos (n := (2 : Int)) (m := k) (by decide); omega

theorem tzb_zero : tzb 0 = 0 := rfl

theorem hv_odd {z : Int} (h : z ≠ 0) : ∃ m : Int, hvZ z = 2 * m + 1 ∧ z = hvZ z * 2 ^ tzb z.natAbs := by
  obtain ⟨m, hm⟩ := tzb_spec (N := z.natAbs) (by omega)
  unfold hvZ
  generalize tzb z.natAbs = t at *
  by_cases hz : 0 ≤ z
  · have e : z = (2 * (m : Int) + 1) * 2 ^ t := by
      have h1 : (z.natAbs : Int) = ((2 ^ t * (2 * m + 1) : Nat) : Int) := by rw [← hm]
      rw [Int.natAbs_of_nonneg hz] at h1
      rw [h1, Int.natCast_mul, Int.natCast_pow, Int.mul_comm]; rfl
    refine ⟨m, ?_, ?_⟩
    · rw [e, Int.mul_ediv_cancel _ (two_pow_ne t)]
    · conv => rhs; rw [e, Int.mul_ediv_cancel _ (two_pow_ne t)]
      exact e
  · have e : z = (2 * (-(m : Int) - 1) + 1) * 2 ^ t := by
      have h1 : (z.natAbs : Int) = ((2 ^ t * (2 * m + 1) : Nat) : Int) := by rw [← hm]
      have h2 : z = -(z.natAbs : Int) := by omega
      rw [h2, h1, Int.natCast_mul, Int.natCast_pow]
      have : (2 * (-(m : Int) - 1) + 1) = -(2 * (m : Int) + 1) := by omega
      rw [this, Int.neg_mul, Int.mul_comm]; rfl
    refine ⟨-(m : Int) - 1, ?_, ?_⟩
    · rw [e, Int.mul_ediv_cancel _ (two_pow_ne t)]
    · conv => rhs; rw [e, Int.mul_ediv_cancel _ (two_pow_ne t)]
      exact e

theorem hvZ_zero : hvZ 0 = 0 := by decide

theorem hv_eq {z : Int} : z = hvZ z * 2 ^ tzb z.natAbs := by
  by_cases h : z = 0
  · subst h; decide
  · obtain ⟨m, -, h2⟩ := hv_odd h; exact h2

theorem hvZ_mod {z : Int} (h : z ≠ 0) : hvZ z % 2 = 1 := by
  obtain ⟨m, h1, -⟩ := hv_odd h; omega

theorem hvZ_ne {z : Int} (h : z ≠ 0) : hvZ z ≠ 0 := by
  have := hvZ_mod h; omega

theorem tzb_odd {z : Int} (h : z % 2 = 1) : tzb z.natAbs = 0 := by
  refine tzb_eq (a := 0) (m := z.natAbs / 2) ?_
  omega

theorem hvZ_of_odd {z : Int} (h : z % 2 = 1) : hvZ z = z := by unfold hvZ; rw [tzb_odd h]; simp

theorem hvE_of_odd {z e : Int} (h : z % 2 = 1) : hvE z e = e := by unfold hvE; rw [tzb_odd h]; simp

theorem hvZ_neg_iff {z : Int} : hvZ z < 0 ↔ z < 0 := by
  have h1 := hv_eq (z := z)
  have h2 : (0 : Int) < 2 ^ tzb z.natAbs := Int.pow_pos (by decide)
  constructor
  · intro h; rw [h1]; exact Int.mul_neg_of_neg_of_pos h h2
  · intro h
    rcases Int.lt_or_le (hvZ z) 0 with h3 | h3
    · exact h3
    · have := Int.mul_nonneg h3 (Int.le_of_lt h2); rw [← h1] at this; omega

theorem hvZ_natAbs {z : Int} : (hvZ z).natAbs = z.natAbs / 2 ^ tzb z.natAbs := by
  have h1 := congrArg Int.natAbs (hv_eq (z := z))
  rw [Int.natAbs_mul, natAbs_two_pow] at h1
  rw [show z.natAbs / 2 ^ tzb z.natAbs = ((hvZ z).natAbs * 2 ^ tzb z.natAbs) / 2 ^ tzb z.natAbs from by rw [← h1], Nat.mul_div_cancel _ (Nat.two_pow_pos _)]

theorem hvZ_natAbs_le {z : Int} : (hvZ z).natAbs ≤ z.natAbs := by rw [hvZ_natAbs]; exact Nat.div_le_self _ _

/-- The value to a scale of 2^-M. -/
def sc (M : Int) (z e : Int) : Int := z * 2 ^ (e + M).toNat

theorem sc_zero (M e : Int) : sc M 0 e = 0 := by unfold sc; simp

theorem sc_eq_zero {M z e : Int} : sc M z e = 0 ↔ z = 0 := by
  unfold sc; rw [Int.mul_eq_zero]
  exact ⟨fun h => h.resolve_right (two_pow_ne _), fun h => .inl h⟩

theorem sc_hv {M z e : Int} (h : 0 ≤ e + M) : sc M (hvZ z) (hvE z e) = sc M z e := by
  unfold sc hvE
  conv => rhs; rw [hv_eq (z := z)]
  rw [Int.mul_assoc, ← Int.pow_add]
  congr 2; omega

/-- Written in its one way. -/
def Nrm (z e : Int) : Prop := (z = 0 ∧ e = 0) ∨ z % 2 = 1

/-- The one way to write it. -/
def nrE (z e : Int) : Int := if z = 0 then 0 else hvE z e

theorem nrm_hv (z e : Int) : Nrm (hvZ z) (nrE z e) := by
  by_cases h : z = 0
  · subst h; exact .inl ⟨hvZ_zero, by unfold nrE; rw [if_pos rfl]⟩
  · exact .inr (hvZ_mod h)

theorem sc_nr {M z e : Int} (h : 0 ≤ e + M) : sc M (hvZ z) (nrE z e) = sc M z e := by
  unfold nrE
  by_cases h0 : z = 0
  · subst h0; rw [hvZ_zero, sc_zero, sc_zero]
  · rw [if_neg h0]; exact sc_hv h

theorem nrE_ge {M z e : Int} (hM : 0 ≤ M) (h : 0 ≤ e + M) : 0 ≤ nrE z e + M := by
  unfold nrE hvE; split <;> omega

theorem odd_cancel {x y : Int} {a b : Nat} (hy : y % 2 = 1) (h : x * 2 ^ a = y * 2 ^ b) : a ≤ b := by
  rcases Nat.lt_or_ge b a with hab | hab
  · obtain ⟨d, rfl⟩ : ∃ d, a = b + 1 + d := ⟨a - (b + 1), by omega⟩
    have e : x * 2 ^ (b + 1 + d) = (2 * (x * 2 ^ d)) * 2 ^ b := by
      rw [Int.pow_add, Int.pow_add, Int.pow_one]
      simp only [Int.mul_assoc, Int.mul_comm, Int.mul_left_comm]
    rw [e] at h
    have := Int.eq_of_mul_eq_mul_right (two_pow_ne b) h
    omega
  · exact hab

theorem nrm_unique {M z e y f : Int} (hz : Nrm z e) (hy : Nrm y f) (h1 : 0 ≤ e + M) (h2 : 0 ≤ f + M) (h : sc M z e = sc M y f) : z = y ∧ e = f := by
  rcases hz with ⟨rfl, rfl⟩ | hz
  · rw [sc_zero] at h
    have := sc_eq_zero.1 h.symm
    subst this
    rcases hy with ⟨-, rfl⟩ | hy
    · exact ⟨rfl, rfl⟩
    · omega
  · rcases hy with ⟨rfl, rfl⟩ | hy
    · rw [sc_zero] at h
      have := sc_eq_zero.1 h
      omega
    · unfold sc at h
      have e1 := odd_cancel hy h
      have e2 := odd_cancel hz h.symm
      have e3 : e = f := by omega
      subst e3
      exact ⟨Int.eq_of_mul_eq_mul_right (two_pow_ne _) h, rfl⟩

/-- The sum as the program makes it. -/
def plZ (z e y f : Int) : Int := if z = 0 then y else if y = 0 then z else z * 2 ^ (e - min e f).toNat + y * 2 ^ (f - min e f).toNat
def plE (z e y f : Int) : Int := if z = 0 then f else if y = 0 then e else min e f

theorem sc_pl {M z e y f : Int} (h1 : 0 ≤ e + M) (h2 : 0 ≤ f + M) : sc M (plZ z e y f) (plE z e y f) = sc M z e + sc M y f := by
  unfold plZ plE
  by_cases hz : z = 0
  · rw [if_pos hz, if_pos hz, hz, sc_zero, Int.zero_add]
  · by_cases hy : y = 0
    · rw [if_neg hz, if_neg hz, if_pos hy, if_pos hy, hy, sc_zero, Int.add_zero]
    · rw [if_neg hz, if_neg hz, if_neg hy, if_neg hy]
      unfold sc
      rw [Int.add_mul, Int.mul_assoc, Int.mul_assoc, ← Int.pow_add, ← Int.pow_add]
      congr 3 <;> omega

theorem plE_ge {M z e y f : Int} (h1 : 0 ≤ e + M) (h2 : 0 ≤ f + M) : 0 ≤ plE z e y f + M := by
  unfold plE; split
  · exact h2
  · split <;> omega

theorem sc_mul {M z e y f : Int} (h1 : 0 ≤ e + M) (h2 : 0 ≤ f + M) : sc (M + M) (z * y) (e + f) = sc M z e * sc M y f := by
  unfold sc
  rw [show (e + f + (M + M)).toNat = (e + M).toNat + (f + M).toNat from by omega, Int.pow_add]
  simp only [Int.mul_assoc, Int.mul_left_comm]

theorem sc_neg {M z e : Int} : sc M (-z) e = -sc M z e := by unfold sc; rw [Int.neg_mul]

theorem natAbs_sc {M z e : Int} : (sc M z e).natAbs = z.natAbs * 2 ^ (e + M).toNat := by unfold sc; rw [Int.natAbs_mul, natAbs_two_pow]

/-- What is not too great, written in its one way, has few bits and a small exponent. -/
theorem nrm_bounds {M z e : Int} {K : Nat} (hz : z ≠ 0) (h1 : 0 ≤ e + M) (h : (sc M z e).natAbs < 2 ^ K) : bl z.natAbs ≤ K ∧ e + M < K := by
  rw [natAbs_sc] at h
  have hp := Nat.two_pow_pos (e + M).toNat
  constructor
  · refine bl_le_of_lt (Nat.lt_of_le_of_lt ?_ h)
    exact Nat.le_mul_of_pos_right _ hp
  · have h2 : 2 ^ (e + M).toNat < 2 ^ K := Nat.lt_of_le_of_lt (Nat.le_mul_of_pos_left _ (by omega)) h
    have := (Nat.pow_lt_pow_iff_right (a := 2) (by decide)).1 h2
    omega

theorem bl_mul_two_pow (N k : Nat) : bl (N * 2 ^ k) ≤ bl N + k := by
  refine bl_le_of_lt ?_
  rw [Nat.pow_add]
  exact Nat.mul_lt_mul_of_pos_right (lt_bl N) (Nat.two_pow_pos k)

theorem bl_add (a b : Nat) : bl (a + b) ≤ max (bl a) (bl b) + 1 := by
  refine bl_le_of_lt ?_
  have h1 : a < 2 ^ max (bl a) (bl b) := Nat.lt_of_lt_of_le (lt_bl a) (Nat.pow_le_pow_right (by decide) (Nat.le_max_left _ _))
  have h2 : b < 2 ^ max (bl a) (bl b) := Nat.lt_of_lt_of_le (lt_bl b) (Nat.pow_le_pow_right (by decide) (Nat.le_max_right _ _))
  rw [Nat.pow_succ]; omega

theorem bl_mul (a b : Nat) : bl (a * b) ≤ bl a + bl b := by
  refine bl_le_of_lt ?_
  rw [Nat.pow_add]
  exact Nat.mul_lt_mul'' (lt_bl a) (lt_bl b)

theorem ln_le_bl (s N : Nat) (hs : 0 < s) : ln s N ≤ bl N := by
  rw [ln_le_iff hs]
  refine Nat.lt_of_lt_of_le (lt_bl N) (Nat.pow_le_pow_right (by decide) ?_)
  exact Nat.le_mul_of_pos_left _ hs

theorem bl_plZ {z e y f : Int} : bl (plZ z e y f).natAbs ≤ bl z.natAbs + bl y.natAbs + (e - f).natAbs + 1 := by
  unfold plZ
  split
  · omega
  · split
    · omega
    · refine Nat.le_trans (bl_mono (Int.natAbs_add_le _ _)) ?_
      rw [Int.natAbs_mul, Int.natAbs_mul, natAbs_two_pow, natAbs_two_pow]
      have h1 := bl_add (z.natAbs * 2 ^ (e - min e f).toNat) (y.natAbs * 2 ^ (f - min e f).toNat)
      have h2 := bl_mul_two_pow z.natAbs (e - min e f).toNat
      have h3 := bl_mul_two_pow y.natAbs (f - min e f).toNat
      omega

end Go.Proofs.YtfcddnccmdjhfaaDoor
