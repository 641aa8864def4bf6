/- Plain: what the references round, from the floor; exact doubling and halving of floats; no program. -/
import Derived.Test.YtjoajbbapfgaoaaGreatDoorZRi1
namespace Go.Proofs.YtjoajbbapfgaoaaGreatDoor
open Go.RowKit

/-- The whole number for z / 2^down, by a mode. -/
def nearZ (z down mode : Int) : Int := if z < 0 then -(cutZ z.natAbs down (decide (z < 0)) mode : Int) else (cutZ z.natAbs down (decide (z < 0)) mode : Int)

/-- Whether the references go up from the floor 'low', where r is left. -/
def rupB (z low : Int) (r h : Nat) (mode : Int) : Bool :=
  if mode = 0 then decide (h < r) || (decide (r = h) && decide (low % 2 = 1))
  else if mode = 1 then decide (h < r) || (decide (r = h) && decide (0 < z))
  else if mode = 2 then decide (z < 0)
  else if mode = 3 then true
  else false

theorem ediv_at {z g q r : Int} (hg : 0 < g) (h : r + g * q = z) (h0 : 0 ≤ r) (h1 : r < g) : z / g = q := ((Int.ediv_emod_unique hg).2 ⟨h, h0, h1⟩).1

theorem near_pos (N d : Nat) (mode : Int) (hd : 0 < d) (hm : mode = 0 ∨ mode = 1 ∨ mode = 2 ∨ mode = 3 ∨ mode = 4) :
    ∃ r : Nat, (N : Int) - (N : Int) / 2 ^ d * 2 ^ d = (r : Int) ∧ r < 2 ^ d ∧ (r = 0 → nearZ N d mode = (N : Int) / 2 ^ d) ∧ (r ≠ 0 → nearZ N d mode = (N : Int) / 2 ^ d + (if rupB N ((N : Int) / 2 ^ d) r (2 ^ (d - 1)) mode then 1 else 0)) := by
  have hq : (N : Int) / 2 ^ d = ((N / 2 ^ d : Nat) : Int) := by simp
  refine ⟨N % 2 ^ d, rest_eq N d, Nat.mod_lt _ (Nat.two_pow_pos d), fun h0 => ?_, fun h0 => ?_⟩
  · unfold nearZ cutZ
    rw [if_neg (by omega), if_neg (by omega), Int.natAbs_natCast, Int.toNat_natCast, up_z h0, hq]; simp
  · unfold nearZ cutZ
    rw [if_neg (by omega), if_neg (by omega), Int.natAbs_natCast, Int.toNat_natCast, hq, decide_eq_false (by omega : ¬ (N : Int) < 0)]
    have hup : upB N d false mode = rupB N ((N / 2 ^ d : Nat) : Int) (N % 2 ^ d) (2 ^ (d - 1)) mode := by
      have hN : 0 < N := by
        rcases Nat.eq_zero_or_pos N with h | h
        · subst h; simp at h0
        · exact h
      unfold rupB
      rcases hm with rfl | rfl | rfl | rfl | rfl
      · rw [up_0 h0, if_pos rfl]
        congr 2
        rw [decide_eq_decide]; omega
      · rw [up_1 h0, if_neg (by decide), if_pos rfl, decide_eq_true (by omega : (0 : Int) < (N : Int)), Bool.and_true]
        rw [Bool.eq_iff_iff]; simp; omega
      · rw [up_2 h0, if_neg (by decide), if_neg (by decide), if_pos rfl, decide_eq_false (by omega)]
      · rw [up_3 h0]; rfl
      · rw [up_4 h0]; rfl
    rw [hup]
    split <;> simp

theorem near_neg (N d : Nat) (mode : Int) (hN : 0 < N) (hd : 0 < d) (hm : mode = 0 ∨ mode = 1 ∨ mode = 2 ∨ mode = 3 ∨ mode = 4) :
    ∃ r : Nat, -(N : Int) - -(N : Int) / 2 ^ d * 2 ^ d = (r : Int) ∧ r < 2 ^ d ∧ (r = 0 → nearZ (-N) d mode = -(N : Int) / 2 ^ d) ∧ (r ≠ 0 → nearZ (-N) d mode = -(N : Int) / 2 ^ d + (if rupB (-N) (-(N : Int) / 2 ^ d) r (2 ^ (d - 1)) mode then 1 else 0)) := by
  have hz : -(N : Int) < 0 := by omega
  have hg : 2 ^ d = 2 * 2 ^ (d - 1) := by rw [Nat.mul_comm, ← Nat.pow_succ]; congr 1; omega
  have hgz : (2 : Int) ^ d = ((2 ^ d : Nat) : Int) := by simp
  have hcut : nearZ (-N) d mode = -(((N / 2 ^ d + (if upB N d true mode then 1 else 0) : Nat)) : Int) := by
    unfold nearZ cutZ
    rw [if_pos hz, if_neg (by omega), Int.natAbs_neg, Int.natAbs_natCast, Int.toNat_natCast, decide_eq_true hz]
  have hpos : 0 < 2 ^ d := Nat.two_pow_pos d
  have hdm := Nat.div_add_mod N (2 ^ d)
  have hml := Nat.mod_lt N hpos
  rw [hcut, hgz]
  by_cases h0 : N % 2 ^ d = 0
  · rw [up_z h0]
    have hdv : -(N : Int) / ((2 ^ d : Nat) : Int) = -((N / 2 ^ d : Nat) : Int) := by
      refine ediv_at (r := 0) (by omega) ?_ (by omega) (by omega)
      rw [h0] at hdm
      have : (N : Int) = ((2 ^ d : Nat) : Int) * ((N / 2 ^ d : Nat) : Int) := by rw [← Int.natCast_mul]; omega
      rw [Int.mul_neg, ← this]; omega
    rw [hdv]
    refine ⟨0, ?_, hpos, fun _ => by simp, fun h => absurd rfl h⟩
    rw [h0] at hdm
    have : (N : Int) = ((2 ^ d : Nat) : Int) * ((N / 2 ^ d : Nat) : Int) := by rw [← Int.natCast_mul]; omega
    rw [Int.neg_mul, Int.mul_comm, ← this]; omega
  · have hdv : -(N : Int) / ((2 ^ d : Nat) : Int) = -((N / 2 ^ d : Nat) : Int) - 1 := by
      refine ediv_at (r := ((2 ^ d : Nat) : Int) - ((N % 2 ^ d : Nat) : Int)) (by omega) ?_ (by omega) (by omega)
      have : (N : Int) = ((2 ^ d : Nat) : Int) * ((N / 2 ^ d : Nat) : Int) + ((N % 2 ^ d : Nat) : Int) := by rw [← Int.natCast_mul]; omega
      rw [Int.mul_sub, Int.mul_neg]; omega
    have hrest : -(N : Int) - (-((N / 2 ^ d : Nat) : Int) - 1) * ((2 ^ d : Nat) : Int) = ((2 ^ d - N % 2 ^ d : Nat) : Int) := by
      have : (N : Int) = ((2 ^ d : Nat) : Int) * ((N / 2 ^ d : Nat) : Int) + ((N % 2 ^ d : Nat) : Int) := by rw [← Int.natCast_mul]; omega
      rw [Int.sub_mul, Int.neg_mul, Int.mul_comm (((N / 2 ^ d : Nat) : Int)) _]; omega
    rw [hdv]
    refine ⟨2 ^ d - N % 2 ^ d, hrest, by omega, fun h => by omega, fun _ => ?_⟩
    have hup : upB N d true mode = !rupB (-N) (-((N / 2 ^ d : Nat) : Int) - 1) (2 ^ d - N % 2 ^ d) (2 ^ (d - 1)) mode := by
      unfold rupB
      rcases hm with rfl | rfl | rfl | rfl | rfl
      · rw [up_0 h0, if_pos rfl]
        generalize 2 ^ d = g at *
        generalize 2 ^ (d - 1) = h at *
        generalize N / g = q at *
        generalize N % g = s at *
        rw [Bool.eq_iff_iff]; simp; omega
      · rw [up_1 h0, if_neg (by decide), if_pos rfl, decide_eq_false (by omega : ¬ (0 : Int) < -(N : Int)), Bool.and_false, Bool.or_false]
        generalize 2 ^ d = g at *
        generalize 2 ^ (d - 1) = h at *
        generalize N % g = s at *
        rw [Bool.eq_iff_iff]; simp; omega
      · rw [up_2 h0, if_neg (by decide), if_neg (by decide), if_pos rfl, decide_eq_true (by omega)]; rfl
      · rw [up_3 h0]; rfl
      · rw [up_4 h0]; rfl
    rw [hup]
    cases rupB (-N) (-((N / 2 ^ d : Nat) : Int) - 1) (2 ^ d - N % 2 ^ d) (2 ^ (d - 1)) mode <;> simp <;> omega

/-- What the walk of the references' Near needs to know. -/
theorem near_fin (z : Int) (d : Nat) (mode : Int) (hd : 0 < d) (hm : mode = 0 ∨ mode = 1 ∨ mode = 2 ∨ mode = 3 ∨ mode = 4) :
    ∃ r : Nat, z - z / 2 ^ d * 2 ^ d = (r : Int) ∧ r < 2 ^ d ∧ (r = 0 → nearZ z d mode = z / 2 ^ d) ∧ (r ≠ 0 → nearZ z d mode = z / 2 ^ d + (if rupB z (z / 2 ^ d) r (2 ^ (d - 1)) mode then 1 else 0)) := by
  rcases Int.lt_or_le z 0 with h | h
  · obtain ⟨N, rfl⟩ : ∃ N : Nat, z = -(N : Int) := ⟨z.natAbs, by omega⟩
    exact near_neg N d mode (by omega) hd hm
  · obtain ⟨N, rfl⟩ : ∃ N : Nat, z = (N : Int) := ⟨z.natAbs, by omega⟩
    exact near_pos N d mode hd hm

theorem nearZ_shl {z down mode : Int} (h : down ≤ 0) : nearZ z down mode = z * 2 ^ (-down).toNat := by
  unfold nearZ cutZ
  rw [if_pos h, Int.natCast_mul, Int.natCast_pow]
  split
  · rw [← Int.neg_mul]; congr 1; omega
  · congr 1; omega

theorem nearZ_abs (z down mode : Int) : (nearZ z down mode).natAbs = cutZ z.natAbs down (decide (z < 0)) mode := by
  unfold nearZ; split
  · rw [Int.natAbs_neg, Int.natAbs_natCast]
  · rw [Int.natAbs_natCast]

/-- A number of few digits that lies where the floats lie is its own float. -/
theorem rnd_exact {M z e : Int} (hM : 1074 ≤ M) (hz : z ≠ 0) (hb : bl z.natAbs ≤ 53) (he : -1074 ≤ e) (hu : e + bl z.natAbs ≤ 1024) :
    wdN z e 0 < kInf ∧ wv (wdN z e 0) * 2 ^ (M - 1074).toNat = z.natAbs * 2 ^ (e + M).toNat ∧ rndB z e 0 = (if decide (z < 0) then kSign else 0) + wdN z e 0 := by
  have hl : lastE z e 53 (-1074) ≤ e := by unfold lastE; omega
  have hl2 : -1074 ≤ lastE z e 53 (-1074) := by unfold lastE; omega
  have hr : roundZ z e 53 (-1074) 0 = z.natAbs * 2 ^ (e - lastE z e 53 (-1074)).toNat := by
    unfold roundZ cutZ
    rw [if_pos (by omega)]; congr 2; omega
  have key : ∀ M : Int, 1074 ≤ M → wv (wdN z e 0) * 2 ^ (M - 1074).toNat = z.natAbs * 2 ^ (e + M).toNat := by
    intro M hM
    rw [wv_up hM hz, hr, Nat.mul_assoc, ← Nat.pow_add]
    congr 2; omega
  have hw : wdN z e 0 < kInf := by
    rw [← wv_lt_iff]
    have h1 := key 1074 (by omega)
    rw [show ((1074 : Int) - 1074).toNat = 0 by decide, Nat.pow_zero, Nat.mul_one] at h1
    have hE : kInf / kHid - 1 = 2046 := by decide
    have hI : wv kInf = 2 ^ (52 + (kInf / kHid - 1)) := by
      unfold wv; rw [if_neg (by decide), show kInf % kHid + kHid = 2 ^ 52 by decide, ← Nat.pow_add]
    generalize kInf / kHid - 1 = E at hE hI
    rw [h1, hI]
    have h2 : z.natAbs < 2 ^ bl z.natAbs := lt_of_bl (Nat.le_refl _)
    refine Nat.lt_of_lt_of_le (Nat.mul_lt_mul_of_pos_right h2 (Nat.two_pow_pos _)) ?_
    rw [← Nat.pow_add]
    exact Nat.pow_le_pow_right (by decide) (by omega)
  refine ⟨hw, key M hM, ?_⟩
  rw [rnd_cap hz]
  unfold capW
  rw [if_pos hw]

theorem rnd_fin {z e : Int} (hz : z ≠ 0) (hb : bl z.natAbs ≤ 53) (he : -1074 ≤ e) (hu : e + bl z.natAbs ≤ 1024) :
    rndB z e 0 < 18446744073709551616 ∧ finB (rndB z e 0) = true ∧ rndB z e 0 % kSign = wdN z e 0 ∧ sgnB (rndB z e 0) = decide (z < 0) := by
  obtain ⟨h1, -, h3⟩ := rnd_exact (M := 1074) (by omega) hz hb he hu
  have hk := kSign_big
  have hs : rndB z e 0 % kSign = wdN z e 0 := by
    rw [h3]
    split
    · rw [Nat.add_mod_left, Nat.mod_eq_of_lt (by omega)]
    · rw [Nat.zero_add, Nat.mod_eq_of_lt (by omega)]
  have hl := (rnd_lt (z := z) (e := e) 0 (.inl hz)).1
  refine ⟨hl, ?_, hs, ?_⟩
  · rcases fin_word (b := rndB z e 0) (by omega) with h | h
    · exact h.1
    · omega
  · rw [h3]; unfold sgnB
    split
    · rename_i h; rw [h]; exact decide_eq_true (by omega)
    · rename_i h; rw [Bool.not_eq_true] at h; rw [h]; exact decide_eq_false (by omega)

theorem rnd_val {M z e : Int} (hM : 1074 ≤ M) (hz : z ≠ 0) (hb : bl z.natAbs ≤ 53) (he : -1074 ≤ e) (hu : e + bl z.natAbs ≤ 1024) :
    sc M (valZ (rndB z e 0)) (pE (rndB z e 0)) = sc M z e := by
  obtain ⟨h1, h2, h3, h4⟩ := rnd_fin hz hb he hu
  obtain ⟨g1, g2, g3⟩ := rnd_exact hM hz hb he hu
  rw [sc_word h1 h2 hM, h3, h4, sc_abs (z := z)]
  by_cases hs : z < 0
  · rw [decide_eq_true hs, if_pos rfl, if_pos hs, ← g2, Int.neg_mul, Int.natCast_mul, Int.natCast_pow]; rfl
  · rw [decide_eq_false hs, if_neg hs, ← g2, Int.natCast_mul, Int.natCast_pow]; rfl

theorem rnd_of_val {z e y f : Int} (hz : z ≠ 0) (M : Int) (h1 : 0 ≤ e + M) (h2 : 0 ≤ f + M) (h : sc M z e = sc M y f) : rndB z e 0 = rndB y f 0 := by
  have hy : y ≠ 0 := fun h0 => hz (sc_eq_zero.1 (by rw [h, h0, sc_zero]))
  rw [rnd_sc hz h1, rnd_sc hy h2, h]

theorem sc_succ (M z e : Int) (h : 0 ≤ e + M) : sc M z (e + 1) = sc M z e * 2 := by
  unfold sc
  rw [show (e + 1 + M).toNat = (e + M).toNat + 1 by omega, Int.pow_succ, ← Int.mul_assoc]

/-- Doubling. -/
theorem dbl_fin {z e : Int} (hz : z ≠ 0) (hb : bl z.natAbs ≤ 53) (he : -1074 ≤ e) (hu : e + bl z.natAbs ≤ 1024) :
    F6.mul (rndB z e 0) 4611686018427387904 = some (rndB z (e + 1) 0) := by
  obtain ⟨h1, h2, h3, h4⟩ := rnd_fin hz hb he hu
  have hv := rnd_val (M := 1074 + 1074) (by omega) hz hb he hu
  obtain ⟨r, hr, hr2, -⟩ := fmul_fin h1 (by decide : 4611686018427387904 < 18446744073709551616) h2 (by decide)
  rw [show valZ 4611686018427387904 = 1 by decide, show pE 4611686018427387904 = 1 by decide, Int.mul_one] at hr2
  have hx := pE_bd h2
  have hv0 : valZ (rndB z e 0) ≠ 0 := fun h0 => hz (sc_eq_zero.1 (by rw [← hv, h0, sc_zero]))
  rw [hr, hr2 hv0]
  congr 1
  refine rnd_of_val (hvZ_ne hv0) (1074 + 1074) (nrE_ge (by omega) (by omega)) (by omega) ?_
  rw [sc_nr (by omega), sc_succ _ _ _ (by omega), sc_succ _ _ _ (by omega), hv]

/-- Halving. -/
theorem half_fin {z e : Int} (hz : z ≠ 0) (hb : bl z.natAbs ≤ 53) (he : -1074 ≤ e) (hu : e + bl z.natAbs ≤ 1024) :
    F6.div (rndB z e 0) 4611686018427387904 = some (rndB z (e - 1) 0) := by
  obtain ⟨h1, h2, h3, h4⟩ := rnd_fin hz hb he hu
  have hv := rnd_val (M := 1074 + 1074) (by omega) hz hb he hu
  have hv0 : valZ (rndB z e 0) ≠ 0 := fun h0 => hz (sc_eq_zero.1 (by rw [← hv, h0, sc_zero]))
  have ho : ownZ (rndB z e 0) ≠ 0 := fun h => hv0 (ownZ_zero.1 h)
  have ha := ownZ_natAbs (rndB z e 0)
  have hml := mantB_lt (rndB z e 0)
  have hxb := expB_bd h2
  rw [← sc_own h2 (by omega)] at hv
  have hsg := ownZ_sign ho
  unfold Ieee.Format.div
  rw [read_fin h1 h2, show F6.read 4611686018427387904 = .number false 4503599627370496 (-51) by decide, F6_frac]
  unfold Ieee.Datum.quotient
  dsimp only
  rw [if_neg (by decide), show Nat.log2 4503599627370496 = 52 by decide, Bool.xor_false]
  generalize rndB z e 0 = x at *
  have hlg : (mantB x).log2 ≤ 52 := by
    have : mantB x ≠ 0 := by omega
    have := (Nat.log2_lt (k := 53) this).2 hml
    omega
  obtain ⟨k, hk⟩ : ∃ k, 52 + 2 + 52 - (mantB x).log2 = k + 52 := ⟨54 - (mantB x).log2, by omega⟩
  simp only [hk]
  have hq : mantB x <<< (k + 52) / 4503599627370496 = mantB x * 2 ^ k := by
    rw [Nat.shiftLeft_eq, Nat.pow_add, ← Nat.mul_assoc, show (4503599627370496 : Nat) = 2 ^ 52 from rfl, Nat.mul_div_cancel _ (Nat.two_pow_pos 52)]
  have hm : mantB x <<< (k + 52) % 4503599627370496 = 0 := by
    rw [Nat.shiftLeft_eq, Nat.pow_add, ← Nat.mul_assoc, show (4503599627370496 : Nat) = 2 ^ 52 from rfl, Nat.mul_mod_left]
  rw [hq, hm]
  have hkb : (k : Int) ≤ 54 := by omega
  have hE : expB x - -51 - ((k + 52 : Nat) : Int) - 1 = expB x - 2 - k := by omega
  rw [hE]
  show some (F6.nearest (sgnB x) (2 * (mantB x * 2 ^ k) + 0) (expB x - 2 - k)) = _
  have hmag : 2 * (mantB x * 2 ^ k) + 0 = (ownZ x * 2 ^ (k + 1)).natAbs := by
    rw [natAbs_shift, ha, Nat.pow_succ, Nat.add_zero, Nat.mul_comm 2, Nat.mul_assoc]
  have hne : ownZ x * 2 ^ (k + 1) ≠ 0 := Int.mul_ne_zero ho (two_pow_ne _)
  rw [hmag, ← hsg, ← shift_neg (ownZ x) (k + 1), ← rnd_near hne]
  congr 1
  refine rnd_of_val hne (1074 + 1074) (by omega) (by omega) ?_
  have : sc (1074 + 1074) (ownZ x * 2 ^ (k + 1)) (expB x - 2 - k) * 2 = sc (1074 + 1074) (ownZ x) (expB x) := by
    unfold sc
    rw [Int.mul_assoc, Int.mul_assoc, ← Int.mul_assoc (2 ^ (k + 1)) _ 2, ← Int.pow_add, ← Int.pow_succ]
    congr 2; omega
  have h5 : sc (1074 + 1074) z (e - 1) * 2 = sc (1074 + 1074) z e := by
    rw [← sc_succ _ _ _ (by omega)]; congr 1; omega
  omega

/-- A whole number as a float. -/
theorem ofInt_fin {z : Int} (hz : z ≠ 0) : FloatKind.f64.nearest z = rndB z 0 0 := (rnd_near hz).symm

theorem rnd_ne0 {z e : Int} (hz : z ≠ 0) (hb : bl z.natAbs ≤ 53) (he : -1074 ≤ e) (hu : e + bl z.natAbs ≤ 1024) : (F6.order (rndB z e 0) 0 == some Ordering.eq) = false := by
  obtain ⟨h1, h2, h3, h4⟩ := rnd_fin hz hb he hu
  have hv := rnd_val (M := 1074) (by omega) hz hb he hu
  have hv0 : valZ (rndB z e 0) ≠ 0 := fun h0 => hz (sc_eq_zero.1 (by rw [← hv, h0, sc_zero]))
  rw [order_zero h1 h2, decide_eq_false hv0]

end Go.Proofs.YtjoajbbapfgaoaaGreatDoor
