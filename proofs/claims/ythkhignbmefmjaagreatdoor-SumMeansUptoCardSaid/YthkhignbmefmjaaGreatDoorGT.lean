/- Plain: what the references round, from the floor; exact doubling and halving of floats; no program. -/
import Derived.Test.YthkhignbmefmjaaGreatDoorZRi1
import Derived.Test.YthkhignbmefmjaaGreatDoorGO
import Derived.Test.YthkhignbmefmjaaGreatDoorGP
import Derived.Test.YthkhignbmefmjaaGreatDoorGQ
import Derived.Test.YthkhignbmefmjaaGreatDoorGM
namespace Go.Proofs.YthkhignbmefmjaaGreatDoor
section
open Go.RowKit
def nearZ (z down mode : Int) : Int := if z < 0 then -(cutZ z.natAbs down (decide (z < 0)) mode : Int) else (cutZ z.natAbs down (decide (z < 0)) mode : Int)
def rupB (z low : Int) (r h : Nat) (mode : Int) : Bool :=
 if mode = 0 then decide (h < r) || (decide (r = h) && decide (low % 2 = 1))
 else if mode = 1 then decide (h < r) || (decide (r = h) && decide (0 < z))
 else if mode = 2 then decide (z < 0)
 else if mode = 3 then true
 else false
theorem ediv_at {z g q r : Int} (hg : 0 < g) (h : r + g * q = z) (h0 : 0 ≤ r) (h1 : r < g) : z / g = q := ((Int.ediv_emod_unique hg).2 ⟨h, h0, h1⟩).1
theorem near_pos (N d : Nat) (mode : Int) (hd : 0 < d) (hm : mode = 0 ∨ mode = 1 ∨ mode = 2 ∨ mode = 3 ∨ mode = 4) :
  ∃ r : Nat, (N : Int) - (N : Int) / 2 ^ d * 2 ^ d = (r : Int) ∧ r < 2 ^ d ∧ (r = 0 → nearZ N d mode = (N : Int) / 2 ^ d) ∧ (r ≠ 0 → nearZ N d mode = (N : Int) / 2 ^ d + (if rupB N ((N : Int) / 2 ^ d) r (2 ^ (d - 1)) mode then 1 else 0)) := by
 have hq : (N : Int) / 2 ^ d = ((N / 2 ^ d : Nat) : Int) := by simp
 refine ⟨N % 2 ^ d, rest_eq N d, Nat.mod_lt _ (Nat.two_pow_pos d), fun h0 => ?_, fun h0 => ?_⟩
 ·unfold nearZ cutZ
  rw [if_neg (by omega), if_neg (by omega), Int.natAbs_natCast, Int.toNat_natCast, up_z h0, hq]; simp
 ·unfold nearZ cutZ
  rw [if_neg (by omega), if_neg (by omega), Int.natAbs_natCast, Int.toNat_natCast, hq, decide_eq_false (by omega : ¬ (N : Int) < 0)]
  have hup : upB N d false mode = rupB N ((N / 2 ^ d : Nat) : Int) (N % 2 ^ d) (2 ^ (d - 1)) mode := by
   have hN : 0 < N := by
    rcases Nat.eq_zero_or_pos N with h | h
    ·subst h; simp at h0
    ·exact h
   unfold rupB
   rcases hm with rfl | rfl | rfl | rfl | rfl
   ·rw [up_0 h0, if_pos rfl]
    congr 2
    rw [decide_eq_decide]; omega
   ·rw [up_1 h0, if_neg (by decide), if_pos rfl, decide_eq_true (by omega : (0 : Int) < (N : Int)), Bool.and_true]
    rw [Bool.eq_iff_iff]; simp; omega
   ·rw [up_2 h0, if_neg (by decide), if_neg (by decide), if_pos rfl, decide_eq_false (by omega)]
   ·rw [up_3 h0]; rfl
   ·rw [up_4 h0]; rfl
  rw [hup]
  split <;> simp
theorem near_neg (N d : Nat) (mode : Int) (hN : 0 < N) (hd : 0 < d) (hm : mode = 0 ∨ mode = 1 ∨ mode = 2 ∨ mode = 3 ∨ mode = 4) :
  ∃ r : Nat, -(N : Int) - -(N : Int) / 2 ^ d * 2 ^ d = (r : Int) ∧ r < 2 ^ d ∧ (r = 0 → nearZ (-N) d mode = -(N : Int) / 2 ^ d) ∧ (r ≠ 0 → nearZ (-N) d mode = -(N : Int) / 2 ^ d + (if rupB (-N) (-(N : Int) / 2 ^ d) r (2 ^ (d - 1)) mode then 1 else 0)) := by
 have hz : -(N : Int) < 0 := by omega
 have hg : 2 ^ d = 2 * 2 ^ (d - 1) := by rw [Nat.mul_comm, ← Nat.pow_succ]; congr 1; omega
 have hgz : (2 : Int) ^ d = ((2 ^ d : Nat) : Int) := by simp
 have hcut : nearZ (-N) d mode = -(((N / 2 ^ d + (if upB N d true mode then 1 else 0) : Nat)) : Int) := by
  unfold nearZ cutZ
  rw [if_pos hz, if_neg (by omega), Int.natAbs_neg, Int.natAbs_natCast, Int.toNat_natCast, decide_eq_true hz]
 have hpos : 0 < 2 ^ d := Nat.two_pow_pos d
 have hdm := Nat.div_add_mod N (2 ^ d)
 have hml := Nat.mod_lt N hpos
 rw [hcut, hgz]
 by_cases h0 : N % 2 ^ d = 0
 ·rw [up_z h0]
  have hdv : -(N : Int) / ((2 ^ d : Nat) : Int) = -((N / 2 ^ d : Nat) : Int) := by
   refine ediv_at (r := 0) (by omega) ?_ (by omega) (by omega)
   rw [h0] at hdm
   have : (N : Int) = ((2 ^ d : Nat) : Int) * ((N / 2 ^ d : Nat) : Int) := by rw [← Int.natCast_mul]; omega
   rw [Int.mul_neg, ← this]; omega
  rw [hdv]
  refine ⟨0, ?_, hpos, fun _ => by simp, fun h => absurd rfl h⟩
  rw [h0] at hdm
  have : (N : Int) = ((2 ^ d : Nat) : Int) * ((N / 2 ^ d : Nat) : Int) := by rw [← Int.natCast_mul]; omega
  rw [Int.neg_mul, Int.mul_comm, ← this]; omega
 ·have hdv : -(N : Int) / ((2 ^ d : Nat) : Int) = -((N / 2 ^ d : Nat) : Int) - 1 := by
   refine ediv_at (r := ((2 ^ d : Nat) : Int) - ((N % 2 ^ d : Nat) : Int)) (by omega) ?_ (by omega) (by omega)
   have : (N : Int) = ((2 ^ d : Nat) : Int) * ((N / 2 ^ d : Nat) : Int) + ((N % 2 ^ d : Nat) : Int) := by rw [← Int.natCast_mul]; omega
   rw [Int.mul_sub, Int.mul_neg]; omega
  have hrest : -(N : Int) - (-((N / 2 ^ d : Nat) : Int) - 1) * ((2 ^ d : Nat) : Int) = ((2 ^ d - N % 2 ^ d : Nat) : Int) := by
   have : (N : Int) = ((2 ^ d : Nat) : Int) * ((N / 2 ^ d : Nat) : Int) + ((N % 2 ^ d : Nat) : Int) := by rw [← Int.natCast_mul]; omega
   rw [Int.sub_mul, Int.neg_mul, Int.mul_comm (((N / 2 ^ d : Nat) : Int)) _]; omega
  rw [hdv]
  refine ⟨2 ^ d - N % 2 ^ d, hrest, by omega, fun h => by omega, fun _ => ?_⟩
  have hup : upB N d true mode = !rupB (-N) (-((N / 2 ^ d : Nat) : Int) - 1) (2 ^ d - N % 2 ^ d) (2 ^ (d - 1)) mode := by
   unfold rupB
   rcases hm with rfl | rfl | rfl | rfl | rfl
   ·rw [up_0 h0, if_pos rfl]
    generalize 2 ^ d = g at *
    generalize 2 ^ (d - 1) = h at *
    generalize N / g = q at *
    generalize N % g = s at *
    rw [Bool.eq_iff_iff]; simp; omega
   ·rw [up_1 h0, if_neg (by decide), if_pos rfl, decide_eq_false (by omega : ¬ (0 : Int) < -(N : Int)), Bool.and_false, Bool.or_false]
    generalize 2 ^ d = g at *
    generalize 2 ^ (d - 1) = h at *
    generalize N % g = s at *
    rw [Bool.eq_iff_iff]; simp; omega
   ·rw [up_2 h0, if_neg (by decide), if_neg (by decide), if_pos rfl, decide_eq_true (by omega)]; rfl
   ·rw [up_3 h0]; rfl
   ·rw [up_4 h0]; rfl
  rw [hup]
  cases rupB (-N) (-((N / 2 ^ d : Nat) : Int) - 1) (2 ^ d - N % 2 ^ d) (2 ^ (d - 1)) mode <;> simp <;> omega
theorem near_fin (z : Int) (d : Nat) (mode : Int) (hd : 0 < d) (hm : mode = 0 ∨ mode = 1 ∨ mode = 2 ∨ mode = 3 ∨ mode = 4) :
  ∃ r : Nat, z - z / 2 ^ d * 2 ^ d = (r : Int) ∧ r < 2 ^ d ∧ (r = 0 → nearZ z d mode = z / 2 ^ d) ∧ (r ≠ 0 → nearZ z d mode = z / 2 ^ d + (if rupB z (z / 2 ^ d) r (2 ^ (d - 1)) mode then 1 else 0)) := by
 rcases Int.lt_or_le z 0 with h | h
 ·obtain ⟨N, rfl⟩ : ∃ N : Nat, z = -(N : Int) := ⟨z.natAbs, by omega⟩
  exact near_neg N d mode (by omega) hd hm
 ·obtain ⟨N, rfl⟩ : ∃ N : Nat, z = (N : Int) := ⟨z.natAbs, by omega⟩
  exact near_pos N d mode hd hm
theorem nearZ_shl {z down mode : Int} (h : down ≤ 0) : nearZ z down mode = z * 2 ^ (-down).toNat := by
 unfold nearZ cutZ
 rw [if_pos h, Int.natCast_mul, Int.natCast_pow]
 split
 ·rw [← Int.neg_mul]; congr 1; omega
 ·congr 1; omega
theorem rnd_exact {M z e : Int} (hM : 1074 ≤ M) (hz : z ≠ 0) (hb : bl z.natAbs ≤ 53) (he : -1074 ≤ e) (hu : e + bl z.natAbs ≤ 1024) :
  wdN z e 0 < kInf ∧ wv (wdN z e 0) * 2 ^ (M - 1074).toNat = z.natAbs * 2 ^ (e + M).toNat ∧ rndB z e 0 = (if decide (z < 0) then kSign else 0) + wdN z e 0 := by
 have hl : lastE z e 53 (-1074) ≤ e := by unfold lastE; omega
 have hl2 : -1074 ≤ lastE z e 53 (-1074) := by unfold lastE; omega
 have hr : roundZ z e 53 (-1074) 0 = z.natAbs * 2 ^ (e - lastE z e 53 (-1074)).toNat := by
  unfold roundZ cutZ
  rw [if_pos (by omega)]; congr 2; omega
 have key : ∀ M : Int, 1074 ≤ M → wv (wdN z e 0) * 2 ^ (M - 1074).toNat = z.natAbs * 2 ^ (e + M).toNat := by
  intro M hM
  rw [wv_up hM hz, hr, Nat.mul_assoc, ← Nat.pow_add]
  congr 2; omega
 have hw : wdN z e 0 < kInf := by
  rw [← wv_lt_iff]
  have h1 := key 1074 (by omega)
  rw [show ((1074 : Int) - 1074).toNat = 0 by decide, Nat.pow_zero, Nat.mul_one] at h1
  have hE : kInf / kHid - 1 = 2046 := by decide
  have hI : wv kInf = 2 ^ (52 + (kInf / kHid - 1)) := by
   unfold wv; rw [if_neg (by decide), show kInf % kHid + kHid = 2 ^ 52 by decide, ← Nat.pow_add]
  generalize kInf / kHid - 1 = E at hE hI
  rw [h1, hI]
  have h2 : z.natAbs < 2 ^ bl z.natAbs := lt_of_bl (Nat.le_refl _)
  refine Nat.lt_of_lt_of_le (Nat.mul_lt_mul_of_pos_right h2 (Nat.two_pow_pos _)) ?_
  rw [← Nat.pow_add]
  exact Nat.pow_le_pow_right (by decide) (by omega)
 refine ⟨hw, key M hM, ?_⟩
 rw [rnd_cap hz]
 unfold capW
 rw [if_pos hw]
theorem rnd_fin {z e : Int} (hz : z ≠ 0) (hb : bl z.natAbs ≤ 53) (he : -1074 ≤ e) (hu : e + bl z.natAbs ≤ 1024) :
  rndB z e 0 < 18446744073709551616 ∧ finB (rndB z e 0) = true ∧ rndB z e 0 % kSign = wdN z e 0 ∧ sgnB (rndB z e 0) = decide (z < 0) := by
 obtain ⟨h1, -, h3⟩ := rnd_exact (M := 1074) (by omega) hz hb he hu
 have hk := kSign_big
 have hs : rndB z e 0 % kSign = wdN z e 0 := by
  rw [h3]
  split
  ·rw [Nat.add_mod_left, Nat.mod_eq_of_lt (by omega)]
  ·rw [Nat.zero_add, Nat.mod_eq_of_lt (by omega)]
 have hl := (rnd_lt (z := z) (e := e) 0 (.inl hz)).1
 refine ⟨hl, ?_, hs, ?_⟩
 ·rcases fin_word (b := rndB z e 0) (by omega) with h | h
  ·exact h.1
  ·omega
 ·rw [h3]; unfold sgnB
  split
  ·rename_i h; rw [h]; exact decide_eq_true (by omega)
  ·rename_i h; rw [Bool.not_eq_true] at h; rw [h]; exact decide_eq_false (by omega)
theorem rnd_val {M z e : Int} (hM : 1074 ≤ M) (hz : z ≠ 0) (hb : bl z.natAbs ≤ 53) (he : -1074 ≤ e) (hu : e + bl z.natAbs ≤ 1024) :
  sc M (valZ (rndB z e 0)) (pE (rndB z e 0)) = sc M z e := by
 obtain ⟨h1, h2, h3, h4⟩ := rnd_fin hz hb he hu
 obtain ⟨g1, g2, g3⟩ := rnd_exact hM hz hb he hu
 rw [sc_word h1 h2 hM, h3, h4, sc_abs (z := z)]
 by_cases hs : z < 0
 ·rw [decide_eq_true hs, if_pos rfl, if_pos hs, ← g2, Int.neg_mul, Int.natCast_mul, Int.natCast_pow]; rfl
 ·rw [decide_eq_false hs, if_neg hs, ← g2, Int.natCast_mul, Int.natCast_pow]; rfl
theorem rnd_of_val {z e y f : Int} (hz : z ≠ 0) (M : Int) (h1 : 0 ≤ e + M) (h2 : 0 ≤ f + M) (h : sc M z e = sc M y f) : rndB z e 0 = rndB y f 0 := by
 have hy : y ≠ 0 := fun h0 => hz (sc_eq_zero.1 (by rw [h, h0, sc_zero]))
 rw [rnd_sc hz h1, rnd_sc hy h2, h]
theorem sc_succ (M z e : Int) (h : 0 ≤ e + M) : sc M z (e + 1) = sc M z e * 2 := by
 unfold sc
 rw [show (e + 1 + M).toNat = (e + M).toNat + 1 by omega, Int.pow_succ, ← Int.mul_assoc]
theorem dbl_fin {z e : Int} (hz : z ≠ 0) (hb : bl z.natAbs ≤ 53) (he : -1074 ≤ e) (hu : e + bl z.natAbs ≤ 1024) :
  F6.mul (rndB z e 0) 4611686018427387904 = some (rndB z (e + 1) 0) := by
 obtain ⟨h1, h2, h3, h4⟩ := rnd_fin hz hb he hu
 have hv := rnd_val (M := 1074 + 1074) (by omega) hz hb he hu
 obtain ⟨r, hr, hr2, -⟩ := fmul_fin h1 (by decide : 4611686018427387904 < 18446744073709551616) h2 (by decide)
 rw [show valZ 4611686018427387904 = 1 by decide, show pE 4611686018427387904 = 1 by decide, Int.mul_one] at hr2
 have hx := pE_bd h2
 have hv0 : valZ (rndB z e 0) ≠ 0 := fun h0 => hz (sc_eq_zero.1 (by rw [← hv, h0, sc_zero]))
 rw [hr, hr2 hv0]
 congr 1
 refine rnd_of_val (hvZ_ne hv0) (1074 + 1074) (nrE_ge (by omega) (by omega)) (by omega) ?_
 rw [sc_nr (by omega), sc_succ _ _ _ (by omega), sc_succ _ _ _ (by omega), hv]
theorem half_fin {z e : Int} (hz : z ≠ 0) (hb : bl z.natAbs ≤ 53) (he : -1074 ≤ e) (hu : e + bl z.natAbs ≤ 1024) :
  F6.div (rndB z e 0) 4611686018427387904 = some (rndB z (e - 1) 0) := by
 obtain ⟨h1, h2, h3, h4⟩ := rnd_fin hz hb he hu
 have hv := rnd_val (M := 1074 + 1074) (by omega) hz hb he hu
 have hv0 : valZ (rndB z e 0) ≠ 0 := fun h0 => hz (sc_eq_zero.1 (by rw [← hv, h0, sc_zero]))
 have ho : ownZ (rndB z e 0) ≠ 0 := fun h => hv0 (ownZ_zero.1 h)
 have ha := ownZ_natAbs (rndB z e 0)
 have hml := mantB_lt (rndB z e 0)
 have hxb := expB_bd h2
 rw [← sc_own h2 (by omega)] at hv
 have hsg := ownZ_sign ho
 unfold Ieee.Format.div
 rw [read_fin h1 h2, show F6.read 4611686018427387904 = .number false 4503599627370496 (-51) by decide, F6_frac]
 unfold Ieee.Datum.quotient
 dsimp only
 rw [if_neg (by decide), show Nat.log2 4503599627370496 = 52 by decide, Bool.xor_false]
 generalize rndB z e 0 = x at *
 have hlg : (mantB x).log2 ≤ 52 := by
  have : mantB x ≠ 0 := by omega
  have := (Nat.log2_lt (k := 53) this).2 hml
  omega
 obtain ⟨k, hk⟩ : ∃ k, 52 + 2 + 52 - (mantB x).log2 = k + 52 := ⟨54 - (mantB x).log2, by omega⟩
 simp only [hk]
 have hq : mantB x <<< (k + 52) / 4503599627370496 = mantB x * 2 ^ k := by
  rw [Nat.shiftLeft_eq, Nat.pow_add, ← Nat.mul_assoc, show (4503599627370496 : Nat) = 2 ^ 52 from rfl, Nat.mul_div_cancel _ (Nat.two_pow_pos 52)]
 have hm : mantB x <<< (k + 52) % 4503599627370496 = 0 := by
  rw [Nat.shiftLeft_eq, Nat.pow_add, ← Nat.mul_assoc, show (4503599627370496 : Nat) = 2 ^ 52 from rfl, Nat.mul_mod_left]
 rw [hq, hm]
 have hkb : (k : Int) ≤ 54 := by omega
 have hE : expB x - -51 - ((k + 52 : Nat) : Int) - 1 = expB x - 2 - k := by omega
 rw [hE]
 show some (F6.nearest (sgnB x) (2 * (mantB x * 2 ^ k) + 0) (expB x - 2 - k)) = _
 have hmag : 2 * (mantB x * 2 ^ k) + 0 = (ownZ x * 2 ^ (k + 1)).natAbs := by
  rw [natAbs_shift, ha, Nat.pow_succ, Nat.add_zero, Nat.mul_comm 2, Nat.mul_assoc]
 have hne : ownZ x * 2 ^ (k + 1) ≠ 0 := Int.mul_ne_zero ho (two_pow_ne _)
 rw [hmag, ← hsg, ← shift_neg (ownZ x) (k + 1), ← rnd_near hne]
 congr 1
 refine rnd_of_val hne (1074 + 1074) (by omega) (by omega) ?_
 have : sc (1074 + 1074) (ownZ x * 2 ^ (k + 1)) (expB x - 2 - k) * 2 = sc (1074 + 1074) (ownZ x) (expB x) := by
  unfold sc
  rw [Int.mul_assoc, Int.mul_assoc, ← Int.mul_assoc (2 ^ (k + 1)) _ 2, ← Int.pow_add, ← Int.pow_succ]
  congr 2; omega
 have h5 : sc (1074 + 1074) z (e - 1) * 2 = sc (1074 + 1074) z e := by
  rw [← sc_succ _ _ _ (by omega)]; congr 1; omega
 omega
theorem ofInt_fin {z : Int} (hz : z ≠ 0) : FloatKind.f64.nearest z = rndB z 0 0 := (rnd_near hz).symm
theorem rnd_ne0 {z e : Int} (hz : z ≠ 0) (hb : bl z.natAbs ≤ 53) (he : -1074 ≤ e) (hu : e + bl z.natAbs ≤ 1024) : (F6.order (rndB z e 0) 0 == some Ordering.eq) = false := by
 obtain ⟨h1, h2, h3, h4⟩ := rnd_fin hz hb he hu
 have hv := rnd_val (M := 1074) (by omega) hz hb he hu
 have hv0 : valZ (rndB z e 0) ≠ 0 := fun h0 => hz (sc_eq_zero.1 (by rw [← hv, h0, sc_zero]))
 rw [order_zero h1 h2, decide_eq_false hv0]
end
section
open Go.RowKit
def numB (n e : Int) : Nat := if n = 0 then 0 else rndB n e 0
def cpB (neg : Bool) (x : Nat) : Nat := (if neg then kSign else 0) + x % kSign
theorem near_last (z e digits least mode : Int) : nearZ z (lastE z e digits least - e) mode = (if z < 0 then -(roundZ z e digits least mode : Int) else (roundZ z e digits least mode : Int)) := rfl
theorem rnd_back {z e mode : Int} (hz : z ≠ 0) (hfit : lastE z e 53 (-1074) + bl (roundZ z e 53 (-1074) mode) ≤ 1024) :
  cpB (decide (z < 0)) (numB (hvZ (nearZ z (lastE z e 53 (-1074) - e) mode)) (nrE (nearZ z (lastE z e 53 (-1074) - e) mode) (lastE z e 53 (-1074)))) = rndB z e mode := by
 rw [near_last]
 unfold rndB
 rw [if_pos hfit]
 have h1 := roundZ_le z e 53 (-1074) mode 53 rfl
 have h2 : -1074 ≤ lastE z e 53 (-1074) := by unfold lastE; omega
 have h3 := roundZ_low (e := e) (mode := mode) hz
 generalize roundZ z e 53 (-1074) mode = m at *
 generalize lastE z e 53 (-1074) = last at *
 rw [mkB_word h1 h2 h3]
 by_cases hm : m = 0
 ·subst hm
  have : (if z < 0 then -((0 : Nat) : Int) else ((0 : Nat) : Int)) = 0 := by split <;> rfl
  rw [this, hvZ_zero]
  have hl : last = -1074 := by rcases h3 with h | h; exact h; omega
  subst hl
  unfold numB cpB
  rw [if_pos rfl]; simp
 ·obtain ⟨n, hn⟩ : ∃ n, (if z < 0 then -(m : Int) else (m : Int)) = n := ⟨_, rfl⟩
  rw [hn]
  have hna : n.natAbs = m := by rw [← hn]; split <;> omega
  have hn0 : n ≠ 0 := by omega
  have hE : 0 ≤ last + 1074 := by omega
  have hnr := nrE_ge (M := 1074) (z := n) (by omega) hE
  have hs := sc_nr (M := 1074) (z := n) (e := last) hE
  have hb := hvZ_ne hn0
  have habs := congrArg Int.natAbs hs
  unfold sc at habs
  rw [natAbs_shift, natAbs_shift, hna] at habs
  have hbe : bl (hvZ n).natAbs + (nrE n last + 1074).toNat = bl m + (last + 1074).toNat := by
   rw [← bl_mul_pow (by omega), ← bl_mul_pow hm, habs]
  have hb53 : bl (hvZ n).natAbs ≤ 53 := by
   have ho := hvZ_mod hn0
   have hle : (hvZ n).natAbs ≤ 2 ^ 53 := by
    have := hvZ_natAbs_le (z := n)
    omega
   exact bl_le_of_lt (by omega)
  obtain ⟨g1, g2, g3⟩ := rnd_exact (M := 1074) (e := nrE n last) (by omega) hb hb53 (by omega) (by omega)
  obtain ⟨-, -, g4, -⟩ := rnd_fin hb hb53 (e := nrE n last) (by omega) (by omega)
  unfold numB cpB
  rw [if_neg hb, g4]
  refine congrArg (HAdd.hAdd _) ?_
  have hw := wv_word h1 (l := (last + 1074).toNat) (by rcases h3 with h | h; left; omega; exact .inr h)
  rw [show ((1074 : Int) - 1074).toNat = 0 by decide, Nat.pow_zero, Nat.mul_one, habs] at g2
  rw [← hw] at g2
  rcases Nat.lt_trichotomy (wdN (hvZ n) (nrE n last) 0) ((last + 1074).toNat * kHid + m) with h | h | h
  ·have := wv_lt h; omega
  ·exact h
  ·have := wv_lt h; omega
end
section
open Go.RowKit
set_option maxRecDepth 100000 in
set_option maxHeartbeats 800000 in
theorem rCmp_any (c p d q : Nat) (X Y : Nat) (w : World) (hx : IntK .u32 32 w c p (X : Int)) (hy : IntK .u32 32 w d q (Y : Int)) :
  Calls Tryz.prog 159 #[.pointer (some ⟨c, p, none⟩), .pointer (some ⟨d, q, none⟩)] w (Tells (.int .i64 (cmpZ X Y)) w) := by
 obtain ⟨hxs, hx0, vx, hx1, hrx⟩ := hx
 obtain ⟨hys, hy0, vy, hy1, hry⟩ := hy
 rw [Int.natAbs_natCast] at hrx hry
 rw [decide_eq_false (by omega : ¬ (X : Int) < 0)] at hx0
 rw [decide_eq_false (by omega : ¬ (Y : Int) < 0)] at hy0
 have HRx := Lib.hid hrx
 have HRy := Lib.hid hry
 clear hrx hry hxs hys
 go_enter Tryz.func159, Tryz.ntmps159
 go_wp2
 go_quiet (fail)
 go_wp2_with fail
 refine wp_region_pl (fun w' : World => w'.cell? ⟨c, p + 1, none⟩ = some vx ∧ w'.cell? ⟨d, q + 1, none⟩ = some vy) 8 (.take 0 (.take 1 (.take 2 (.take 3 (.take 4 (.take 5 (.take 6 (.take 7 .nil)))))))) (by kernel_rfl) (by kernel_rfl) ?_
 have hS : (fun w' : World => w'.cell? ⟨c, p + 1, none⟩ = some vx ∧ w'.cell? ⟨d, q + 1, none⟩ = some vy) (w.drewN nq).drew := ⟨by go_simp, by go_simp⟩
 repeat (refine wpPl_take (v := ?_) rfl (fun _ _ _ h => h) rfl (fun w' hSw => ?_) hS ?_; rotate_left; focus (go_simp; with_reducible rfl); try simp only [Act.put, setL])
 clear hS
 refine wpPl_nil ?_
 simp only [drL]
 have HB := Lib.hid ((drewN_below w nq).trans (drew_below (w.drewN nq)))
 go_wp2_with fail
 refine (rcompare_any _ _ X Y _ (HRx.out.below HB.out) (HRy.out.below HB.out)).mono ?_
 rintro e wd ⟨rfl, nd, rfl⟩
 go_wp2
 go_ret
 exact ⟨rfl, _, rfl⟩
theorem and_one32 {x : Nat} (h : x < 4294967296) : bits .and .u32 (x : Int) 1 = ((x % 2 : Nat) : Int) := by
 have h1 := bits_and_u32_nat x 1 h (by decide)
 rw [Nat.and_one_is_mod] at h1
 exact h1
theorem dg32_even (N : Nat) : dg 32 N 0 % 2 = N % 2 := by unfold dg; simp
set_option maxRecDepth 100000 in
set_option maxHeartbeats 800000 in
theorem rBit_any (c p : Nat) (X : Int) (w : World) (hx : IntK .u32 32 w c p X) (hl : ln 32 X.natAbs ≤ 68719476736) :
  Calls Tryz.prog 160 #[.pointer (some ⟨c, p, none⟩), .int .i64 0] w (Gives (.int .u64 (X % 2)) w) := by
 obtain ⟨hxs, hx0, vx, hx1, hrx⟩ := hx
 have HF : Hid ((decide (X < 0) = false → X % 2 = ((X.natAbs % 2 : Nat) : Int)) ∧ (decide (X < 0) = true → 1 ≤ X.natAbs ∧ X % 2 = 1 - (((X.natAbs - 1) % 2 : Nat) : Int))) :=
  Lib.hid ⟨fun h => by have := of_decide_eq_false h; omega, fun h => by have := of_decide_eq_true h; omega⟩
 obtain ⟨R, hR⟩ : ∃ R, X % 2 = R := ⟨_, rfl⟩
 rw [hR] at HF ⊢
 generalize decide (X < 0) = sx at *
 generalize X.natAbs = N at *
 have hcx := hxs.1
 clear hR hxs
 cases sx
 ·have HR := Lib.hid (HF.out.1 rfl)
  clear HF
  obtain ⟨ao, cap, rfl, -, hN, hn, hc⟩ := hrx
  by_cases h0 : ln 32 N = 0
  ·have hN0 : N = 0 := by
    rw [h0] at hN; simp at hN; exact hN
   rw [hN0] at HR
   rw [h0] at hx1
   clear hN hn hc h0 hN0
   rw [HR.out]
   go_enter Tryz.func160, Tryz.ntmps160
   go_wp2
   go_ret
   exact ⟨rfl, Below.refl _ _⟩
  ·obtain ⟨b, off, rfl, hb, -, hc⟩ := hc (by omega)
   have hc0 := hc 0 (by omega)
   rw [Nat.add_zero] at hc0
   have hd := dg32_lt N 0
   have he := dg32_even N
   rw [← he] at HR
   have hand := and_one32 hd
   have hn0 : decide ((0 : Int) < (ln 32 N : Nat)) = true := by simp; omega
   have hn1 : (0 : Int) < (ln 32 N : Nat) := by omega
   clear hN hc h0 he
   rw [HR.out]
   generalize dg 32 N 0 = x at *
   generalize ln 32 N = n at *
   have hw := wrap_u64_lt (x % 2) (by omega)
   go_enter Tryz.func160, Tryz.ntmps160
   go_wp2
   go_ret
   exact ⟨rfl, Below.refl _ _⟩
 ·obtain ⟨h1, hR⟩ := HF.out.2 rfl
  have HR := Lib.hid hR
  have HRx := Lib.hid hrx
  obtain ⟨avx, cvx, rfl, -⟩ := hrx
  clear HF hR
  go_enter Tryz.func160, Tryz.ntmps160
  go_wp2_with fail
  refine (rminus_any _ _ _ 1 N 1 _ (HRx.out.below (Below.alloc_self _ _)) (Raw.uno _) (by omega) h1).mono ?_
  rintro e w1 ⟨v1, rfl, hb1, hr1⟩
  have HB := Lib.hid ((Below.alloc_self w _).trans (hb1.mono (by simp)))
  have hx0' := (HB.out.cell (p := ⟨c, p, none⟩) hcx).trans hx0
  have HR1 := Lib.hid hr1
  clear hb1
  obtain ⟨ao, cap, rfl, -, hN, hn, hc⟩ := hr1
  by_cases h0 : ln 32 (N - 1) = 0
  ·have hN0 : N - 1 = 0 := by
    rw [h0] at hN; simp at hN; exact hN
   rw [hN0] at HR
   clear hN hn hc hN0
   rw [h0]
   clear h0
   go_wp2
   go_ret
   exact ⟨by rw [HR.out]; rfl, HB.out⟩
  ·obtain ⟨b, off, rfl, hb, -, hc⟩ := hc (by omega)
   have hc0 := hc 0 (by omega)
   rw [Nat.add_zero] at hc0
   have hd := dg32_lt (N - 1) 0
   have he := dg32_even (N - 1)
   rw [← he] at HR
   have hand := and_one32 hd
   have hn1 : (0 : Int) < (ln 32 (N - 1) : Nat) := by omega
   clear hN hc h0 he
   generalize dg 32 (N - 1) 0 = x at *
   generalize ln 32 (N - 1) = n at *
   have hw : IntKind.u32.wrap (1 - ((x % 2 : Nat) : Int)) = 1 - ((x % 2 : Nat) : Int) := by rw [IntKind.wrap_u32]; omega
   have hw2 : IntKind.u64.wrap (1 - ((x % 2 : Nat) : Int)) = 1 - ((x % 2 : Nat) : Int) := by rw [IntKind.wrap_u64]; omega
   generalize ((x % 2 : Nat) : Int) = y at *
   go_wp2
   go_ret
   exact ⟨by rw [HR.out]; rfl, HB.out⟩
theorem dg64_own {N : Nat} (h : N < 9223372036854775808) : dg 64 N 0 = N := by unfold dg; simp; omega
set_option maxRecDepth 100000 in
set_option maxHeartbeats 800000 in
theorem rInt64_any (c p : Nat) (X : Int) (w : World) (hx : IntK .u32 32 w c p X) (hl : X.natAbs < 9223372036854775808) :
  Calls Tryz.prog 126 #[.pointer (some ⟨c, p, none⟩)] w (Gives (.int .i64 X) w) := by
 have HX := Lib.hid hx
 obtain ⟨hxs, hx0, vx, hx1, hrx⟩ := hx
 have hcx := hxs.1
 have HD := Lib.hid (dg64_own hl)
 have HL := Lib.hid hl
 have HF : Hid ((decide (X < 0) = false → X = (X.natAbs : Int)) ∧ (decide (X < 0) = true → X = -(X.natAbs : Int) ∧ 1 ≤ X.natAbs)) :=
  Lib.hid ⟨fun h => by have := of_decide_eq_false h; omega, fun h => by have := of_decide_eq_true h; omega⟩
 have HU := Lib.hid (rUint64_any c p X w HX.out)
 rw [HD.out] at HU
 clear hrx hx1 hxs HX HD
 generalize decide (X < 0) = sx at *
 generalize X.natAbs = N at *
 cases sx
 ·have HR := Lib.hid (HF.out.1 rfl)
  rw [HR.out]
  have hw : IntKind.i64.wrap (N : Int) = N := IntWalk.i64_in _ (by have := HL.out; omega)
  clear hl HF
  go_enter Tryz.func126, Tryz.ntmps126
  go_wp2_with fail
  refine HU.out.mono ?_
  rintro e w1 ⟨rfl, hb⟩
  have hx0' := (hb.cell (p := ⟨c, p, none⟩) hcx).trans hx0
  have HB := Lib.hid hb
  clear hb hx0
  go_wp2
  go_ret
  exact ⟨rfl, HB.out⟩
 ·obtain ⟨hR, h1⟩ := HF.out.2 rfl
  have HR := Lib.hid hR
  rw [HR.out]
  have hw : IntKind.u64.wrap (-(N : Int)) = 18446744073709551616 - N := by rw [IntKind.wrap_u64]; have := HL.out; omega
  have hw2 : IntKind.i64.wrap (18446744073709551616 - (N : Int)) = -(N : Int) := by rw [IntKind.wrap_i64]; have := HL.out; omega
  clear hl HF hR h1
  go_enter Tryz.func126, Tryz.ntmps126
  go_wp2_with fail
  refine HU.out.mono ?_
  rintro e w1 ⟨rfl, hb⟩
  have hx0' := (hb.cell (p := ⟨c, p, none⟩) hcx).trans hx0
  have HB := Lib.hid hb
  clear hb hx0
  go_wp2
  go_ret
  exact ⟨rfl, HB.out⟩
end
section
open Go.RowKit
def ROwn1 (w0 W : World) (b : Nat) (z : Int) : Prop := RInt W b z ∧ w0.heap.size ≤ b
theorem ROwn1.later {w0 W V : World} {b : Nat} {z : Int} (h : ROwn1 w0 W b z) (hb : Below W.heap.size W V) : ROwn1 w0 V b z := ⟨h.1.below hb, h.2⟩
theorem ROwn1.mod {w0 W V : World} {b c : Nat} {z y : Int} (h : ROwn1 w0 W b z) (hm : Mod c 0 W V) (hne : b ≠ c) (hc : RInt W c y) : ROwn1 w0 V b z := ⟨h.1.mod hm (.inl hne) hc.1.2.1, h.2⟩
theorem ediv_natAbs_le (z : Int) (d : Nat) : (z / 2 ^ d).natAbs ≤ z.natAbs := Int.natAbs_ediv_le_natAbs _ _
set_option maxRecDepth 100000 in
set_option maxHeartbeats 400000 in
theorem rNear_shl (b : Nat) (z down mode : Int) (w : World) (hx : RInt w b z) (hl : bl z.natAbs ≤ 34359738368) (h1 : down ≤ 0) (h2 : -1099511627776 ≤ down) :
  Calls Tryz.prog 123 #[.pointer (some ⟨b, 0, none⟩), .int .i64 down, .int .i64 mode] w (News .u32 32 (nearZ z down mode) w) := by
 have HX := Lib.hid hx
 have HL := Lib.hid hl
 have HN : Hid (-down = ((-down).toNat : Int)) := Lib.hid (by omega)
 have HN2 : Hid ((-down).toNat ≤ 1099511627776) := Lib.hid (by omega)
 rw [nearZ_shl h1]
 generalize (-down).toNat = n at *
 clear hx hl
 have HZ := Lib.hid (IntK.zero (k := .u32) (s := 32) w _ objT_rint)
 go_enter Tryz.func123, Tryz.ntmps123
 go_wp2_with fail
 refine (rLsh_at _ 0 _ 0 n _ z _ HZ.out.1 (HX.out.below (below1 _ _)) (rln_of_bl (Nat.le_trans HL.out (by decide))) HN2.out HN.out).mono ?_
 rintro e2 w2 ⟨rfl, hi2, hm2⟩
 have HI := Lib.hid hi2
 have HB := Lib.hid (hm2.below (below1 _ _) (Nat.le_refl _) (below1 _ _).size)
 clear hi2 hm2
 go_wp2
 go_ret
 exact ⟨_, rfl, Nat.le_refl _, HI.out, HB.out⟩
set_option maxRecDepth 100000 in
set_option maxHeartbeats 4000000 in
theorem rNear_shr (b : Nat) (z : Int) (d : Nat) (mode : Int) (w : World) (hx : RInt w b z) (hl : bl z.natAbs ≤ 34359738368) (h1 : 0 < d) (h2 : d ≤ 17179869184) (hmode : mode = 0 ∨ mode = 1 ∨ mode = 2 ∨ mode = 3 ∨ mode = 4) :
  Calls Tryz.prog 123 #[.pointer (some ⟨b, 0, none⟩), .int .i64 d, .int .i64 mode] w (News .u32 32 (nearZ z d mode) w) := by
 have HX := Lib.hid hx
 have HL := Lib.hid hl
 obtain ⟨r, hr1, hr2, hr3, hr4⟩ := near_fin z d mode h1 hmode
 have HCC := Lib.hid (cmpZ_cases r (2 ^ (d - 1)))
 have HLQ : Hid (bl (z / 2 ^ d).natAbs ≤ 34359738368) := Lib.hid (Nat.le_trans (bl_mono (ediv_natAbs_le _ _)) hl)
 have HZ0' : Hid (r ≠ 0 → z ≠ 0) := Lib.hid (by
  intro h h0; subst h0
  rw [Int.zero_ediv, Int.zero_mul] at hr1; omega)
 obtain ⟨nz, hnz⟩ : ∃ nz, nearZ z d mode = nz := ⟨_, rfl⟩
 rw [hnz] at hr3 hr4 ⊢
 have HQE : Hid (z / 2 ^ d = z / 2 ^ d) := Lib.hid rfl
 obtain ⟨q, hq⟩ : ∃ q, z / 2 ^ d = q := ⟨_, rfl⟩
 obtain ⟨P, hP⟩ : ∃ P, 2 ^ (d - 1) = P := ⟨_, rfl⟩
 have HPH : Hid ((1 : Int) * 2 ^ (d - 1) = (P : Int)) := Lib.hid (by rw [← hP]; exact pow_half _)
 rw [hq] at hr1 hr3 hr4 HLQ
 rw [hP] at hr4 HCC
 have HDQ := Lib.hid hq
 have HRE := Lib.hid hr1
 have HCZA := Lib.hid hr3
 have HCZB := Lib.hid hr4
 have HRB : Hid (bl r ≤ 34359738368) := Lib.hid (Nat.le_trans (bl_le_of_lt hr2) (by omega))
 have HDM : Hid ((d : Int) - 1 = ((d - 1 : Nat) : Int)) := Lib.hid (by omega)
 clear hx hl hnz hq hr1 hr2 hr3 hr4 hP HQE
 have HZ := Lib.hid (IntK.zero (k := .u32) (s := 32) w _ objT_rint)
 go_enter Tryz.func123, Tryz.ntmps123
 go_wp2_with fail
 refine (rRsh_at _ 0 _ 0 d _ z _ HZ.out.1 (HX.out.below (below1 _ _)) (rln_of_bl (Nat.le_trans HL.out (by decide))) (by omega) rfl).mono ?_
 rintro e1 w1 ⟨rfl, hi1, hm1⟩
 have HB1 := Lib.hid (hm1.below (below1 _ _) (Nat.le_refl _) (below1 _ _).size)
 rw [HDQ.out] at hi1
 have HQ1 : Hid (ROwn1 w w1 w.heap.size q) := Lib.hid ⟨hi1, Nat.le_refl _⟩
 clear hi1 hm1 HZ
 obtain ⟨qb, hqb⟩ : ∃ qb, w.heap.size = qb := ⟨_, rfl⟩
 rw [hqb] at HQ1 ⊢
 have HQB := Lib.hid hqb
 clear hqb
 go_wp2_with fail
 have HZ1 := Lib.hid (IntK.zero1 (k := .u32) (s := 32) w1 (.cells #[.bool false, .slice none 0 0] 92) _ objT_rint)
 have HQ2 := Lib.hid (HQ1.out.later (below2 w1 (.cells #[.bool false, .slice none 0 0] 92) (.cells #[.bool false, .slice none 0 0] 92)))
 refine (rLsh_at _ 0 qb 0 d _ q _ HZ1.out.1 HQ2.out.1 (rln_of_bl (Nat.le_trans HLQ.out (by decide))) (by omega) rfl).mono ?_
 rintro e2 w2 ⟨rfl, hi2, hm2⟩
 have HB2 : Hid (Below w1.heap.size w1 w2) := Lib.hid (hm2.below (below2 _ _ _) (by omega) (below2 _ _ _).size)
 have HZ2 := Lib.hid (((IntK.zero (k := .u32) (s := 32) w1 _ objT_rint).below (Below.alloc_self _ (.cells #[.bool false, .slice none 0 0] 92))).mod hm2 (.inl (by omega)) (IntK.zero1 (k := .u32) (s := 32) w1 (.cells #[.bool false, .slice none 0 0] 92) _ objT_rint).1.2.1)
 have HQ3 := Lib.hid (HQ1.out.later HB2.out)
 have HL2 := Lib.hid hi2
 have HQR : Hid (qb ≠ w1.heap.size) := Lib.hid (by have := HQ1.out.1.1.1; omega)
 clear hi2 hm2 HZ1 HQ2 HQ1
 have HBA := Lib.hid (HB1.out.trans (HB2.out.mono HB1.out.size))
 have HR0 : Hid (w.heap.size ≤ w1.heap.size) := Lib.hid HB1.out.size
 generalize w1.heap.size + 1 = tb at *
 generalize w1.heap.size = rb at *
 go_wp2_with fail
 refine (rSub_any rb 0 _ 0 tb 0 _ _ _ HZ2.out.1 (HX.out.below HBA.out) HL2.out (rln_of_bl (Nat.le_trans HL.out (by decide))) ?_).mono ?_
 ·exact rln_of_bl (Nat.le_trans (bl_shl _ _) (by have := HLQ.out; omega))
 rintro e3 w3 ⟨rfl, hi3, hm3⟩
 rw [HRE.out] at hi3
 have HQ4 := Lib.hid (HQ3.out.mod hm3 HQR.out HZ2.out)
 have HR4 : Hid (ROwn1 w w3 rb (r : Nat)) := Lib.hid ⟨hi3, HR0.out⟩
 have HB3 := Lib.hid (hm3.below HBA.out HR0.out HBA.out.size)
 clear hi3 hm3 HZ2 HL2 HQ3 HBA HB1 HB2 HR0 HQR
 by_cases hrest : r = 0
 ·have HS : Hid (((r : Nat) : Int).sign = 0) := Lib.hid (by rw [hrest]; rfl)
  have HU : Hid (nz = q) := Lib.hid (HCZA.out hrest)
  clear hrest
  go_wp2_with fail
  refine (rSign_any rb 0 _ _ HR4.out.1).mono ?_
  rintro e6 w6 ⟨rfl, rfl⟩
  rw [HS.out]
  go_wp2
  go_ret
  exact ⟨qb, rfl, HQ4.out.2, by rw [HU.out]; exact HQ4.out.1, HB3.out⟩
 obtain ⟨sg, HS, hsg⟩ : ∃ sg, Hid (((r : Nat) : Int).sign = sg) ∧ (sg == 0) = false := ⟨_, Lib.hid rfl, sg_ne (by omega)⟩
 have HCZ := Lib.hid (HCZB.out hrest)
 have HZ0 := Lib.hid (HZ0'.out hrest)
 clear hrest HCZA HCZB HZ0'
 go_wp2_with fail
 refine (rSign_any rb 0 _ _ HR4.out.1).mono ?_
 rintro e3 w3' ⟨rfl, rfl⟩
 rw [HS.out]
 go_wp2_with fail
 clear hsg HS
 refine (rNewInt_any 1 _ (by omega) (by omega)).mono ?_
 rintro e4 w4 ⟨ob, rfl, hob, hi4, hb4⟩
 have HZ4 := Lib.hid ((IntK.zero (k := .u32) (s := 32) w3 _ objT_rint).below hb4)
 have HO4 := Lib.hid hi4
 have HB34 : Hid (Below w3.heap.size w3 w4) := Lib.hid ((below1 w3 _).trans (hb4.mono (below1 w3 _).size))
 have HQ4a := Lib.hid (HQ4.out.later HB34.out)
 clear hob hi4 hb4
 go_wp2_with fail
 refine (rAdd_any _ 0 qb 0 ob 0 _ _ _ HZ4.out.1 HQ4a.out.1 HO4.out (rln_of_bl (Nat.le_trans HLQ.out (by decide))) (by decide)).mono ?_
 rintro e5 w5 ⟨rfl, hi5, hm5⟩
 have HB35 : Hid (Below w3.heap.size w3 w5) := Lib.hid (hm5.below HB34.out (Nat.le_refl _) HB34.out.size)
 have HG5 : Hid (ROwn1 w w5 w3.heap.size (q + 1)) := Lib.hid ⟨hi5, HB3.out.size⟩
 have HQ5 := Lib.hid (HQ4.out.later HB35.out)
 have HR5 := Lib.hid (HR4.out.later HB35.out)
 have HB5 := Lib.hid (HB3.out.trans (HB35.out.mono HB3.out.size))
 clear hi5 hm5 HZ4 HO4 HB34 HB35 HQ4 HQ4a HR4 HB3
 generalize w3.heap.size = gb at *
 go_wp2_with fail
 refine (rNewInt_any 1 _ (by omega) (by omega)).mono ?_
 rintro e4 w4 ⟨ob, rfl, hob, hi4, hb4⟩
 have HZ4 := Lib.hid ((IntK.zero (k := .u32) (s := 32) w5 _ objT_rint).below hb4)
 have HO4 := Lib.hid hi4
 have HB34 : Hid (Below w5.heap.size w5 w4) := Lib.hid ((below1 w5 _).trans (hb4.mono (below1 w5 _).size))
 clear hob hi4 hb4
 go_wp2_with fail
 refine (rLsh_at _ 0 ob 0 (d - 1) _ 1 _ HZ4.out.1 HO4.out (by decide) (by omega) HDM.out).mono ?_
 rintro e6 w6 ⟨rfl, hi6, hm6⟩
 rw [HPH.out] at hi6
 have HB35 : Hid (Below w5.heap.size w5 w6) := Lib.hid (hm6.below HB34.out (Nat.le_refl _) HB34.out.size)
 have HH6 := Lib.hid hi6
 have HG6 := Lib.hid (HG5.out.later HB35.out)
 have HQ6 := Lib.hid (HQ5.out.later HB35.out)
 have HR6 := Lib.hid (HR5.out.later HB35.out)
 have HB6 := Lib.hid (HB5.out.trans (HB35.out.mono HB5.out.size))
 clear hi6 hm6 HZ4 HO4 HB34 HB35 HQ5 HR5 HB5 HG5
 generalize w5.heap.size = hb at *
 go_wp2_with fail
 refine (rCmp_any rb 0 hb 0 r P _ HR6.out.1 HH6.out).mono ?_
 rintro e6 wd ⟨rfl, nd, rfl⟩
 have HQ := Lib.hid (HQ6.out.later (drewN_below w6 nd))
 have HG := Lib.hid (HG6.out.later (drewN_below w6 nd))
 have HB := Lib.hid (HB6.out.trans ((drewN_below w6 nd).mono HB6.out.size))
 have HX6 := Lib.hid (HX.out.below HB.out)
 generalize w6.drewN nd = w8 at HQ HG HB HX6 ⊢
 clear HQ6 HR6 HB6 HH6 HG6
 generalize cmpZ (r : Int) (P : Int) = h0 at HCC ⊢
 rcases hmode with rfl | rfl | rfl | rfl | rfl
 ·rcases HCC.out with ⟨rfl, h'⟩ | ⟨rfl, h'⟩ | ⟨rfl, h'⟩
  ·have HUB : Hid (rupB z q r P 0 = true) := Lib.hid (by unfold rupB; rw [if_pos rfl, decide_eq_true h']; rfl)
   clear h'
   have HU : Hid (nz = q + 1) := Lib.hid (by rw [HCZ.out, HUB.out]; simp)
   go_wp2
   go_ret
   exact ⟨gb, rfl, HG.out.2, by rw [HU.out]; exact HG.out.1, HB.out⟩
  ·by_cases hq : q % 2 = 1
   ·have HBT : Hid (q % 2 = 1) := Lib.hid hq
    have HUB : Hid (rupB z q r P 0 = true) := Lib.hid (by unfold rupB; rw [if_pos rfl, decide_eq_true h', decide_eq_true hq]; simp)
    clear h' hq
    have HU : Hid (nz = q + 1) := Lib.hid (by rw [HCZ.out, HUB.out]; simp)
    go_wp2_with fail
    refine (rBit_any qb 0 _ _ HQ.out.1 (rln_of_bl (Nat.le_trans HLQ.out (by decide)))).mono ?_
    rintro e7 w7 ⟨rfl, hb7⟩
    replace HQ := Lib.hid (HQ.out.later hb7)
    replace HG := Lib.hid (HG.out.later hb7)
    replace HB := Lib.hid (HB.out.trans (hb7.mono HB.out.size))
    clear hb7
    rw [HBT.out]
    go_wp2
    go_ret
    exact ⟨gb, rfl, HG.out.2, by rw [HU.out]; exact HG.out.1, HB.out⟩
   ·have HBT : Hid (q % 2 = 0) := Lib.hid (by omega)
    have HUB : Hid (rupB z q r P 0 = false) := Lib.hid (by unfold rupB; rw [if_pos rfl, decide_eq_false hq, decide_eq_false (by omega)]; simp)
    clear h' hq
    have HU : Hid (nz = q) := Lib.hid (by rw [HCZ.out, HUB.out]; simp)
    go_wp2_with fail
    refine (rBit_any qb 0 _ _ HQ.out.1 (rln_of_bl (Nat.le_trans HLQ.out (by decide)))).mono ?_
    rintro e7 w7 ⟨rfl, hb7⟩
    replace HQ := Lib.hid (HQ.out.later hb7)
    replace HG := Lib.hid (HG.out.later hb7)
    replace HB := Lib.hid (HB.out.trans (hb7.mono HB.out.size))
    clear hb7
    rw [HBT.out]
    go_wp2
    go_ret
    exact ⟨qb, rfl, HQ.out.2, by rw [HU.out]; exact HQ.out.1, HB.out⟩
  ·have HUB : Hid (rupB z q r P 0 = false) := Lib.hid (by unfold rupB; rw [if_pos rfl, decide_eq_false (by omega), decide_eq_false (by omega)]; rfl)
   clear h'
   have HU : Hid (nz = q) := Lib.hid (by rw [HCZ.out, HUB.out]; simp)
   go_wp2
   go_ret
   exact ⟨qb, rfl, HQ.out.2, by rw [HU.out]; exact HQ.out.1, HB.out⟩
 ·rcases HCC.out with ⟨rfl, h'⟩ | ⟨rfl, h'⟩ | ⟨rfl, h'⟩
  ·have HUB : Hid (rupB z q r P 1 = true) := Lib.hid (by unfold rupB; rw [if_neg (by decide), if_pos rfl, decide_eq_true h']; rfl)
   clear h'
   have HU : Hid (nz = q + 1) := Lib.hid (by rw [HCZ.out, HUB.out]; simp)
   go_wp2
   go_ret
   exact ⟨gb, rfl, HG.out.2, by rw [HU.out]; exact HG.out.1, HB.out⟩
  ·by_cases hq : 0 < z
   ·have HSZ : Hid (z.sign = 1) := Lib.hid (Int.sign_eq_one_of_pos hq)
    have HUB : Hid (rupB z q r P 1 = true) := Lib.hid (by unfold rupB; rw [if_neg (by decide), if_pos rfl, decide_eq_true h', decide_eq_true hq]; simp)
    clear h' hq
    have HU : Hid (nz = q + 1) := Lib.hid (by rw [HCZ.out, HUB.out]; simp)
    go_wp2_with fail
    refine (rSign_any b 0 _ _ HX6.out).mono ?_
    rintro e7 w7 ⟨rfl, rfl⟩
    rw [HSZ.out]
    go_wp2
    go_ret
    exact ⟨gb, rfl, HG.out.2, by rw [HU.out]; exact HG.out.1, HB.out⟩
   ·have HSZ : Hid (z.sign = -1) := Lib.hid (Int.sign_eq_neg_one_of_neg (by have := HZ0.out; omega))
    have HUB : Hid (rupB z q r P 1 = false) := Lib.hid (by unfold rupB; rw [if_neg (by decide), if_pos rfl, decide_eq_false hq, decide_eq_false (by omega)]; simp)
    clear h' hq
    have HU : Hid (nz = q) := Lib.hid (by rw [HCZ.out, HUB.out]; simp)
    go_wp2_with fail
    refine (rSign_any b 0 _ _ HX6.out).mono ?_
    rintro e7 w7 ⟨rfl, rfl⟩
    rw [HSZ.out]
    go_wp2
    go_ret
    exact ⟨qb, rfl, HQ.out.2, by rw [HU.out]; exact HQ.out.1, HB.out⟩
  ·have HUB : Hid (rupB z q r P 1 = false) := Lib.hid (by unfold rupB; rw [if_neg (by decide), if_pos rfl, decide_eq_false (by omega), decide_eq_false (by omega)]; rfl)
   clear h'
   have HU : Hid (nz = q) := Lib.hid (by rw [HCZ.out, HUB.out]; simp)
   go_wp2
   go_ret
   exact ⟨qb, rfl, HQ.out.2, by rw [HU.out]; exact HQ.out.1, HB.out⟩
 ·by_cases hq : z < 0
  ·have HSZ : Hid (z.sign = -1) := Lib.hid (Int.sign_eq_neg_one_of_neg hq)
   have HUB : Hid (rupB z q r P 2 = true) := Lib.hid (by unfold rupB; rw [if_neg (by decide), if_neg (by decide), if_pos rfl, decide_eq_true hq])
   clear hq
   have HU : Hid (nz = q + 1) := Lib.hid (by rw [HCZ.out, HUB.out]; simp)
   go_wp2_with fail
   refine (rSign_any b 0 _ _ HX6.out).mono ?_
   rintro e7 w7 ⟨rfl, rfl⟩
   rw [HSZ.out]
   go_wp2
   go_ret
   exact ⟨gb, rfl, HG.out.2, by rw [HU.out]; exact HG.out.1, HB.out⟩
  ·have HSZ : Hid (z.sign = 1) := Lib.hid (Int.sign_eq_one_of_pos (by have := HZ0.out; omega))
   have HUB : Hid (rupB z q r P 2 = false) := Lib.hid (by unfold rupB; rw [if_neg (by decide), if_neg (by decide), if_pos rfl, decide_eq_false hq])
   clear hq
   have HU : Hid (nz = q) := Lib.hid (by rw [HCZ.out, HUB.out]; simp)
   go_wp2_with fail
   refine (rSign_any b 0 _ _ HX6.out).mono ?_
   rintro e7 w7 ⟨rfl, rfl⟩
   rw [HSZ.out]
   go_wp2
   go_ret
   exact ⟨qb, rfl, HQ.out.2, by rw [HU.out]; exact HQ.out.1, HB.out⟩
 ·have HUB : Hid (rupB z q r P 3 = true) := Lib.hid (by unfold rupB; rfl)
  have HU : Hid (nz = q + 1) := Lib.hid (by rw [HCZ.out, HUB.out]; simp)
  go_wp2
  go_ret
  exact ⟨gb, rfl, HG.out.2, by rw [HU.out]; exact HG.out.1, HB.out⟩
 ·have HUB : Hid (rupB z q r P 4 = false) := Lib.hid (by unfold rupB; rfl)
  have HU : Hid (nz = q) := Lib.hid (by rw [HCZ.out, HUB.out]; simp)
  go_wp2
  go_ret
  exact ⟨qb, rfl, HQ.out.2, by rw [HU.out]; exact HQ.out.1, HB.out⟩
theorem rNear_any (b : Nat) (z down mode : Int) (w : World) (hx : RInt w b z) (hl : bl z.natAbs ≤ 34359738368) (h1 : -1099511627776 ≤ down) (h2 : down ≤ 17179869184) (hmode : mode = 0 ∨ mode = 1 ∨ mode = 2 ∨ mode = 3 ∨ mode = 4) :
  Calls Tryz.prog 123 #[.pointer (some ⟨b, 0, none⟩), .int .i64 down, .int .i64 mode] w (News .u32 32 (nearZ z down mode) w) := by
 by_cases h : down ≤ 0
 ·exact rNear_shl b z down mode w hx hl h h1
 ·obtain ⟨d, rfl⟩ : ∃ d : Nat, down = d := ⟨down.toNat, by omega⟩
  exact rNear_shr b z d mode w hx hl (by omega) (by omega) hmode
end
section
open Go.RowKit
def RRounds (z e digits least mode : Int) (w : World) (en : Ending) (w' : World) : Prop :=
 ∃ p, en = .returned (.tuple #[.pointer (some ⟨p, 0, none⟩), .int .i64 (lastE z e digits least)]) ∧ RInt w' p (nearZ z (lastE z e digits least - e) mode) ∧ Below w.heap.size w w'
def RdB (w0 W : World) (p : Nat) (z e : Int) : Prop :=
 BlkT W w0.heap.size 48 #[.pointer (some ⟨p, 0, none⟩), .int .i64 e] ∧ RInt W p z ∧ Below w0.heap.size w0 W
theorem RdB.later {w0 W V : World} {p : Nat} {z e : Int} (h : RdB w0 W p z e) (hb : Below W.heap.size W V) : RdB w0 V p z e :=
 ⟨h.1.below hb, h.2.1.below hb, h.2.2.trans (hb.mono h.2.2.size)⟩
theorem RdB.cells {w0 W : World} {p : Nat} {z e : Int} (h : RdB w0 W p z e) : W.cell? ⟨w0.heap.size, 0, none⟩ = some (.pointer (some ⟨p, 0, none⟩)) ∧ W.cell? ⟨w0.heap.size, 1, none⟩ = some (.int .i64 e) := ⟨h.1.cell 0, h.1.cell 1⟩
set_option maxRecDepth 100000 in
set_option maxHeartbeats 1600000 in
theorem rround_any (b : Nat) (z e digits least mode : Int) (w : World) (hx : RInt w b z) (hl : bl z.natAbs ≤ 10000000) (he1 : -10000000 ≤ e) (he2 : e ≤ 10000000) (hd1 : 0 ≤ digits) (hd2 : digits ≤ 100) (hs1 : -2000 ≤ least) (hs2 : least ≤ 0)
  (hmode : mode = 0 ∨ mode = 1 ∨ mode = 2 ∨ mode = 3 ∨ mode = 4) (hT : Tab32 w) (hTs : 2 < w.heap.size) :
  Calls Tryz.prog 80 #[ExV b e, .int .i64 digits, .int .i64 least, .int .i64 mode] w (RRounds (hvZ z) (nrE z e) digits least mode w) := by
 have HX := Lib.hid hx
 have HT := Lib.hid hT
 have HTs := Lib.hid hTs
 have HL : Hid (bl z.natAbs ≤ 68719476736) := Lib.hid (Nat.le_trans hl (by decide))
 have hblz : bl (hvZ z).natAbs ≤ 10000000 := Nat.le_trans (bl_mono hvZ_natAbs_le) hl
 have hE1 : -20000000 ≤ nrE z e := by unfold nrE hvE; split <;> omega
 have hE2 : nrE z e ≤ 20000000 := by
  have := tzb_le (N := z.natAbs)
  unfold nrE hvE; split <;> omega
 have HE : Hid (-1099511627776 ≤ e ∧ e ≤ 1099511627776) := Lib.hid ⟨by omega, by omega⟩
 have HOD := Lib.hid fun W h hT hTs => rOdd_any b z e W h HL.out HE.out.1 HE.out.2 hT hTs
 generalize hvZ z = z' at *
 generalize nrE z e = e' at *
 have HC : Hid (∀ (p : Nat) (W : World), RInt W p z' → Calls Tryz.prog 123 #[.pointer (some ⟨p, 0, none⟩), .int .i64 (lastE z' e' digits least - e'), .int .i64 mode] W (News .u32 32 (nearZ z' (lastE z' e' digits least - e') mode) W)) := by
  refine Lib.hid fun p W h => rNear_any p _ _ _ W h (Nat.le_trans hblz (by decide)) ?_ ?_ hmode
  ·unfold lastE; omega
  ·unfold lastE; omega
 unfold RRounds
 obtain ⟨last, hlast⟩ : ∃ last, lastE z' e' digits least = last := ⟨_, rfl⟩
 have hmax : max least (e' + (bl z'.natAbs : Int) - digits) = last := by rw [Int.max_comm]; exact hlast
 rw [hlast] at HC ⊢
 obtain ⟨q, hq⟩ : ∃ q, bl z'.natAbs = q := ⟨_, rfl⟩
 rw [hq] at hmax
 have HBL := Lib.hid hq
 have hb1 : -60000000 ≤ last := by omega
 have hb2 : last ≤ 60000000 := by omega
 have hw1 : IntKind.i64.wrap (e' + (q : Int)) = e' + q := IntWalk.i64_in _ (by omega)
 have hw2 : IntKind.i64.wrap (e' + (q : Int) - digits) = e' + q - digits := IntWalk.i64_in _ (by omega)
 have hw3 : IntKind.i64.wrap (last - e') = last - e' := IntWalk.i64_in _ (by omega)
 have HM := Lib.hid hmax
 have HW := Lib.hid (And.intro hw1 (And.intro hw2 hw3))
 clear hx hl hmax hq hlast hw1 hw2 hw3 hmode hT hTs hblz hE1 hE2 HL HE
 generalize nearZ z' (last - e') mode = R at *
 unfold ExV
 go_enter Tryz.func80, Tryz.ntmps80
 go_wp2_with fail
 refine (HOD.out _ (HX.out.below (below1 _ _)) (HT.out.below HTs.out (below1 _ _)) (Nat.lt_of_lt_of_le HTs.out (below1 _ _).size)).mono ?_
 rintro e1 W ⟨p, rfl, hp, hi, hb⟩
 have HP : Hid (RdB w ((W.setCell ⟨w.heap.size, 0, none⟩ (.pointer (some ⟨p, 0, none⟩))).setCell ⟨w.heap.size, 1, none⟩ (.int .i64 e')) p z' e') := by
  have k1 := BlkT.new w #[.pointer (some ⟨b, 0, none⟩), .int .i64 e] 48
  have k3 := k1.below hb
  have hpp : w.heap.size < p := by simp at hp; omega
  refine Lib.hid ⟨(k3.set _).set _, (hi.setOther k3 objT_rexact (by omega) _).setOther (k3.set _) objT_rexact (by omega) _, ?_⟩
  exact (((below1 w _).trans (hb.mono (by simp))).setCell (Nat.le_refl _) _).setCell (Nat.le_refl _) _
 have HWB : Hid (BlkT W w.heap.size 48 #[.pointer (some ⟨b, 0, none⟩), .int .i64 e]) := Lib.hid (BlkT.below (BlkT.new w _ _) hb)
 obtain ⟨x0, x1, x2, x3⟩ := HWB.out.cells2
 clear hp hi hb HOD
 unfold ExV
 go_wp2_with fail
 refine wp_region_pl (fun w' : World => w'.cell? ⟨w.heap.size, 0, none⟩ = some (.pointer (some ⟨p, 0, none⟩)) ∧ w'.cell? ⟨w.heap.size, 1, none⟩ = some (.int .i64 e')) 9 (.take 0 (.take 1 (.take 2 (.take 3 (.take 4 (.take 7 (.run 5 (.take 6 (.take 8 .nil))))))))) (by kernel_rfl) (by kernel_rfl) ?_
 generalize hV : (W.setCell ⟨w.heap.size, 0, none⟩ (.pointer (some ⟨p, 0, none⟩))).setCell ⟨w.heap.size, 1, none⟩ (.int .i64 e') = V at HP ⊢
 clear hV x0 x1 x2 x3 HWB
 have HP2 := Lib.hid (HP.out.later (drew_below V))
 clear HP
 generalize V.drew = V2 at HP2 ⊢
 have hS : (fun w' : World => w'.cell? ⟨w.heap.size, 0, none⟩ = some (.pointer (some ⟨p, 0, none⟩)) ∧ w'.cell? ⟨w.heap.size, 1, none⟩ = some (.int .i64 e')) V2 := HP2.out.cells
 repeat (refine wpPl_take (v := ?_) rfl (fun _ _ _ h => h) rfl (fun w' hSw => ?_) hS ?_; rotate_left; focus (go_simp; with_reducible rfl); try simp only [Act.put, setL])
 refine wpPl_run rfl fun K' hK => ?_
 go_simp
 refine (rBitLen_any p 0 z' _ HP2.out.2.1).mono ?_
 rintro e2 w2 ⟨rfl, hb2⟩
 rw [HBL.out]
 have HP3 := Lib.hid (HP2.out.later hb2)
 clear hb2 hS HP2
 have hS : (fun w' : World => w'.cell? ⟨w.heap.size, 0, none⟩ = some (.pointer (some ⟨p, 0, none⟩)) ∧ w'.cell? ⟨w.heap.size, 1, none⟩ = some (.int .i64 e')) w2 := HP3.out.cells
 refine hK _ _ hS ?_
 clear hK K'
 have hw1 := HW.out.1
 have hw2 := HW.out.2.1
 have hmax := HM.out
 repeat (refine wpPl_take (v := ?_) rfl (fun _ _ _ h => h) rfl (fun w' hSw => ?_) hS ?_; rotate_left; focus (go_simp; with_reducible rfl); try simp only [Act.put, setL])
 clear hS
 refine wpPl_nil ?_
 simp only [drL]
 obtain ⟨x0, x1⟩ := HP3.out.cells
 have hw3 := HW.out.2.2
 go_wp2_with fail
 refine (HC.out p _ HP3.out.2.1).mono ?_
 rintro e4 w4 ⟨p2, rfl, hp2, hi4, hb4⟩
 have HI := Lib.hid hi4
 have HB := Lib.hid (HP3.out.2.2.trans (hb4.mono HP3.out.2.2.size))
 clear hi4 hb4 hp2 x0 x1
 go_wp2
 go_ret2
 exact ⟨p2, rfl, HI.out, HB.out⟩
end
section
open Go.RowKit
theorem and_sign_val {b : Nat} (h : b < 18446744073709551616) : bits .and .u64 (b : Int) (kSign : Int) = (((if sgnB b then kSign else 0) : Nat) : Int) := by
 have h0 := bits_and_u64_nat b kSign h (by decide)
 rw [h0]
 congr 1
 have h1 : b &&& kSign = (b.testBit 63).toNat * 2 ^ 63 := by
  apply Nat.eq_of_testBit_eq
  intro i
  rw [Nat.testBit_and, show kSign = 2 ^ 63 from rfl, Nat.testBit_two_pow]
  by_cases hi : 63 = i
  ·subst hi
   cases b.testBit 63 <;> decide
  ·cases b.testBit 63
   ·simp [hi]
   ·rw [Bool.toNat_true, Nat.one_mul, Nat.testBit_two_pow]; simp [hi]
 rw [h1, Nat.testBit_eq_decide_div_mod_eq]
 unfold sgnB
 by_cases h2 : kSign ≤ b
 ·have : b / 2 ^ 63 % 2 = 1 := by unfold kSign at h2; omega
  simp [this, h2]; rfl
 ·have : b / 2 ^ 63 % 2 = 0 := by unfold kSign at h2; omega
  simp [this, h2]
theorem or_sign_val {x : Nat} (hx : x < kSign) (s : Bool) : bits .or .u64 (x : Int) (((if s then kSign else 0) : Nat) : Int) = (((if s then kSign else 0) + x : Nat) : Int) := by
 cases s
 ·have h0 := bits_or_u64_nat x 0 (Nat.lt_trans hx (by decide)) (by decide)
  simp only [Bool.false_eq_true, if_false, Nat.zero_add]
  rw [h0, Nat.or_zero]
 ·simp only [if_true]
  exact join_sign hx
set_option maxRecDepth 100000 in
set_option maxHeartbeats 400000 in
theorem copysign_any (x s : Nat) (w : World) (hx : x < 18446744073709551616) (hs : s < 18446744073709551616) :
  Calls Tryz.prog 14 #[.float .f64 x, .float .f64 s] w (Gives (.float .f64 (cpB (sgnB s) x)) w) := by
 have hp : x % kSign < kSign := Nat.mod_lt _ (by decide)
 have h1 := andNot_sign hx
 have h2 := and_sign_val hs
 have h3 := or_sign_val hp (sgnB s)
 have h4 := fbits_eq x
 have h5 := fbits_eq s
 have h6 := ffrom_eq (cpB (sgnB s) x)
 have HR : Hid ((if sgnB s then kSign else 0) + x % kSign = cpB (sgnB s) x) := Lib.hid rfl
 rw [HR.out] at h3
 generalize cpB (sgnB s) x = R at *
 generalize (if sgnB s then kSign else 0) = k at *
 generalize x % kSign = m at *
 clear hx hs HR hp
 rw [show ((kSign : Nat) : Int) = 9223372036854775808 from rfl] at h1 h2
 go_enter Tryz.func14, Tryz.ntmps14
 go_wp2
 go_ret
 exact ⟨rfl, Below.refl _ _⟩
set_option maxRecDepth 100000 in
set_option maxHeartbeats 400000 in
theorem abs_any (x : Nat) (w : World) (hx : x < 18446744073709551616) :
  Calls Tryz.prog 23 #[.float .f64 x] w (Gives (.float .f64 (x % kSign)) w) := by
 have h1 := andNot_sign hx
 have h4 := fbits_eq x
 have h6 := ffrom_eq (x % kSign)
 generalize x % kSign = m at *
 clear hx
 rw [show ((kSign : Nat) : Int) = 9223372036854775808 from rfl] at h1
 go_enter Tryz.func23, Tryz.ntmps23
 go_wp2
 go_ret
 exact ⟨rfl, Below.refl _ _⟩
theorem inf_test {x : Nat} (hf : x % kSign ≤ kInf) : (F6.order (x % kSign) 9218868437227405311 == some Ordering.gt) = decide (x % kSign = kInf) := by
 have hk := kSign_big
 have hm : x % kSign % kSign = x % kSign := Nat.mod_mod _ _
 have hl : x % kSign < kSign := Nat.mod_lt _ (by decide)
 have hk2 : kSign < 18446744073709551616 := by decide
 rw [order_ky (x := x % kSign) (y := 9218868437227405311) (by omega) (by decide) (by rw [hm]; exact hf) (by decide)]
 unfold ky
 rw [if_pos hl, if_pos (by decide)]
 have hi : kInf = 9218868437227405312 := rfl
 by_cases h : x % kSign = kInf
 ·rw [decide_eq_true h, h]; decide
 ·rw [decide_eq_false h]
  rcases Nat.lt_or_ge (x % kSign) 9218868437227405311 with h1 | h1
  ·rw [Int.compare_eq_lt.2 (by omega)]; rfl
  ·rw [Int.compare_eq_eq.2 (by omega)]; rfl
set_option maxRecDepth 100000 in
set_option maxHeartbeats 400000 in
theorem isInf_any (x : Nat) (w : World) (hx : x < 18446744073709551616) (hf : x % kSign ≤ kInf) :
  Calls Tryz.prog 116 #[.float .f64 x, .int .i64 0] w (Gives (.bool (decide (x % kSign = kInf))) w) := by
 have HA := Lib.hid fun w => abs_any x w hx
 have hT := inf_test hf
 generalize decide (x % kSign = kInf) = R at *
 generalize x % kSign = m at *
 clear hx hf
 go_enter Tryz.func116, Tryz.ntmps116
 go_wp2_with fail
 refine (HA.out _).mono ?_
 rintro e1 w1 ⟨rfl, hb⟩
 have HB := Lib.hid hb
 clear hb
 go_wp2
 go_ret
 exact ⟨rfl, HB.out⟩
set_option maxRecDepth 100000 in
set_option maxHeartbeats 400000 in
theorem infNeg_any (w : World) :
  Calls Tryz.prog 59 #[.int .i64 (-1)] w (Gives (.float .f64 18442240474082181120) w) := by
 have h1 : ∀ w, (callFunc 11 #[.int .u64 18442240474082181120]).run Tryz.prog w = .ok (.value (.float .f64 18442240474082181120)) w := ffrom_eq 18442240474082181120
 go_enter Tryz.func59, Tryz.ntmps59
 go_wp2
 go_ret
 exact ⟨rfl, Below.refl _ _⟩
end
section
open Go.RowKit
theorem num_facts {n k : Int} (hz : n ≠ 0) (hb : bl n.natAbs ≤ 53) (he : -1074 ≤ k) (hu : k + bl n.natAbs ≤ 1024) :
  (rndB n k 0 < 18446744073709551616 ∧ rndB n k 0 % kSign ≤ kInf) ∧ decide (rndB n k 0 % kSign = kInf) = false := by
 obtain ⟨h1, h2, h3, -⟩ := rnd_fin hz hb he hu
 obtain ⟨g1, -, -⟩ := rnd_exact (M := 1074) (by omega) hz hb he hu
 exact ⟨⟨h1, by omega⟩, decide_eq_false (by omega)⟩
set_option maxRecDepth 100000 in
set_option maxHeartbeats 800000 in
theorem rnumber_zero (p : Nat) (e : Int) (w : World) (hx : RInt w p 0) :
  Calls Tryz.prog 82 #[.pointer (some ⟨p, 0, none⟩), .int .i64 e] w (Gives (.float .f64 0) w) := by
 have HX := Lib.hid hx
 have h0 : floatOfInt .f64 0 = 0 := by decide
 have h1 : (F6.order 0 0 == some Ordering.eq) = true := by decide
 clear hx
 go_enter Tryz.func82, Tryz.ntmps82
 go_wp2_with fail
 refine (rInt64_any p 0 0 _ HX.out (by decide)).mono ?_
 rintro e1 w1 ⟨rfl, hb⟩
 have HB := Lib.hid hb
 clear hb
 go_wp2
 go_loopw [1, 5] (fun i x wr => i = .int .i64 e ∧ x = .float .f64 0 ∧ wr = w1) (fun _ _ _ => 0)
 case atStart => exact ⟨rfl, rfl, rfl⟩
 case round =>
  obtain ⟨rfl, rfl, rfl⟩ := hrel
  have fin : ∀ (P : Prop), (decide (0 < e) = true ∨ decide (0 < e) = false → P) → P := fun P h => h (by cases decide (0 < e) <;> simp)
  apply fin; clear fin
  rintro (hd | hd)
  ·go_wp2
   go_loopw [1, 5] (fun i x w' => i = .int .i64 e ∧ x = .float .f64 0 ∧ w' = wr) (fun _ _ _ => 0)
   case atStart => exact ⟨rfl, rfl, rfl⟩
   case round =>
    obtain ⟨rfl, rfl, rfl⟩ := hrel
    by_cases hn : e < 0
    ·have hm : decide (e < 0) = true := decide_eq_true hn
     clear hn
     go_wp2
     go_ret
     exact ⟨rfl, HB.out⟩
    ·have hm : decide (e < 0) = false := decide_eq_false hn
     clear hn
     go_wp2
     go_ret
     exact ⟨rfl, HB.out⟩
  ·go_wp2
   go_loopw [1, 5] (fun i x w' => i = .int .i64 e ∧ x = .float .f64 0 ∧ w' = wr) (fun _ _ _ => 0)
   case atStart => exact ⟨rfl, rfl, rfl⟩
   case round =>
    obtain ⟨rfl, rfl, rfl⟩ := hrel
    by_cases hn : e < 0
    ·have hm : decide (e < 0) = true := decide_eq_true hn
     clear hn
     go_wp2
     go_ret
     exact ⟨rfl, HB.out⟩
    ·have hm : decide (e < 0) = false := decide_eq_false hn
     clear hn
     go_wp2
     go_ret
     exact ⟨rfl, HB.out⟩
set_option maxRecDepth 100000 in
set_option maxHeartbeats 1600000 in
theorem rnumber_ne (p : Nat) (n e : Int) (w : World) (hx : RInt w p n) (h0 : n ≠ 0) (hb : bl n.natAbs ≤ 53) (he : -1074 ≤ e) (hu : e + bl n.natAbs ≤ 1024) :
  Calls Tryz.prog 82 #[.pointer (some ⟨p, 0, none⟩), .int .i64 e] w (Gives (.float .f64 (rndB n e 0)) w) := by
 have HX := Lib.hid hx
 have hi : floatOfInt .f64 n = rndB n 0 0 := ofInt_fin h0
 have HL : Hid (n.natAbs < 9223372036854775808) := Lib.hid (Nat.lt_of_lt_of_le (lt_of_bl hb) (by decide))
 have HNF : Hid (∀ k : Int, (0 ≤ k → k ≤ e → (rndB n k 0 < 18446744073709551616 ∧ rndB n k 0 % kSign ≤ kInf) ∧ decide (rndB n k 0 % kSign = kInf) = false ∧ (F6.order (rndB n k 0) 0 != some Ordering.eq) = true ∧ F6.mul (rndB n k 0) 4611686018427387904 = some (rndB n (k + 1) 0)) ∧
   (k ≤ 0 → e ≤ k → (F6.order (rndB n k 0) 0 != some Ordering.eq) = true ∧ F6.div (rndB n k 0) 4611686018427387904 = some (rndB n (k - 1) 0))) := by
  refine Lib.hid fun k => ⟨fun h1 h2 => ?_, fun h1 h2 => ?_⟩
  ·obtain ⟨g1, g2⟩ := num_facts (k := k) h0 hb (by omega) (by omega)
   exact ⟨g1, g2, by rw [bne, rnd_ne0 h0 hb (by omega) (by omega)]; rfl, dbl_fin h0 hb (by omega) (by omega)⟩
  ·exact ⟨by rw [bne, rnd_ne0 h0 hb (by omega) (by omega)]; rfl, half_fin h0 hb (by omega) (by omega)⟩
 have he2 : e ≤ 1024 := by omega
 clear hx hb h0 hu
 go_enter Tryz.func82, Tryz.ntmps82
 go_wp2_with fail
 refine (rInt64_any p 0 n _ HX.out HL.out).mono ?_
 rintro e1 w1 ⟨rfl, hb⟩
 have HB := Lib.hid hb
 clear hb
 go_wp2
 go_loopw [1, 5] (fun i x wr => ∃ f : Int, i = .int .i64 f ∧ x = .float .f64 (rndB n (e - f) 0) ∧ Hid (f ≤ e ∧ (0 ≤ f ∨ f = e)) ∧ Hid (Below w.heap.size w wr)) (fun i _ _ => (intOf i).toNat)
 case atStart => exact ⟨e, rfl, by rw [Int.sub_self], Lib.hid ⟨Int.le_refl _, .inr rfl⟩, HB⟩
 case round =>
  obtain ⟨f, rfl, rfl, HF, HB1⟩ := hrel
  by_cases hp : 0 < f
  ·have hd : decide (0 < f) = true := decide_eq_true hp
   have hf1 : f ≤ 1024 := by have := HF.out; omega
   have hw : IntKind.i64.wrap (f - 1) = f - 1 := IntWalk.i64_in _ (by omega)
   have HP := Lib.hid hp
   have hk0 : 0 ≤ e - f := by have := HF.out; omega
   have hk1 : e - f ≤ e := by omega
   obtain ⟨HI, HII, ho, hmm⟩ := (HNF.out (e - f)).1 hk0 hk1
   have hmul : ∀ t w, (binOp .mul t (.float .f64 (rndB n (e - f) 0)) (.float .f64 4611686018427387904)).run Tryz.prog w = .ok (.float .f64 (rndB n (e - f + 1) 0)) w := fun t w => run_float_arith w .mul t .f64 _ _ _ hmm
   have HN : Hid (rndB n (e - f + 1) 0 = rndB n (e - (f - 1)) 0) := Lib.hid (by congr 1; omega)
   rw [HN.out] at hmul
   replace HI := Lib.hid HI
   replace HII := Lib.hid HII
   clear hmm hp hk0 hk1
   generalize rndB n (e - (f - 1)) 0 = Y at *
   generalize rndB n (e - f) 0 = X at *
   go_wp2_with fail
   refine (isInf_any X _ HI.out.1 HI.out.2).mono ?_
   rintro e2 w2 ⟨rfl, hb2⟩
   rw [HII.out]
   have HB2 := Lib.hid (HB1.out.trans (hb2.mono HB1.out.size))
   clear hb2
   go_wp2
   go_roundw
   case rel => exact ⟨f - 1, rfl, by rw [← HN.out, show e - f + 1 = e - (f - 1) by omega], Lib.hid (by have := HF.out; have := HP.out; omega), HB2⟩
   case measure => have := HP.out; simp [intOf]; omega
  ·have hd : decide (0 < f) = false := decide_eq_false hp
   have HG : Hid ((0 ≤ e ∧ f = 0) ∨ (e < 0 ∧ e ≤ f ∧ f ≤ 0)) := Lib.hid (by have := HF.out; omega)
   clear hp
   go_wp2
   go_loopw [1, 5] (fun i x wr => ∃ g : Int, i = .int .i64 g ∧ x = .float .f64 (rndB n (e - g) 0) ∧ Hid ((0 ≤ e ∧ g = 0) ∨ (e < 0 ∧ e ≤ g ∧ g ≤ 0)) ∧ Hid (Below w.heap.size w wr)) (fun i _ _ => (- intOf i).toNat)
   case atStart => exact ⟨f, rfl, rfl, HG, HB1⟩
   case round =>
    obtain ⟨g, rfl, rfl, HG1, HB2⟩ := hrel
    by_cases hn : g < 0
    ·have hm : decide (g < 0) = true := decide_eq_true hn
     have hw : IntKind.i64.wrap (g + 1) = g + 1 := IntWalk.i64_in _ (by have := HG1.out; omega)
     have HP := Lib.hid hn
     obtain ⟨ho, hmm⟩ := (HNF.out (e - g)).2 (by have := HG1.out; omega) (by omega)
     have hdiv : ∀ t w, (binOp .quo t (.float .f64 (rndB n (e - g) 0)) (.float .f64 4611686018427387904)).run Tryz.prog w = .ok (.float .f64 (rndB n (e - g - 1) 0)) w := fun t w => run_float_arith w .quo t .f64 _ _ _ hmm
     have HN : Hid (rndB n (e - g - 1) 0 = rndB n (e - (g + 1)) 0) := Lib.hid (by congr 1; omega)
     rw [HN.out] at hdiv
     clear hmm hn
     go_wp2
     go_roundw
     case rel => exact ⟨g + 1, rfl, rfl, Lib.hid (by have := HG1.out; have := HP.out; omega), HB2⟩
     case measure => have := HP.out; simp [intOf]; omega
    ·have hm : decide (g < 0) = false := decide_eq_false hn
     obtain rfl : g = 0 := by have := HG1.out; omega
     clear hn
     go_wp2
     go_ret
     exact ⟨rfl, HB2.out⟩
theorem rnumber_any (p : Nat) (n e : Int) (w : World) (hx : RInt w p n) (hb : bl n.natAbs ≤ 53) (he : -1074 ≤ e) (hu : e + bl n.natAbs ≤ 1024) :
  Calls Tryz.prog 82 #[.pointer (some ⟨p, 0, none⟩), .int .i64 e] w (Gives (.float .f64 (numB n e)) w) := by
 unfold numB
 by_cases h0 : n = 0
 ·subst h0; rw [if_pos rfl]; exact rnumber_zero p e w hx
 ·rw [if_neg h0]; exact rnumber_ne p n e w hx h0 hb he hu
end
section
open Go.RowKit
theorem rnd_odd {z e digits least mode : Int} (hz : z ≠ 0) : lastE (hvZ z) (nrE z e) digits least = lastE z e digits least ∧
  nearZ (hvZ z) (lastE (hvZ z) (nrE z e) digits least - nrE z e) mode = nearZ z (lastE z e digits least - e) mode := by
 have h1 : 0 ≤ e + (e.natAbs : Int) := by omega
 obtain ⟨a1, a2, a3, -⟩ := round_val (digits := digits) (least := least) (mode := mode) (hvZ_ne hz) (nrE_ge (M := (e.natAbs : Int)) (by omega) h1) h1 (sc_nr h1)
 refine ⟨a1, ?_⟩
 rw [near_last, near_last, a2]
 by_cases h : z < 0
 ·rw [if_pos h, if_pos (hvZ_neg_iff.2 h)]
 ·rw [if_neg h, if_neg (fun h2 => h (hvZ_neg_iff.1 h2))]
theorem near_abs {z e digits least mode : Int} : (nearZ z (lastE z e digits least - e) mode).natAbs = roundZ z e digits least mode := by
 rw [near_last]; split <;> omega
theorem fit_odd {z e mode : Int} (hfit : lastE z e 53 (-1074) + bl (roundZ z e 53 (-1074) mode) ≤ 1024) :
  bl (hvZ (nearZ z (lastE z e 53 (-1074) - e) mode)).natAbs ≤ 53 ∧ -1074 ≤ nrE (nearZ z (lastE z e 53 (-1074) - e) mode) (lastE z e 53 (-1074)) ∧
  nrE (nearZ z (lastE z e 53 (-1074) - e) mode) (lastE z e 53 (-1074)) + bl (hvZ (nearZ z (lastE z e 53 (-1074) - e) mode)).natAbs ≤ 1024 := by
 have h1 := roundZ_le z e 53 (-1074) mode 53 rfl
 have h2 : -1074 ≤ lastE z e 53 (-1074) := by unfold lastE; omega
 have hna := near_abs (z := z) (e := e) (digits := 53) (least := -1074) (mode := mode)
 generalize nearZ z (lastE z e 53 (-1074) - e) mode = n at *
 generalize roundZ z e 53 (-1074) mode = m at *
 generalize lastE z e 53 (-1074) = last at *
 by_cases hn0 : n = 0
 ·subst hn0
  rw [hvZ_zero, show nrE 0 last = 0 from if_pos rfl]; decide
 have hE : 0 ≤ last + 1074 := by omega
 have hnr := nrE_ge (M := 1074) (z := n) (by omega) hE
 have hs := sc_nr (M := 1074) (z := n) (e := last) hE
 have hb := hvZ_ne hn0
 have habs := congrArg Int.natAbs hs
 unfold sc at habs
 rw [natAbs_shift, natAbs_shift, hna] at habs
 have hbe : bl (hvZ n).natAbs + (nrE n last + 1074).toNat = bl m + (last + 1074).toNat := by
  rw [← bl_mul_pow (by omega), ← bl_mul_pow (by omega), habs]
 have hb53 : bl (hvZ n).natAbs ≤ 53 := by
  have ho := hvZ_mod hn0
  have hle : (hvZ n).natAbs ≤ 2 ^ 53 := by
   have := hvZ_natAbs_le (z := n)
   omega
  exact bl_le_of_lt (by omega)
 omega
theorem numB_lt {n e : Int} (hb : bl n.natAbs ≤ 53) (he : -1074 ≤ e) (hu : e + bl n.natAbs ≤ 1024) : numB n e < 18446744073709551616 := by
 unfold numB
 by_cases h0 : n = 0
 ·rw [if_pos h0]; decide
 ·rw [if_neg h0]; exact (rnd_fin h0 hb he hu).1
theorem sign_float (z : Int) (hz : z ≠ 0) : floatOfInt .f64 z.sign < 18446744073709551616 ∧ sgnB (floatOfInt .f64 z.sign) = decide (z < 0) := by
 rcases Int.lt_trichotomy z 0 with h | h | h
 ·rw [Int.sign_eq_neg_one_of_neg h, decide_eq_true h]; decide
 ·exact absurd h hz
 ·rw [Int.sign_eq_one_of_pos h, decide_eq_false (by omega)]; decide
def rndX (z e mode : Int) : Nat := if z = 0 then 0 else rndB z e mode
set_option maxRecDepth 100000 in
set_option maxHeartbeats 800000 in
theorem rRound_zero (b : Nat) (e mode : Int) (w : World) (hx : RInt w b 0) :
  Calls Tryz.prog 30 #[ExV b e, .int .i64 mode] w (Gives (.float .f64 0) w) := by
 have HX := Lib.hid hx
 have HS0 : Hid ((0 : Int).sign = 0) := Lib.hid rfl
 clear hx
 unfold ExV
 go_enter Tryz.func30, Tryz.ntmps30
 go_wp2_with fail
 refine (rSign_any _ 0 0 _ (HX.out.below (below1 _ _))).mono ?_
 rintro e2 w2 ⟨rfl, rfl⟩
 rw [HS0.out]
 go_wp2
 go_ret
 exact ⟨rfl, below1 _ _⟩
set_option maxRecDepth 100000 in
set_option maxHeartbeats 1600000 in
theorem rRound_fit (b : Nat) (z e mode : Int) (w : World) (hx : RInt w b z) (hz : z ≠ 0) (hl : bl z.natAbs ≤ 10000000) (he1 : -10000000 ≤ e) (he2 : e ≤ 10000000) (hmode : mode = 0 ∨ mode = 1 ∨ mode = 2 ∨ mode = 3 ∨ mode = 4) (hT : Tab32 w) (hTs : 2 < w.heap.size)
  (hfit : lastE z e 53 (-1074) + bl (roundZ z e 53 (-1074) mode) ≤ 1024) :
  Calls Tryz.prog 30 #[ExV b e, .int .i64 mode] w (Gives (.float .f64 (rndB z e mode)) w) := by
 have HX := Lib.hid hx
 have HT := Lib.hid hT
 have HTs := Lib.hid hTs
 obtain ⟨hf1, hf2, hf3⟩ := fit_odd hfit
 have HRB := Lib.hid (rnd_back hz hfit)
 have HRD : Hid (∀ (W : World), RInt W b z → Tab32 W → 2 < W.heap.size → Calls Tryz.prog 80 #[ExV b e, .int .i64 53, .int .i64 (-1074), .int .i64 mode] W (RRounds (hvZ z) (nrE z e) 53 (-1074) mode W)) :=
  Lib.hid fun W h ht hts => rround_any b z e 53 (-1074) mode W h hl he1 he2 (by decide) (by decide) (by decide) (by decide) hmode ht hts
 unfold RRounds at HRD
 obtain ⟨r1, r2⟩ := rnd_odd (e := e) (digits := 53) (least := -1074) (mode := mode) hz
 rw [r2, r1] at HRD
 have hna := near_abs (z := z) (e := e) (digits := 53) (least := -1074) (mode := mode)
 have hmB := roundZ_le z e 53 (-1074) mode 53 rfl
 have hl1 : -1074 ≤ lastE z e 53 (-1074) := by unfold lastE; omega
 obtain ⟨s1, s2⟩ := sign_float z hz
 obtain ⟨sg, hsg, HSG⟩ : ∃ sg, (sg == 0) = false ∧ Hid (z.sign = sg) := ⟨z.sign, by have := sign_ne hz; simpa using this, Lib.hid rfl⟩
 rw [HSG.out] at s1 s2
 generalize nearZ z (lastE z e 53 (-1074) - e) mode = n at *
 generalize roundZ z e 53 (-1074) mode = m at *
 generalize lastE z e 53 (-1074) = last at *
 have HBM : Hid (bl n.natAbs = bl m) := Lib.hid (by rw [hna])
 have hblm : bl m ≤ 54 := Nat.le_trans (bl_mono hmB) (by rw [bl_two_pow]; omega)
 have hw1 : IntKind.i64.wrap ((bl m : Int) + last) = bl m + last := IntWalk.i64_in _ (by omega)
 have hcmp : decide ((1024 : Int) < (bl m : Int) + last) = false := by simp; omega
 have HNB := Lib.hid (numB_lt hf1 hf2 hf3)
 have HNU := Lib.hid fun p W h => rnumber_any p (hvZ n) (nrE n last) W h hf1 hf2 hf3
 have HOD := Lib.hid fun p W h ht hts => rOdd_any p n last W h (by rw [hna]; omega) (by omega) (by omega) ht hts
 rw [← s2] at HRB
 have HS1 := Lib.hid s1
 generalize rndB z e mode = R at *
 generalize hvZ n = n2 at *
 generalize nrE n last = e2 at *
 generalize numB n2 e2 = X at *
 generalize hS : floatOfInt .f64 sg = S at *
 generalize bl m = q at *
 clear hx hz hl hT hTs hfit hf1 hf2 hf3 r1 r2 s1 s2 hna hmB hl1 hblm hmode
 unfold ExV at *
 go_enter Tryz.func30, Tryz.ntmps30
 go_wp2_with fail
 refine (rSign_any _ 0 z _ (HX.out.below (below1 _ _))).mono ?_
 rintro e3 w3 ⟨rfl, rfl⟩
 rw [HSG.out]
 go_wp2_with fail
 refine (HRD.out _ (HX.out.below (below1 _ _)) (HT.out.below HTs.out (below1 _ _)) (Nat.lt_of_lt_of_le HTs.out (below1 _ _).size)).mono ?_
 rintro e4 w4 ⟨p, rfl, hi4, hb4⟩
 have HB4 := Lib.hid ((below1 w _).trans (hb4.mono (below1 w _).size))
 have HI4 := Lib.hid hi4
 clear hi4 hb4
 go_wp2_with fail
 refine (rBitLen_any p 0 n _ HI4.out).mono ?_
 rintro e5 w5 ⟨rfl, hb5⟩
 rw [HBM.out]
 have HB5 := Lib.hid (HB4.out.trans (hb5.mono HB4.out.size))
 have HI5 := Lib.hid (HI4.out.below hb5)
 clear hb5 HI4 HB4
 go_wp2_with fail
 refine (HOD.out p _ HI5.out (HT.out.below HTs.out HB5.out) (Nat.lt_of_lt_of_le HTs.out HB5.out.size)).mono ?_
 rintro e6 w6 ⟨p6, rfl, -, hi6, hb6⟩
 have HB6 := Lib.hid (HB5.out.trans (hb6.mono HB5.out.size))
 have HI6 := Lib.hid hi6
 clear hi6 hb6 HI5 HB5
 unfold ExV
 go_wp2_with fail
 refine (HNU.out p6 _ (HI6.out.below (below1 _ _))).mono ?_
 rintro e7 w7 ⟨rfl, hb7⟩
 have HB7 := Lib.hid ((HB6.out.alloc HB6.out.size _).trans (hb7.mono (HB6.out.alloc HB6.out.size _).size))
 clear hb7 HI6 HB6
 go_wp2_with fail
 refine (copysign_any X S _ HNB.out HS1.out).mono ?_
 rintro e8 w8 ⟨rfl, hb8⟩
 rw [HRB.out]
 have HB8 := Lib.hid (HB7.out.trans (hb8.mono HB7.out.size))
 clear hb8
 go_wp2
 go_ret
 exact ⟨rfl, HB8.out⟩
end
section
open Go.RowKit
set_option maxRecDepth 100000 in
set_option maxHeartbeats 3200000 in
theorem rRound_great (b : Nat) (z e mode : Int) (w : World) (hx : RInt w b z) (hz : z ≠ 0) (hl : bl z.natAbs ≤ 10000000) (he1 : -10000000 ≤ e) (he2 : e ≤ 10000000) (hmode : mode = 0 ∨ mode = 1 ∨ mode = 2 ∨ mode = 3 ∨ mode = 4) (hT : Tab32 w) (hTs : 2 < w.heap.size)
  (hfit : ¬ lastE z e 53 (-1074) + bl (roundZ z e 53 (-1074) mode) ≤ 1024) :
  Calls Tryz.prog 30 #[ExV b e, .int .i64 mode] w (Gives (.float .f64 (rndB z e mode)) w) := by
 have HX := Lib.hid hx
 have HT := Lib.hid hT
 have HTs := Lib.hid hTs
 have HRD : Hid (∀ (W : World), RInt W b z → Tab32 W → 2 < W.heap.size → Calls Tryz.prog 80 #[ExV b e, .int .i64 53, .int .i64 (-1074), .int .i64 mode] W (RRounds (hvZ z) (nrE z e) 53 (-1074) mode W)) :=
  Lib.hid fun W h ht hts => rround_any b z e 53 (-1074) mode W h hl he1 he2 (by decide) (by decide) (by decide) (by decide) hmode ht hts
 unfold RRounds at HRD
 obtain ⟨r1, r2⟩ := rnd_odd (e := e) (digits := 53) (least := -1074) (mode := mode) hz
 rw [r2, r1] at HRD
 have hna := near_abs (z := z) (e := e) (digits := 53) (least := -1074) (mode := mode)
 have hmB := roundZ_le z e 53 (-1074) mode 53 rfl
 have hl1 : -1074 ≤ lastE z e 53 (-1074) := by unfold lastE; omega
 have hl2 : lastE z e 53 (-1074) ≤ 30000000 := by unfold lastE; omega
 unfold rndB
 rw [if_neg hfit]
 generalize nearZ z (lastE z e 53 (-1074) - e) mode = n at *
 generalize roundZ z e 53 (-1074) mode = m at *
 generalize lastE z e 53 (-1074) = last at *
 have HBM : Hid (bl n.natAbs = bl m) := Lib.hid (by rw [hna])
 have hblm : bl m ≤ 54 := Nat.le_trans (bl_mono hmB) (by rw [bl_two_pow]; omega)
 have hw1 : IntKind.i64.wrap ((bl m : Int) + last) = bl m + last := IntWalk.i64_in _ (by omega)
 have hcmp : decide ((1024 : Int) < (bl m : Int) + last) = true := by simp; omega
 generalize bl m = q at *
 clear hx hl hT hTs hfit r1 r2 hna hmB hl1 hl2 hblm he1 he2
 unfold ExV at *
 rcases Int.lt_or_le z 0 with hneg | hneg
 ·have HSG : Hid (z.sign = -1) := Lib.hid (Int.sign_eq_neg_one_of_neg hneg)
  have hS : floatOfInt .f64 (-1) = 13830554455654793216 := by decide
  have HCP : Hid (cpB (sgnB 13830554455654793216) 9218868437227405311 = 18442240474082181119) := Lib.hid (by decide)
  rw [decide_eq_true hneg]
  clear hneg hz
  rcases hmode with rfl | rfl | rfl | rfl | rfl
  ·rw [show (if true = true then kSign else 0) + (if beyB true 0 = true then kInf - 1 else kInf) = 18442240474082181120 by decide]
   go_enter Tryz.func30, Tryz.ntmps30
   go_wp2_with fail
   refine (rSign_any _ 0 z _ (HX.out.below (below1 _ _))).mono ?_
   rintro e3 w3 ⟨rfl, rfl⟩
   rw [HSG.out]
   go_wp2_with fail
   refine (HRD.out _ (HX.out.below (below1 _ _)) (HT.out.below HTs.out (below1 _ _)) (Nat.lt_of_lt_of_le HTs.out (below1 _ _).size)).mono ?_
   rintro e4 w4 ⟨p, rfl, hi4, hb4⟩
   have HB4 := Lib.hid ((below1 w _).trans (hb4.mono (below1 w _).size))
   have HI4 := Lib.hid hi4
   clear hi4 hb4
   go_wp2_with fail
   refine (rBitLen_any p 0 n _ HI4.out).mono ?_
   rintro e5 w5 ⟨rfl, hb5⟩
   rw [HBM.out]
   have HB5 := Lib.hid (HB4.out.trans (hb5.mono HB4.out.size))
   clear hb5 HI4 HB4
   go_wp2_with fail
   refine (infNeg_any _).mono ?_
   rintro e8 w8 ⟨rfl, hb8⟩
   have HB8 := Lib.hid (HB5.out.trans (hb8.mono HB5.out.size))
   clear hb8
   go_wp2
   go_ret
   exact ⟨rfl, HB8.out⟩
  ·rw [show (if true = true then kSign else 0) + (if beyB true 1 = true then kInf - 1 else kInf) = 18442240474082181120 by decide]
   go_enter Tryz.func30, Tryz.ntmps30
   go_wp2_with fail
   refine (rSign_any _ 0 z _ (HX.out.below (below1 _ _))).mono ?_
   rintro e3 w3 ⟨rfl, rfl⟩
   rw [HSG.out]
   go_wp2_with fail
   refine (HRD.out _ (HX.out.below (below1 _ _)) (HT.out.below HTs.out (below1 _ _)) (Nat.lt_of_lt_of_le HTs.out (below1 _ _).size)).mono ?_
   rintro e4 w4 ⟨p, rfl, hi4, hb4⟩
   have HB4 := Lib.hid ((below1 w _).trans (hb4.mono (below1 w _).size))
   have HI4 := Lib.hid hi4
   clear hi4 hb4
   go_wp2_with fail
   refine (rBitLen_any p 0 n _ HI4.out).mono ?_
   rintro e5 w5 ⟨rfl, hb5⟩
   rw [HBM.out]
   have HB5 := Lib.hid (HB4.out.trans (hb5.mono HB4.out.size))
   clear hb5 HI4 HB4
   go_wp2_with fail
   refine (infNeg_any _).mono ?_
   rintro e8 w8 ⟨rfl, hb8⟩
   have HB8 := Lib.hid (HB5.out.trans (hb8.mono HB5.out.size))
   clear hb8
   go_wp2
   go_ret
   exact ⟨rfl, HB8.out⟩
  ·rw [show (if true = true then kSign else 0) + (if beyB true 2 = true then kInf - 1 else kInf) = 18442240474082181119 by decide]
   go_enter Tryz.func30, Tryz.ntmps30
   go_wp2_with fail
   refine (rSign_any _ 0 z _ (HX.out.below (below1 _ _))).mono ?_
   rintro e3 w3 ⟨rfl, rfl⟩
   rw [HSG.out]
   go_wp2_with fail
   refine (HRD.out _ (HX.out.below (below1 _ _)) (HT.out.below HTs.out (below1 _ _)) (Nat.lt_of_lt_of_le HTs.out (below1 _ _).size)).mono ?_
   rintro e4 w4 ⟨p, rfl, hi4, hb4⟩
   have HB4 := Lib.hid ((below1 w _).trans (hb4.mono (below1 w _).size))
   have HI4 := Lib.hid hi4
   clear hi4 hb4
   go_wp2_with fail
   refine (rBitLen_any p 0 n _ HI4.out).mono ?_
   rintro e5 w5 ⟨rfl, hb5⟩
   rw [HBM.out]
   have HB5 := Lib.hid (HB4.out.trans (hb5.mono HB4.out.size))
   clear hb5 HI4 HB4
   go_wp2_with fail
   refine (copysign_any 9218868437227405311 13830554455654793216 _ (by decide) (by decide)).mono ?_
   rintro e8 w8 ⟨rfl, hb8⟩
   rw [HCP.out]
   have HB8 := Lib.hid (HB5.out.trans (hb8.mono HB5.out.size))
   clear hb8
   go_wp2
   go_ret
   exact ⟨rfl, HB8.out⟩
  ·rw [show (if true = true then kSign else 0) + (if beyB true 3 = true then kInf - 1 else kInf) = 18442240474082181119 by decide]
   go_enter Tryz.func30, Tryz.ntmps30
   go_wp2_with fail
   refine (rSign_any _ 0 z _ (HX.out.below (below1 _ _))).mono ?_
   rintro e3 w3 ⟨rfl, rfl⟩
   rw [HSG.out]
   go_wp2_with fail
   refine (HRD.out _ (HX.out.below (below1 _ _)) (HT.out.below HTs.out (below1 _ _)) (Nat.lt_of_lt_of_le HTs.out (below1 _ _).size)).mono ?_
   rintro e4 w4 ⟨p, rfl, hi4, hb4⟩
   have HB4 := Lib.hid ((below1 w _).trans (hb4.mono (below1 w _).size))
   have HI4 := Lib.hid hi4
   clear hi4 hb4
   go_wp2_with fail
   refine (rBitLen_any p 0 n _ HI4.out).mono ?_
   rintro e5 w5 ⟨rfl, hb5⟩
   rw [HBM.out]
   have HB5 := Lib.hid (HB4.out.trans (hb5.mono HB4.out.size))
   clear hb5 HI4 HB4
   go_wp2_with fail
   refine (copysign_any 9218868437227405311 13830554455654793216 _ (by decide) (by decide)).mono ?_
   rintro e8 w8 ⟨rfl, hb8⟩
   rw [HCP.out]
   have HB8 := Lib.hid (HB5.out.trans (hb8.mono HB5.out.size))
   clear hb8
   go_wp2
   go_ret
   exact ⟨rfl, HB8.out⟩
  ·rw [show (if true = true then kSign else 0) + (if beyB true 4 = true then kInf - 1 else kInf) = 18442240474082181120 by decide]
   go_enter Tryz.func30, Tryz.ntmps30
   go_wp2_with fail
   refine (rSign_any _ 0 z _ (HX.out.below (below1 _ _))).mono ?_
   rintro e3 w3 ⟨rfl, rfl⟩
   rw [HSG.out]
   go_wp2_with fail
   refine (HRD.out _ (HX.out.below (below1 _ _)) (HT.out.below HTs.out (below1 _ _)) (Nat.lt_of_lt_of_le HTs.out (below1 _ _).size)).mono ?_
   rintro e4 w4 ⟨p, rfl, hi4, hb4⟩
   have HB4 := Lib.hid ((below1 w _).trans (hb4.mono (below1 w _).size))
   have HI4 := Lib.hid hi4
   clear hi4 hb4
   go_wp2_with fail
   refine (rBitLen_any p 0 n _ HI4.out).mono ?_
   rintro e5 w5 ⟨rfl, hb5⟩
   rw [HBM.out]
   have HB5 := Lib.hid (HB4.out.trans (hb5.mono HB4.out.size))
   clear hb5 HI4 HB4
   go_wp2_with fail
   refine (infNeg_any _).mono ?_
   rintro e8 w8 ⟨rfl, hb8⟩
   have HB8 := Lib.hid (HB5.out.trans (hb8.mono HB5.out.size))
   clear hb8
   go_wp2
   go_ret
   exact ⟨rfl, HB8.out⟩
 ·have HSG : Hid (z.sign = 1) := Lib.hid (Int.sign_eq_one_of_pos (by omega))
  have hS : floatOfInt .f64 (1) = 4607182418800017408 := by decide
  have HCP : Hid (cpB (sgnB 4607182418800017408) 9218868437227405311 = 9218868437227405311) := Lib.hid (by decide)
  rw [decide_eq_false (by omega : ¬ z < 0)]
  clear hneg hz
  rcases hmode with rfl | rfl | rfl | rfl | rfl
  ·rw [show (if false = true then kSign else 0) + (if beyB false 0 = true then kInf - 1 else kInf) = 9218868437227405312 by decide]
   go_enter Tryz.func30, Tryz.ntmps30
   go_wp2_with fail
   refine (rSign_any _ 0 z _ (HX.out.below (below1 _ _))).mono ?_
   rintro e3 w3 ⟨rfl, rfl⟩
   rw [HSG.out]
   go_wp2_with fail
   refine (HRD.out _ (HX.out.below (below1 _ _)) (HT.out.below HTs.out (below1 _ _)) (Nat.lt_of_lt_of_le HTs.out (below1 _ _).size)).mono ?_
   rintro e4 w4 ⟨p, rfl, hi4, hb4⟩
   have HB4 := Lib.hid ((below1 w _).trans (hb4.mono (below1 w _).size))
   have HI4 := Lib.hid hi4
   clear hi4 hb4
   go_wp2_with fail
   refine (rBitLen_any p 0 n _ HI4.out).mono ?_
   rintro e5 w5 ⟨rfl, hb5⟩
   rw [HBM.out]
   have HB5 := Lib.hid (HB4.out.trans (hb5.mono HB4.out.size))
   clear hb5 HI4 HB4
   go_wp2_with fail
   refine (inf_any _).mono ?_
   rintro e8 w8 ⟨rfl, hb8⟩
   have HB8 := Lib.hid (HB5.out.trans (hb8.mono HB5.out.size))
   clear hb8
   go_wp2
   go_ret
   exact ⟨rfl, HB8.out⟩
  ·rw [show (if false = true then kSign else 0) + (if beyB false 1 = true then kInf - 1 else kInf) = 9218868437227405312 by decide]
   go_enter Tryz.func30, Tryz.ntmps30
   go_wp2_with fail
   refine (rSign_any _ 0 z _ (HX.out.below (below1 _ _))).mono ?_
   rintro e3 w3 ⟨rfl, rfl⟩
   rw [HSG.out]
   go_wp2_with fail
   refine (HRD.out _ (HX.out.below (below1 _ _)) (HT.out.below HTs.out (below1 _ _)) (Nat.lt_of_lt_of_le HTs.out (below1 _ _).size)).mono ?_
   rintro e4 w4 ⟨p, rfl, hi4, hb4⟩
   have HB4 := Lib.hid ((below1 w _).trans (hb4.mono (below1 w _).size))
   have HI4 := Lib.hid hi4
   clear hi4 hb4
   go_wp2_with fail
   refine (rBitLen_any p 0 n _ HI4.out).mono ?_
   rintro e5 w5 ⟨rfl, hb5⟩
   rw [HBM.out]
   have HB5 := Lib.hid (HB4.out.trans (hb5.mono HB4.out.size))
   clear hb5 HI4 HB4
   go_wp2_with fail
   refine (inf_any _).mono ?_
   rintro e8 w8 ⟨rfl, hb8⟩
   have HB8 := Lib.hid (HB5.out.trans (hb8.mono HB5.out.size))
   clear hb8
   go_wp2
   go_ret
   exact ⟨rfl, HB8.out⟩
  ·rw [show (if false = true then kSign else 0) + (if beyB false 2 = true then kInf - 1 else kInf) = 9218868437227405311 by decide]
   go_enter Tryz.func30, Tryz.ntmps30
   go_wp2_with fail
   refine (rSign_any _ 0 z _ (HX.out.below (below1 _ _))).mono ?_
   rintro e3 w3 ⟨rfl, rfl⟩
   rw [HSG.out]
   go_wp2_with fail
   refine (HRD.out _ (HX.out.below (below1 _ _)) (HT.out.below HTs.out (below1 _ _)) (Nat.lt_of_lt_of_le HTs.out (below1 _ _).size)).mono ?_
   rintro e4 w4 ⟨p, rfl, hi4, hb4⟩
   have HB4 := Lib.hid ((below1 w _).trans (hb4.mono (below1 w _).size))
   have HI4 := Lib.hid hi4
   clear hi4 hb4
   go_wp2_with fail
   refine (rBitLen_any p 0 n _ HI4.out).mono ?_
   rintro e5 w5 ⟨rfl, hb5⟩
   rw [HBM.out]
   have HB5 := Lib.hid (HB4.out.trans (hb5.mono HB4.out.size))
   clear hb5 HI4 HB4
   go_wp2_with fail
   refine (copysign_any 9218868437227405311 4607182418800017408 _ (by decide) (by decide)).mono ?_
   rintro e8 w8 ⟨rfl, hb8⟩
   rw [HCP.out]
   have HB8 := Lib.hid (HB5.out.trans (hb8.mono HB5.out.size))
   clear hb8
   go_wp2
   go_ret
   exact ⟨rfl, HB8.out⟩
  ·rw [show (if false = true then kSign else 0) + (if beyB false 3 = true then kInf - 1 else kInf) = 9218868437227405312 by decide]
   go_enter Tryz.func30, Tryz.ntmps30
   go_wp2_with fail
   refine (rSign_any _ 0 z _ (HX.out.below (below1 _ _))).mono ?_
   rintro e3 w3 ⟨rfl, rfl⟩
   rw [HSG.out]
   go_wp2_with fail
   refine (HRD.out _ (HX.out.below (below1 _ _)) (HT.out.below HTs.out (below1 _ _)) (Nat.lt_of_lt_of_le HTs.out (below1 _ _).size)).mono ?_
   rintro e4 w4 ⟨p, rfl, hi4, hb4⟩
   have HB4 := Lib.hid ((below1 w _).trans (hb4.mono (below1 w _).size))
   have HI4 := Lib.hid hi4
   clear hi4 hb4
   go_wp2_with fail
   refine (rBitLen_any p 0 n _ HI4.out).mono ?_
   rintro e5 w5 ⟨rfl, hb5⟩
   rw [HBM.out]
   have HB5 := Lib.hid (HB4.out.trans (hb5.mono HB4.out.size))
   clear hb5 HI4 HB4
   go_wp2_with fail
   refine (inf_any _).mono ?_
   rintro e8 w8 ⟨rfl, hb8⟩
   have HB8 := Lib.hid (HB5.out.trans (hb8.mono HB5.out.size))
   clear hb8
   go_wp2
   go_ret
   exact ⟨rfl, HB8.out⟩
  ·rw [show (if false = true then kSign else 0) + (if beyB false 4 = true then kInf - 1 else kInf) = 9218868437227405311 by decide]
   go_enter Tryz.func30, Tryz.ntmps30
   go_wp2_with fail
   refine (rSign_any _ 0 z _ (HX.out.below (below1 _ _))).mono ?_
   rintro e3 w3 ⟨rfl, rfl⟩
   rw [HSG.out]
   go_wp2_with fail
   refine (HRD.out _ (HX.out.below (below1 _ _)) (HT.out.below HTs.out (below1 _ _)) (Nat.lt_of_lt_of_le HTs.out (below1 _ _).size)).mono ?_
   rintro e4 w4 ⟨p, rfl, hi4, hb4⟩
   have HB4 := Lib.hid ((below1 w _).trans (hb4.mono (below1 w _).size))
   have HI4 := Lib.hid hi4
   clear hi4 hb4
   go_wp2_with fail
   refine (rBitLen_any p 0 n _ HI4.out).mono ?_
   rintro e5 w5 ⟨rfl, hb5⟩
   rw [HBM.out]
   have HB5 := Lib.hid (HB4.out.trans (hb5.mono HB4.out.size))
   clear hb5 HI4 HB4
   go_wp2_with fail
   refine (copysign_any 9218868437227405311 4607182418800017408 _ (by decide) (by decide)).mono ?_
   rintro e8 w8 ⟨rfl, hb8⟩
   rw [HCP.out]
   have HB8 := Lib.hid (HB5.out.trans (hb8.mono HB5.out.size))
   clear hb8
   go_wp2
   go_ret
   exact ⟨rfl, HB8.out⟩
theorem rRound_any (b : Nat) (z e mode : Int) (w : World) (hx : RInt w b z) (hl : bl z.natAbs ≤ 10000000) (he1 : -10000000 ≤ e) (he2 : e ≤ 10000000) (hm1 : 0 ≤ mode) (hm2 : mode ≤ 4) (hT : Tab32 w) (hTs : 2 < w.heap.size) :
  Calls Tryz.prog 30 #[ExV b e, .int .i64 mode] w (Gives (.float .f64 (rndX z e mode)) w) := by
 have hmode : mode = 0 ∨ mode = 1 ∨ mode = 2 ∨ mode = 3 ∨ mode = 4 := by omega
 unfold rndX
 by_cases h0 : z = 0
 ·subst h0; rw [if_pos rfl]; exact rRound_zero b e mode w hx
 ·rw [if_neg h0]
  by_cases h : lastE z e 53 (-1074) + bl (roundZ z e 53 (-1074) mode) ≤ 1024
  ·exact rRound_fit b z e mode w hx h0 hl he1 he2 hmode hT hTs h
  ·exact rRound_great b z e mode w hx h0 hl he1 he2 hmode hT hTs h
end
end Go.Proofs.YthkhignbmefmjaaGreatDoor
