/- Plain: sums, products, quotients, roots of finite intervals are as narrow as can be. -/
import Derived.Test.YtjokekmbnffpfaaGreatDoorIK
import Derived.Test.YtjokekmbnffpfaaGreatDoorZIww
import Derived.Test.YtjokekmbnffpfaaGreatDoorZIxb
section
namespace Go.Proofs.YtjokekmbnffpfaaGreatDoor
open Go.RowKit

theorem iv_of {x y : Nat} (hx : W64 x) (hy : W64 y) (fx : finB x = true) (fy : finB y = true) (h : ky x ≤ ky y) : ivK x y = some (ky x, ky y) := by
  obtain ⟨a1, -⟩ := pt_plc hx fx
  obtain ⟨b1, -⟩ := pt_plc hy fy
  unfold ivK
  rw [if_pos]
  simp only [nan_fin fx, nan_fin fy]
  first | exact ⟨rfl, rfl, h, by omega, by omega⟩ | (simp; omega)

theorem add_narrow {p0 p1 q0 q1 : Nat} (hp0 : W64 p0) (hp1 : W64 p1) (hq0 : W64 q0) (hq1 : W64 q1) (f0 : finB p0 = true) (f1 : finB p1 = true) (g0 : finB q0 = true) (g1 : finB q1 = true) (ha : ky p0 ≤ ky p1) (hb : ky q0 ≤ ky q1) :
    addK (ivK p0 p1) (ivK q0 q1) = some (adK p0 q0 4, adK p1 q1 3) := by
  rw [iv_of hp0 hp1 f0 f1 ha, iv_of hq0 hq1 g0 g1 hb]
  obtain ⟨a1, a2⟩ := pt_plc hp0 f0
  obtain ⟨b1, b2⟩ := pt_plc hp1 f1
  obtain ⟨c1, c2⟩ := pt_plc hq0 g0
  obtain ⟨d1, d2⟩ := pt_plc hq1 g1
  show some (suK (kb (ky p0)) (kb (ky q0)) 4, suK (kb (ky p1)) (kb (ky q1)) 3) = _
  rw [su_form a2 c2, su_form b2 d2, if_pos a1, if_pos c1, if_pos b1, if_pos d1]
  unfold adK
  rw [(own_parts hp0).1, (own_parts hp0).2, (own_parts hq0).1, (own_parts hq0).2, (own_parts hp1).1, (own_parts hp1).2, (own_parts hq1).1, (own_parts hq1).2]

theorem mul_narrow {p0 p1 q0 q1 : Nat} (hp0 : W64 p0) (hp1 : W64 p1) (hq0 : W64 q0) (hq1 : W64 q1) (f0 : finB p0 = true) (f1 : finB p1 = true) (g0 : finB q0 = true) (g1 : finB q1 = true) (ha : ky p0 ≤ ky p1) (hb : ky q0 ≤ ky q1) :
    ∃ lo hi, mulK (ivK p0 p1) (ivK q0 q1) = some (lo, hi) ∧
      (tgL lo (valZ p0 * valZ q0) (pE p0 + pE q0) 1 0 || tgL lo (valZ p0 * valZ q1) (pE p0 + pE q1) 1 0 || tgL lo (valZ p1 * valZ q0) (pE p1 + pE q0) 1 0 || tgL lo (valZ p1 * valZ q1) (pE p1 + pE q1) 1 0) = true ∧
      (tgH hi (valZ p0 * valZ q0) (pE p0 + pE q0) 1 0 || tgH hi (valZ p0 * valZ q1) (pE p0 + pE q1) 1 0 || tgH hi (valZ p1 * valZ q0) (pE p1 + pE q0) 1 0 || tgH hi (valZ p1 * valZ q1) (pE p1 + pE q1) 1 0) = true := by
  rw [iv_of hp0 hp1 f0 f1 ha, iv_of hq0 hq1 g0 g1 hb]
  refine ⟨min (min (min (min (kInf : Int) (mlK p0 q0 4)) (mlK p0 q1 4)) (mlK p1 q0 4)) (mlK p1 q1 4), max (max (max (max (-(kInf : Int)) (mlK p0 q0 3)) (mlK p0 q1 3)) (mlK p1 q0 3)) (mlK p1 q1 3), ?_, ?_, ?_⟩
  · show some (min (min (min (min (kInf : Int) (prK (kb (ky p0)) (kb (ky q0)) 4)) (prK (kb (ky p0)) (kb (ky q1)) 4)) (prK (kb (ky p1)) (kb (ky q0)) 4)) (prK (kb (ky p1)) (kb (ky q1)) 4),
      max (max (max (max (-(kInf : Int)) (prK (kb (ky p0)) (kb (ky q0)) 3)) (prK (kb (ky p0)) (kb (ky q1)) 3)) (prK (kb (ky p1)) (kb (ky q0)) 3)) (prK (kb (ky p1)) (kb (ky q1)) 3)) = _
    rw [pr_pt hp0 hq0 f0 g0, pr_pt hp0 hq1 f0 g1, pr_pt hp1 hq0 f1 g0, pr_pt hp1 hq1 f1 g1, pr_pt hp0 hq0 f0 g0, pr_pt hp0 hq1 f0 g1, pr_pt hp1 hq0 f1 g0, pr_pt hp1 hq1 f1 g1]
  · have b0 := (ml_bd p0 q0).2.1
    obtain ⟨lo, hlo⟩ : ∃ t, min (min (min (min (kInf : Int) (mlK p0 q0 4)) (mlK p0 q1 4)) (mlK p1 q0 4)) (mlK p1 q1 4) = t := ⟨_, rfl⟩
    rw [hlo]
    have h4 : lo = mlK p0 q0 4 ∨ lo = mlK p0 q1 4 ∨ lo = mlK p1 q0 4 ∨ lo = mlK p1 q1 4 := by omega
    rcases h4 with h | h | h | h <;> rw [tg_low h] <;> simp
  · have b0 := (ml_bd p0 q0).2.2.2.1
    obtain ⟨hi, hhi⟩ : ∃ t, max (max (max (max (-(kInf : Int)) (mlK p0 q0 3)) (mlK p0 q1 3)) (mlK p1 q0 3)) (mlK p1 q1 3) = t := ⟨_, rfl⟩
    rw [hhi]
    have h4 : hi = mlK p0 q0 3 ∨ hi = mlK p0 q1 3 ∨ hi = mlK p1 q0 3 ∨ hi = mlK p1 q1 3 := by omega
    rcases h4 with h | h | h | h <;> rw [tg_high h] <;> simp

theorem by_low {x y : Nat} (hx : W64 x) (hy : W64 y) (fx : finB x = true) (fy : finB y = true) (h : 0 < ky y) : tgL (byK (kb (ky x)) (kb (ky y)) 4) (valZ x) (pE x) (valZ y) (pE y) = true := by
  by_cases h0 : ky x = 0
  · obtain ⟨a1, a2⟩ := pt_plc hx fx
    obtain ⟨b1, b2⟩ := pt_plc hy fy
    have := by_sign a2 b2 (by omega) 4
    rw [show byK (kb (ky x)) (kb (ky y)) 4 = 0 by omega]
    exact (tg_zero hx hy fx fy h0 h).1
  · exact tg_div_low hx hy fx fy h0 h (by_pt hx hy fx fy h h0 4)
theorem by_high {x y : Nat} (hx : W64 x) (hy : W64 y) (fx : finB x = true) (fy : finB y = true) (h : 0 < ky y) : tgH (byK (kb (ky x)) (kb (ky y)) 3) (valZ x) (pE x) (valZ y) (pE y) = true := by
  by_cases h0 : ky x = 0
  · obtain ⟨a1, a2⟩ := pt_plc hx fx
    obtain ⟨b1, b2⟩ := pt_plc hy fy
    have := by_sign a2 b2 (by omega) 3
    rw [show byK (kb (ky x)) (kb (ky y)) 3 = 0 by omega]
    exact (tg_zero hx hy fx fy h0 h).2
  · exact tg_div_high hx hy fx fy h0 h (by_pt hx hy fx fy h h0 3)

theorem div_narrow {p0 p1 q0 q1 : Nat} (hp0 : W64 p0) (hp1 : W64 p1) (hq0 : W64 q0) (hq1 : W64 q1) (f0 : finB p0 = true) (f1 : finB p1 = true) (g0 : finB q0 = true) (g1 : finB q1 = true) (ha : ky p0 ≤ ky p1) (hb : ky q0 ≤ ky q1) (h0 : 0 < ky q0) :
    ∃ lo hi, divK (ivK p0 p1) (ivK q0 q1) = some (lo, hi) ∧
      (tgL lo (valZ p0) (pE p0) (valZ q0) (pE q0) || tgL lo (valZ p0) (pE p0) (valZ q1) (pE q1) || tgL lo (valZ p1) (pE p1) (valZ q0) (pE q0) || tgL lo (valZ p1) (pE p1) (valZ q1) (pE q1)) = true ∧
      (tgH hi (valZ p0) (pE p0) (valZ q0) (pE q0) || tgH hi (valZ p0) (pE p0) (valZ q1) (pE q1) || tgH hi (valZ p1) (pE p1) (valZ q0) (pE q0) || tgH hi (valZ p1) (pE p1) (valZ q1) (pE q1)) = true := by
  rw [iv_of hp0 hp1 f0 f1 ha, iv_of hq0 hq1 g0 g1 hb]
  refine ⟨byK (kb (ky p0)) (kb (if ky p0 < 0 then ky q0 else ky q1)) 4, byK (kb (ky p1)) (kb (if 0 < ky p1 then ky q0 else ky q1)) 3, ?_, ?_, ?_⟩
  · show (if ky q0 = 0 ∧ ky q1 = 0 then none else if 0 ≤ ky q0 then some (ovK (ky p0) (ky p1) (ky q0) (ky q1)) else _) = _
    rw [if_neg (by omega), if_pos (by omega)]
    rfl
  · by_cases h : ky p0 < 0
    · rw [if_pos h, by_low hp0 hq0 f0 g0 h0]; simp
    · rw [if_neg h, by_low hp0 hq1 f0 g1 (by omega)]; simp
  · by_cases h : 0 < ky p1
    · rw [if_pos h, by_high hp1 hq0 f1 g0 h0]; simp
    · rw [if_neg h, by_high hp1 hq1 f1 g1 (by omega)]; simp

theorem div_narrow_neg {p0 p1 q0 q1 : Nat} (hp0 : W64 p0) (hp1 : W64 p1) (hq0 : W64 q0) (hq1 : W64 q1) (f0 : finB p0 = true) (f1 : finB p1 = true) (g0 : finB q0 = true) (g1 : finB q1 = true) (ha : ky p0 ≤ ky p1) (hb : ky q0 ≤ ky q1) (h0 : ky q1 < 0) :
    ∃ lo hi, divK (ivK p0 p1) (ivK q0 q1) = some (lo, hi) ∧
      (tgL lo (-(valZ p0)) (pE p0) (-(valZ q0)) (pE q0) || tgL lo (-(valZ p0)) (pE p0) (-(valZ q1)) (pE q1) || tgL lo (-(valZ p1)) (pE p1) (-(valZ q0)) (pE q0) || tgL lo (-(valZ p1)) (pE p1) (-(valZ q1)) (pE q1)) = true ∧
      (tgH hi (-(valZ p0)) (pE p0) (-(valZ q0)) (pE q0) || tgH hi (-(valZ p0)) (pE p0) (-(valZ q1)) (pE q1) || tgH hi (-(valZ p1)) (pE p1) (-(valZ q0)) (pE q0) || tgH hi (-(valZ p1)) (pE p1) (-(valZ q1)) (pE q1)) = true := by
  have k1 := flip_ky hp0
  have k2 := flip_ky hp1
  have k3 := flip_ky hq0
  have k4 := flip_ky hq1
  obtain ⟨lo, hi, e, h1, h2⟩ := div_narrow (flip_lt hp1) (flip_lt hp0) (flip_lt hq1) (flip_lt hq0) (flip_ok hp1 f1).2.1 (flip_ok hp0 f0).2.1 (flip_ok hq1 g1).2.1 (flip_ok hq0 g0).2.1 (by omega) (by omega) (by omega)
  have okB := ivK_ok hq0 hq1
  have ea : ivK (flipB p1) (flipB p0) = negK (ivK p0 p1) := by
    rw [iv_of hp0 hp1 f0 f1 ha, iv_of (flip_lt hp1) (flip_lt hp0) (flip_ok hp1 f1).2.1 (flip_ok hp0 f0).2.1 (by omega), k1, k2]; rfl
  have eb : ivK (flipB q1) (flipB q0) = negK (ivK q0 q1) := by
    rw [iv_of hq0 hq1 g0 g1 hb, iv_of (flip_lt hq1) (flip_lt hq0) (flip_ok hq1 g1).2.1 (flip_ok hq0 g0).2.1 (by omega), k3, k4]; rfl
  rw [ea, eb, divK_neg _ okB] at e
  rw [(flip_own hp0).1, (flip_own hp0).2, (flip_own hp1).1, (flip_own hp1).2, (flip_own hq0).1, (flip_own hq0).2, (flip_own hq1).1, (flip_own hq1).2] at h1 h2
  refine ⟨lo, hi, e, ?_, ?_⟩
  · simp only [Bool.or_eq_true] at h1 ⊢
    rcases h1 with ((h | h) | h) | h <;> simp [h]
  · simp only [Bool.or_eq_true] at h2 ⊢
    rcases h2 with ((h | h) | h) | h <;> simp [h]

end Go.Proofs.YtjokekmbnffpfaaGreatDoor
end

/- Plain: roots of finite intervals are as narrow as can be. -/
section
namespace Go.Proofs.YtjokekmbnffpfaaGreatDoor
open Go.RowKit

theorem two_lt {k n : Nat} (h : k < n) : (2 : Int) ^ k < 2 ^ n := by
  rw [← two_cast k, ← two_cast n]
  exact Int.ofNat_lt.2 (Nat.pow_lt_pow_right (by decide) h)

/-- The greatest number. -/
def mxB : Nat := 9218868437227405311
theorem mx_fin : W64 mxB ∧ finB mxB = true ∧ ky mxB = (kInf : Int) - 1 := by decide
theorem mx_big : (2 : Int) ^ 1074 < fI mxB := by
  have h1 : valZ mxB = 9007199254740991 := by decide
  have h2 : pE mxB = 971 := by decide
  have h3 : fI mxB = 9007199254740991 * 2 ^ ((971 : Int) + 1074).toNat := by unfold fI sc; rw [h1, h2]
  have h4 := two_lt (show 1074 < ((971 : Int) + 1074).toNat by decide)
  rw [h3]
  have hP : (0 : Int) < 2 ^ 1074 := Int.pow_pos (by decide)
  generalize (2 : Int) ^ ((971 : Int) + 1074).toNat = Q at *
  generalize (2 : Int) ^ 1074 = P at *
  omega

theorem root_at {u c : Nat} {M : Int} (hu : W64 u) (hc : W64 c) (fu : finB u = true) (fc : finB c = true) (u0 : 0 < ky u) (c0 : 0 ≤ fI c) (hM : 1074 ≤ M) (h1 : 0 ≤ rtE u + M) :
    (fI c * fI c ≤ fI u * 2 ^ 1074 ↔ vI M c ≤ sc M (rtZ u) (rtE u)) ∧ (fI u * 2 ^ 1074 ≤ fI c * fI c ↔ sc M (rtZ u) (rtE u) ≤ vI M c) := by
  have pu : 0 < fI u := (fI_zero_iff hu fu).2.1.2 u0
  have z0 : valZ u ≠ 0 := fun t => by have := (fI_zero_iff hu fu).1.2 t; omega
  have am := rt_amount hu hc fu fc z0 hM h1
  have s0 := rt_sc M u
  have vs := vI_sign hc fc hM
  have nP := two_cast 1074
  have e1 : (((fI c).natAbs * (fI c).natAbs : Nat) : Int) = fI c * fI c := by rw [Int.natCast_mul, nn_of c0]
  have e2 : (((fI u).natAbs * 2 ^ 1074 : Nat) : Int) = fI u * 2 ^ 1074 := by rw [Int.natCast_mul, nn_of (Int.le_of_lt pu), nP]
  rw [← e1, ← e2, Int.ofNat_le, Int.ofNat_le, am.1, am.2]
  omega

theorem sq_places {u : Nat} (hu : W64 u) (fu : finB u = true) (u0 : 0 < ky u) : rtK u 3 < kInf ∧ rtK u 4 + 1 < kInf := by
  obtain ⟨m1, m2, m3⟩ := mx_fin
  have mb := mx_big
  obtain ⟨M, hM, h1⟩ : ∃ M : Int, 1074 ≤ M ∧ 0 ≤ rtE u + M := ⟨1074 + (rtE u).natAbs, by omega, by omega⟩
  have pu : 0 < fI u := (fI_zero_iff hu fu).2.1.2 u0
  have hk := (fin_ky hu (num_of (nan_fin fu))).1 fu
  have le : fI u ≤ fI mxB := (ky_le_vI hu m1 fu m2 (Int.le_refl 1074)).1 (by omega)
  have hP : (0 : Int) < 2 ^ 1074 := Int.pow_pos (by decide)
  have r := root_at (M := M) hu m1 fu m2 u0 (by omega) hM h1
  have adj := rndX_adj (rtZ u) (rtE u)
  have b1 : fI u * 2 ^ 1074 < fI mxB * fI mxB := Int.lt_of_le_of_lt (Int.mul_le_mul_of_nonneg_right le (Int.le_of_lt hP)) (Int.mul_lt_mul_of_pos_left mb (by omega))
  have h3 : rtK u 3 ≤ ky mxB := rnd_le 3 hM h1 m1 m2 (r.2.1 (Int.le_of_lt b1))
  refine ⟨by omega, ?_⟩
  refine Int.not_le.1 fun hc => ?_
  have h4 : ky mxB ≤ ky (rndX (rtZ u) (rtE u) 4) := by
    have : kInf ≤ ky (rndX (rtZ u) (rtE u) 4) + 1 := hc
    omega
  have hf := (fin_ky (rndX_lt (rtZ u) (rtE u) 4).1 (rndX_lt (rtZ u) (rtE u) 4).2).2 ⟨by omega, adj.2.2.1⟩
  have v := (ky_le_vI m1 (rndX_lt (rtZ u) (rtE u) 4).1 m2 hf hM).1 h4
  have d := rndX_down_le hM h1 hf
  have := r.1.2 (by omega)
  omega

/-- The root of a finite interval whose ends are not below 0. -/
theorem sqrt_narrow {p0 p1 : Nat} (hp0 : W64 p0) (hp1 : W64 p1) (f0 : finB p0 = true) (f1 : finB p1 = true) (ha : ky p0 ≤ ky p1) (h0 : 0 ≤ ky p0) :
    ∃ lo hi, sqK (ivK p0 p1) = some (lo, hi) ∧ (0 ≤ lo ∧ lo + 1 < kInf) ∧ (0 ≤ hi ∧ hi < kInf) ∧
      (plZ (valZ p0) (pE p0) (-(valZ (kb (lo + 1)) * valZ (kb (lo + 1)))) (pE (kb (lo + 1)) + pE (kb (lo + 1)))).sign < 0 ∧
      (hi ≠ 0 → 0 < (plZ (valZ p1) (pE p1) (-(valZ (kb (hi - 1)) * valZ (kb (hi - 1)))) (pE (kb (hi - 1)) + pE (kb (hi - 1)))).sign) := by
  have hk := kInf_pos
  have k1 : (1 : Int) < kInf := by decide
  obtain ⟨b1, b2⟩ := pt_plc hp1 f1
  have e0 := pE_bd f0
  have e1 := pE_bd f1
  refine ⟨roK (kb (ky p0)) 4, roK (kb (ky p1)) 3, ?_, ?_, ?_, ?_, ?_⟩
  · rw [iv_of hp0 hp1 f0 f1 ha]
    show (if ky p1 < 0 then none else some (roK (kb (max (ky p0) 0)) 4, if ky p1 = kInf then (kInf : Int) else roK (kb (ky p1)) 3)) = _
    rw [if_neg (by omega), if_neg (by omega), show max (ky p0) 0 = ky p0 by omega]
  · rcases Int.lt_or_eq_of_le h0 with hpos | hz
    · rw [(ro_pt hp0 f0 4).1 hpos]
      have := sq_places hp0 f0 hpos
      have := rt_bd p0
      omega
    · rw [(ro_pt hp0 f0 4).2 hz.symm]; omega
  · rcases Int.lt_or_eq_of_le (show 0 ≤ ky p1 by omega) with hpos | hz
    · rw [(ro_pt hp1 f1 3).1 hpos]
      have := sq_places hp1 f1 hpos
      have := rt_bd p1
      omega
    · rw [(ro_pt hp1 f1 3).2 hz.symm]; omega
  · rcases Int.lt_or_eq_of_le h0 with hpos | hz
    · rw [(ro_pt hp0 f0 4).1 hpos]
      have hs := sq_places hp0 f0 hpos
      have hb := rt_bd p0
      obtain ⟨c1, c2, c3, c4⟩ := kb_fin (k := rtK p0 4 + 1) (by omega) (by omega)
      have ep := pE_bd c2
      obtain ⟨M, hM, h1⟩ : ∃ M : Int, 1074 ≤ M ∧ 0 ≤ rtE p0 + M := ⟨1074 + (rtE p0).natAbs, by omega, by omega⟩
      have cp : 0 < fI (kb (rtK p0 4 + 1)) := kb_pos (by omega) (by omega)
      have r := root_at hp0 c1 f0 c2 hpos (Int.le_of_lt cp) hM h1
      refine (cmp_sc (M := 2148) (by omega) (by omega)).2.2.1.2 ?_
      rw [fI_times c2 c2, fI_shift f0]
      refine Int.not_le.1 fun hle => ?_
      have := tl_low (k := rtK p0 4) hM h1 rfl (by omega)
      have := r.1.1 hle
      omega
    · rw [(ro_pt hp0 f0 4).2 hz.symm]
      obtain ⟨c1, c2, c3, c4⟩ := kb_fin (k := 0 + 1) (by omega) (by omega)
      have ep := pE_bd c2
      have cp : 0 < fI (kb (0 + 1)) := kb_pos (by omega) (by omega)
      have fz : fI p0 = 0 := by have := fI_zero_iff hp0 f0; omega
      refine (cmp_sc (M := 2148) (by omega) (by omega)).2.2.1.2 ?_
      rw [fI_times c2 c2, fI_shift f0, fz, Int.zero_mul]
      exact Int.mul_pos cp cp
  · intro hne
    rcases Int.lt_or_eq_of_le (show 0 ≤ ky p1 by omega) with hpos | hz
    · rw [(ro_pt hp1 f1 3).1 hpos] at hne ⊢
      have hs := sq_places hp1 f1 hpos
      have hb := rt_bd p1
      obtain ⟨c1, c2, c3, c4⟩ := kb_fin (k := rtK p1 3 - 1) (by omega) (by omega)
      have ep := pE_bd c2
      obtain ⟨M, hM, h1⟩ : ∃ M : Int, 1074 ≤ M ∧ 0 ≤ rtE p1 + M := ⟨1074 + (rtE p1).natAbs, by omega, by omega⟩
      have cp : 0 ≤ fI (kb (rtK p1 3 - 1)) := (vv_pos (by omega) (by omega)).1.1 (by omega)
      have r := root_at hp1 c1 f1 c2 hpos cp hM h1
      refine (cmp_sc (M := 2148) (by omega) (by omega)).2.2.2.2 ?_
      rw [fI_times c2 c2, fI_shift f1]
      refine Int.not_le.1 fun hle => ?_
      have := tl_high (k := rtK p1 3) hM h1 rfl (by omega)
      have := r.2.1 hle
      omega
    · rw [(ro_pt hp1 f1 3).2 hz.symm] at hne
      exact absurd rfl hne

end Go.Proofs.YtjokekmbnffpfaaGreatDoor
end

/- What the law asks of tight ends, as calls that answer true. -/
section
namespace Go.Proofs.YtjokekmbnffpfaaGreatDoor
open Go.RowKit

theorem tight_lo {lo hi : Int} (h1 : -(kInf : Int) ≤ lo) (h2 : lo < kInf) {zn en zd ed : Int} (h : tgL lo zn en zd ed = true) (bn : bl zn.natAbs ≤ 60000) (bd : bl zd.natAbs ≤ 60000) (n1 : -60000 ≤ en) (n2 : en ≤ 60000) (d1 : -60000 ≤ ed) (d2 : ed ≤ 60000) (b c : Nat) (w : World) (hn : RInt w b zn) (hd : RInt w c zd) :
    Calls Tryz.prog 21 #[.agg #[.float .f64 (kb lo), .float .f64 (kb hi)], ExV b en, ExV c ed, .bool true] w (Gives (.bool true) w) := by
  obtain ⟨a1, a2, a3⟩ := kb_lt h1 (Int.le_of_lt h2)
  have := tight_low (kb lo) (kb hi) b c zn en zd ed w a1 (num_iff.2 a2) (by omega) hn hd bn bd n1 n2 d1 d2
  rw [a3, h] at this
  exact this
theorem tight_hi {lo hi : Int} (h1 : -(kInf : Int) < hi) (h2 : hi ≤ kInf) {zn en zd ed : Int} (h : tgH hi zn en zd ed = true) (bn : bl zn.natAbs ≤ 60000) (bd : bl zd.natAbs ≤ 60000) (n1 : -60000 ≤ en) (n2 : en ≤ 60000) (d1 : -60000 ≤ ed) (d2 : ed ≤ 60000) (b c : Nat) (w : World) (hn : RInt w b zn) (hd : RInt w c zd) :
    Calls Tryz.prog 21 #[.agg #[.float .f64 (kb lo), .float .f64 (kb hi)], ExV b en, ExV c ed, .bool false] w (Gives (.bool true) w) := by
  obtain ⟨a1, a2, a3⟩ := kb_lt (Int.le_of_lt h1) h2
  have := tight_high (kb lo) (kb hi) b c zn en zd ed w a1 (num_iff.2 a2) (by omega) hn hd bn bd n1 n2 d1 d2
  rw [a3, h] at this
  exact this

/-- What a product's, a quotient's corners answer. -/
theorem mul_corners {p0 p1 q0 q1 : Nat} (hp0 : W64 p0) (hp1 : W64 p1) (hq0 : W64 q0) (hq1 : W64 q1) (f0 : finB p0 = true) (f1 : finB p1 = true) (g0 : finB q0 = true) (g1 : finB q1 = true) (ha : ky p0 ≤ ky p1) (hb : ky q0 ≤ ky q1) (w : World) :
    Calls Tryz.prog 22 #[.agg #[.float .f64 (ivL (mulK (ivK p0 p1) (ivK q0 q1))), .float .f64 (ivH (mulK (ivK p0 p1) (ivK q0 q1)))], .agg #[.float .f64 p0, .float .f64 p1], .agg #[.float .f64 q0, .float .f64 q1], .bool false] w (Gives (.bool true) w) := by
  obtain ⟨lo, hi, e, h1, h2⟩ := mul_narrow hp0 hp1 hq0 hq1 f0 f1 g0 g1 ha hb
  have ok := mulK_ok (ivK_ok hp0 hp1) (ivK_ok hq0 hq1)
  rw [e] at ok ⊢
  obtain ⟨a1, a2, a3, a4, a5⟩ := ok lo hi rfl
  obtain ⟨b1, b2, b3⟩ := kb_lt (k := lo) a1 (by omega)
  obtain ⟨c1, c2, c3⟩ := kb_lt (k := hi) (by omega) a3
  exact corners_mul (kb lo) (kb hi) p0 p1 q0 q1 w b1 c1 (num_iff.2 b2) (num_iff.2 c2) (by omega) (by omega) hp0 hp1 hq0 hq1 f0 f1 g0 g1 (by rw [b3]; exact h1) (by rw [c3]; exact h2)
theorem div_corners {p0 p1 q0 q1 : Nat} (hp0 : W64 p0) (hp1 : W64 p1) (hq0 : W64 q0) (hq1 : W64 q1) (f0 : finB p0 = true) (f1 : finB p1 = true) (g0 : finB q0 = true) (g1 : finB q1 = true) (ha : ky p0 ≤ ky p1) (hb : ky q0 ≤ ky q1) (hs : 0 < ky q0 ∨ ky q1 < 0) (w : World) :
    Calls Tryz.prog 22 #[.agg #[.float .f64 (ivL (divK (ivK p0 p1) (ivK q0 q1))), .float .f64 (ivH (divK (ivK p0 p1) (ivK q0 q1)))], .agg #[.float .f64 p0, .float .f64 p1], .agg #[.float .f64 q0, .float .f64 q1], .bool true] w (Gives (.bool true) w) := by
  have ok := divK_ok (ivK_ok hp0 hp1) (ivK_ok hq0 hq1)
  rcases hs with hs | hs
  · obtain ⟨lo, hi, e, h1, h2⟩ := div_narrow hp0 hp1 hq0 hq1 f0 f1 g0 g1 ha hb hs
    rw [e] at ok ⊢
    obtain ⟨a1, a2, a3, a4, a5⟩ := ok lo hi rfl
    obtain ⟨b1, b2, b3⟩ := kb_lt (k := lo) a1 (by omega)
    obtain ⟨c1, c2, c3⟩ := kb_lt (k := hi) (by omega) a3
    exact corners_pos (kb lo) (kb hi) p0 p1 q0 q1 w b1 c1 (num_iff.2 b2) (num_iff.2 c2) (by omega) (by omega) hp0 hp1 hq0 hq1 f0 f1 g0 g1 (by omega) (by omega) (by rw [b3]; exact h1) (by rw [c3]; exact h2)
  · obtain ⟨lo, hi, e, h1, h2⟩ := div_narrow_neg hp0 hp1 hq0 hq1 f0 f1 g0 g1 ha hb hs
    rw [e] at ok ⊢
    obtain ⟨a1, a2, a3, a4, a5⟩ := ok lo hi rfl
    obtain ⟨b1, b2, b3⟩ := kb_lt (k := lo) a1 (by omega)
    obtain ⟨c1, c2, c3⟩ := kb_lt (k := hi) (by omega) a3
    exact corners_neg (kb lo) (kb hi) p0 p1 q0 q1 w b1 c1 (num_iff.2 b2) (num_iff.2 c2) (by omega) (by omega) hp0 hp1 hq0 hq1 f0 f1 g0 g1 (by omega) (by omega) (by rw [b3]; exact h1) (by rw [c3]; exact h2)

/-- The next number of a finite end, as an exact number. -/
def NextOf (z e : Int) (w : World) (en : Ending) (w' : World) : Prop := ∃ r, en = .returned (.float .f64 r) ∧ (∀ W, Calls Tryz.prog 13 #[.float .f64 r] W (RxNew z e W)) ∧ Below w.heap.size w w'
theorem next_of {k j : Int} (hj : -(kInf : Int) < j ∧ j < kInf) (y : Nat) (w : World) (h : Calls Tryz.prog 26 #[.float .f64 (kb k), .float .f64 y] w (GivesK j w)) :
    Calls Tryz.prog 26 #[.float .f64 (kb k), .float .f64 y] w (NextOf (valZ (kb j)) (pE (kb j)) w) :=
  h.mono fun en w' ⟨r, h1, h2, h3, h4, h5⟩ => ⟨r, h1, fun W => by
    have hf : finB r = true := (fin_ky h2 (num_of h3)).2 (by rw [h4]; exact hj)
    have := rOf_any r W h2 hf
    rw [← (own_parts h2).1, ← (own_parts h2).2, h4] at this
    exact this, h5⟩

theorem Bks.cellOf {w0 W : World} {l : List (Nat × Nat × Array Value)} (h : Bks w0 W l) {x t : Nat} {cs : Array Value} (m : (x, t, cs) ∈ l) (i : Nat) : W.cell? ⟨x, i, none⟩ = cs[i]? := (h.get m).cell i

theorem is_fin {x y : Nat} (hx : W64 x) (hy : W64 y) (fx : finB x = true) (fy : finB y = true) : isB x y = decide (ky x ≤ ky y) := by
  have hf := is_full hx hy
  rw [le_test hx hy (nan_fin fx) (nan_fin fy)] at hf
  have a := (fin_ky hx (num_of (nan_fin fx))).1 fx
  by_cases h : ky x ≤ ky y
  · rw [decide_eq_true h] at hf ⊢
    rw [iv_of hx hy fx fy h, Bool.and_true] at hf
    exact hf
  · rw [decide_eq_false h]
    have hn : (ivK x y).isSome = false := by
      rw [decide_eq_false h, Bool.and_false] at hf
      exact hf.symm
    have o1 : ordB .eq x 9218868437227405312 = false := (eq_test hx (by decide) (nan_fin fx) (by decide)).trans (decide_eq_false (by rw [show ky 9218868437227405312 = kInf by decide]; omega))
    unfold isB
    rw [hn, o1]; rfl

end Go.Proofs.YtjokekmbnffpfaaGreatDoor
end
