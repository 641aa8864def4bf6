/- Plain: roots and powers of what is inside. -/
import Derived.Test.YtjokekmbnffpfaaGreatDoorZIwt
namespace Go.Proofs.YtjokekmbnffpfaaGreatDoor
open Go.RowKit

theorem nought_or {u : Nat} (h : ky u = 0) : u = 0 ∨ u = kSign := by
  by_cases e : u = kSign
  · exact .inr e
  · have := kb_own e
    rw [h] at this
    exact .inl (this.symm.trans (by decide))

theorem ro_pt {u : Nat} (hu : W64 u) (fu : finB u = true) (mode : Int) : (0 < ky u → roK (kb (ky u)) mode = rtK u mode) ∧ (ky u = 0 → roK (kb (ky u)) mode = 0) := by
  obtain ⟨a1, a2⟩ := pt_plc hu fu
  rw [ro_form a2]
  refine ⟨fun h => ?_, fun h => by rw [if_pos h]⟩
  rw [if_neg (by omega), kb_own fun e => by rw [e, ky_sign] at h; omega]

theorem enc_sqrt {a : Option (Int × Int)} (ha : Iok a) {u : Nat} (hu : W64 u) (fu : finB u = true) (iu : inK (ptK u) a = true) (h0 : 0 ≤ ky u) :
    ∃ l h, sqK a = some (l, h) ∧ 0 ≤ l ∧ l < kInf ∧ 0 ≤ h ∧ h ≤ kInf ∧ l ≤ roK (kb (ky u)) 4 ∧ roK (kb (ky u)) 3 ≤ h := by
  have hin := sqK_in (pt_ok hu fu) ha iu
  have hok := sqK_ok ha
  obtain ⟨a1, a2⟩ := pt_plc hu fu
  have hp : sqK (ptK u) = some (roK (kb (ky u)) 4, roK (kb (ky u)) 3) := by
    show (if ky u < 0 then none else some (roK (kb (max (ky u) 0)) 4, if ky u = kInf then (kInf : Int) else roK (kb (ky u)) 3)) = _
    rw [if_neg (by omega), if_neg (by omega), show max (ky u) 0 = ky u by omega]
  rw [hp] at hin
  rcases a with _ | ⟨l, h⟩
  · cases iu
  obtain ⟨b1, b2, b3, b4, b5⟩ := ha l h rfl
  obtain ⟨i1, i2⟩ := inK_iff.1 iu
  have hq : sqK (some (l, h)) = some (roK (kb (max l 0)) 4, if h = kInf then (kInf : Int) else roK (kb h) 3) := by
    show (if h < 0 then none else _) = _
    rw [if_neg (by omega)]
  rw [hq] at hin hok ⊢
  obtain ⟨c1, c2, c3, c4, c5⟩ := hok _ _ rfl
  obtain ⟨e1, e2⟩ := inK_iff.1 hin
  have hl : 0 ≤ roK (kb (max l 0)) 4 := by
    rw [ro_form ⟨by omega, by omega⟩]
    have := rt_bd (kb (max l 0))
    split <;> omega
  exact ⟨_, _, rfl, hl, c4, by omega, c3, e1, e2⟩

theorem two_cast (k : Nat) : ((2 ^ k : Nat) : Int) = 2 ^ k := by rw [Int.natCast_pow]; rfl
theorem nn_of {x : Int} (h : 0 ≤ x) : (x.natAbs : Int) = x := Int.natAbs_of_nonneg h

theorem sqrt_signs {u : Nat} (hu : W64 u) (fu : finB u = true) (h0 : 0 ≤ ky u) {l h : Int} (l0 : 0 ≤ l) (lK : l < kInf) (h00 : 0 ≤ h) (h1 : l ≤ roK (kb (ky u)) 4) (h2 : roK (kb (ky u)) 3 ≤ h) :
    (plZ (valZ (kb l) * valZ (kb l)) (pE (kb l) + pE (kb l)) (-(valZ u)) (pE u)).sign ≤ 0 ∧ (h < kInf → 0 ≤ (plZ (valZ (kb h) * valZ (kb h)) (pE (kb h) + pE (kb h)) (-(valZ u)) (pE u)).sign) := by
  have hk := kInf_pos
  have eu := pE_bd fu
  obtain ⟨c1, c2, c3, c4⟩ := kb_fin (k := l) (by omega) lK
  have ep := pE_bd c2
  have pl : 0 ≤ fI (kb l) := (vv_pos (by omega) lK).1.1 l0
  have pu : 0 ≤ fI u := by have := fI_zero_iff hu fu; omega
  have hP : (0 : Int) ≤ 2 ^ 1074 := Int.le_of_lt (Int.pow_pos (by decide))
  have nP := two_cast 1074
  rcases Int.lt_or_eq_of_le h0 with hpos | hzero
  · have r4 := (ro_pt hu fu 4).1 hpos
    have r3 := (ro_pt hu fu 3).1 hpos
    rw [r4] at h1
    rw [r3] at h2
    have u0 : valZ u ≠ 0 := fun t => by have := (fI_zero_iff hu fu).1.2 t; have := fI_zero_iff hu fu; omega
    obtain ⟨M, hM, m1⟩ : ∃ M : Int, 1074 ≤ M ∧ 0 ≤ rtE u + M := ⟨1074 + (rtE u).natAbs, by omega, by omega⟩
    have s0 := rt_sc M u
    constructor
    · refine (cmp_sc (M := 2148) (by omega) (by omega)).1.2 ?_
      rw [fI_times c2 c2, fI_shift fu]
      have lo := enc_low hM m1 h1 (by omega)
      have vp := vI_sign c1 c2 hM
      have am := (rt_amount hu c1 fu c2 u0 hM m1).1.2 (by omega)
      have am2 : (((fI (kb l)).natAbs * (fI (kb l)).natAbs : Nat) : Int) ≤ (((fI u).natAbs * 2 ^ 1074 : Nat) : Int) := Int.ofNat_le.2 am
      rw [Int.natCast_mul, Int.natCast_mul, nn_of pl, nn_of pu, nP] at am2
      exact am2
    · intro hh
      obtain ⟨d1, d2, d3, d4⟩ := kb_fin (k := h) (by omega) hh
      have ep2 := pE_bd d2
      have ph : 0 ≤ fI (kb h) := (vv_pos (by omega) hh).1.1 h00
      refine (cmp_sc (M := 2148) (by omega) (by omega)).2.1.2 ?_
      rw [fI_times d2 d2, fI_shift fu]
      have lo := enc_high hM m1 h2 hh
      have vp := vI_sign d1 d2 hM
      have am := (rt_amount hu d1 fu d2 u0 hM m1).2.2 (by omega)
      have am2 : (((fI u).natAbs * 2 ^ 1074 : Nat) : Int) ≤ (((fI (kb h)).natAbs * (fI (kb h)).natAbs : Nat) : Int) := Int.ofNat_le.2 am
      rw [Int.natCast_mul, Int.natCast_mul, nn_of ph, nn_of pu, nP] at am2
      exact am2
  · have r4 := (ro_pt hu fu 4).2 hzero.symm
    rw [r4] at h1
    have hl : l = 0 := by omega
    have fz : fI u = 0 := by have := fI_zero_iff hu fu; omega
    constructor
    · refine (cmp_sc (M := 2148) (by omega) (by omega)).1.2 ?_
      rw [fI_times c2 c2, fI_shift fu, fz, Int.zero_mul, hl, kb_zero, show fI 0 = 0 from vI_zero 1074, Int.zero_mul]
      exact Int.le_refl _
    · intro hh
      obtain ⟨d1, d2, d3, d4⟩ := kb_fin (k := h) (by omega) hh
      have ep2 := pE_bd d2
      have ph : 0 ≤ fI (kb h) := (vv_pos (by omega) hh).1.1 h00
      refine (cmp_sc (M := 2148) (by omega) (by omega)).2.1.2 ?_
      rw [fI_times d2 d2, fI_shift fu, fz, Int.zero_mul]
      exact Int.mul_nonneg ph ph

theorem root_has {a : Option (Int × Int)} {l h : Int} (e : sqK a = some (l, h)) {u : Nat} (hu : W64 u) (fu : finB u = true) (h0 : 0 ≤ ky u) (l0 : 0 ≤ l) (h00 : 0 ≤ h) (h1 : l ≤ roK (kb (ky u)) 4) (h2 : roK (kb (ky u)) 3 ≤ h) :
    ∃ r, F6.sqrt u = some r ∧ W64 r ∧ finB r = true ∧ hasK (sqK a) r = true := by
  rw [e]
  rcases Int.lt_or_eq_of_le h0 with hpos | hzero
  · obtain ⟨q, q1, q2, q3, -⟩ := root_all hu fu h0
    have u0 : valZ u ≠ 0 := fun t => by have := (fI_zero_iff hu fu).1.2 t; have := fI_zero_iff hu fu; omega
    have hs : sgnB u = false := by
      rcases own_sign hu fu u0 with h | h
      · exact h.1
      · have := fI_zero_iff hu fu; omega
    have f := (fsqrt_fin hu fu u0 hs).1
    rw [q1] at f
    obtain rfl : q = rndX (rtZ u) (rtE u) 0 := Option.some.inj f
    refine ⟨_, q1, q2, q3, has_iff.2 ⟨q3, ?_⟩⟩
    have m := rnd_mid (rtZ u) (rtE u)
    rw [(ro_pt hu fu 4).1 hpos] at h1
    rw [(ro_pt hu fu 3).1 hpos] at h2
    unfold rtK at h1 h2
    omega
  · rw [(ro_pt hu fu 4).2 hzero.symm] at h1
    rcases nought_or hzero.symm with rfl | rfl
    · exact ⟨0, by decide, by decide, by decide, has_iff.2 ⟨by decide, by rw [show ky 0 = 0 by decide]; omega⟩⟩
    · exact ⟨kSign, by decide, by decide, by decide, has_iff.2 ⟨by decide, by rw [ky_sign]; omega⟩⟩

theorem even_pow (z : Int) (m : Nat) : (-z) ^ (2 * m) = z ^ (2 * m) := by
  rw [Int.pow_mul, Int.pow_mul]
  congr 1
  rw [Int.pow_succ, Int.pow_succ, Int.pow_zero, Int.pow_succ, Int.pow_succ, Int.pow_zero, Int.one_mul, Int.one_mul, Int.neg_mul_neg]

theorem pw_pt {u : Nat} (hu : W64 u) (fu : finB u = true) (n : Nat) (mode : Int) : toK (kb (ky u)) n mode = pwK u n mode := by
  obtain ⟨a1, a2⟩ := pt_plc hu fu
  obtain ⟨b1, b2, b3, b4⟩ := kb_fin a1.1 a1.2
  unfold toK
  rw [if_pos b2]
  unfold pwK
  rw [(own_parts hu).1, (own_parts hu).2]

theorem pow_pt {u : Nat} (hu : W64 u) (fu : finB u = true) (n : Nat) : Enc (powK (ptK u) n) (valZ u ^ n) (pE u * (n : Int)) := by
  rw [powK_eq]
  by_cases h0 : n = 0
  · subst h0
    rw [if_pos rfl, Int.pow_zero, show pE u * ((0 : Nat) : Int) = 0 from Int.mul_zero _]
    exact ⟨_, _, rfl, by decide, by decide⟩
  rw [if_neg h0]
  have odd : (some (ky u, ky u)).map (fun p => (toK (kb p.1) n 4, toK (kb p.2) n 3)) = some (pwK u n 4, pwK u n 3) := by
    show some (toK (kb (ky u)) n 4, toK (kb (ky u)) n 3) = _
    rw [pw_pt hu fu, pw_pt hu fu]
  unfold pwA
  by_cases he : n % 2 = 0
  · rw [if_pos he]
    by_cases hs : 0 ≤ ky u
    · rw [show absK (ptK u) = some (ky u, ky u) from if_pos hs, odd]
      exact enc_pt _ _
    · have e1 : absK (ptK u) = some (ky (flipB u), ky (flipB u)) := by
        show (if 0 ≤ ky u then _ else if ky u ≤ 0 then some (-ky u, -ky u) else _) = _
        rw [if_neg hs, if_pos (by omega), flip_ky hu]
      rw [e1]
      show Enc (some (toK (kb (ky (flipB u))) n 4, toK (kb (ky (flipB u))) n 3)) _ _
      rw [pw_pt (flip_lt hu) (flip_ok hu fu).2.1, pw_pt (flip_lt hu) (flip_ok hu fu).2.1]
      unfold pwK
      rw [(flip_own hu).1, (flip_own hu).2, show n = 2 * (n / 2) by omega, even_pow, ← show n = 2 * (n / 2) by omega]
      exact enc_pt _ _
  · rw [if_neg he]
    show Enc ((some (ky u, ky u)).map (fun p => (toK (kb p.1) n 4, toK (kb p.2) n 3))) _ _
    rw [odd]
    exact enc_pt _ _

theorem enc_pow {a : Option (Int × Int)} (ha : Iok a) {u : Nat} (hu : W64 u) (h1 : hasK a u = true) (n : Nat) : Enc (powK a n) (valZ u ^ n) (pE u * (n : Int)) := by
  obtain ⟨fu, iu⟩ := pt_in h1
  exact (pow_pt hu fu n).wider (powK_in (pt_ok hu fu) ha n iu)

end Go.Proofs.YtjokekmbnffpfaaGreatDoor
