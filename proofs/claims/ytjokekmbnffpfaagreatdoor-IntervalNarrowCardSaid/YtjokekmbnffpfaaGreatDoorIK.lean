/- Plain: what is rounded outward is tight: a number further in would leave it out. -/
import Derived.Test.YtjokekmbnffpfaaGreatDoorIJ
import Derived.Test.YtjokekmbnffpfaaGreatDoorGX
import Derived.Test.YtjokekmbnffpfaaGreatDoorZBw1
import Derived.Test.YtjokekmbnffpfaaGreatDoorGT
section
namespace Go.Proofs.YtjokekmbnffpfaaGreatDoor
open Go.RowKit

/-- At the low end of place k: is n / d, d above 0, below the next number? At the high end? -/
def tgL (k zn en zd ed : Int) : Bool := decide (k + 1 = kInf) || decide ((plZ zn en (-(valZ (kb (k + 1)) * zd)) (pE (kb (k + 1)) + ed)).sign < 0)
def tgH (k zn en zd ed : Int) : Bool := decide (k - 1 = -(kInf : Int)) || decide (0 < (plZ zn en (-(valZ (kb (k - 1)) * zd)) (pE (kb (k - 1)) + ed)).sign)

theorem tl_low {M z e k : Int} (hM : 1074 ≤ M) (h1 : 0 ≤ e + M) (hk : k = ky (rndX z e 4)) (h : k + 1 < kInf) : sc M z e < vI M (kb (k + 1)) := by
  have adj := rndX_adj z e
  obtain ⟨a, b, c, d⟩ := kb_fin (k := k + 1) (by omega) h
  refine Int.not_le.1 fun hle => ?_
  have := le_rnd 4 hM h1 a b hle
  rw [d] at this
  omega
theorem tl_high {M z e k : Int} (hM : 1074 ≤ M) (h1 : 0 ≤ e + M) (hk : k = ky (rndX z e 3)) (h : -(kInf : Int) < k - 1) : vI M (kb (k - 1)) < sc M z e := by
  obtain ⟨l, n⟩ := rndX_lt z e 3
  have hb := ky_bd l n
  obtain ⟨a, b, c, d⟩ := kb_fin (k := k - 1) h (by omega)
  refine Int.not_le.1 fun hle => ?_
  have := rnd_le 3 hM h1 a b hle
  rw [d] at this
  omega

/-- A number rounded outward is tight. -/
theorem tg_low {z e k : Int} (hk : k = ky (rndX z e 4)) : tgL k z e 1 0 = true := by
  have adj := rndX_adj z e
  unfold tgL
  rw [Bool.or_eq_true, decide_eq_true_iff, decide_eq_true_iff]
  by_cases h : k + 1 = kInf
  · exact .inl h
  · right
    obtain ⟨M, hM, m1⟩ : ∃ M : Int, 1074 ≤ M ∧ 0 ≤ e + M := ⟨1074 + e.natAbs, by omega, by omega⟩
    obtain ⟨a, b, c, d⟩ := kb_fin (k := k + 1) (by omega) (by omega)
    have ep := pE_bd b
    refine (cmp_sc (M := M) m1 (by omega)).2.2.1.2 ?_
    rw [Int.mul_one, Int.add_zero]
    exact tl_low hM m1 hk (by omega)
theorem tg_high {z e k : Int} (hk : k = ky (rndX z e 3)) : tgH k z e 1 0 = true := by
  have up := rndX_up_low z e
  obtain ⟨l, n⟩ := rndX_lt z e 3
  have hb := ky_bd l n
  unfold tgH
  rw [Bool.or_eq_true, decide_eq_true_iff, decide_eq_true_iff]
  by_cases h : k - 1 = -(kInf : Int)
  · exact .inl h
  · right
    obtain ⟨M, hM, m1⟩ : ∃ M : Int, 1074 ≤ M ∧ 0 ≤ e + M := ⟨1074 + e.natAbs, by omega, by omega⟩
    obtain ⟨a, b, c, d⟩ := kb_fin (k := k - 1) (by omega) (by omega)
    have ep := pE_bd b
    refine (cmp_sc (M := M) m1 (by omega)).2.2.2.2 ?_
    rw [Int.mul_one, Int.add_zero]
    exact tl_high hM m1 hk (by omega)

/-- So is a quotient by what is above 0. -/
theorem tg_div_low {x y : Nat} {k : Int} (hx : W64 x) (hy : W64 y) (fx : finB x = true) (fy : finB y = true) (x0 : ky x ≠ 0) (y0 : 0 < ky y) (hk : k = dvK x y 4) : tgL k (valZ x) (pE x) (valZ y) (pE y) = true := by
  have hb := dq_bd x y
  unfold tgL
  rw [Bool.or_eq_true, decide_eq_true_iff, decide_eq_true_iff]
  by_cases h : k + 1 = kInf
  · exact .inl h
  · right
    obtain ⟨M, hM, m1, -⟩ := two_wide x y x y
    obtain ⟨a, b, c, d⟩ := kb_fin (k := k + 1) (by omega) (by omega)
    have ep := pE_bd b
    have ex := pE_bd fx
    have ey := pE_bd fy
    have yp : 0 < fI y := (fI_zero_iff hy fy).2.1.2 y0
    have u0 : valZ x ≠ 0 := fun t => by have := (fI_zero_iff hx fx).1.2 t; have := fI_zero_iff hx fx; omega
    have q := q_signed hx hy a fx fy b u0 yp hM m1
    have t := tl_low (k := k) hM m1 hk (by omega)
    refine (cmp_sc (M := 2148) (by omega) (by omega)).2.2.1.2 ?_
    rw [fI_times b fy, fI_shift fx]
    refine Int.not_le.1 fun hle => ?_
    have := q.1.2 hle
    omega
theorem tg_div_high {x y : Nat} {k : Int} (hx : W64 x) (hy : W64 y) (fx : finB x = true) (fy : finB y = true) (x0 : ky x ≠ 0) (y0 : 0 < ky y) (hk : k = dvK x y 3) : tgH k (valZ x) (pE x) (valZ y) (pE y) = true := by
  have hb := dq_bd x y
  unfold tgH
  rw [Bool.or_eq_true, decide_eq_true_iff, decide_eq_true_iff]
  by_cases h : k - 1 = -(kInf : Int)
  · exact .inl h
  · right
    obtain ⟨M, hM, m1, -⟩ := two_wide x y x y
    obtain ⟨a, b, c, d⟩ := kb_fin (k := k - 1) (by omega) (by omega)
    have ep := pE_bd b
    have ex := pE_bd fx
    have ey := pE_bd fy
    have yp : 0 < fI y := (fI_zero_iff hy fy).2.1.2 y0
    have u0 : valZ x ≠ 0 := fun t => by have := (fI_zero_iff hx fx).1.2 t; have := fI_zero_iff hx fx; omega
    have q := q_signed hx hy a fx fy b u0 yp hM m1
    have t := tl_high (k := k) hM m1 hk (by omega)
    refine (cmp_sc (M := 2148) (by omega) (by omega)).2.2.2.2 ?_
    rw [fI_times b fy, fI_shift fx]
    refine Int.not_le.1 fun hle => ?_
    have := q.2.2 hle
    omega

/-- A quotient of 0: the end is 0, and the least number beyond it leaves 0 out. -/
theorem tg_zero {x y : Nat} (hx : W64 x) (hy : W64 y) (fx : finB x = true) (fy : finB y = true) (x0 : ky x = 0) (y0 : 0 < ky y) : tgL 0 (valZ x) (pE x) (valZ y) (pE y) = true ∧ tgH 0 (valZ x) (pE x) (valZ y) (pE y) = true := by
  have hk := kInf_pos
  have ex := pE_bd fx
  have ey := pE_bd fy
  have yp : 0 < fI y := (fI_zero_iff hy fy).2.1.2 y0
  have fz : fI x = 0 := by have := fI_zero_iff hx fx; omega
  have k1 : (1 : Int) < kInf := by decide
  constructor
  · unfold tgL
    rw [Bool.or_eq_true, decide_eq_true_iff, decide_eq_true_iff]
    right
    obtain ⟨a, b, c, d⟩ := kb_fin (k := 0 + 1) (by omega) (by omega)
    have ep := pE_bd b
    refine (cmp_sc (M := 2148) (by omega) (by omega)).2.2.1.2 ?_
    rw [fI_times b fy, fI_shift fx, fz, Int.zero_mul]
    exact Int.mul_pos (kb_pos (k := 0 + 1) (by omega) (by omega)) yp
  · unfold tgH
    rw [Bool.or_eq_true, decide_eq_true_iff, decide_eq_true_iff]
    right
    obtain ⟨a, b, c, d⟩ := kb_fin (k := 0 - 1) (by omega) (by omega)
    have ep := pE_bd b
    have hn : fI (kb (0 - 1)) < 0 := (fI_zero_iff a b).2.2.2 (by omega)
    refine (cmp_sc (M := 2148) (by omega) (by omega)).2.2.2.2 ?_
    rw [fI_times b fy, fI_shift fx, fz, Int.zero_mul]
    exact Int.mul_neg_of_neg_of_pos hn yp

end Go.Proofs.YtjokekmbnffpfaaGreatDoor
end

/- Walks: math.Nextafter to the infinities; the law's word tight. Printed by wip/gen/iv21.py. -/
section
namespace Go.Proofs.YtjokekmbnffpfaaGreatDoor
open Go.RowKit
attribute [local go_sem] run_store_f

theorem ky_up {x : Nat} (hx : W64 x) (fx : finB x = true) : (0 < ky x → W64 (x + 1) ∧ nanB (x + 1) = false ∧ ky (x + 1) = ky x + 1) ∧ (0 < ky x → 1 ≤ x ∧ W64 (x - 1) ∧ nanB (x - 1) = false ∧ ky (x - 1) = ky x - 1) ∧
    (ky x < 0 → W64 (x + 1) ∧ nanB (x + 1) = false ∧ ky (x + 1) = ky x - 1) ∧ (ky x < 0 → 1 ≤ x ∧ W64 (x - 1) ∧ nanB (x - 1) = false ∧ ky (x - 1) = ky x + 1) := by
  have hb := (fin_ky hx (num_of (nan_fin fx))).1 fx
  have hK : (kInf : Nat) = 9218868437227405312 := rfl
  have hS : kSign = 9223372036854775808 := rfl
  have key : ∀ y : Nat, ky y = if y < kSign then (y : Int) else -((y - kSign : Nat) : Int) := fun y => rfl
  have num : ∀ y : Nat, y % kSign ≤ kInf → nanB y = false := fun y h => num_iff.2 h
  have e := key x
  unfold W64 at *
  refine ⟨fun h => ?_, fun h => ?_, fun h => ?_, fun h => ?_⟩
  · split at e
    · exact ⟨by omega, num _ (by show _ % 9223372036854775808 ≤ 9218868437227405312; omega), by rw [key, if_pos (by omega)]; omega⟩
    · omega
  · split at e
    · exact ⟨by omega, by omega, num _ (by show _ % 9223372036854775808 ≤ 9218868437227405312; omega), by rw [key, if_pos (by omega)]; omega⟩
    · omega
  · split at e
    · omega
    · exact ⟨by omega, num _ (by show _ % 9223372036854775808 ≤ 9218868437227405312; omega), by rw [key, if_neg (by omega)]; omega⟩
  · split at e
    · omega
    · exact ⟨by omega, by omega, num _ (by show _ % 9223372036854775808 ≤ 9218868437227405312; omega), by
        rw [key]
        split <;> omega⟩

set_option maxRecDepth 100000 in
set_option maxHeartbeats 1600000 in
theorem next_up (x : Nat) (w : World) (hx : W64 x) (fx : finB x = true) : Calls Tryz.prog 26 #[.float .f64 x, .float .f64 9218868437227405312] w (GivesK (ky x + 1) w) := by
  have HN1 := Lib.hid fun W => isNaN_any x W
  rw [nan_fin fx] at HN1
  have HN2 := Lib.hid fun W => isNaN_any 9218868437227405312 W
  rw [show nanB 9218868437227405312 = false by decide] at HN2
  have hb := (fin_ky hx (num_of (nan_fin fx))).1 fx
  have kY : ky 9218868437227405312 = kInf := by decide
  have o1 : (FloatKind.f64.format.order x 9218868437227405312 == some Ordering.eq) = false := by rw [eq_test hx (by decide) (nan_fin fx) (by decide), kY]; exact decide_eq_false (by omega)
  have o3 : (FloatKind.f64.format.order 9218868437227405312 x == some Ordering.gt) = true := by rw [gt_test (by decide) hx (by decide) (nan_fin fx), kY]; exact decide_eq_true (by omega)
  have hfb := fbits_eq x
  have HB := Lib.hid (Below.refl w.heap.size w)
  obtain ⟨u1, u2, u3, u4⟩ := ky_up hx fx
  rcases Int.lt_trichotomy (ky x) 0 with hs | hs | hs
  · have o2 : (FloatKind.f64.format.order x 0 == some Ordering.eq) = false := by rw [eq_test hx (by decide) (nan_fin fx) (by decide), ky_zero]; exact decide_eq_false (by omega)
    have o4 : (FloatKind.f64.format.order x 0 == some Ordering.gt) = false := by rw [gt_test hx (by decide) (nan_fin fx) (by decide), ky_zero]; exact decide_eq_false (by omega)
    obtain ⟨v0, v1, v2, v3⟩ := u4 hs
    have hw : IntKind.u64.wrap ((x : Int) - 1) = ((x - 1 : Nat) : Int) := by rw [show ((x : Int) - 1) = ((x - 1 : Nat) : Int) by omega]; exact wrap_u64_lt _ v1
    have hff := ffrom_eq (x - 1)
    have HR := Lib.hid (And.intro v1 (And.intro v2 v3))
    generalize ky x + 1 = K at *
    generalize x - 1 = x' at *
    clear u1 u2 u3 u4 hb kY hs v0 v1 v2 v3 hx fx
    go_enter Tryz.func26, Tryz.ntmps26
    go_wp2_with fail
    refine (HN1.out _).mono ?_
    rintro e1 w1 ⟨rfl, hb1⟩
    replace HB := Lib.hid (HB.out.trans (hb1.mono HB.out.size))
    clear hb1
    go_wp2_with fail
    refine (HN2.out _).mono ?_
    rintro e2 w2 ⟨rfl, hb2⟩
    replace HB := Lib.hid (HB.out.trans (hb2.mono HB.out.size))
    clear hb2
    go_wp2
    go_ret
    exact ⟨_, rfl, HR.out.1, HR.out.2.1, HR.out.2.2, HB.out⟩
  · have o2 : (FloatKind.f64.format.order x 0 == some Ordering.eq) = true := by rw [eq_test hx (by decide) (nan_fin fx) (by decide), ky_zero]; exact decide_eq_true hs
    have HC := Lib.hid fun W => copysign_any 1 9218868437227405312 W (by decide) (by decide)
    rw [show cpB (sgnB 9218868437227405312) 1 = 1 by decide] at HC
    have hff : ∀ w, (callFunc 42 #[.int .u64 1]).run Tryz.prog w = .ok (.value (.float .f64 1)) w := ffrom_eq 1
    rw [hs]
    clear u1 u2 u3 u4 hb kY hs hx fx
    go_enter Tryz.func26, Tryz.ntmps26
    go_wp2_with fail
    refine (HN1.out _).mono ?_
    rintro e1 w1 ⟨rfl, hb1⟩
    replace HB := Lib.hid (HB.out.trans (hb1.mono HB.out.size))
    clear hb1
    go_wp2_with fail
    refine (HN2.out _).mono ?_
    rintro e2 w2 ⟨rfl, hb2⟩
    replace HB := Lib.hid (HB.out.trans (hb2.mono HB.out.size))
    clear hb2
    go_wp2_with fail
    refine (HC.out _).mono ?_
    rintro e3 w3 ⟨rfl, hb3⟩
    replace HB := Lib.hid (HB.out.trans (hb3.mono HB.out.size))
    clear hb3
    go_wp2
    go_ret
    exact ⟨_, rfl, by decide, by decide, by decide, HB.out⟩
  · have o2 : (FloatKind.f64.format.order x 0 == some Ordering.eq) = false := by rw [eq_test hx (by decide) (nan_fin fx) (by decide), ky_zero]; exact decide_eq_false (by omega)
    have o4 : (FloatKind.f64.format.order x 0 == some Ordering.gt) = true := by rw [gt_test hx (by decide) (nan_fin fx) (by decide), ky_zero]; exact decide_eq_true (by omega)
    obtain ⟨v1, v2, v3⟩ := u1 hs
    have hw : IntKind.u64.wrap ((x : Int) + 1) = ((x + 1 : Nat) : Int) := by rw [show ((x : Int) + 1) = ((x + 1 : Nat) : Int) by omega]; exact wrap_u64_lt _ v1
    have hff := ffrom_eq (x + 1)
    have HR := Lib.hid (And.intro v1 (And.intro v2 v3))
    generalize ky x + 1 = K at *
    generalize x + 1 = x' at *
    clear u1 u2 u3 u4 hb kY hs v1 v2 v3 hx fx
    go_enter Tryz.func26, Tryz.ntmps26
    go_wp2_with fail
    refine (HN1.out _).mono ?_
    rintro e1 w1 ⟨rfl, hb1⟩
    replace HB := Lib.hid (HB.out.trans (hb1.mono HB.out.size))
    clear hb1
    go_wp2_with fail
    refine (HN2.out _).mono ?_
    rintro e2 w2 ⟨rfl, hb2⟩
    replace HB := Lib.hid (HB.out.trans (hb2.mono HB.out.size))
    clear hb2
    go_wp2
    go_ret
    exact ⟨_, rfl, HR.out.1, HR.out.2.1, HR.out.2.2, HB.out⟩

set_option maxRecDepth 100000 in
set_option maxHeartbeats 1600000 in
theorem next_dn (x : Nat) (w : World) (hx : W64 x) (fx : finB x = true) : Calls Tryz.prog 26 #[.float .f64 x, .float .f64 18442240474082181120] w (GivesK (ky x - 1) w) := by
  have HN1 := Lib.hid fun W => isNaN_any x W
  rw [nan_fin fx] at HN1
  have HN2 := Lib.hid fun W => isNaN_any 18442240474082181120 W
  rw [show nanB 18442240474082181120 = false by decide] at HN2
  have hb := (fin_ky hx (num_of (nan_fin fx))).1 fx
  have kY : ky 18442240474082181120 = -(kInf : Int) := by decide
  have o1 : (FloatKind.f64.format.order x 18442240474082181120 == some Ordering.eq) = false := by rw [eq_test hx (by decide) (nan_fin fx) (by decide), kY]; exact decide_eq_false (by omega)
  have o3 : (FloatKind.f64.format.order 18442240474082181120 x == some Ordering.gt) = false := by rw [gt_test (by decide) hx (by decide) (nan_fin fx), kY]; exact decide_eq_false (by omega)
  have hfb := fbits_eq x
  have HB := Lib.hid (Below.refl w.heap.size w)
  obtain ⟨u1, u2, u3, u4⟩ := ky_up hx fx
  rcases Int.lt_trichotomy (ky x) 0 with hs | hs | hs
  · have o2 : (FloatKind.f64.format.order x 0 == some Ordering.eq) = false := by rw [eq_test hx (by decide) (nan_fin fx) (by decide), ky_zero]; exact decide_eq_false (by omega)
    have o4 : (FloatKind.f64.format.order x 0 == some Ordering.gt) = false := by rw [gt_test hx (by decide) (nan_fin fx) (by decide), ky_zero]; exact decide_eq_false (by omega)
    obtain ⟨v1, v2, v3⟩ := u3 hs
    have hw : IntKind.u64.wrap ((x : Int) + 1) = ((x + 1 : Nat) : Int) := by rw [show ((x : Int) + 1) = ((x + 1 : Nat) : Int) by omega]; exact wrap_u64_lt _ v1
    have hff := ffrom_eq (x + 1)
    have HR := Lib.hid (And.intro v1 (And.intro v2 v3))
    generalize ky x - 1 = K at *
    generalize x + 1 = x' at *
    clear u1 u2 u3 u4 hb kY hs v1 v2 v3 hx fx
    go_enter Tryz.func26, Tryz.ntmps26
    go_wp2_with fail
    refine (HN1.out _).mono ?_
    rintro e1 w1 ⟨rfl, hb1⟩
    replace HB := Lib.hid (HB.out.trans (hb1.mono HB.out.size))
    clear hb1
    go_wp2_with fail
    refine (HN2.out _).mono ?_
    rintro e2 w2 ⟨rfl, hb2⟩
    replace HB := Lib.hid (HB.out.trans (hb2.mono HB.out.size))
    clear hb2
    go_wp2
    go_ret
    exact ⟨_, rfl, HR.out.1, HR.out.2.1, HR.out.2.2, HB.out⟩
  · have o2 : (FloatKind.f64.format.order x 0 == some Ordering.eq) = true := by rw [eq_test hx (by decide) (nan_fin fx) (by decide), ky_zero]; exact decide_eq_true hs
    have HC := Lib.hid fun W => copysign_any 1 18442240474082181120 W (by decide) (by decide)
    rw [show cpB (sgnB 18442240474082181120) 1 = 9223372036854775809 by decide] at HC
    have hff : ∀ w, (callFunc 42 #[.int .u64 1]).run Tryz.prog w = .ok (.value (.float .f64 1)) w := ffrom_eq 1
    rw [hs]
    clear u1 u2 u3 u4 hb kY hs hx fx
    go_enter Tryz.func26, Tryz.ntmps26
    go_wp2_with fail
    refine (HN1.out _).mono ?_
    rintro e1 w1 ⟨rfl, hb1⟩
    replace HB := Lib.hid (HB.out.trans (hb1.mono HB.out.size))
    clear hb1
    go_wp2_with fail
    refine (HN2.out _).mono ?_
    rintro e2 w2 ⟨rfl, hb2⟩
    replace HB := Lib.hid (HB.out.trans (hb2.mono HB.out.size))
    clear hb2
    go_wp2_with fail
    refine (HC.out _).mono ?_
    rintro e3 w3 ⟨rfl, hb3⟩
    replace HB := Lib.hid (HB.out.trans (hb3.mono HB.out.size))
    clear hb3
    go_wp2
    go_ret
    exact ⟨_, rfl, by decide, by decide, by decide, HB.out⟩
  · have o2 : (FloatKind.f64.format.order x 0 == some Ordering.eq) = false := by rw [eq_test hx (by decide) (nan_fin fx) (by decide), ky_zero]; exact decide_eq_false (by omega)
    have o4 : (FloatKind.f64.format.order x 0 == some Ordering.gt) = true := by rw [gt_test hx (by decide) (nan_fin fx) (by decide), ky_zero]; exact decide_eq_true (by omega)
    obtain ⟨v0, v1, v2, v3⟩ := u2 hs
    have hw : IntKind.u64.wrap ((x : Int) - 1) = ((x - 1 : Nat) : Int) := by rw [show ((x : Int) - 1) = ((x - 1 : Nat) : Int) by omega]; exact wrap_u64_lt _ v1
    have hff := ffrom_eq (x - 1)
    have HR := Lib.hid (And.intro v1 (And.intro v2 v3))
    generalize ky x - 1 = K at *
    generalize x - 1 = x' at *
    clear u1 u2 u3 u4 hb kY hs v0 v1 v2 v3 hx fx
    go_enter Tryz.func26, Tryz.ntmps26
    go_wp2_with fail
    refine (HN1.out _).mono ?_
    rintro e1 w1 ⟨rfl, hb1⟩
    replace HB := Lib.hid (HB.out.trans (hb1.mono HB.out.size))
    clear hb1
    go_wp2_with fail
    refine (HN2.out _).mono ?_
    rintro e2 w2 ⟨rfl, hb2⟩
    replace HB := Lib.hid (HB.out.trans (hb2.mono HB.out.size))
    clear hb2
    go_wp2
    go_ret
    exact ⟨_, rfl, HR.out.1, HR.out.2.1, HR.out.2.2, HB.out⟩

end Go.Proofs.YtjokekmbnffpfaaGreatDoor
end

/- Walk: the law's word tight. Printed by wip/gen/iv22.py. -/
section
namespace Go.Proofs.YtjokekmbnffpfaaGreatDoor
open Go.RowKit
attribute [local go_sem] run_store_f

set_option maxRecDepth 100000 in
set_option maxHeartbeats 6400000 in
theorem tight_low (x y b c : Nat) (zn en zd ed : Int) (w : World) (hx : W64 x) (nx : nanB x = false) (hb : ky x < kInf) (hn : RInt w b zn) (hd : RInt w c zd) (bn : bl zn.natAbs ≤ 60000) (bd : bl zd.natAbs ≤ 60000) (n1 : -60000 ≤ en) (n2 : en ≤ 60000) (d1 : -60000 ≤ ed) (d2 : ed ≤ 60000) :
    Calls Tryz.prog 21 #[.agg #[.float .f64 x, .float .f64 y], ExV b en, ExV c ed, .bool true] w (Gives (.bool (tgL (ky x) zn en zd ed)) w) := by
  have HI := Lib.hid fun W => linf_any x W hx nx
  have HIF := Lib.hid fun W => inf_any W
  have hbd := ky_bd hx (num_of nx)
  have hK := kInf_pos
  have HN := Lib.hid hn
  have HD := Lib.hid hd
  have HS := Lib.hid (Bks.new3 w 34 27 27 #[.float .f64 x, .float .f64 y] #[.pointer (some ⟨b, 0, none⟩), .int .i64 en] #[.pointer (some ⟨c, 0, none⟩), .int .i64 ed])
  have hb0 := below3 w (.cells #[.float .f64 x, .float .f64 y] 34) (.cells #[.pointer (some ⟨b, 0, none⟩), .int .i64 en] 27) (.cells #[.pointer (some ⟨c, 0, none⟩), .int .i64 ed] 27)
  replace HN := Lib.hid (HN.out.below hb0)
  replace HD := Lib.hid (HD.out.below hb0)
  clear hb0
  unfold tgL
  cases fv : finB x
  · rw [fv, Bool.not_false] at HI
    have hk : ky x = -kInf := by
      have h1 := fin_ky hx (num_of nx)
      have h2 : ¬ (-(kInf : Int) < ky x ∧ ky x < kInf) := fun t => by have := h1.2 t; rw [fv] at this; cases this
      omega
    rw [hk, show kb (-kInf + 1) = 18442240474082181119 by decide, decide_eq_false (by omega), Bool.false_or]
    have fm : finB 18442240474082181119 = true := by decide
    have HO := Lib.hid fun W => rOf_any 18442240474082181119 W (by decide) fm
    have er := pE_bd fm
    have vr := val_bl (b := 18442240474082181119)
    have mr := bl_mul (valZ 18442240474082181119).natAbs zd.natAbs
    rw [← Int.natAbs_mul] at mr
    have HM := Lib.hid fun p q W (h1 : RInt W p (valZ 18442240474082181119)) (h2 : RInt W q zd) => rMulX_any p q _ (pE 18442240474082181119) _ ed W h1 h2 (by omega) (by omega) (by omega) (by omega) (by omega) (by omega)
    have HC := Lib.hid fun p q W (h1 : RInt W p zn) (h2 : RInt W q (valZ 18442240474082181119 * zd)) => rCmpX_any p q _ en _ (pE 18442240474082181119 + ed) W h1 h2 (by omega) (by omega) (by omega) (by omega) (by omega) (by omega)
    generalize (plZ zn en (-(valZ 18442240474082181119 * zd)) (pE 18442240474082181119 + ed)).sign = S at *
    generalize valZ 18442240474082181119 = zr at *
    generalize pE 18442240474082181119 = er' at *
    generalize zr * zd = zrd at *
    generalize er' + ed = erd at *
    clear hx nx hb hn hd bn bd n1 n2 d1 d2 hbd hK fv hk fm er vr mr HIF
    unfold ExV
    go_enter Tryz.func21, Tryz.ntmps21
    obtain ⟨⟨⟨g0, g1⟩, g2, g3⟩, g4, g5⟩ := HS.out.tri
    go_wp2_with fail
    refine (HI.out _).mono ?_
    rintro e1 w1 ⟨rfl, hb1⟩
    replace HS := Lib.hid (HS.out.later hb1)
    replace HN := Lib.hid (HN.out.below hb1)
    replace HD := Lib.hid (HD.out.below hb1)
    clear hb1
    clear g0 g1 g2 g3 g4 g5
    obtain ⟨⟨⟨g0, g1⟩, g2, g3⟩, g4, g5⟩ := HS.out.tri
    go_upto_region 3 with fail
    clear g0 g1 g2 g3 g4 g5
    refine wp_region_pl (fun w' : World => ((w'.cell? ⟨w.heap.size, 0, none⟩ = some (.float .f64 x) ∧ w'.cell? ⟨w.heap.size, 1, none⟩ = some (.float .f64 y)) ∧ w'.cell? ⟨w.heap.size + 1, 0, none⟩ = some (.pointer (some ⟨b, 0, none⟩)) ∧ w'.cell? ⟨w.heap.size + 1, 1, none⟩ = some (.int .i64 en)) ∧ w'.cell? ⟨w.heap.size + 1 + 1, 0, none⟩ = some (.pointer (some ⟨c, 0, none⟩)) ∧ w'.cell? ⟨w.heap.size + 1 + 1, 1, none⟩ = some (.int .i64 ed)) 4 (.take 0 (.take 2 (.run 1 (.run 3 (.nil))))) (by kernel_rfl) (by kernel_rfl) ?_
    replace HS := Lib.hid (HS.out.later (drew_below _))
    replace HN := Lib.hid (HN.out.below (drew_below _))
    replace HD := Lib.hid (HD.out.below (drew_below _))
    generalize World.drew _ = W2 at HS HN HD ⊢
    repeat (first | (refine wpPl_takeL (v := ?_) rfl rfl (fun _ _ _ h => h) rfl (fun w' hSw => ?_) HS.out.tri ?_; rotate_left; (focus (go_simp; with_reducible rfl)); simp only [setL]) | (refine wpPl_skipL rfl rfl (fun _ _ _ h => h) rfl HS.out.tri ?_; simp only [setL]))
    refine wpPl_goL rfl rfl fun K' hK => ?_
    go_simp
    refine (HO.out _).mono ?_
    rintro e1 W2v1 ⟨o1, rfl, -, hi1, hb1⟩
    replace HS := Lib.hid (HS.out.later hb1)
    replace HN := Lib.hid (HN.out.below hb1)
    replace HD := Lib.hid (HD.out.below hb1)
    have HZ1 := Lib.hid hi1
    clear hi1
    unfold ExV
    refine hK _ _ HS.out.tri ?_
    clear hK K' hb1
    try simp only [Act.put, setL]
    repeat (first | (refine wpPl_takeL (v := ?_) rfl rfl (fun _ _ _ h => h) rfl (fun w' hSw => ?_) HS.out.tri ?_; rotate_left; (focus (go_simp; with_reducible rfl)); simp only [setL]) | (refine wpPl_skipL rfl rfl (fun _ _ _ h => h) rfl HS.out.tri ?_; simp only [setL]))
    refine wpPl_goL rfl rfl fun K' hK => ?_
    go_simp
    refine (HM.out _ _ _ HZ1.out HD.out).mono ?_
    rintro e1 W2v2 ⟨o2, rfl, -, hi1, hb1⟩
    replace HS := Lib.hid (HS.out.later hb1)
    replace HN := Lib.hid (HN.out.below hb1)
    replace HD := Lib.hid (HD.out.below hb1)
    clear HZ1
    have HZ2 := Lib.hid hi1
    clear hi1
    unfold ExV
    refine hK _ _ HS.out.tri ?_
    clear hK K' hb1
    try simp only [Act.put, setL]
    repeat (first | (refine wpPl_takeL (v := ?_) rfl rfl (fun _ _ _ h => h) rfl (fun w' hSw => ?_) HS.out.tri ?_; rotate_left; (focus (go_simp; with_reducible rfl)); simp only [setL]) | (refine wpPl_skipL rfl rfl (fun _ _ _ h => h) rfl HS.out.tri ?_; simp only [setL]))
    refine wpPl_nil ?_
    simp only [List.drop_succ_cons, List.drop_zero]
    obtain ⟨⟨⟨g0, g1⟩, g2, g3⟩, g4, g5⟩ := HS.out.tri
    go_wp2_with fail
    refine (HC.out _ _ _ HN.out HZ2.out).mono ?_
    rintro e3 w3 ⟨rfl, hb3⟩
    replace HS := Lib.hid (HS.out.later hb3)
    replace HN := Lib.hid (HN.out.below hb3)
    replace HD := Lib.hid (HD.out.below hb3)
    clear hb3
    clear g0 g1 g2 g3 g4 g5
    go_wp2
    go_ret
    exact ⟨rfl, HS.out.2⟩
  rw [fv, Bool.not_true] at HI
  have HNX := Lib.hid fun W => next_up x W hx fv
  have hfk := (fin_ky hx (num_of nx)).1 fv
  by_cases he : ky x + 1 = kInf
  · rw [decide_eq_true he, Bool.true_or]
    clear hx nx hb hn hd bn bd n1 n2 d1 d2 hbd fv
    unfold ExV
    go_enter Tryz.func21, Tryz.ntmps21
    obtain ⟨⟨⟨g0, g1⟩, g2, g3⟩, g4, g5⟩ := HS.out.tri
    go_wp2_with fail
    refine (HI.out _).mono ?_
    rintro e1 w1 ⟨rfl, hb1⟩
    replace HS := Lib.hid (HS.out.later hb1)
    replace HN := Lib.hid (HN.out.below hb1)
    replace HD := Lib.hid (HD.out.below hb1)
    clear hb1
    clear g0 g1 g2 g3 g4 g5
    obtain ⟨⟨⟨g0, g1⟩, g2, g3⟩, g4, g5⟩ := HS.out.tri
    go_upto_region 4 with fail
    clear g0 g1 g2 g3 g4 g5
    refine wp_region_pl (fun w' : World => ((w'.cell? ⟨w.heap.size, 0, none⟩ = some (.float .f64 x) ∧ w'.cell? ⟨w.heap.size, 1, none⟩ = some (.float .f64 y)) ∧ w'.cell? ⟨w.heap.size + 1, 0, none⟩ = some (.pointer (some ⟨b, 0, none⟩)) ∧ w'.cell? ⟨w.heap.size + 1, 1, none⟩ = some (.int .i64 en)) ∧ w'.cell? ⟨w.heap.size + 1 + 1, 0, none⟩ = some (.pointer (some ⟨c, 0, none⟩)) ∧ w'.cell? ⟨w.heap.size + 1 + 1, 1, none⟩ = some (.int .i64 ed)) 3 (.take 0 (.take 1 (.run 2 (.nil)))) (by kernel_rfl) (by kernel_rfl) ?_
    replace HS := Lib.hid (HS.out.later (drew_below _))
    replace HN := Lib.hid (HN.out.below (drew_below _))
    replace HD := Lib.hid (HD.out.below (drew_below _))
    generalize World.drew _ = W2 at HS HN HD ⊢
    repeat (first | (refine wpPl_takeL (v := ?_) rfl rfl (fun _ _ _ h => h) rfl (fun w' hSw => ?_) HS.out.tri ?_; rotate_left; (focus (go_simp; with_reducible rfl)); simp only [setL]) | (refine wpPl_skipL rfl rfl (fun _ _ _ h => h) rfl HS.out.tri ?_; simp only [setL]))
    refine wpPl_goL rfl rfl fun K' hK => ?_
    go_simp
    refine (HIF.out _).mono ?_
    rintro e1 W2v1 ⟨rfl, hb1⟩
    replace HS := Lib.hid (HS.out.later hb1)
    replace HN := Lib.hid (HN.out.below hb1)
    replace HD := Lib.hid (HD.out.below hb1)
    refine hK _ _ HS.out.tri ?_
    clear hK K' hb1
    try simp only [Act.put, setL]
    repeat (first | (refine wpPl_takeL (v := ?_) rfl rfl (fun _ _ _ h => h) rfl (fun w' hSw => ?_) HS.out.tri ?_; rotate_left; (focus (go_simp; with_reducible rfl)); simp only [setL]) | (refine wpPl_skipL rfl rfl (fun _ _ _ h => h) rfl HS.out.tri ?_; simp only [setL]))
    refine wpPl_nil ?_
    simp only [List.drop_succ_cons, List.drop_zero]
    go_wp2_with fail
    refine (HNX.out _).mono ?_
    rintro e3 w3 ⟨r, rfl, r1, r2, r3, hb3⟩
    replace HS := Lib.hid (HS.out.later hb3)
    replace HN := Lib.hid (HN.out.below hb3)
    replace HD := Lib.hid (HD.out.below hb3)
    clear hb3
    go_upto_region 5 with fail
    have hfr : finB r = false := by
      cases hf : finB r
      · rfl
      · have := (fin_ky r1 (num_of r2)).1 hf; omega
    have HIR := Lib.hid fun W => linf_any r W r1 r2
    rw [hfr, Bool.not_false] at HIR
    clear r1 r2 r3 hfr he hfk hK
    refine wp_region_pl (fun w' : World => ((w'.cell? ⟨w.heap.size, 0, none⟩ = some (.float .f64 x) ∧ w'.cell? ⟨w.heap.size, 1, none⟩ = some (.float .f64 y)) ∧ w'.cell? ⟨w.heap.size + 1, 0, none⟩ = some (.pointer (some ⟨b, 0, none⟩)) ∧ w'.cell? ⟨w.heap.size + 1, 1, none⟩ = some (.int .i64 en)) ∧ w'.cell? ⟨w.heap.size + 1 + 1, 0, none⟩ = some (.pointer (some ⟨c, 0, none⟩)) ∧ w'.cell? ⟨w.heap.size + 1 + 1, 1, none⟩ = some (.int .i64 ed)) 8 (.take 0 (.run 1 (.take 2 (.take 3 (.take 4 (.take 6 (.run 5 (.run 7 (.nil))))))))) (by kernel_rfl) (by kernel_rfl) ?_
    replace HS := Lib.hid (HS.out.later (drew_below _))
    replace HN := Lib.hid (HN.out.below (drew_below _))
    replace HD := Lib.hid (HD.out.below (drew_below _))
    generalize World.drew _ = W4 at HS HN HD ⊢
    repeat (first | (refine wpPl_takeL (v := ?_) rfl rfl (fun _ _ _ h => h) rfl (fun w' hSw => ?_) HS.out.tri ?_; rotate_left; (focus (go_simp; with_reducible rfl)); simp only [setL]) | (refine wpPl_skipL rfl rfl (fun _ _ _ h => h) rfl HS.out.tri ?_; simp only [setL]))
    refine wpPl_goL rfl rfl fun K' hK => ?_
    go_simp
    refine (HIR.out _).mono ?_
    rintro e1 W4v1 ⟨rfl, hb1⟩
    replace HS := Lib.hid (HS.out.later hb1)
    replace HN := Lib.hid (HN.out.below hb1)
    replace HD := Lib.hid (HD.out.below hb1)
    refine hK _ _ HS.out.tri ?_
    clear hK K' hb1
    try simp only [Act.put, setL]
    repeat (first | (refine wpPl_takeL (v := ?_) rfl rfl (fun _ _ _ h => h) rfl (fun w' hSw => ?_) HS.out.tri ?_; rotate_left; (focus (go_simp; with_reducible rfl)); simp only [setL]) | (refine wpPl_skipL rfl rfl (fun _ _ _ h => h) rfl HS.out.tri ?_; simp only [setL]))
    refine wpPl_idleL rfl rfl rfl HS.out.tri ?_
    simp only [setL]
    repeat (first | (refine wpPl_takeL (v := ?_) rfl rfl (fun _ _ _ h => h) rfl (fun w' hSw => ?_) HS.out.tri ?_; rotate_left; (focus (go_simp; with_reducible rfl)); simp only [setL]) | (refine wpPl_skipL rfl rfl (fun _ _ _ h => h) rfl HS.out.tri ?_; simp only [setL]))
    refine wpPl_idleL rfl rfl rfl HS.out.tri ?_
    simp only [setL]
    repeat (first | (refine wpPl_takeL (v := ?_) rfl rfl (fun _ _ _ h => h) rfl (fun w' hSw => ?_) HS.out.tri ?_; rotate_left; (focus (go_simp; with_reducible rfl)); simp only [setL]) | (refine wpPl_skipL rfl rfl (fun _ _ _ h => h) rfl HS.out.tri ?_; simp only [setL]))
    refine wpPl_nil ?_
    simp only [List.drop_succ_cons, List.drop_zero]
    go_wp2
    go_ret
    exact ⟨rfl, HS.out.2⟩
  · rw [decide_eq_false he, Bool.false_or]
    obtain ⟨c1, c2, c3, c4⟩ := kb_fin (k := ky x + 1) (by omega) (by omega)
    have er := pE_bd c2
    have vr := val_bl (b := (kb (ky x + 1)))
    have mr := bl_mul (valZ (kb (ky x + 1))).natAbs zd.natAbs
    rw [← Int.natAbs_mul] at mr
    have HM := Lib.hid fun p q W (h1 : RInt W p (valZ (kb (ky x + 1)))) (h2 : RInt W q zd) => rMulX_any p q _ (pE (kb (ky x + 1))) _ ed W h1 h2 (by omega) (by omega) (by omega) (by omega) (by omega) (by omega)
    have HC := Lib.hid fun p q W (h1 : RInt W p zn) (h2 : RInt W q (valZ (kb (ky x + 1)) * zd)) => rCmpX_any p q _ en _ (pE (kb (ky x + 1)) + ed) W h1 h2 (by omega) (by omega) (by omega) (by omega) (by omega) (by omega)
    obtain ⟨k2, hk2⟩ : ∃ t, ky x + 1 = t := ⟨_, rfl⟩
    rw [hk2] at HNX c2 HM HC he ⊢
    have HO := Lib.hid fun r W (h1 : W64 r) (h2 : finB r = true) (h3 : ky r = k2) => rOf_any r W h1 h2
    have HP : Hid (∀ r, W64 r → finB r = true → ky r = k2 → valZ r = valZ (kb k2) ∧ pE r = pE (kb k2)) := Lib.hid fun r h1 h2 h3 => by rw [← h3]; exact ⟨(own_parts h1).1.symm, (own_parts h1).2.symm⟩
    have HF : Hid (-(kInf : Int) < k2 ∧ k2 < kInf) := Lib.hid (by omega)
    generalize (plZ zn en (-(valZ (kb k2) * zd)) (pE (kb k2) + ed)).sign = S at *
    generalize valZ (kb k2) = zr at *
    generalize pE (kb k2) = er' at *
    generalize zr * zd = zrd at *
    generalize er' + ed = erd at *
    clear hx nx hb hn hd bn bd n1 n2 d1 d2 hbd fv c1 c2 c3 c4 er vr mr he hfk hK hk2
    unfold ExV
    go_enter Tryz.func21, Tryz.ntmps21
    obtain ⟨⟨⟨g0, g1⟩, g2, g3⟩, g4, g5⟩ := HS.out.tri
    go_wp2_with fail
    refine (HI.out _).mono ?_
    rintro e1 w1 ⟨rfl, hb1⟩
    replace HS := Lib.hid (HS.out.later hb1)
    replace HN := Lib.hid (HN.out.below hb1)
    replace HD := Lib.hid (HD.out.below hb1)
    clear hb1
    clear g0 g1 g2 g3 g4 g5
    obtain ⟨⟨⟨g0, g1⟩, g2, g3⟩, g4, g5⟩ := HS.out.tri
    go_upto_region 4 with fail
    clear g0 g1 g2 g3 g4 g5
    refine wp_region_pl (fun w' : World => ((w'.cell? ⟨w.heap.size, 0, none⟩ = some (.float .f64 x) ∧ w'.cell? ⟨w.heap.size, 1, none⟩ = some (.float .f64 y)) ∧ w'.cell? ⟨w.heap.size + 1, 0, none⟩ = some (.pointer (some ⟨b, 0, none⟩)) ∧ w'.cell? ⟨w.heap.size + 1, 1, none⟩ = some (.int .i64 en)) ∧ w'.cell? ⟨w.heap.size + 1 + 1, 0, none⟩ = some (.pointer (some ⟨c, 0, none⟩)) ∧ w'.cell? ⟨w.heap.size + 1 + 1, 1, none⟩ = some (.int .i64 ed)) 3 (.take 0 (.take 1 (.run 2 (.nil)))) (by kernel_rfl) (by kernel_rfl) ?_
    replace HS := Lib.hid (HS.out.later (drew_below _))
    replace HN := Lib.hid (HN.out.below (drew_below _))
    replace HD := Lib.hid (HD.out.below (drew_below _))
    generalize World.drew _ = W2 at HS HN HD ⊢
    repeat (first | (refine wpPl_takeL (v := ?_) rfl rfl (fun _ _ _ h => h) rfl (fun w' hSw => ?_) HS.out.tri ?_; rotate_left; (focus (go_simp; with_reducible rfl)); simp only [setL]) | (refine wpPl_skipL rfl rfl (fun _ _ _ h => h) rfl HS.out.tri ?_; simp only [setL]))
    refine wpPl_goL rfl rfl fun K' hK => ?_
    go_simp
    refine (HIF.out _).mono ?_
    rintro e1 W2v1 ⟨rfl, hb1⟩
    replace HS := Lib.hid (HS.out.later hb1)
    replace HN := Lib.hid (HN.out.below hb1)
    replace HD := Lib.hid (HD.out.below hb1)
    refine hK _ _ HS.out.tri ?_
    clear hK K' hb1
    try simp only [Act.put, setL]
    repeat (first | (refine wpPl_takeL (v := ?_) rfl rfl (fun _ _ _ h => h) rfl (fun w' hSw => ?_) HS.out.tri ?_; rotate_left; (focus (go_simp; with_reducible rfl)); simp only [setL]) | (refine wpPl_skipL rfl rfl (fun _ _ _ h => h) rfl HS.out.tri ?_; simp only [setL]))
    refine wpPl_nil ?_
    simp only [List.drop_succ_cons, List.drop_zero]
    go_wp2_with fail
    refine (HNX.out _).mono ?_
    rintro e3 w3 ⟨r, rfl, r1, r2, r3, hb3⟩
    replace HS := Lib.hid (HS.out.later hb3)
    replace HN := Lib.hid (HN.out.below hb3)
    replace HD := Lib.hid (HD.out.below hb3)
    clear hb3
    go_upto_region 5 with fail
    have hfr : finB r = true := (fin_ky r1 (num_of r2)).2 (by have := HF.out; omega)
    have HIR := Lib.hid fun W => linf_any r W r1 r2
    rw [hfr, Bool.not_true] at HIR
    have HO2 := Lib.hid fun W => HO.out r W r1 hfr r3
    rw [(HP.out r r1 hfr r3).1, (HP.out r r1 hfr r3).2] at HO2
    clear r1 r2 r3 hfr HP HF HO
    refine wp_region_pl (fun w' : World => ((w'.cell? ⟨w.heap.size, 0, none⟩ = some (.float .f64 x) ∧ w'.cell? ⟨w.heap.size, 1, none⟩ = some (.float .f64 y)) ∧ w'.cell? ⟨w.heap.size + 1, 0, none⟩ = some (.pointer (some ⟨b, 0, none⟩)) ∧ w'.cell? ⟨w.heap.size + 1, 1, none⟩ = some (.int .i64 en)) ∧ w'.cell? ⟨w.heap.size + 1 + 1, 0, none⟩ = some (.pointer (some ⟨c, 0, none⟩)) ∧ w'.cell? ⟨w.heap.size + 1 + 1, 1, none⟩ = some (.int .i64 ed)) 8 (.take 0 (.run 1 (.take 2 (.take 3 (.take 4 (.take 6 (.run 5 (.run 7 (.nil))))))))) (by kernel_rfl) (by kernel_rfl) ?_
    replace HS := Lib.hid (HS.out.later (drew_below _))
    replace HN := Lib.hid (HN.out.below (drew_below _))
    replace HD := Lib.hid (HD.out.below (drew_below _))
    generalize World.drew _ = W4 at HS HN HD ⊢
    repeat (first | (refine wpPl_takeL (v := ?_) rfl rfl (fun _ _ _ h => h) rfl (fun w' hSw => ?_) HS.out.tri ?_; rotate_left; (focus (go_simp; with_reducible rfl)); simp only [setL]) | (refine wpPl_skipL rfl rfl (fun _ _ _ h => h) rfl HS.out.tri ?_; simp only [setL]))
    refine wpPl_goL rfl rfl fun K' hK => ?_
    go_simp
    refine (HIR.out _).mono ?_
    rintro e1 W4v1 ⟨rfl, hb1⟩
    replace HS := Lib.hid (HS.out.later hb1)
    replace HN := Lib.hid (HN.out.below hb1)
    replace HD := Lib.hid (HD.out.below hb1)
    refine hK _ _ HS.out.tri ?_
    clear hK K' hb1
    try simp only [Act.put, setL]
    repeat (first | (refine wpPl_takeL (v := ?_) rfl rfl (fun _ _ _ h => h) rfl (fun w' hSw => ?_) HS.out.tri ?_; rotate_left; (focus (go_simp; with_reducible rfl)); simp only [setL]) | (refine wpPl_skipL rfl rfl (fun _ _ _ h => h) rfl HS.out.tri ?_; simp only [setL]))
    refine wpPl_goL rfl rfl fun K' hK => ?_
    go_simp
    refine (HO2.out _).mono ?_
    rintro e1 W4v2 ⟨o1, rfl, -, hi1, hb1⟩
    replace HS := Lib.hid (HS.out.later hb1)
    replace HN := Lib.hid (HN.out.below hb1)
    replace HD := Lib.hid (HD.out.below hb1)
    have HZ1 := Lib.hid hi1
    clear hi1
    unfold ExV
    refine hK _ _ HS.out.tri ?_
    clear hK K' hb1
    try simp only [Act.put, setL]
    repeat (first | (refine wpPl_takeL (v := ?_) rfl rfl (fun _ _ _ h => h) rfl (fun w' hSw => ?_) HS.out.tri ?_; rotate_left; (focus (go_simp; with_reducible rfl)); simp only [setL]) | (refine wpPl_skipL rfl rfl (fun _ _ _ h => h) rfl HS.out.tri ?_; simp only [setL]))
    refine wpPl_goL rfl rfl fun K' hK => ?_
    go_simp
    refine (HM.out _ _ _ HZ1.out HD.out).mono ?_
    rintro e1 W4v3 ⟨o2, rfl, -, hi1, hb1⟩
    replace HS := Lib.hid (HS.out.later hb1)
    replace HN := Lib.hid (HN.out.below hb1)
    replace HD := Lib.hid (HD.out.below hb1)
    clear HZ1
    have HZ2 := Lib.hid hi1
    clear hi1
    unfold ExV
    refine hK _ _ HS.out.tri ?_
    clear hK K' hb1
    try simp only [Act.put, setL]
    repeat (first | (refine wpPl_takeL (v := ?_) rfl rfl (fun _ _ _ h => h) rfl (fun w' hSw => ?_) HS.out.tri ?_; rotate_left; (focus (go_simp; with_reducible rfl)); simp only [setL]) | (refine wpPl_skipL rfl rfl (fun _ _ _ h => h) rfl HS.out.tri ?_; simp only [setL]))
    refine wpPl_nil ?_
    simp only [List.drop_succ_cons, List.drop_zero]
    obtain ⟨⟨⟨g0, g1⟩, g2, g3⟩, g4, g5⟩ := HS.out.tri
    go_wp2_with fail
    refine (HC.out _ _ _ HN.out HZ2.out).mono ?_
    rintro e5 w5 ⟨rfl, hb5⟩
    replace HS := Lib.hid (HS.out.later hb5)
    replace HN := Lib.hid (HN.out.below hb5)
    replace HD := Lib.hid (HD.out.below hb5)
    clear hb5
    clear g0 g1 g2 g3 g4 g5
    go_wp2
    go_ret
    exact ⟨rfl, HS.out.2⟩

set_option maxRecDepth 100000 in
set_option maxHeartbeats 6400000 in
theorem tight_high (x y b c : Nat) (zn en zd ed : Int) (w : World) (hy : W64 y) (ny : nanB y = false) (hb : -(kInf : Int) < ky y) (hn : RInt w b zn) (hd : RInt w c zd) (bn : bl zn.natAbs ≤ 60000) (bd : bl zd.natAbs ≤ 60000) (n1 : -60000 ≤ en) (n2 : en ≤ 60000) (d1 : -60000 ≤ ed) (d2 : ed ≤ 60000) :
    Calls Tryz.prog 21 #[.agg #[.float .f64 x, .float .f64 y], ExV b en, ExV c ed, .bool false] w (Gives (.bool (tgH (ky y) zn en zd ed)) w) := by
  have HI := Lib.hid fun W => linf_any y W hy ny
  have HIF := Lib.hid fun W => infNeg_any W
  have hbd := ky_bd hy (num_of ny)
  have hK := kInf_pos
  have HN := Lib.hid hn
  have HD := Lib.hid hd
  have HS := Lib.hid (Bks.new3 w 34 27 27 #[.float .f64 x, .float .f64 y] #[.pointer (some ⟨b, 0, none⟩), .int .i64 en] #[.pointer (some ⟨c, 0, none⟩), .int .i64 ed])
  have hb0 := below3 w (.cells #[.float .f64 x, .float .f64 y] 34) (.cells #[.pointer (some ⟨b, 0, none⟩), .int .i64 en] 27) (.cells #[.pointer (some ⟨c, 0, none⟩), .int .i64 ed] 27)
  replace HN := Lib.hid (HN.out.below hb0)
  replace HD := Lib.hid (HD.out.below hb0)
  clear hb0
  unfold tgH
  cases fv : finB y
  · rw [fv, Bool.not_false] at HI
    have hk : ky y = kInf := by
      have h1 := fin_ky hy (num_of ny)
      have h2 : ¬ (-(kInf : Int) < ky y ∧ ky y < kInf) := fun t => by have := h1.2 t; rw [fv] at this; cases this
      omega
    rw [hk, show kb (kInf - 1) = 9218868437227405311 by decide, decide_eq_false (by omega), Bool.false_or]
    have fm : finB 9218868437227405311 = true := by decide
    have HO := Lib.hid fun W => rOf_any 9218868437227405311 W (by decide) fm
    have er := pE_bd fm
    have vr := val_bl (b := 9218868437227405311)
    have mr := bl_mul (valZ 9218868437227405311).natAbs zd.natAbs
    rw [← Int.natAbs_mul] at mr
    have HM := Lib.hid fun p q W (h1 : RInt W p (valZ 9218868437227405311)) (h2 : RInt W q zd) => rMulX_any p q _ (pE 9218868437227405311) _ ed W h1 h2 (by omega) (by omega) (by omega) (by omega) (by omega) (by omega)
    have HC := Lib.hid fun p q W (h1 : RInt W p zn) (h2 : RInt W q (valZ 9218868437227405311 * zd)) => rCmpX_any p q _ en _ (pE 9218868437227405311 + ed) W h1 h2 (by omega) (by omega) (by omega) (by omega) (by omega) (by omega)
    generalize (plZ zn en (-(valZ 9218868437227405311 * zd)) (pE 9218868437227405311 + ed)).sign = S at *
    generalize valZ 9218868437227405311 = zr at *
    generalize pE 9218868437227405311 = er' at *
    generalize zr * zd = zrd at *
    generalize er' + ed = erd at *
    clear hy ny hb hn hd bn bd n1 n2 d1 d2 hbd hK fv hk fm er vr mr HIF
    unfold ExV
    go_enter Tryz.func21, Tryz.ntmps21
    obtain ⟨⟨⟨g0, g1⟩, g2, g3⟩, g4, g5⟩ := HS.out.tri
    go_wp2_with fail
    refine (HI.out _).mono ?_
    rintro e1 w1 ⟨rfl, hb1⟩
    replace HS := Lib.hid (HS.out.later hb1)
    replace HN := Lib.hid (HN.out.below hb1)
    replace HD := Lib.hid (HD.out.below hb1)
    clear hb1
    clear g0 g1 g2 g3 g4 g5
    obtain ⟨⟨⟨g0, g1⟩, g2, g3⟩, g4, g5⟩ := HS.out.tri
    go_upto_region 7 with fail
    clear g0 g1 g2 g3 g4 g5
    refine wp_region_pl (fun w' : World => ((w'.cell? ⟨w.heap.size, 0, none⟩ = some (.float .f64 x) ∧ w'.cell? ⟨w.heap.size, 1, none⟩ = some (.float .f64 y)) ∧ w'.cell? ⟨w.heap.size + 1, 0, none⟩ = some (.pointer (some ⟨b, 0, none⟩)) ∧ w'.cell? ⟨w.heap.size + 1, 1, none⟩ = some (.int .i64 en)) ∧ w'.cell? ⟨w.heap.size + 1 + 1, 0, none⟩ = some (.pointer (some ⟨c, 0, none⟩)) ∧ w'.cell? ⟨w.heap.size + 1 + 1, 1, none⟩ = some (.int .i64 ed)) 4 (.take 0 (.take 2 (.run 1 (.run 3 (.nil))))) (by kernel_rfl) (by kernel_rfl) ?_
    replace HS := Lib.hid (HS.out.later (drew_below _))
    replace HN := Lib.hid (HN.out.below (drew_below _))
    replace HD := Lib.hid (HD.out.below (drew_below _))
    generalize World.drew _ = W2 at HS HN HD ⊢
    repeat (first | (refine wpPl_takeL (v := ?_) rfl rfl (fun _ _ _ h => h) rfl (fun w' hSw => ?_) HS.out.tri ?_; rotate_left; (focus (go_simp; with_reducible rfl)); simp only [setL]) | (refine wpPl_skipL rfl rfl (fun _ _ _ h => h) rfl HS.out.tri ?_; simp only [setL]))
    refine wpPl_goL rfl rfl fun K' hK => ?_
    go_simp
    refine (HO.out _).mono ?_
    rintro e1 W2v1 ⟨o1, rfl, -, hi1, hb1⟩
    replace HS := Lib.hid (HS.out.later hb1)
    replace HN := Lib.hid (HN.out.below hb1)
    replace HD := Lib.hid (HD.out.below hb1)
    have HZ1 := Lib.hid hi1
    clear hi1
    unfold ExV
    refine hK _ _ HS.out.tri ?_
    clear hK K' hb1
    try simp only [Act.put, setL]
    repeat (first | (refine wpPl_takeL (v := ?_) rfl rfl (fun _ _ _ h => h) rfl (fun w' hSw => ?_) HS.out.tri ?_; rotate_left; (focus (go_simp; with_reducible rfl)); simp only [setL]) | (refine wpPl_skipL rfl rfl (fun _ _ _ h => h) rfl HS.out.tri ?_; simp only [setL]))
    refine wpPl_goL rfl rfl fun K' hK => ?_
    go_simp
    refine (HM.out _ _ _ HZ1.out HD.out).mono ?_
    rintro e1 W2v2 ⟨o2, rfl, -, hi1, hb1⟩
    replace HS := Lib.hid (HS.out.later hb1)
    replace HN := Lib.hid (HN.out.below hb1)
    replace HD := Lib.hid (HD.out.below hb1)
    clear HZ1
    have HZ2 := Lib.hid hi1
    clear hi1
    unfold ExV
    refine hK _ _ HS.out.tri ?_
    clear hK K' hb1
    try simp only [Act.put, setL]
    repeat (first | (refine wpPl_takeL (v := ?_) rfl rfl (fun _ _ _ h => h) rfl (fun w' hSw => ?_) HS.out.tri ?_; rotate_left; (focus (go_simp; with_reducible rfl)); simp only [setL]) | (refine wpPl_skipL rfl rfl (fun _ _ _ h => h) rfl HS.out.tri ?_; simp only [setL]))
    refine wpPl_nil ?_
    simp only [List.drop_succ_cons, List.drop_zero]
    obtain ⟨⟨⟨g0, g1⟩, g2, g3⟩, g4, g5⟩ := HS.out.tri
    go_wp2_with fail
    refine (HC.out _ _ _ HN.out HZ2.out).mono ?_
    rintro e3 w3 ⟨rfl, hb3⟩
    replace HS := Lib.hid (HS.out.later hb3)
    replace HN := Lib.hid (HN.out.below hb3)
    replace HD := Lib.hid (HD.out.below hb3)
    clear hb3
    clear g0 g1 g2 g3 g4 g5
    go_wp2
    go_ret
    exact ⟨rfl, HS.out.2⟩
  rw [fv, Bool.not_true] at HI
  have HNX := Lib.hid fun W => next_dn y W hy fv
  have hfk := (fin_ky hy (num_of ny)).1 fv
  by_cases he : ky y - 1 = -(kInf : Int)
  · rw [decide_eq_true he, Bool.true_or]
    clear hy ny hb hn hd bn bd n1 n2 d1 d2 hbd fv
    unfold ExV
    go_enter Tryz.func21, Tryz.ntmps21
    obtain ⟨⟨⟨g0, g1⟩, g2, g3⟩, g4, g5⟩ := HS.out.tri
    go_wp2_with fail
    refine (HI.out _).mono ?_
    rintro e1 w1 ⟨rfl, hb1⟩
    replace HS := Lib.hid (HS.out.later hb1)
    replace HN := Lib.hid (HN.out.below hb1)
    replace HD := Lib.hid (HD.out.below hb1)
    clear hb1
    clear g0 g1 g2 g3 g4 g5
    obtain ⟨⟨⟨g0, g1⟩, g2, g3⟩, g4, g5⟩ := HS.out.tri
    go_upto_region 8 with fail
    clear g0 g1 g2 g3 g4 g5
    refine wp_region_pl (fun w' : World => ((w'.cell? ⟨w.heap.size, 0, none⟩ = some (.float .f64 x) ∧ w'.cell? ⟨w.heap.size, 1, none⟩ = some (.float .f64 y)) ∧ w'.cell? ⟨w.heap.size + 1, 0, none⟩ = some (.pointer (some ⟨b, 0, none⟩)) ∧ w'.cell? ⟨w.heap.size + 1, 1, none⟩ = some (.int .i64 en)) ∧ w'.cell? ⟨w.heap.size + 1 + 1, 0, none⟩ = some (.pointer (some ⟨c, 0, none⟩)) ∧ w'.cell? ⟨w.heap.size + 1 + 1, 1, none⟩ = some (.int .i64 ed)) 3 (.take 0 (.take 1 (.run 2 (.nil)))) (by kernel_rfl) (by kernel_rfl) ?_
    replace HS := Lib.hid (HS.out.later (drew_below _))
    replace HN := Lib.hid (HN.out.below (drew_below _))
    replace HD := Lib.hid (HD.out.below (drew_below _))
    generalize World.drew _ = W2 at HS HN HD ⊢
    repeat (first | (refine wpPl_takeL (v := ?_) rfl rfl (fun _ _ _ h => h) rfl (fun w' hSw => ?_) HS.out.tri ?_; rotate_left; (focus (go_simp; with_reducible rfl)); simp only [setL]) | (refine wpPl_skipL rfl rfl (fun _ _ _ h => h) rfl HS.out.tri ?_; simp only [setL]))
    refine wpPl_goL rfl rfl fun K' hK => ?_
    go_simp
    refine (HIF.out _).mono ?_
    rintro e1 W2v1 ⟨rfl, hb1⟩
    replace HS := Lib.hid (HS.out.later hb1)
    replace HN := Lib.hid (HN.out.below hb1)
    replace HD := Lib.hid (HD.out.below hb1)
    refine hK _ _ HS.out.tri ?_
    clear hK K' hb1
    try simp only [Act.put, setL]
    repeat (first | (refine wpPl_takeL (v := ?_) rfl rfl (fun _ _ _ h => h) rfl (fun w' hSw => ?_) HS.out.tri ?_; rotate_left; (focus (go_simp; with_reducible rfl)); simp only [setL]) | (refine wpPl_skipL rfl rfl (fun _ _ _ h => h) rfl HS.out.tri ?_; simp only [setL]))
    refine wpPl_nil ?_
    simp only [List.drop_succ_cons, List.drop_zero]
    go_wp2_with fail
    refine (HNX.out _).mono ?_
    rintro e3 w3 ⟨r, rfl, r1, r2, r3, hb3⟩
    replace HS := Lib.hid (HS.out.later hb3)
    replace HN := Lib.hid (HN.out.below hb3)
    replace HD := Lib.hid (HD.out.below hb3)
    clear hb3
    go_upto_region 9 with fail
    have hfr : finB r = false := by
      cases hf : finB r
      · rfl
      · have := (fin_ky r1 (num_of r2)).1 hf; omega
    have HIR := Lib.hid fun W => linf_any r W r1 r2
    rw [hfr, Bool.not_false] at HIR
    clear r1 r2 r3 hfr he hfk hK
    refine wp_region_pl (fun w' : World => ((w'.cell? ⟨w.heap.size, 0, none⟩ = some (.float .f64 x) ∧ w'.cell? ⟨w.heap.size, 1, none⟩ = some (.float .f64 y)) ∧ w'.cell? ⟨w.heap.size + 1, 0, none⟩ = some (.pointer (some ⟨b, 0, none⟩)) ∧ w'.cell? ⟨w.heap.size + 1, 1, none⟩ = some (.int .i64 en)) ∧ w'.cell? ⟨w.heap.size + 1 + 1, 0, none⟩ = some (.pointer (some ⟨c, 0, none⟩)) ∧ w'.cell? ⟨w.heap.size + 1 + 1, 1, none⟩ = some (.int .i64 ed)) 8 (.take 0 (.run 1 (.take 2 (.take 3 (.take 4 (.take 6 (.run 5 (.run 7 (.nil))))))))) (by kernel_rfl) (by kernel_rfl) ?_
    replace HS := Lib.hid (HS.out.later (drew_below _))
    replace HN := Lib.hid (HN.out.below (drew_below _))
    replace HD := Lib.hid (HD.out.below (drew_below _))
    generalize World.drew _ = W4 at HS HN HD ⊢
    repeat (first | (refine wpPl_takeL (v := ?_) rfl rfl (fun _ _ _ h => h) rfl (fun w' hSw => ?_) HS.out.tri ?_; rotate_left; (focus (go_simp; with_reducible rfl)); simp only [setL]) | (refine wpPl_skipL rfl rfl (fun _ _ _ h => h) rfl HS.out.tri ?_; simp only [setL]))
    refine wpPl_goL rfl rfl fun K' hK => ?_
    go_simp
    refine (HIR.out _).mono ?_
    rintro e1 W4v1 ⟨rfl, hb1⟩
    replace HS := Lib.hid (HS.out.later hb1)
    replace HN := Lib.hid (HN.out.below hb1)
    replace HD := Lib.hid (HD.out.below hb1)
    refine hK _ _ HS.out.tri ?_
    clear hK K' hb1
    try simp only [Act.put, setL]
    repeat (first | (refine wpPl_takeL (v := ?_) rfl rfl (fun _ _ _ h => h) rfl (fun w' hSw => ?_) HS.out.tri ?_; rotate_left; (focus (go_simp; with_reducible rfl)); simp only [setL]) | (refine wpPl_skipL rfl rfl (fun _ _ _ h => h) rfl HS.out.tri ?_; simp only [setL]))
    refine wpPl_idleL rfl rfl rfl HS.out.tri ?_
    simp only [setL]
    repeat (first | (refine wpPl_takeL (v := ?_) rfl rfl (fun _ _ _ h => h) rfl (fun w' hSw => ?_) HS.out.tri ?_; rotate_left; (focus (go_simp; with_reducible rfl)); simp only [setL]) | (refine wpPl_skipL rfl rfl (fun _ _ _ h => h) rfl HS.out.tri ?_; simp only [setL]))
    refine wpPl_idleL rfl rfl rfl HS.out.tri ?_
    simp only [setL]
    repeat (first | (refine wpPl_takeL (v := ?_) rfl rfl (fun _ _ _ h => h) rfl (fun w' hSw => ?_) HS.out.tri ?_; rotate_left; (focus (go_simp; with_reducible rfl)); simp only [setL]) | (refine wpPl_skipL rfl rfl (fun _ _ _ h => h) rfl HS.out.tri ?_; simp only [setL]))
    refine wpPl_nil ?_
    simp only [List.drop_succ_cons, List.drop_zero]
    go_wp2
    go_ret
    exact ⟨rfl, HS.out.2⟩
  · rw [decide_eq_false he, Bool.false_or]
    obtain ⟨c1, c2, c3, c4⟩ := kb_fin (k := ky y - 1) (by omega) (by omega)
    have er := pE_bd c2
    have vr := val_bl (b := (kb (ky y - 1)))
    have mr := bl_mul (valZ (kb (ky y - 1))).natAbs zd.natAbs
    rw [← Int.natAbs_mul] at mr
    have HM := Lib.hid fun p q W (h1 : RInt W p (valZ (kb (ky y - 1)))) (h2 : RInt W q zd) => rMulX_any p q _ (pE (kb (ky y - 1))) _ ed W h1 h2 (by omega) (by omega) (by omega) (by omega) (by omega) (by omega)
    have HC := Lib.hid fun p q W (h1 : RInt W p zn) (h2 : RInt W q (valZ (kb (ky y - 1)) * zd)) => rCmpX_any p q _ en _ (pE (kb (ky y - 1)) + ed) W h1 h2 (by omega) (by omega) (by omega) (by omega) (by omega) (by omega)
    obtain ⟨k2, hk2⟩ : ∃ t, ky y - 1 = t := ⟨_, rfl⟩
    rw [hk2] at HNX c2 HM HC he ⊢
    have HO := Lib.hid fun r W (h1 : W64 r) (h2 : finB r = true) (h3 : ky r = k2) => rOf_any r W h1 h2
    have HP : Hid (∀ r, W64 r → finB r = true → ky r = k2 → valZ r = valZ (kb k2) ∧ pE r = pE (kb k2)) := Lib.hid fun r h1 h2 h3 => by rw [← h3]; exact ⟨(own_parts h1).1.symm, (own_parts h1).2.symm⟩
    have HF : Hid (-(kInf : Int) < k2 ∧ k2 < kInf) := Lib.hid (by omega)
    generalize (plZ zn en (-(valZ (kb k2) * zd)) (pE (kb k2) + ed)).sign = S at *
    generalize valZ (kb k2) = zr at *
    generalize pE (kb k2) = er' at *
    generalize zr * zd = zrd at *
    generalize er' + ed = erd at *
    clear hy ny hb hn hd bn bd n1 n2 d1 d2 hbd fv c1 c2 c3 c4 er vr mr he hfk hK hk2
    unfold ExV
    go_enter Tryz.func21, Tryz.ntmps21
    obtain ⟨⟨⟨g0, g1⟩, g2, g3⟩, g4, g5⟩ := HS.out.tri
    go_wp2_with fail
    refine (HI.out _).mono ?_
    rintro e1 w1 ⟨rfl, hb1⟩
    replace HS := Lib.hid (HS.out.later hb1)
    replace HN := Lib.hid (HN.out.below hb1)
    replace HD := Lib.hid (HD.out.below hb1)
    clear hb1
    clear g0 g1 g2 g3 g4 g5
    obtain ⟨⟨⟨g0, g1⟩, g2, g3⟩, g4, g5⟩ := HS.out.tri
    go_upto_region 8 with fail
    clear g0 g1 g2 g3 g4 g5
    refine wp_region_pl (fun w' : World => ((w'.cell? ⟨w.heap.size, 0, none⟩ = some (.float .f64 x) ∧ w'.cell? ⟨w.heap.size, 1, none⟩ = some (.float .f64 y)) ∧ w'.cell? ⟨w.heap.size + 1, 0, none⟩ = some (.pointer (some ⟨b, 0, none⟩)) ∧ w'.cell? ⟨w.heap.size + 1, 1, none⟩ = some (.int .i64 en)) ∧ w'.cell? ⟨w.heap.size + 1 + 1, 0, none⟩ = some (.pointer (some ⟨c, 0, none⟩)) ∧ w'.cell? ⟨w.heap.size + 1 + 1, 1, none⟩ = some (.int .i64 ed)) 3 (.take 0 (.take 1 (.run 2 (.nil)))) (by kernel_rfl) (by kernel_rfl) ?_
    replace HS := Lib.hid (HS.out.later (drew_below _))
    replace HN := Lib.hid (HN.out.below (drew_below _))
    replace HD := Lib.hid (HD.out.below (drew_below _))
    generalize World.drew _ = W2 at HS HN HD ⊢
    repeat (first | (refine wpPl_takeL (v := ?_) rfl rfl (fun _ _ _ h => h) rfl (fun w' hSw => ?_) HS.out.tri ?_; rotate_left; (focus (go_simp; with_reducible rfl)); simp only [setL]) | (refine wpPl_skipL rfl rfl (fun _ _ _ h => h) rfl HS.out.tri ?_; simp only [setL]))
    refine wpPl_goL rfl rfl fun K' hK => ?_
    go_simp
    refine (HIF.out _).mono ?_
    rintro e1 W2v1 ⟨rfl, hb1⟩
    replace HS := Lib.hid (HS.out.later hb1)
    replace HN := Lib.hid (HN.out.below hb1)
    replace HD := Lib.hid (HD.out.below hb1)
    refine hK _ _ HS.out.tri ?_
    clear hK K' hb1
    try simp only [Act.put, setL]
    repeat (first | (refine wpPl_takeL (v := ?_) rfl rfl (fun _ _ _ h => h) rfl (fun w' hSw => ?_) HS.out.tri ?_; rotate_left; (focus (go_simp; with_reducible rfl)); simp only [setL]) | (refine wpPl_skipL rfl rfl (fun _ _ _ h => h) rfl HS.out.tri ?_; simp only [setL]))
    refine wpPl_nil ?_
    simp only [List.drop_succ_cons, List.drop_zero]
    go_wp2_with fail
    refine (HNX.out _).mono ?_
    rintro e3 w3 ⟨r, rfl, r1, r2, r3, hb3⟩
    replace HS := Lib.hid (HS.out.later hb3)
    replace HN := Lib.hid (HN.out.below hb3)
    replace HD := Lib.hid (HD.out.below hb3)
    clear hb3
    go_upto_region 9 with fail
    have hfr : finB r = true := (fin_ky r1 (num_of r2)).2 (by have := HF.out; omega)
    have HIR := Lib.hid fun W => linf_any r W r1 r2
    rw [hfr, Bool.not_true] at HIR
    have HO2 := Lib.hid fun W => HO.out r W r1 hfr r3
    rw [(HP.out r r1 hfr r3).1, (HP.out r r1 hfr r3).2] at HO2
    clear r1 r2 r3 hfr HP HF HO
    refine wp_region_pl (fun w' : World => ((w'.cell? ⟨w.heap.size, 0, none⟩ = some (.float .f64 x) ∧ w'.cell? ⟨w.heap.size, 1, none⟩ = some (.float .f64 y)) ∧ w'.cell? ⟨w.heap.size + 1, 0, none⟩ = some (.pointer (some ⟨b, 0, none⟩)) ∧ w'.cell? ⟨w.heap.size + 1, 1, none⟩ = some (.int .i64 en)) ∧ w'.cell? ⟨w.heap.size + 1 + 1, 0, none⟩ = some (.pointer (some ⟨c, 0, none⟩)) ∧ w'.cell? ⟨w.heap.size + 1 + 1, 1, none⟩ = some (.int .i64 ed)) 8 (.take 0 (.run 1 (.take 2 (.take 3 (.take 4 (.take 6 (.run 5 (.run 7 (.nil))))))))) (by kernel_rfl) (by kernel_rfl) ?_
    replace HS := Lib.hid (HS.out.later (drew_below _))
    replace HN := Lib.hid (HN.out.below (drew_below _))
    replace HD := Lib.hid (HD.out.below (drew_below _))
    generalize World.drew _ = W4 at HS HN HD ⊢
    repeat (first | (refine wpPl_takeL (v := ?_) rfl rfl (fun _ _ _ h => h) rfl (fun w' hSw => ?_) HS.out.tri ?_; rotate_left; (focus (go_simp; with_reducible rfl)); simp only [setL]) | (refine wpPl_skipL rfl rfl (fun _ _ _ h => h) rfl HS.out.tri ?_; simp only [setL]))
    refine wpPl_goL rfl rfl fun K' hK => ?_
    go_simp
    refine (HIR.out _).mono ?_
    rintro e1 W4v1 ⟨rfl, hb1⟩
    replace HS := Lib.hid (HS.out.later hb1)
    replace HN := Lib.hid (HN.out.below hb1)
    replace HD := Lib.hid (HD.out.below hb1)
    refine hK _ _ HS.out.tri ?_
    clear hK K' hb1
    try simp only [Act.put, setL]
    repeat (first | (refine wpPl_takeL (v := ?_) rfl rfl (fun _ _ _ h => h) rfl (fun w' hSw => ?_) HS.out.tri ?_; rotate_left; (focus (go_simp; with_reducible rfl)); simp only [setL]) | (refine wpPl_skipL rfl rfl (fun _ _ _ h => h) rfl HS.out.tri ?_; simp only [setL]))
    refine wpPl_goL rfl rfl fun K' hK => ?_
    go_simp
    refine (HO2.out _).mono ?_
    rintro e1 W4v2 ⟨o1, rfl, -, hi1, hb1⟩
    replace HS := Lib.hid (HS.out.later hb1)
    replace HN := Lib.hid (HN.out.below hb1)
    replace HD := Lib.hid (HD.out.below hb1)
    have HZ1 := Lib.hid hi1
    clear hi1
    unfold ExV
    refine hK _ _ HS.out.tri ?_
    clear hK K' hb1
    try simp only [Act.put, setL]
    repeat (first | (refine wpPl_takeL (v := ?_) rfl rfl (fun _ _ _ h => h) rfl (fun w' hSw => ?_) HS.out.tri ?_; rotate_left; (focus (go_simp; with_reducible rfl)); simp only [setL]) | (refine wpPl_skipL rfl rfl (fun _ _ _ h => h) rfl HS.out.tri ?_; simp only [setL]))
    refine wpPl_goL rfl rfl fun K' hK => ?_
    go_simp
    refine (HM.out _ _ _ HZ1.out HD.out).mono ?_
    rintro e1 W4v3 ⟨o2, rfl, -, hi1, hb1⟩
    replace HS := Lib.hid (HS.out.later hb1)
    replace HN := Lib.hid (HN.out.below hb1)
    replace HD := Lib.hid (HD.out.below hb1)
    clear HZ1
    have HZ2 := Lib.hid hi1
    clear hi1
    unfold ExV
    refine hK _ _ HS.out.tri ?_
    clear hK K' hb1
    try simp only [Act.put, setL]
    repeat (first | (refine wpPl_takeL (v := ?_) rfl rfl (fun _ _ _ h => h) rfl (fun w' hSw => ?_) HS.out.tri ?_; rotate_left; (focus (go_simp; with_reducible rfl)); simp only [setL]) | (refine wpPl_skipL rfl rfl (fun _ _ _ h => h) rfl HS.out.tri ?_; simp only [setL]))
    refine wpPl_nil ?_
    simp only [List.drop_succ_cons, List.drop_zero]
    obtain ⟨⟨⟨g0, g1⟩, g2, g3⟩, g4, g5⟩ := HS.out.tri
    go_wp2_with fail
    refine (HC.out _ _ _ HN.out HZ2.out).mono ?_
    rintro e5 w5 ⟨rfl, hb5⟩
    replace HS := Lib.hid (HS.out.later hb5)
    replace HN := Lib.hid (HN.out.below hb5)
    replace HD := Lib.hid (HD.out.below hb5)
    clear hb5
    clear g0 g1 g2 g3 g4 g5
    go_wp2
    go_ret
    exact ⟨rfl, HS.out.2⟩

end Go.Proofs.YtjokekmbnffpfaaGreatDoor
end
