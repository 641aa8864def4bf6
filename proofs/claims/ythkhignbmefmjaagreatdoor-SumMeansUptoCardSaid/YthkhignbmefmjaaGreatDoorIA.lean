/- Plain: floats by their places; what is rounded down, up, to the nearest, by places and values. No program. -/
import Derived.Test.YthkhignbmefmjaaGreatDoorBD
import Derived.Test.YthkhignbmefmjaaGreatDoorGX
namespace Go.Proofs.YthkhignbmefmjaaGreatDoor
section
open Go.RowKit
def vI (M : Int) (b : Nat) : Int := sc M (valZ b) (pE b)
theorem fin_ky {b : Nat} (h : b < 18446744073709551616) (hn : b % kSign ≤ kInf) : finB b = true ↔ -(kInf : Int) < ky b ∧ ky b < kInf := by
 rw [ky_cases h]
 have hk : kInf ≠ 0 := by decide
 rcases fin_word hn with ⟨h1, h2⟩ | ⟨h1, h2⟩ <;> rw [h1] <;> split <;> simp <;> omega
theorem ky_lt_vI {a b : Nat} {M : Int} (ha : a < 18446744073709551616) (hb : b < 18446744073709551616) (fa : finB a = true) (fb : finB b = true) (hM : 1074 ≤ M) : ky a < ky b ↔ vI M a < vI M b := by
 unfold vI
 rw [sc_word ha fa hM, sc_word hb fb hM, ky_cases ha, ky_cases hb]
 have hp : (0 : Int) < 2 ^ (M - 1074).toNat := Int.pow_pos (by decide)
 rw [Int.mul_lt_mul_right hp]
 have h1 := wv_lt_iff (a := a % kSign) (b := b % kSign)
 have h2 := wv_lt_iff (a := b % kSign) (b := a % kSign)
 have h3 := wv_pos (a := a % kSign)
 have h4 := wv_pos (a := b % kSign)
 split <;> split <;> omega
theorem ky_le_vI {a b : Nat} {M : Int} (ha : a < 18446744073709551616) (hb : b < 18446744073709551616) (fa : finB a = true) (fb : finB b = true) (hM : 1074 ≤ M) : ky a ≤ ky b ↔ vI M a ≤ vI M b := by
 have := ky_lt_vI hb ha fb fa hM
 omega
theorem vI_zero (M : Int) : vI M 0 = 0 := by unfold vI; rw [show valZ 0 = 0 by decide, sc_zero]
theorem ky_own {c : Nat} (hc : c < 18446744073709551616) (fc : finB c = true) (mode : Int) : ky (rndX (valZ c) (pE c) mode) = ky c := by
 unfold rndX
 split
 ·rename_i h0
  have h1 : vI 1074 c = vI 1074 0 := by rw [vI_zero]; unfold vI; rw [h0, sc_zero]
  have h2 := ky_le_vI (M := 1074) hc (by decide : 0 < 18446744073709551616) fc (by decide) (by decide)
  have h3 := ky_le_vI (M := 1074) (by decide : 0 < 18446744073709551616) hc (by decide) fc (by decide)
  omega
 ·rename_i h0
  rw [rnd_own hc fc h0]
theorem rndX_lt (z e mode : Int) : rndX z e mode < 18446744073709551616 ∧ rndX z e mode % kSign ≤ kInf := by
 unfold rndX
 split
 ·decide
 ·rename_i h; exact rnd_lt mode (.inl h)
theorem nr_or (z e : Int) : hvZ z ≠ 0 ∨ nrE z e = 0 := by
 by_cases h : z = 0
 ·exact .inr (if_pos h)
 ·exact .inl (hvZ_ne h)
theorem rndX_rises {M z e y f : Int} (mode : Int) (hM : 0 ≤ M) (h1 : 0 ≤ e + M) (h2 : 0 ≤ f + M) (h : sc M z e ≤ sc M y f) : ky (rndX z e mode) ≤ ky (rndX y f mode) := by
 rw [← rndX_hv, ← rndX_hv]
 exact rnd_rises mode (nrE_ge hM h1) (nrE_ge hM h2) (nr_or z e) (nr_or y f) (by rw [sc_nr h1, sc_nr h2]; exact h)
theorem le_rnd {M z e : Int} {c : Nat} (mode : Int) (hM : 1074 ≤ M) (h1 : 0 ≤ e + M) (hc : c < 18446744073709551616) (fc : finB c = true) (h : vI M c ≤ sc M z e) : ky c ≤ ky (rndX z e mode) := by
 have hp := pE_bd fc
 rw [← ky_own hc fc mode]
 exact rndX_rises (M := M) mode (by omega) (by omega) h1 h
def kb (k : Int) : Nat := if k < 0 then kSign + k.natAbs else k.natAbs
theorem kb_own {b : Nat} (h0 : b ≠ kSign) : kb (ky b) = b := by
 unfold kb ky
 split
 ·rw [if_neg (by omega)]; omega
 ·rw [if_pos (by omega)]; omega
theorem fadd_ky {x y : Nat} (hx : x < 18446744073709551616) (hy : y < 18446744073709551616) (fx : finB x = true) (fy : finB y = true) :
  ∃ r, F6.add x y = some r ∧ r < 18446744073709551616 ∧ r % kSign ≤ kInf ∧ ky r = ky (rndX (plZ (valZ x) (pE x) (valZ y) (pE y)) (plE (valZ x) (pE x) (valZ y) (pE y)) 0) := by
 obtain ⟨r, hr, h1, h2⟩ := fadd_fin hx hy fx fy
 refine ⟨r, hr, ?_⟩
 generalize plZ (valZ x) (pE x) (valZ y) (pE y) = P at *
 generalize plE (valZ x) (pE x) (valZ y) (pE y) = PE at *
 by_cases hP : P = 0
 ·have : rndX P PE 0 = 0 := if_pos hP
  rw [this]
  rcases h2 hP with rfl | rfl <;> decide
 ·have h3 := h1 hP
  rw [rndX_hv] at h3
  subst h3
  exact ⟨(rndX_lt _ _ _).1, (rndX_lt _ _ _).2, rfl⟩
theorem fmul_ky {x y : Nat} (hx : x < 18446744073709551616) (hy : y < 18446744073709551616) (fx : finB x = true) (fy : finB y = true) :
  ∃ r, F6.mul x y = some r ∧ r < 18446744073709551616 ∧ r % kSign ≤ kInf ∧ ky r = ky (rndX (valZ x * valZ y) (pE x + pE y) 0) := by
 obtain ⟨r, hr, h1, h2⟩ := fmul_fin hx hy fx fy
 refine ⟨r, hr, ?_⟩
 generalize valZ x * valZ y = P at *
 generalize pE x + pE y = PE at *
 by_cases hP : P = 0
 ·have : rndX P PE 0 = 0 := if_pos hP
  rw [this]
  rcases h2 hP with rfl | rfl <;> decide
 ·have h3 := h1 hP
  rw [rndX_hv] at h3
  subst h3
  exact ⟨(rndX_lt _ _ _).1, (rndX_lt _ _ _).2, rfl⟩
end
section
open Go.RowKit
theorem order_nan_r {x y : Nat} (h : nanB y = true) : F6.order x y = none := by
 rw [← read_nan] at h
 unfold Ieee.Format.order
 revert h
 cases F6.read x <;> cases F6.read y <;> first | (intro _; rfl) | (intro h; simp [Ieee.Datum.isNaN] at h)
def ordB (o : Ordering) (x y : Nat) : Bool := F6.order x y == some o
theorem num_of {x : Nat} (h : nanB x = false) : x % kSign ≤ kInf := by
 unfold nanB at h
 have := of_decide_eq_false h
 omega
theorem num_iff {x : Nat} : nanB x = false ↔ x % kSign ≤ kInf := by
 refine ⟨num_of, fun h => ?_⟩
 unfold nanB
 exact decide_eq_false (by omega)
theorem ordB_lt {x y : Nat} (hx : x < 18446744073709551616) (hy : y < 18446744073709551616) : ordB .lt x y = (!nanB x && !nanB y && decide (ky x < ky y)) := by
 unfold ordB
 cases nx : nanB x
 ·cases ny : nanB y
  ·rw [order_ky hx hy (num_of nx) (num_of ny)]
   rcases Int.lt_trichotomy (ky x) (ky y) with h | h | h
   ·rw [Int.compare_eq_lt.2 h, decide_eq_true h]; rfl
   ·rw [Int.compare_eq_eq.2 h, decide_eq_false (by omega)]; rfl
   ·rw [Int.compare_eq_gt.2 h, decide_eq_false (by omega)]; rfl
  ·rw [order_nan_r ny]; rfl
 ·rw [order_nan nx]; rfl
theorem ordB_gt {x y : Nat} (hx : x < 18446744073709551616) (hy : y < 18446744073709551616) : ordB .gt x y = (!nanB x && !nanB y && decide (ky y < ky x)) := by
 unfold ordB
 cases nx : nanB x
 ·cases ny : nanB y
  ·rw [order_ky hx hy (num_of nx) (num_of ny)]
   rcases Int.lt_trichotomy (ky x) (ky y) with h | h | h
   ·rw [Int.compare_eq_lt.2 h, decide_eq_false (by omega)]; rfl
   ·rw [Int.compare_eq_eq.2 h, decide_eq_false (by omega)]; rfl
   ·rw [Int.compare_eq_gt.2 h, decide_eq_true h]; rfl
  ·rw [order_nan_r ny]; rfl
 ·rw [order_nan nx]; rfl
theorem ordB_eq {x y : Nat} (hx : x < 18446744073709551616) (hy : y < 18446744073709551616) : ordB .eq x y = (!nanB x && !nanB y && decide (ky x = ky y)) := by
 unfold ordB
 cases nx : nanB x
 ·cases ny : nanB y
  ·rw [order_ky hx hy (num_of nx) (num_of ny)]
   rcases Int.lt_trichotomy (ky x) (ky y) with h | h | h
   ·rw [Int.compare_eq_lt.2 h, decide_eq_false (by omega)]; rfl
   ·rw [Int.compare_eq_eq.2 h, decide_eq_true h]; rfl
   ·rw [Int.compare_eq_gt.2 h, decide_eq_false (by omega)]; rfl
  ·rw [order_nan_r ny]; rfl
 ·rw [order_nan nx]; rfl
end
section
open Go.RowKit
def qMore (m n : Nat) : Nat := 54 + n.log2 - m.log2
def stN (D n : Nat) : Nat := 2 * (D / n) + (D % n != 0).toNat
def qN (x y : Nat) : Nat := stN (mantB x <<< qMore (mantB x) (mantB y)) (mantB y)
def qE (x y : Nat) : Int := expB x - expB y - qMore (mantB x) (mantB y) - 1
def qZ (x y : Nat) : Int := if sgnB x ^^ sgnB y then -(qN x y : Int) else qN x y
theorem q_large {m n : Nat} (hm : m ≠ 0) (hn : n ≠ 0) : 2 ^ 53 ≤ (m <<< qMore m n) / n := by
 rw [Nat.le_div_iff_mul_le (by omega), Nat.shiftLeft_eq]
 have h1 := Nat.log2_self_le hm
 have h2 := Nat.lt_log2_self (n := n)
 have h3 : 54 + n.log2 ≤ m.log2 + qMore m n := by unfold qMore; omega
 have h4 : 2 ^ (54 + n.log2) ≤ 2 ^ (m.log2 + qMore m n) := Nat.pow_le_pow_right (by decide) h3
 have h5 : 2 ^ (m.log2 + qMore m n) ≤ m * 2 ^ qMore m n := by rw [Nat.pow_add]; exact Nat.mul_le_mul_right _ h1
 have h6 : 2 ^ 53 * n ≤ 2 ^ 53 * 2 ^ (n.log2 + 1) := Nat.mul_le_mul_left _ (Nat.le_of_lt h2)
 rw [← Nat.pow_add, show 53 + (n.log2 + 1) = 54 + n.log2 by omega] at h6
 omega
theorem fdiv_fin {x y : Nat} (hx : x < 18446744073709551616) (hy : y < 18446744073709551616) (fx : finB x = true) (fy : finB y = true) (x0 : valZ x ≠ 0) (y0 : valZ y ≠ 0) :
  F6.div x y = some (rndX (qZ x y) (qE x y) 0) ∧ qZ x y ≠ 0 := by
 have mx : mantB x ≠ 0 := fun h => x0 (valZ_zero.2 h)
 have my : mantB y ≠ 0 := fun h => y0 (valZ_zero.2 h)
 have hl := q_large mx my
 have hN : qN x y ≠ 0 := by
  unfold qN stN
  have : 0 < 2 ^ 53 := by decide
  omega
 have hz : qZ x y ≠ 0 := by unfold qZ; split <;> omega
 refine ⟨?_, hz⟩
 have hzn : (qZ x y).natAbs = qN x y := by unfold qZ; split <;> omega
 have hs : decide (qZ x y < 0) = (sgnB x ^^ sgnB y) := by
  unfold qZ
  cases sgnB x ^^ sgnB y
  ·rw [if_neg (by decide)]; exact decide_eq_false (by omega)
  ·rw [if_pos rfl]; exact decide_eq_true (by omega)
 unfold rndX
 rw [if_neg hz, rnd_near hz, hs, hzn]
 unfold Ieee.Format.div
 rw [read_fin hx fx, read_fin hy fy, F6_frac]
 unfold Ieee.Datum.quotient
 simp only [if_neg my]
 rfl
end
end Go.Proofs.YthkhignbmefmjaaGreatDoor
