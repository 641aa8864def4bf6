/- Plain: rounding rises; its words; how floats stand by their words; no program. -/
import Derived.Test.YtphaikdbldfpaaaGreatDoorGM
namespace Go.Proofs.YtphaikdbldfpaaaGreatDoor
open Go.RowKit

/-- The place of a word that is no NaN: its amount with its sign. -/
def ky (b : Nat) : Int := if b < kSign then (b : Int) else -((b - kSign : Nat) : Int)

/-- What an amount's word stands for, in units of 2^-1074. -/
def wv (w : Nat) : Nat := if w < kHid then w else (w % kHid + kHid) * 2 ^ (w / kHid - 1)

theorem wv_word {m l : Nat} (h0 : m ≤ 2 ^ 53) (h2 : l = 0 ∨ 2 ^ 52 ≤ m) : wv (l * kHid + m) = m * 2 ^ l := by
  unfold wv
  by_cases h3 : m = 2 ^ 53
  · subst h3
    rw [if_neg (by unfold kHid; omega), show (l * kHid + 2 ^ 53) % kHid = 0 by unfold kHid; omega, show (l * kHid + 2 ^ 53) / kHid - 1 = l + 1 by unfold kHid; omega]
    unfold kHid
    rw [Nat.pow_succ]; omega
  · by_cases h4 : m < kHid
    · obtain rfl : l = 0 := by rcases h2 with h2 | h2; exact h2; unfold kHid at h4; omega
      rw [if_pos (by simpa using h4)]; simp
    · rw [if_neg (by unfold kHid at *; omega), show (l * kHid + m) % kHid + kHid = m by unfold kHid at *; omega, show (l * kHid + m) / kHid - 1 = l by unfold kHid at *; omega]

theorem wv_lt_succ (w : Nat) : wv w < wv (w + 1) := by
  unfold wv
  by_cases h : w < kHid
  · rw [if_pos h]
    by_cases h2 : w + 1 < kHid
    · rw [if_pos h2]; omega
    · rw [if_neg h2, show (w + 1) % kHid = 0 by unfold kHid at *; omega, show (w + 1) / kHid - 1 = 0 by unfold kHid at *; omega]
      omega
  · rw [if_neg h, if_neg (by omega)]
    have hp := Nat.two_pow_pos (w / kHid - 1)
    by_cases h2 : w % kHid + 1 = kHid
    · rw [show (w + 1) % kHid = 0 by unfold kHid at *; omega, show (w + 1) / kHid - 1 = (w / kHid - 1) + 1 by unfold kHid at *; omega, Nat.pow_succ]
      have : (w % kHid + kHid) < kHid * 2 := by unfold kHid at *; omega
      rw [Nat.zero_add, Nat.mul_comm (2 ^ _) 2, ← Nat.mul_assoc]
      exact Nat.mul_lt_mul_of_pos_right this hp
    · rw [show (w + 1) % kHid = w % kHid + 1 by unfold kHid at *; omega, show (w + 1) / kHid - 1 = w / kHid - 1 by unfold kHid at *; omega]
      exact Nat.mul_lt_mul_of_pos_right (by omega) hp

theorem wv_mono {a b : Nat} (h : a ≤ b) : wv a ≤ wv b := by
  induction b with
  | zero => exact (show a = 0 by omega) ▸ Nat.le_refl _
  | succ b ih =>
    by_cases h2 : a = b + 1
    · subst h2; exact Nat.le_refl _
    · exact Nat.le_trans (ih (by omega)) (Nat.le_of_lt (wv_lt_succ b))

theorem wv_lt {a b : Nat} (h : a < b) : wv a < wv b := Nat.lt_of_lt_of_le (wv_lt_succ a) (wv_mono h)

theorem wv_zero : wv 0 = 0 := by decide

/-- A finite number's amount. -/
theorem wv_mant {b : Nat} (h : b < 18446744073709551616) (hf : finB b = true) : wv (b % kSign) = mantB b * 2 ^ (expB b + 1074).toNat := by
  have h1 := bits_eq h hf
  have h2 := expB_bd hf
  have h3 := mantB_lt b
  have h4 : (expB b + 1074).toNat = 0 ∨ 2 ^ 52 ≤ mantB b := by
    by_cases he : expF b = 0
    · left; unfold expB; rw [if_pos he]; rfl
    · right; unfold mantB; rw [if_neg he]; unfold kHid; omega
  have h5 : b % kSign = (expB b + 1074).toNat * kHid + mantB b := by
    have : (expB b + 1074).toNat * kHid + mantB b < kSign := by unfold kHid kSign; omega
    clear h h2 h3 h4
    generalize (expB b + 1074).toNat * kHid + mantB b = r at *
    generalize sgnB b = s at *
    subst h1
    split
    · rw [Nat.add_mod_left, Nat.mod_eq_of_lt this]
    · rw [Nat.zero_add, Nat.mod_eq_of_lt this]
  rw [h5, wv_word (by omega) h4]

/-- How two floats stand. -/
theorem read_inf {b : Nat} (h : b < 18446744073709551616) (hi : b % kSign = kInf) : F6.read b = .infinity (sgnB b) := by
  unfold Ieee.Format.read
  simp only [F6_place, F6_binade, F6_inf, F6_sign]
  have hs : (b / kSign % 2 == 1) = sgnB b := by
    unfold sgnB kSign; rw [Bool.eq_iff_iff]; simp; omega
  rw [hs, hi, if_neg (by unfold kInf kHid; omega), if_neg (by omega), if_pos rfl]

theorem fin_word {b : Nat} (hn : b % kSign ≤ kInf) : (finB b = true ∧ b % kSign < kInf) ∨ (finB b = false ∧ b % kSign = kInf) := by
  unfold finB expF
  by_cases h : b % kSign = kInf
  · right
    refine ⟨decide_eq_false (fun h2 => h2 ?_), h⟩
    unfold kSign kInf kHid at *; omega
  · left
    refine ⟨decide_eq_true ?_, by omega⟩
    unfold kSign kInf kHid at *; omega

theorem cmp_scale {a b k : Int} (hk : 0 < k) : compare (a * k) (b * k) = compare a b := by
  rcases Int.lt_trichotomy a b with h | h | h
  · rw [Int.compare_eq_lt.2 h, Int.compare_eq_lt.2 (Int.mul_lt_mul_of_pos_right h hk)]
  · rw [h]; simp
  · rw [Int.compare_eq_gt.2 h, Int.compare_eq_gt.2 (Int.mul_lt_mul_of_pos_right h hk)]

theorem order_fin {x y : Nat} (hx : x < 18446744073709551616) (hy : y < 18446744073709551616) (fx : finB x = true) (fy : finB y = true) :
    F6.order x y = some (compare (if sgnB x then -(wv (x % kSign) : Int) else wv (x % kSign)) (if sgnB y then -(wv (y % kSign) : Int) else wv (y % kSign))) := by
  unfold Ieee.Format.order
  rw [read_fin hx fx, read_fin hy fy]
  unfold Ieee.Datum.order
  simp only
  rw [signed_own, signed_own, wv_mant hx fx, wv_mant hy fy]
  have h1 := expB_bd fx
  have h2 := expB_bd fy
  congr 1
  rw [← cmp_scale (k := 2 ^ (min (expB x) (expB y) + 1074).toNat) (Int.pow_pos (by decide))]
  have key : ∀ b, -1074 ≤ expB b → min (expB x) (expB y) ≤ expB b → ownZ b * 2 ^ (expB b - min (expB x) (expB y)).toNat * 2 ^ (min (expB x) (expB y) + 1074).toNat = if sgnB b then -((mantB b * 2 ^ (expB b + 1074).toNat : Nat) : Int) else ((mantB b * 2 ^ (expB b + 1074).toNat : Nat) : Int) := by
    intro b hb1 hb2
    have h3 : (expB b - min (expB x) (expB y)).toNat + (min (expB x) (expB y) + 1074).toNat = (expB b + 1074).toNat := by omega
    rw [Int.mul_assoc, ← Int.pow_add, h3]
    unfold ownZ
    split
    · rw [Int.neg_mul, Int.natCast_mul, Int.natCast_pow]; rfl
    · rw [Int.natCast_mul, Int.natCast_pow]; rfl
  rw [key x h1.1 (by omega), key y h2.1 (by omega)]

theorem ky_cases {b : Nat} (h : b < 18446744073709551616) : ky b = if sgnB b then -((b % kSign : Nat) : Int) else ((b % kSign : Nat) : Int) := by
  unfold ky sgnB
  by_cases h2 : b < kSign
  · rw [if_pos h2, decide_eq_false (by omega), if_neg (by decide), Nat.mod_eq_of_lt h2]
  · rw [if_neg h2, if_pos (decide_eq_true (by omega))]
    have h3 : b - kSign = b % kSign := by unfold kSign at *; omega
    rw [h3]

theorem cmp_of {a b c d : Int} (h1 : a < b ↔ c < d) (h2 : b < a ↔ d < c) : compare a b = compare c d := by
  rcases Int.lt_trichotomy a b with h | h | h
  · rw [Int.compare_eq_lt.2 h, Int.compare_eq_lt.2 (h1.1 h)]
  · have : c = d := by
      have h3 : ¬ c < d := fun h' => by have := h1.2 h'; omega
      have h4 : ¬ d < c := fun h' => by have := h2.2 h'; omega
      omega
    rw [h, this]; simp
  · rw [Int.compare_eq_gt.2 h, Int.compare_eq_gt.2 (h2.1 h)]

theorem wv_lt_iff {a b : Nat} : wv a < wv b ↔ a < b := by
  constructor
  · intro h
    rcases Nat.lt_or_ge a b with h2 | h2
    · exact h2
    · have := wv_mono h2; omega
  · exact wv_lt

theorem wv_pos {a : Nat} : 0 < wv a ↔ 0 < a := by have := wv_lt_iff (a := 0) (b := a); rwa [wv_zero] at this

/-- Two words that are no NaN stand as their places. -/
theorem order_ky {x y : Nat} (hx : x < 18446744073709551616) (hy : y < 18446744073709551616) (nx : x % kSign ≤ kInf) (ny : y % kSign ≤ kInf) : F6.order x y = some (compare (ky x) (ky y)) := by
  rw [ky_cases hx, ky_cases hy]
  have hwx := wv_pos (a := x % kSign)
  have hwy := wv_pos (a := y % kSign)
  rcases fin_word nx with ⟨fx, lx⟩ | ⟨fx, lx⟩
  · rcases fin_word ny with ⟨fy, ly⟩ | ⟨fy, ly⟩
    · rw [order_fin hx hy fx fy]
      congr 1
      have h1 := wv_lt_iff (a := x % kSign) (b := y % kSign)
      have h2 := wv_lt_iff (a := y % kSign) (b := x % kSign)
      refine cmp_of ?_ ?_ <;> (split <;> split <;> omega)
    · unfold Ieee.Format.order
      rw [read_fin hx fx, read_inf hy ly]
      unfold Ieee.Datum.order
      simp only
      congr 1
      have : kInf ≠ 0 := by decide
      split
      · exact (Int.compare_eq_gt.2 (by split <;> omega)).symm
      · exact (Int.compare_eq_lt.2 (by split <;> omega)).symm
  · rcases fin_word ny with ⟨fy, ly⟩ | ⟨fy, ly⟩
    · unfold Ieee.Format.order
      rw [read_inf hx lx, read_fin hy fy]
      unfold Ieee.Datum.order
      simp only
      congr 1
      have : kInf ≠ 0 := by decide
      split
      · exact (Int.compare_eq_lt.2 (by split <;> omega)).symm
      · exact (Int.compare_eq_gt.2 (by split <;> omega)).symm
    · unfold Ieee.Format.order
      rw [read_inf hx lx, read_inf hy ly]
      unfold Ieee.Datum.order
      simp only
      congr 1
      rw [lx, ly]
      cases sgnB x <;> cases sgnB y <;> decide

theorem kSign_big : kInf < kSign := by decide

theorem rnd_sc {M z e : Int} (hz : z ≠ 0) (h1 : 0 ≤ e + M) (mode : Int) : rndB z e mode = rndB (sc M z e) (-M) mode := by
  have a1 := last_scale (e := e) (digits := 53) (least := -1074) hz (e + M).toNat
  have a2 := round_scale (e := e) (digits := 53) (least := -1074) (mode := mode) hz (e + M).toNat
  have a3 := shift_neg z (e + M).toNat
  rw [show e - ((e + M).toNat : Int) = -M by omega] at a1 a2
  unfold rndB sc
  rw [a1, a2, a3]

end Go.Proofs.YtphaikdbldfpaaaGreatDoor
