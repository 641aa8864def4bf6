/- Plain: rounding rises; its words; how floats stand by their words; no program. -/
import Derived.Test.YtfmecpembnmnkaaGreatDoorGM
namespace Go.Proofs.YtfmecpembnmnkaaGreatDoor
open Go.RowKit
def ky (b : Nat) : Int := if b < kSign then (b : Int) else -((b - kSign : Nat) : Int)
def wv (w : Nat) : Nat := if w < kHid then w else (w % kHid + kHid) * 2 ^ (w / kHid - 1)
theorem wv_word {m l : Nat} (h0 : m ≤ 2 ^ 53) (h2 : l = 0 ∨ 2 ^ 52 ≤ m) : wv (l * kHid + m) = m * 2 ^ l := by
 unfold wv
 by_cases h3 : m = 2 ^ 53
 ·subst h3
  rw [if_neg (by unfold kHid; omega), show (l * kHid + 2 ^ 53) % kHid = 0 by unfold kHid; omega, show (l * kHid + 2 ^ 53) / kHid - 1 = l + 1 by unfold kHid; omega]
  unfold kHid
  rw [Nat.pow_succ]; omega
 ·by_cases h4 : m < kHid
  ·obtain rfl : l = 0 := by rcases h2 with h2 | h2; exact h2; unfold kHid at h4; omega
   rw [if_pos (by simpa using h4)]; simp
  ·rw [if_neg (by unfold kHid at *; omega), show (l * kHid + m) % kHid + kHid = m by unfold kHid at *; omega, show (l * kHid + m) / kHid - 1 = l by unfold kHid at *; omega]
theorem wv_lt_succ (w : Nat) : wv w < wv (w + 1) := by
 unfold wv
 by_cases h : w < kHid
 ·rw [if_pos h]
  by_cases h2 : w + 1 < kHid
  ·rw [if_pos h2]; omega
  ·rw [if_neg h2, show (w + 1) % kHid = 0 by unfold kHid at *; omega, show (w + 1) / kHid - 1 = 0 by unfold kHid at *; omega]
   omega
 ·rw [if_neg h, if_neg (by omega)]
  have hp := Nat.two_pow_pos (w / kHid - 1)
  by_cases h2 : w % kHid + 1 = kHid
  ·rw [show (w + 1) % kHid = 0 by unfold kHid at *; omega, show (w + 1) / kHid - 1 = (w / kHid - 1) + 1 by unfold kHid at *; omega, Nat.pow_succ]
   have : (w % kHid + kHid) < kHid * 2 := by unfold kHid at *; omega
   rw [Nat.zero_add, Nat.mul_comm (2 ^ _) 2, ← Nat.mul_assoc]
   exact Nat.mul_lt_mul_of_pos_right this hp
  ·rw [show (w + 1) % kHid = w % kHid + 1 by unfold kHid at *; omega, show (w + 1) / kHid - 1 = w / kHid - 1 by unfold kHid at *; omega]
   exact Nat.mul_lt_mul_of_pos_right (by omega) hp
theorem wv_mono {a b : Nat} (h : a ≤ b) : wv a ≤ wv b := by
 induction b with
 | zero => exact (show a = 0 by omega) ▸ Nat.le_refl _
 | succ b ih =>
  by_cases h2 : a = b + 1
  ·subst h2; exact Nat.le_refl _
  ·exact Nat.le_trans (ih (by omega)) (Nat.le_of_lt (wv_lt_succ b))
theorem wv_lt {a b : Nat} (h : a < b) : wv a < wv b := Nat.lt_of_lt_of_le (wv_lt_succ a) (wv_mono h)
theorem wv_zero : wv 0 = 0 := by decide
theorem wv_mant {b : Nat} (h : b < 18446744073709551616) (hf : finB b = true) : wv (b % kSign) = mantB b * 2 ^ (expB b + 1074).toNat := by
 have h1 := bits_eq h hf
 have h2 := expB_bd hf
 have h3 := mantB_lt b
 have h4 : (expB b + 1074).toNat = 0 ∨ 2 ^ 52 ≤ mantB b := by
  by_cases he : expF b = 0
  ·left; unfold expB; rw [if_pos he]; rfl
  ·right; unfold mantB; rw [if_neg he]; unfold kHid; omega
 have h5 : b % kSign = (expB b + 1074).toNat * kHid + mantB b := by
  have : (expB b + 1074).toNat * kHid + mantB b < kSign := by unfold kHid kSign; omega
  clear h h2 h3 h4
  generalize (expB b + 1074).toNat * kHid + mantB b = r at *
  generalize sgnB b = s at *
  subst h1
  split
  ·rw [Nat.add_mod_left, Nat.mod_eq_of_lt this]
  ·rw [Nat.zero_add, Nat.mod_eq_of_lt this]
 rw [h5, wv_word (by omega) h4]
theorem sc_word {b : Nat} (h : b < 18446744073709551616) (hf : finB b = true) {M : Int} (hM : 1074 ≤ M) : sc M (valZ b) (pE b) = (if sgnB b then -(wv (b % kSign) : Int) else wv (b % kSign)) * 2 ^ (M - 1074).toNat := by
 have h2 := expB_bd hf
 rw [sc_valZ hf M hM, wv_mant h hf]
 have key : ((mantB b * 2 ^ (expB b + 1074).toNat : Nat) : Int) * 2 ^ (M - 1074).toNat = (mantB b : Int) * 2 ^ (expB b + M).toNat := by
  rw [Int.natCast_mul, Int.natCast_pow, Int.mul_assoc, show ((2 : Nat) : Int) = 2 from rfl, ← Int.pow_add]
  congr 2; omega
 unfold sc
 split
 ·rw [Int.neg_mul, Int.neg_mul, key]
 ·exact key.symm
theorem read_inf {b : Nat} (h : b < 18446744073709551616) (hi : b % kSign = kInf) : F6.read b = .infinity (sgnB b) := by
 unfold Ieee.Format.read
 simp only [F6_place, F6_binade, F6_inf, F6_sign]
 have hs : (b / kSign % 2 == 1) = sgnB b := by
  unfold sgnB kSign; rw [Bool.eq_iff_iff]; simp; omega
 rw [hs, hi, if_neg (by unfold kInf kHid; omega), if_neg (by omega), if_pos rfl]
theorem fin_word {b : Nat} (hn : b % kSign ≤ kInf) : (finB b = true ∧ b % kSign < kInf) ∨ (finB b = false ∧ b % kSign = kInf) := by
 unfold finB expF
 by_cases h : b % kSign = kInf
 ·right
  refine ⟨decide_eq_false (fun h2 => h2 ?_), h⟩
  unfold kSign kInf kHid at *; omega
 ·left
  refine ⟨decide_eq_true ?_, by omega⟩
  unfold kSign kInf kHid at *; omega
theorem cmp_scale {a b k : Int} (hk : 0 < k) : compare (a * k) (b * k) = compare a b := by
 rcases Int.lt_trichotomy a b with h | h | h
 ·rw [Int.compare_eq_lt.2 h, Int.compare_eq_lt.2 (Int.mul_lt_mul_of_pos_right h hk)]
 ·rw [h]; simp
 ·rw [Int.compare_eq_gt.2 h, Int.compare_eq_gt.2 (Int.mul_lt_mul_of_pos_right h hk)]
theorem order_fin {x y : Nat} (hx : x < 18446744073709551616) (hy : y < 18446744073709551616) (fx : finB x = true) (fy : finB y = true) :
  F6.order x y = some (compare (if sgnB x then -(wv (x % kSign) : Int) else wv (x % kSign)) (if sgnB y then -(wv (y % kSign) : Int) else wv (y % kSign))) := by
 unfold Ieee.Format.order
 rw [read_fin hx fx, read_fin hy fy]
 unfold Ieee.Datum.order
 simp only
 rw [signed_own, signed_own, wv_mant hx fx, wv_mant hy fy]
 have h1 := expB_bd fx
 have h2 := expB_bd fy
 congr 1
 rw [← cmp_scale (k := 2 ^ (min (expB x) (expB y) + 1074).toNat) (Int.pow_pos (by decide))]
 have key : ∀ b, -1074 ≤ expB b → min (expB x) (expB y) ≤ expB b → ownZ b * 2 ^ (expB b - min (expB x) (expB y)).toNat * 2 ^ (min (expB x) (expB y) + 1074).toNat = if sgnB b then -((mantB b * 2 ^ (expB b + 1074).toNat : Nat) : Int) else ((mantB b * 2 ^ (expB b + 1074).toNat : Nat) : Int) := by
  intro b hb1 hb2
  have h3 : (expB b - min (expB x) (expB y)).toNat + (min (expB x) (expB y) + 1074).toNat = (expB b + 1074).toNat := by omega
  rw [Int.mul_assoc, ← Int.pow_add, h3]
  unfold ownZ
  split
  ·rw [Int.neg_mul, Int.natCast_mul, Int.natCast_pow]; rfl
  ·rw [Int.natCast_mul, Int.natCast_pow]; rfl
 rw [key x h1.1 (by omega), key y h2.1 (by omega)]
theorem ky_cases {b : Nat} (h : b < 18446744073709551616) : ky b = if sgnB b then -((b % kSign : Nat) : Int) else ((b % kSign : Nat) : Int) := by
 unfold ky sgnB
 by_cases h2 : b < kSign
 ·rw [if_pos h2, decide_eq_false (by omega), if_neg (by decide), Nat.mod_eq_of_lt h2]
 ·rw [if_neg h2, if_pos (decide_eq_true (by omega))]
  have h3 : b - kSign = b % kSign := by unfold kSign at *; omega
  rw [h3]
theorem cmp_of {a b c d : Int} (h1 : a < b ↔ c < d) (h2 : b < a ↔ d < c) : compare a b = compare c d := by
 rcases Int.lt_trichotomy a b with h | h | h
 ·rw [Int.compare_eq_lt.2 h, Int.compare_eq_lt.2 (h1.1 h)]
 ·have : c = d := by
   have h3 : ¬ c < d := fun h' => by have := h1.2 h'; omega
   have h4 : ¬ d < c := fun h' => by have := h2.2 h'; omega
   omega
  rw [h, this]; simp
 ·rw [Int.compare_eq_gt.2 h, Int.compare_eq_gt.2 (h2.1 h)]
theorem wv_lt_iff {a b : Nat} : wv a < wv b ↔ a < b := by
 constructor
 ·intro h
  rcases Nat.lt_or_ge a b with h2 | h2
  ·exact h2
  ·have := wv_mono h2; omega
 ·exact wv_lt
theorem wv_pos {a : Nat} : 0 < wv a ↔ 0 < a := by have := wv_lt_iff (a := 0) (b := a); rwa [wv_zero] at this
theorem order_ky {x y : Nat} (hx : x < 18446744073709551616) (hy : y < 18446744073709551616) (nx : x % kSign ≤ kInf) (ny : y % kSign ≤ kInf) : F6.order x y = some (compare (ky x) (ky y)) := by
 rw [ky_cases hx, ky_cases hy]
 have hwx := wv_pos (a := x % kSign)
 have hwy := wv_pos (a := y % kSign)
 rcases fin_word nx with ⟨fx, lx⟩ | ⟨fx, lx⟩
 ·rcases fin_word ny with ⟨fy, ly⟩ | ⟨fy, ly⟩
  ·rw [order_fin hx hy fx fy]
   congr 1
   have h1 := wv_lt_iff (a := x % kSign) (b := y % kSign)
   have h2 := wv_lt_iff (a := y % kSign) (b := x % kSign)
   refine cmp_of ?_ ?_ <;> (split <;> split <;> omega)
  ·unfold Ieee.Format.order
   rw [read_fin hx fx, read_inf hy ly]
   unfold Ieee.Datum.order
   simp only
   congr 1
   have : kInf ≠ 0 := by decide
   split
   ·exact (Int.compare_eq_gt.2 (by split <;> omega)).symm
   ·exact (Int.compare_eq_lt.2 (by split <;> omega)).symm
 ·rcases fin_word ny with ⟨fy, ly⟩ | ⟨fy, ly⟩
  ·unfold Ieee.Format.order
   rw [read_inf hx lx, read_fin hy fy]
   unfold Ieee.Datum.order
   simp only
   congr 1
   have : kInf ≠ 0 := by decide
   split
   ·exact (Int.compare_eq_lt.2 (by split <;> omega)).symm
   ·exact (Int.compare_eq_gt.2 (by split <;> omega)).symm
  ·unfold Ieee.Format.order
   rw [read_inf hx lx, read_inf hy ly]
   unfold Ieee.Datum.order
   simp only
   congr 1
   rw [lx, ly]
   cases sgnB x <;> cases sgnB y <;> decide
def wdN (z e mode : Int) : Nat := (lastE z e 53 (-1074) + 1074).toNat * kHid + roundZ z e 53 (-1074) mode
def capW (bey : Bool) (W : Nat) : Nat := if W < kInf then W else if bey then kInf - 1 else kInf
theorem capW_le (bey : Bool) (W : Nat) : capW bey W ≤ kInf := by unfold capW; have : kInf ≠ 0 := (by decide); split <;> (try split) <;> omega
theorem capW_mono (bey : Bool) {a b : Nat} (h : a ≤ b) : capW bey a ≤ capW bey b := by unfold capW; have : kInf ≠ 0 := (by decide); split <;> split <;> (try split) <;> omega
theorem rnd_cap {z e : Int} (hz : z ≠ 0) (mode : Int) : rndB z e mode = (if decide (z < 0) then kSign else 0) + capW (beyB (decide (z < 0)) mode) (wdN z e mode) := by
 unfold rndB capW wdN
 have h1 := roundZ_le z e 53 (-1074) mode 53 rfl
 have h2 : -1074 ≤ lastE z e 53 (-1074) := by unfold lastE; omega
 have h3 := roundZ_low (e := e) (mode := mode) hz
 generalize roundZ z e 53 (-1074) mode = m at *
 generalize lastE z e 53 (-1074) = last at *
 have hm52 : m < 2 ^ 52 → bl m ≤ 52 := bl_le_of_lt
 have hm53 : m < 2 ^ 53 → bl m ≤ 53 := bl_le_of_lt
 have hm54 : m = 2 ^ 53 → bl m = 54 := fun h => by rw [h]; exact bl_two_pow 53
 have hm52' : 2 ^ 52 ≤ m → 53 ≤ bl m := fun h => by
  rcases Nat.lt_or_ge (bl m) 53 with h5 | h5
  ·have := (bl_le_iff (N := m) (k := 52)).1 (by omega); omega
  ·exact h5
 split
 ·have hw : (last + 1074).toNat * kHid + m < kInf := by
   unfold kHid kInf
   by_cases ha : m = 2 ^ 53
   ·have := hm54 ha; omega
   ·rcases h3 with h3 | h3
    ·omega
    ·have := hm52' h3; omega
  rw [mkB_word h1 h2 h3, if_pos hw]
 ·have hw : ¬ (last + 1074).toNat * kHid + m < kInf := by
   unfold kHid kInf
   by_cases ha : m = 2 ^ 53
   ·have := hm54 ha; omega
   ·have := hm53 (by omega)
    rcases h3 with h3 | h3 <;> omega
  rw [if_neg hw]
theorem cutZ_mono {N K : Nat} {down : Int} {neg : Bool} {mode : Int} (h : N ≤ K) : cutZ N down neg mode ≤ cutZ K down neg mode := by
 unfold cutZ
 by_cases h1 : down ≤ 0
 ·rw [if_pos h1, if_pos h1]; exact Nat.mul_le_mul_right _ h
 ·rw [if_neg h1, if_neg h1]
  have hd := Nat.div_le_div_right (c := 2 ^ down.toNat) h
  rcases Nat.lt_or_ge (N / 2 ^ down.toNat) (K / 2 ^ down.toNat) with h2 | h2
  ·split <;> split <;> omega
  ·have he : N / 2 ^ down.toNat = K / 2 ^ down.toNat := by omega
   have hr : N % 2 ^ down.toNat ≤ K % 2 ^ down.toNat := by
    have a := Nat.div_add_mod N (2 ^ down.toNat)
    have b := Nat.div_add_mod K (2 ^ down.toNat)
    rw [he] at a; omega
   have hu : upB N down.toNat neg mode = true → upB K down.toNat neg mode = true := by
    unfold upB
    rw [he]
    generalize N % 2 ^ down.toNat = r at *
    generalize K % 2 ^ down.toNat = s at *
    generalize K / 2 ^ down.toNat = q at *
    generalize 2 ^ (down.toNat - 1) = g at *
    intro h5
    by_cases hr0 : r = 0
    ·rw [if_pos hr0] at h5; cases h5
    rw [if_neg hr0] at h5
    rw [if_neg (by omega)]
    by_cases m3 : mode = 3
    ·rw [if_pos m3] at h5 ⊢; exact h5
    rw [if_neg m3] at h5 ⊢
    by_cases m4 : mode = 4
    ·rw [if_pos m4] at h5 ⊢; exact h5
    rw [if_neg m4] at h5 ⊢
    by_cases m1 : mode = 1
    ·rw [if_pos m1] at h5 ⊢
     have := of_decide_eq_true h5
     exact decide_eq_true (by omega)
    rw [if_neg m1] at h5 ⊢
    by_cases m0 : mode = 0
    ·rw [if_pos m0] at h5 ⊢
     simp only [Bool.or_eq_true, Bool.and_eq_true, decide_eq_true_eq] at h5 ⊢
     omega
    ·rw [if_neg m0] at h5; cases h5
   rw [he]
   cases hN : upB N down.toNat neg mode
   ·simp
   ·rw [hu hN]; exact Nat.le_refl _
theorem wdN_mono {z y e mode : Int} (hy : y ≠ 0) (hs : decide (z < 0) = decide (y < 0)) (h : z.natAbs ≤ y.natAbs) : wdN z e mode ≤ wdN y e mode := by
 unfold wdN
 have h1 := roundZ_le z e 53 (-1074) mode 53 rfl
 have h2 : -1074 ≤ lastE z e 53 (-1074) := by unfold lastE; omega
 have h3 := roundZ_low (e := e) (mode := mode) hy
 have hb := bl_mono h
 have hl : lastE z e 53 (-1074) ≤ lastE y e 53 (-1074) := by unfold lastE; omega
 rcases Int.lt_or_eq_of_le hl with h4 | h4
 ·have h5 : 2 ^ 52 ≤ roundZ y e 53 (-1074) mode := h3.resolve_left (by omega)
  generalize roundZ z e 53 (-1074) mode = m at *
  generalize roundZ y e 53 (-1074) mode = n at *
  generalize lastE z e 53 (-1074) = a at *
  generalize lastE y e 53 (-1074) = b at *
  unfold kHid
  omega
 ·have h6 : roundZ z e 53 (-1074) mode ≤ roundZ y e 53 (-1074) mode := by
   unfold roundZ
   rw [h4, hs]; exact cutZ_mono h
  rw [h4]; omega
theorem kSign_big : kInf < kSign := by decide
theorem rnd_lt {z e : Int} (mode : Int) (h0 : z ≠ 0 ∨ e = 0) : rndB z e mode < 18446744073709551616 ∧ rndB z e mode % kSign ≤ kInf := by
 by_cases hz : z = 0
 ·subst hz
  rw [rnd_zero e mode (h0.resolve_left fun h => h rfl)]; decide
 ·rw [rnd_cap hz]
  have h := capW_le (beyB (decide (z < 0)) mode) (wdN z e mode)
  generalize capW _ _ = c at *
  unfold kSign kInf at *
  split <;> omega
theorem ky_rnd {z e : Int} (hz : z ≠ 0) (mode : Int) : ky (rndB z e mode) = if z < 0 then -(capW (beyB (decide (z < 0)) mode) (wdN z e mode) : Int) else capW (beyB (decide (z < 0)) mode) (wdN z e mode) := by
 rw [rnd_cap hz]
 have h := capW_le (beyB (decide (z < 0)) mode) (wdN z e mode)
 generalize capW _ _ = c at *
 have hk := kSign_big
 by_cases hs : z < 0
 ·rw [if_pos hs, decide_eq_true hs, if_pos rfl]
  unfold ky
  have h3 : kSign + c - kSign = c := by omega
  rw [if_neg (by omega), h3]
 ·rw [if_neg hs, decide_eq_false hs]
  simp only [Bool.false_eq_true, if_false, Nat.zero_add]
  unfold ky
  rw [if_pos (by omega)]
theorem ky_zero : ky 0 = 0 := by decide
theorem rnd_sc {M z e : Int} (hz : z ≠ 0) (h1 : 0 ≤ e + M) (mode : Int) : rndB z e mode = rndB (sc M z e) (-M) mode := by
 have a1 := last_scale (e := e) (digits := 53) (least := -1074) hz (e + M).toNat
 have a2 := round_scale (e := e) (digits := 53) (least := -1074) (mode := mode) hz (e + M).toNat
 have a3 := shift_neg z (e + M).toNat
 rw [show e - ((e + M).toNat : Int) = -M by omega] at a1 a2
 unfold rndB sc
 rw [a1, a2, a3]
theorem rnd_rises {M z e y f : Int} (mode : Int) (h1 : 0 ≤ e + M) (h2 : 0 ≤ f + M) (hz : z ≠ 0 ∨ e = 0) (hy : y ≠ 0 ∨ f = 0) (h : sc M z e ≤ sc M y f) : ky (rndB z e mode) ≤ ky (rndB y f mode) := by
 by_cases z0 : z = 0
 ·subst z0
  rw [rnd_zero e mode (hz.resolve_left fun h => h rfl), ky_zero]
  by_cases y0 : y = 0
  ·subst y0; rw [rnd_zero f mode (hy.resolve_left fun h => h rfl), ky_zero]; exact Int.le_refl _
  ·rw [sc_zero] at h
   rw [rnd_sc y0 h2, ky_rnd (fun h0 => y0 (sc_eq_zero.1 h0)), if_neg (by omega)]
   omega
 ·by_cases y0 : y = 0
  ·subst y0
   rw [rnd_zero f mode (hy.resolve_left fun h => h rfl), ky_zero]
   rw [sc_zero] at h
   have hs : sc M z e ≠ 0 := fun h0 => z0 (sc_eq_zero.1 h0)
   rw [rnd_sc z0 h1, ky_rnd hs, if_pos (by omega)]
   omega
  ·have hs : sc M z e ≠ 0 := fun h0 => z0 (sc_eq_zero.1 h0)
   have ht : sc M y f ≠ 0 := fun h0 => y0 (sc_eq_zero.1 h0)
   rw [rnd_sc z0 h1, rnd_sc y0 h2, ky_rnd hs, ky_rnd ht]
   generalize sc M z e = V at *
   generalize sc M y f = W at *
   by_cases v0 : V < 0
   ·rw [if_pos v0]
    by_cases w0 : W < 0
    ·rw [if_pos w0, decide_eq_true v0, decide_eq_true w0]
     have := capW_mono (beyB true mode) (wdN_mono (z := W) (y := V) (e := -M) (mode := mode) hs (by rw [decide_eq_true v0, decide_eq_true w0]) (by omega))
     omega
    ·rw [if_neg w0]; omega
   ·rw [if_neg v0, if_neg (by omega), decide_eq_false v0, decide_eq_false (by omega)]
    have := capW_mono (beyB false mode) (wdN_mono (z := V) (y := W) (e := -M) (mode := mode) ht (by rw [decide_eq_false v0, decide_eq_false (by omega)]) (by omega))
    omega
def FlM (neg : Bool) (mode : Int) : Prop := ∀ N d, upB N d neg mode = false
def CeM (neg : Bool) (mode : Int) : Prop := ∀ N d, upB N d neg mode = decide (N % 2 ^ d ≠ 0)
theorem fl_pos : FlM false 4 := fun N d => by unfold upB; split <;> rfl
theorem fl_neg : FlM true 3 := fun N d => by unfold upB; split <;> rfl
theorem ce_neg : CeM true 4 := fun N d => by unfold upB; split <;> simp [*]
theorem ce_pos : CeM false 3 := fun N d => by unfold upB; split <;> simp [*]
theorem cut_fl {N : Nat} {l e M mode : Int} {neg : Bool} (h : FlM neg mode) (h1 : 0 ≤ e + M) (h2 : 0 ≤ l + M) : cutZ N (l - e) neg mode * 2 ^ (l + M).toNat ≤ N * 2 ^ (e + M).toNat := by
 unfold cutZ
 by_cases h3 : l - e ≤ 0
 ·rw [if_pos h3, Nat.mul_assoc, ← Nat.pow_add, show (-(l - e)).toNat + (l + M).toNat = (e + M).toNat by omega]; exact Nat.le_refl _
 ·rw [if_neg h3, h, if_neg (by decide), Nat.add_zero, show (l + M).toNat = (l - e).toNat + (e + M).toNat by omega, Nat.pow_add, ← Nat.mul_assoc]
  exact Nat.mul_le_mul_right _ (Nat.div_mul_le_self _ _)
theorem cut_ce {N : Nat} {l e M mode : Int} {neg : Bool} (h : CeM neg mode) (h1 : 0 ≤ e + M) (h2 : 0 ≤ l + M) : N * 2 ^ (e + M).toNat ≤ cutZ N (l - e) neg mode * 2 ^ (l + M).toNat := by
 unfold cutZ
 by_cases h3 : l - e ≤ 0
 ·rw [if_pos h3, Nat.mul_assoc, ← Nat.pow_add, show (-(l - e)).toNat + (l + M).toNat = (e + M).toNat by omega]; exact Nat.le_refl _
 ·rw [if_neg h3, h, show (l + M).toNat = (l - e).toNat + (e + M).toNat by omega, Nat.pow_add, ← Nat.mul_assoc]
  refine Nat.mul_le_mul_right _ ?_
  have h4 := Nat.div_add_mod N (2 ^ (l - e).toNat)
  have h5 := Nat.mod_lt N (Nat.two_pow_pos (l - e).toNat)
  generalize 2 ^ (l - e).toNat = g at *
  rw [Nat.mul_comm] at h4
  by_cases h6 : N % g = 0
  ·rw [decide_eq_false (by omega), if_neg (by decide)]; rw [Nat.add_zero]; omega
  ·rw [decide_eq_true h6, if_pos rfl, Nat.add_mul, Nat.one_mul]; omega
theorem cut_adj {N : Nat} {d m1 m2 : Int} {neg : Bool} (h1 : FlM neg m1) : cutZ N d neg m1 ≤ cutZ N d neg m2 ∧ cutZ N d neg m2 ≤ cutZ N d neg m1 + 1 := by
 unfold cutZ
 by_cases h3 : d ≤ 0
 ·rw [if_pos h3, if_pos h3]; omega
 ·rw [if_neg h3, if_neg h3, h1, if_neg (by decide)]; split <;> omega
theorem wdN_adj {z e m1 m2 : Int} (h1 : FlM (decide (z < 0)) m1) : wdN z e m1 ≤ wdN z e m2 ∧ wdN z e m2 ≤ wdN z e m1 + 1 := by
 unfold wdN roundZ
 have := cut_adj (N := z.natAbs) (d := lastE z e 53 (-1074) - e) (m2 := m2) h1
 omega
theorem rnd_adj {z e : Int} (h0 : z ≠ 0 ∨ e = 0) : ky (rndB z e 4) ≤ ky (rndB z e 3) ∧ ky (rndB z e 3) ≤ ky (rndB z e 4) + 1 ∧ ky (rndB z e 4) < kInf ∧ -(kInf : Int) ≤ ky (rndB z e 4) := by
 by_cases hz : z = 0
 ·subst hz
  rw [rnd_zero e 4 (h0.resolve_left fun h => h rfl), rnd_zero e 3 (h0.resolve_left fun h => h rfl)]
  decide
 ·rw [ky_rnd hz, ky_rnd hz]
  have hk : kInf ≠ 0 := (by decide)
  by_cases hs : z < 0
  ·rw [if_pos hs, if_pos hs]
   have h1 := wdN_adj (z := z) (e := e) (m1 := 3) (m2 := 4) (by rw [decide_eq_true hs]; exact fl_neg)
   rw [decide_eq_true hs, show beyB true 4 = false from rfl, show beyB true 3 = true from rfl]
   generalize wdN z e 3 = a at *
   generalize wdN z e 4 = b at *
   unfold capW
   simp only [Bool.false_eq_true, if_false, if_true]
   refine ⟨?_, ?_, ?_, ?_⟩ <;> (split <;> (try split) <;> omega)
  ·rw [if_neg hs, if_neg hs]
   have h1 := wdN_adj (z := z) (e := e) (m1 := 4) (m2 := 3) (by rw [decide_eq_false hs]; exact fl_pos)
   rw [decide_eq_false hs, show beyB false 4 = true from rfl, show beyB false 3 = false from rfl]
   generalize wdN z e 3 = a at *
   generalize wdN z e 4 = b at *
   unfold capW
   simp only [Bool.false_eq_true, if_false, if_true]
   refine ⟨?_, ?_, ?_, ?_⟩ <;> (split <;> (try split) <;> omega)
theorem sc_rnd {M z e mode : Int} (hM : 1074 ≤ M) (hz : z ≠ 0) (hf : finB (rndB z e mode) = true) :
  sc M (valZ (rndB z e mode)) (pE (rndB z e mode)) = (if z < 0 then -(wv (capW (beyB (decide (z < 0)) mode) (wdN z e mode)) : Int) else wv (capW (beyB (decide (z < 0)) mode) (wdN z e mode))) * 2 ^ (M - 1074).toNat := by
 have hl := rnd_lt (z := z) (e := e) mode (.inl hz)
 rw [sc_word hl.1 hf hM]
 have hc := capW_le (beyB (decide (z < 0)) mode) (wdN z e mode)
 rw [rnd_cap hz]
 generalize capW _ _ = c at *
 have hk := kSign_big
 by_cases hs : z < 0
 ·rw [decide_eq_true hs, if_pos rfl, if_pos hs]
  have h1 : sgnB (kSign + c) = true := decide_eq_true (by omega)
  have h2 : (kSign + c) % kSign = c := by rw [Nat.add_mod_left, Nat.mod_eq_of_lt (by omega)]
  rw [h1, h2, if_pos rfl]
 ·rw [decide_eq_false hs, if_neg hs]
  simp only [Bool.false_eq_true, if_false, Nat.zero_add]
  have h1 : sgnB c = false := decide_eq_false (by omega)
  rw [h1, Nat.mod_eq_of_lt (show c < kSign by omega)]
  simp
theorem wv_wd {z e mode : Int} (hz : z ≠ 0) : wv (wdN z e mode) = roundZ z e 53 (-1074) mode * 2 ^ (lastE z e 53 (-1074) + 1074).toNat := by
 unfold wdN
 refine wv_word (roundZ_le z e 53 (-1074) mode 53 rfl) ?_
 have h2 : -1074 ≤ lastE z e 53 (-1074) := by unfold lastE; omega
 rcases roundZ_low (e := e) (mode := mode) hz with h | h
 ·left; omega
 ·exact .inr h
theorem sc_abs {M z e : Int} : sc M z e = (if z < 0 then -((z.natAbs * 2 ^ (e + M).toNat : Nat) : Int) else ((z.natAbs * 2 ^ (e + M).toNat : Nat) : Int)) := by
 unfold sc
 rw [Int.natCast_mul, Int.natCast_pow]
 split
 ·rw [← Int.neg_mul]; congr 1; omega
 ·congr 1; omega
theorem wv_up {M z e mode : Int} (hM : 1074 ≤ M) (hz : z ≠ 0) : wv (wdN z e mode) * 2 ^ (M - 1074).toNat = roundZ z e 53 (-1074) mode * 2 ^ (lastE z e 53 (-1074) + M).toNat := by
 have h2 : -1074 ≤ lastE z e 53 (-1074) := by unfold lastE; omega
 rw [wv_wd hz, Nat.mul_assoc, ← Nat.pow_add, show (lastE z e 53 (-1074) + 1074).toNat + (M - 1074).toNat = (lastE z e 53 (-1074) + M).toNat by omega]
theorem fin_cap {z e mode : Int} (hz : z ≠ 0) (hb : beyB (decide (z < 0)) mode = false) (hf : finB (rndB z e mode) = true) : wdN z e mode < kInf := by
 rcases Nat.lt_or_ge (wdN z e mode) kInf with h | h
 ·exact h
 ·have hc : capW false (wdN z e mode) = kInf := by
   unfold capW; rw [if_neg (by omega)]; rfl
  rw [rnd_cap hz, hb, hc] at hf
  cases hd : decide (z < 0)
  ·rw [hd] at hf; exact absurd hf (by decide)
  ·rw [hd] at hf; exact absurd hf (by decide)
theorem val_fl {M z e mode : Int} (hM : 1074 ≤ M) (h1 : 0 ≤ e + M) (hz : z ≠ 0) (h : FlM (decide (z < 0)) mode) (c : Nat) (hc : c ≤ wdN z e mode) : wv c * 2 ^ (M - 1074).toNat ≤ z.natAbs * 2 ^ (e + M).toNat := by
 have h2 : -1074 ≤ lastE z e 53 (-1074) := by unfold lastE; omega
 have h3 := wv_up (e := e) (mode := mode) hM hz
 have h4 := cut_fl (N := z.natAbs) (l := lastE z e 53 (-1074)) (e := e) (M := M) h h1 (by omega)
 refine Nat.le_trans (Nat.mul_le_mul_right _ (wv_mono hc)) ?_
 rw [h3]; exact h4
theorem val_ce {M z e mode : Int} (hM : 1074 ≤ M) (h1 : 0 ≤ e + M) (hz : z ≠ 0) (h : CeM (decide (z < 0)) mode) : z.natAbs * 2 ^ (e + M).toNat ≤ wv (wdN z e mode) * 2 ^ (M - 1074).toNat := by
 have h2 : -1074 ≤ lastE z e 53 (-1074) := by unfold lastE; omega
 rw [wv_up (e := e) (mode := mode) hM hz]
 exact cut_ce (N := z.natAbs) (l := lastE z e 53 (-1074)) (e := e) (M := M) h h1 (by omega)
theorem capW_wd (W : Nat) : capW true W ≤ W := by unfold capW; have : kInf ≠ 0 := (by decide); split <;> (try split) <;> omega
theorem down_le {M z e : Int} (hM : 1074 ≤ M) (h1 : 0 ≤ e + M) (h0 : z ≠ 0 ∨ e = 0) (hf : finB (rndB z e 4) = true) : sc M (valZ (rndB z e 4)) (pE (rndB z e 4)) ≤ sc M z e := by
 by_cases hz : z = 0
 ·subst hz
  rw [rnd_zero e 4 (h0.resolve_left fun h => h rfl), sc_zero, show valZ 0 = 0 from by decide, sc_zero]; exact Int.le_refl _
 ·rw [sc_rnd hM hz hf, sc_abs (z := z)]
  by_cases hs : z < 0
  ·rw [if_pos hs, if_pos hs]
   have hb : beyB (decide (z < 0)) 4 = false := by rw [decide_eq_true hs]; rfl
   have hw := fin_cap hz hb hf
   have h3 := val_ce (e := e) (mode := 4) hM h1 hz (by rw [decide_eq_true hs]; exact ce_neg)
   rw [hb, show capW false (wdN z e 4) = wdN z e 4 by unfold capW; rw [if_pos hw], Int.neg_mul]
   have h4 : ((wv (wdN z e 4) * 2 ^ (M - 1074).toNat : Nat) : Int) = (wv (wdN z e 4) : Int) * 2 ^ (M - 1074).toNat := by rw [Int.natCast_mul, Int.natCast_pow]; rfl
   rw [← h4]; omega
  ·rw [if_neg hs, if_neg hs]
   have h3 := val_fl (e := e) (mode := 4) hM h1 hz (by rw [decide_eq_false hs]; exact fl_pos) (capW true (wdN z e 4)) (capW_wd _)
   rw [decide_eq_false hs, show beyB false 4 = true from rfl]
   have h4 : ((wv (capW true (wdN z e 4)) * 2 ^ (M - 1074).toNat : Nat) : Int) = (wv (capW true (wdN z e 4)) : Int) * 2 ^ (M - 1074).toNat := by rw [Int.natCast_mul, Int.natCast_pow]; rfl
   rw [← h4]; omega
theorem up_ge {M z e : Int} (hM : 1074 ≤ M) (h1 : 0 ≤ e + M) (h0 : z ≠ 0 ∨ e = 0) (hf : finB (rndB z e 3) = true) : sc M z e ≤ sc M (valZ (rndB z e 3)) (pE (rndB z e 3)) := by
 by_cases hz : z = 0
 ·subst hz
  rw [rnd_zero e 3 (h0.resolve_left fun h => h rfl), sc_zero, show valZ 0 = 0 from by decide, sc_zero]; exact Int.le_refl _
 ·rw [sc_rnd hM hz hf, sc_abs (z := z)]
  by_cases hs : z < 0
  ·rw [if_pos hs, if_pos hs]
   have h3 := val_fl (e := e) (mode := 3) hM h1 hz (by rw [decide_eq_true hs]; exact fl_neg) (capW true (wdN z e 3)) (capW_wd _)
   rw [decide_eq_true hs, show beyB true 3 = true from rfl, Int.neg_mul]
   have h4 : ((wv (capW true (wdN z e 3)) * 2 ^ (M - 1074).toNat : Nat) : Int) = (wv (capW true (wdN z e 3)) : Int) * 2 ^ (M - 1074).toNat := by rw [Int.natCast_mul, Int.natCast_pow]; rfl
   rw [← h4]; omega
  ·rw [if_neg hs, if_neg hs]
   have hb : beyB (decide (z < 0)) 3 = false := by rw [decide_eq_false hs]; rfl
   have hw := fin_cap hz hb hf
   have h3 := val_ce (e := e) (mode := 3) hM h1 hz (by rw [decide_eq_false hs]; exact ce_pos)
   rw [hb, show capW false (wdN z e 3) = wdN z e 3 by unfold capW; rw [if_pos hw]]
   have h4 : ((wv (wdN z e 3) * 2 ^ (M - 1074).toNat : Nat) : Int) = (wv (wdN z e 3) : Int) * 2 ^ (M - 1074).toNat := by rw [Int.natCast_mul, Int.natCast_pow]; rfl
   rw [← h4]; omega
def nxB (b : Nat) : Nat := if b = kSign then 1 else if b < kSign then b + 1 else b - 1
theorem ky_nx {b : Nat} (h : b < 18446744073709551616) (h1 : ky b < kInf) (h2 : -(kInf : Int) ≤ ky b) : ky (nxB b) = ky b + 1 ∧ nxB b < 18446744073709551616 ∧ nxB b % kSign ≤ kInf := by
 unfold nxB ky at *
 unfold kSign kInf at *
 split
 ·subst_vars; decide
 ·split <;> split at h1 <;> split at h2 <;> (try omega)
  all_goals (refine ⟨?_, ?_, ?_⟩ <;> (try split) <;> omega)
end Go.Proofs.YtfmecpembnmnkaaGreatDoor
