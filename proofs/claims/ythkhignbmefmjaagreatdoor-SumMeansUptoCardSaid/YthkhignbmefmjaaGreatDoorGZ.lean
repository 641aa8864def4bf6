/- Walks: math/bits' Div64 by a divisor of 32 bits. -/
import Derived.Test.YthkhignbmefmjaaGreatDoorGB
import Derived.Test.YthkhignbmefmjaaGreatDoorGC
import Derived.Test.YthkhignbmefmjaaGreatDoorGE
import Derived.Test.YthkhignbmefmjaaGreatDoorZMk1
import Derived.Deep.CutRange
import Derived.Test.YthkhignbmefmjaaGreatDoorGW
namespace Go.Proofs.YthkhignbmefmjaaGreatDoor
section
open Go.RowKit
theorem lz64_any (x : Nat) (hx : x < 18446744073709551616) (w : World) :
  Calls Tryz.prog 139 #[.int .u64 x] w fun e w' => e = .returned (.int .i64 ((64 - bl x : Nat) : Int)) ∧ w = w' := by
 have hb : bl x ≤ 64 := bl_le_of_lt (by rw [two64]; exact hx)
 go_enter Tryz.func139, Tryz.ntmps139
 go_wp2_with fail
 refine (len64_any x hx _).mono ?_
 rintro e w1 ⟨rfl, rfl⟩
 go_wp2
 rw [show ((64 : Int) - (bl x : Nat)) = ((64 - bl x : Nat) : Int) from by omega]
 go_ret
 exact ⟨rfl, rfl⟩
theorem mul_div_aux {b c V q0 y z2 : Nat} (h9 : y * q0 + c = b * 2 ^ 32 + V / 2 ^ 32) :
  z2 + b * 2 ^ 32 * 2 ^ 32 + V = z2 + y * q0 * 2 ^ 32 + (c * 2 ^ 32 + V % 2 ^ 32) := by
 have : (y * q0 + c) * 2 ^ 32 = (b * 2 ^ 32 + V / 2 ^ 32) * 2 ^ 32 := by rw [h9]
 rw [Nat.add_mul, Nat.add_mul] at this
 omega
theorem wrap_wM (a : Nat) : IntKind.u64.wrap (a : Int) = ((a % 18446744073709551616 : Nat) : Int) := by rw [IntKind.wrap_u64]; omega
theorem wrap_mulN (a b : Nat) : IntKind.u64.wrap ((a : Int) * (b : Int)) = ((a * b % 18446744073709551616 : Nat) : Int) := by rw [← Int.natCast_mul, wrap_wM]
theorem wrap_addN (a b : Nat) : IntKind.u64.wrap ((a : Int) + (b : Int)) = (((a + b) % 18446744073709551616 : Nat) : Int) := by rw [← Int.natCast_add, wrap_wM]
theorem wrap_subN (a b : Nat) (hb : b < 18446744073709551616) : IntKind.u64.wrap ((a : Int) - (b : Int)) = (((a + 18446744073709551616 - b) % 18446744073709551616 : Nat) : Int) := by rw [IntKind.wrap_u64]; omega
set_option maxRecDepth 100000 in
theorem div_plain {hi lo d s : Nat} (hlo : lo < 2 ^ 64) (hd : hi < d) (hd32 : d < 2 ^ 32) (hs : s < 64) (hs32 : 32 ≤ s) (h64 : d * 2 ^ s < 2 ^ 64) :
  ∃ Y y1 U V v1 v0 q1 r1 W q0 r0 : Nat, Y = d * 2 ^ s ∧ Y < 2 ^ 64 ∧ Y / 2 ^ 32 = y1 ∧ Y % 2 ^ 32 = 0 ∧ 0 < y1 ∧ U = hi * 2 ^ s + lo / 2 ^ (64 - s) ∧ U < 2 ^ 64 ∧ V = lo * 2 ^ s % 2 ^ 64 ∧ V < 2 ^ 64 ∧ v1 = V / 2 ^ 32 ∧ v0 = V % 2 ^ 32 ∧
   q1 = U / y1 ∧ q1 < 2 ^ 32 ∧ U = q1 * y1 + r1 ∧ r1 < 2 ^ 32 ∧ U * 2 ^ 32 + v1 = q1 * Y + W ∧ W < 2 ^ 64 ∧ q0 = W / y1 ∧ q0 < 2 ^ 32 ∧ W = q0 * y1 + r0 ∧ r0 < 2 ^ 32 ∧
   q1 * 2 ^ 32 + q0 = (hi * 2 ^ 64 + lo) / d ∧ W * 2 ^ 32 + v0 = q0 * Y + (hi * 2 ^ 64 + lo) % d * 2 ^ s ∧ (hi * 2 ^ 64 + lo) % d * 2 ^ s < 2 ^ 64 := by
 obtain ⟨t, rfl⟩ : ∃ t, s = 32 + t := ⟨s - 32, by omega⟩
 have hd0 : 0 < d := by omega
 have ht : 0 < 2 ^ t := Nat.two_pow_pos t
 have hY : d * 2 ^ (32 + t) = d * 2 ^ t * 2 ^ 32 := by rw [Nat.pow_add, Nat.mul_assoc, Nat.mul_comm (2 ^ 32)]
 have hy32 : d * 2 ^ t < 2 ^ 32 := by
  have : d * 2 ^ t * 2 ^ 32 < 2 ^ 32 * 2 ^ 32 := by rw [← hY]; exact h64
  exact Nat.lt_of_mul_lt_mul_right this
 have hy0 : 0 < d * 2 ^ t := Nat.mul_pos hd0 ht
 have hsp : 2 ^ (64 - (32 + t)) * 2 ^ (32 + t) = 2 ^ 64 := by rw [← Nat.pow_add]; congr 1; omega
 have hU : (hi * 2 ^ 64 + lo) * 2 ^ (32 + t) = (hi * 2 ^ (32 + t) + lo / 2 ^ (64 - (32 + t))) * 2 ^ 64 + lo * 2 ^ (32 + t) % 2 ^ 64 := by
  have h1 : lo * 2 ^ (32 + t) / 2 ^ 64 = lo / 2 ^ (64 - (32 + t)) := by
   rw [← hsp]; exact Nat.mul_div_mul_right _ _ (Nat.two_pow_pos _)
  have h2 := Nat.div_add_mod (lo * 2 ^ (32 + t)) (2 ^ 64)
  rw [h1] at h2
  rw [Nat.add_mul, Nat.add_mul, ← h2, Nat.mul_right_comm hi, Nat.mul_comm (2 ^ 64) (lo / 2 ^ (64 - (32 + t)))]
  omega
 have hUlt : hi * 2 ^ (32 + t) + lo / 2 ^ (64 - (32 + t)) < d * 2 ^ (32 + t) := by
  have h3 : lo / 2 ^ (64 - (32 + t)) < 2 ^ (32 + t) := by
   rw [Nat.div_lt_iff_lt_mul (Nat.two_pow_pos _), Nat.mul_comm, hsp]; exact hlo
  have h4 : (hi + 1) * 2 ^ (32 + t) ≤ d * 2 ^ (32 + t) := Nat.mul_le_mul_right _ (by omega)
  rw [Nat.add_mul, Nat.one_mul] at h4
  omega
 have hV := Nat.mod_lt (lo * 2 ^ (32 + t)) (show 0 < 2 ^ 64 from by decide)
 obtain ⟨U, hUe⟩ : ∃ U, U = hi * 2 ^ (32 + t) + lo / 2 ^ (64 - (32 + t)) := ⟨_, rfl⟩
 obtain ⟨V, hVe⟩ : ∃ V, V = lo * 2 ^ (32 + t) % 2 ^ 64 := ⟨_, rfl⟩
 obtain ⟨N, hN⟩ : ∃ N, N = hi * 2 ^ 64 + lo := ⟨_, rfl⟩
 obtain ⟨y, hy⟩ : ∃ y, y = d * 2 ^ t := ⟨_, rfl⟩
 rw [← hUe, ← hVe, ← hN] at hU
 rw [← hUe] at hUlt
 rw [← hVe] at hV
 rw [← hy] at hY hy32 hy0
 rw [← hUe, ← hVe, ← hN]
 clear hUe hVe hN hy hsp
 refine ⟨d * 2 ^ (32 + t), y, U, V, V / 2 ^ 32, V % 2 ^ 32, U / y, U % y, (U % y) * 2 ^ 32 + V / 2 ^ 32, ((U % y) * 2 ^ 32 + V / 2 ^ 32) / y, ((U % y) * 2 ^ 32 + V / 2 ^ 32) % y, rfl, h64, ?_, ?_, hy0, rfl, by omega, rfl, hV, rfl, rfl, rfl, ?_, ?_, ?_, ?_, ?_, rfl, ?_, ?_, ?_, ?_⟩
 ·rw [hY]; exact Nat.mul_div_cancel _ (by decide)
 ·rw [hY]; exact Nat.mul_mod_left _ _
 ·rw [Nat.div_lt_iff_lt_mul hy0, Nat.mul_comm, ← hY]; exact hUlt
 ·rw [Nat.mul_comm]; exact (Nat.div_add_mod U y).symm
 ·exact Nat.lt_trans (Nat.mod_lt _ hy0) hy32
 ·have := Nat.div_add_mod U y
  rw [hY]
  generalize U / y = a at *
  generalize U % y = b at *
  subst this
  rw [Nat.add_mul, Nat.mul_comm y a, Nat.mul_assoc]; omega
 ·have := Nat.mod_lt U hy0
  generalize U % y = b at *
  omega
 ·have h5 := Nat.mod_lt U hy0
  rw [Nat.div_lt_iff_lt_mul hy0]
  have h6 : (U % y + 1) * 2 ^ 32 ≤ y * 2 ^ 32 := Nat.mul_le_mul_right _ h5
  rw [Nat.mul_comm (2 ^ 32) y]
  rw [Nat.add_mul] at h6
  have h7 : V / 2 ^ 32 < 2 ^ 32 := by omega
  clear hU hUlt hV hY h64 hlo
  omega
 ·exact ((Nat.div_add_mod (U % y * 2 ^ 32 + V / 2 ^ 32) y).symm).trans (by rw [Nat.mul_comm y])
 ·exact Nat.lt_trans (Nat.mod_lt _ hy0) hy32
 ·-- the quotient and the rest
  have h7 := Nat.div_add_mod U y
  generalize U / y = q1 at *
  have h8 := Nat.mod_lt U hy0
  generalize U % y = r1 at *
  have h9 := Nat.div_add_mod (r1 * 2 ^ 32 + V / 2 ^ 32) y
  have h10 := Nat.mod_lt (r1 * 2 ^ 32 + V / 2 ^ 32) hy0
  generalize (r1 * 2 ^ 32 + V / 2 ^ 32) / y = q0 at *
  generalize (r1 * 2 ^ 32 + V / 2 ^ 32) % y = r0 at *
  have h11 : N * 2 ^ (32 + t) = (q1 * 2 ^ 32 + q0) * (d * 2 ^ (32 + t)) + (r0 * 2 ^ 32 + V % 2 ^ 32) := by
   rw [hU, hY, ← h7]
   have e1 : (y * q1 + r1) * 2 ^ 64 = q1 * 2 ^ 32 * (y * 2 ^ 32) + r1 * 2 ^ 32 * 2 ^ 32 := by
    rw [Nat.add_mul, show (2 : Nat) ^ 64 = 2 ^ 32 * 2 ^ 32 from by decide]
    simp only [Nat.mul_assoc, Nat.mul_comm, Nat.mul_left_comm]
   have e2 : q0 * (y * 2 ^ 32) = y * q0 * 2 ^ 32 := by ac_rfl
   rw [e1, Nat.add_mul, e2]
   exact mul_div_aux h9
  have h12 : r0 * 2 ^ 32 + V % 2 ^ 32 < d * 2 ^ (32 + t) := by
   rw [hY]
   have h6 : (r0 + 1) * 2 ^ 32 ≤ y * 2 ^ 32 := Nat.mul_le_mul_right _ h10
   have := Nat.mod_lt V (show 0 < 2 ^ 32 from by decide)
   omega
  have hsp0 : 0 < 2 ^ (32 + t) := Nat.two_pow_pos _
  have hq : (q1 * 2 ^ 32 + q0) = N / d := by
   rw [← Nat.mul_div_mul_right N d hsp0, h11, Nat.mul_comm (q1 * 2 ^ 32 + q0), Nat.mul_add_div (Nat.mul_pos hd0 hsp0), Nat.div_eq_of_lt h12, Nat.add_zero]
  have hr : r0 * 2 ^ 32 + V % 2 ^ 32 = N % d * 2 ^ (32 + t) := by
   have := Nat.div_add_mod N d
   rw [← hq] at this
   have h13 : N * 2 ^ (32 + t) = (d * (q1 * 2 ^ 32 + q0) + N % d) * 2 ^ (32 + t) := by rw [this]
   rw [h11, Nat.add_mul (d * _)] at h13
   have h14 : (q1 * 2 ^ 32 + q0) * (d * 2 ^ (32 + t)) = d * (q1 * 2 ^ 32 + q0) * 2 ^ (32 + t) := by rw [← Nat.mul_assoc, Nat.mul_comm _ d]
   rw [h14] at h13
   exact Nat.add_left_cancel h13
  refine ⟨hq, ?_, ?_⟩
  ·rw [← hr, ← h9, hY]
   rw [Nat.add_mul, show y * q0 * 2 ^ 32 = q0 * (y * 2 ^ 32) from by ac_rfl]
   exact Nat.add_assoc _ _ _
  ·rw [← hr]; exact Nat.lt_trans h12 h64
theorem pow_cast (a s : Nat) : (a : Int) * 2 ^ s = (a : Int) * ((2 ^ s : Nat) : Int) := by simp
theorem or_shl64 {hi lo s : Nat} (hlo : lo < 18446744073709551616) (hh : hi * 2 ^ s < 18446744073709551616) (hs : s < 64) :
  bits .or .u64 (IntKind.u64.wrap ((hi : Int) * ((2 ^ s : Nat) : Int))) ((lo : Int) / 2 ^ (64 - s)) = ((hi * 2 ^ s + lo / 2 ^ (64 - s) : Nat) : Int) := by
 have h3 : lo / 2 ^ (64 - s) < 2 ^ s := by
  rw [Nat.div_lt_iff_lt_mul (Nat.two_pow_pos _), ← Nat.pow_add, show s + (64 - s) = 64 from by omega, two64]; exact hlo
 have h4 : lo / 2 ^ (64 - s) < 18446744073709551616 := Nat.lt_of_le_of_lt (Nat.div_le_self _ _) hlo
 rw [wrap_mulN, Nat.mod_eq_of_lt hh, shr_cast, bits_or_u64_nat _ _ hh h4, Nat.mul_comm hi, ← Nat.two_pow_add_eq_or_of_lt h3]
set_option maxRecDepth 100000 in
theorem div_facts {hi lo d s : Nat} (hlo : lo < 18446744073709551616) (hd : hi < d) (hd32 : d < 4294967296) (hs : s < 64) (hs32 : 32 ≤ s) (h64 : d * 2 ^ s < 18446744073709551616) :
  ∃ Y y1 U V v1 v0 q1 m1 r1 m2 m3 c1 c2 c3 W q0 m4 r0 m5 m6 c4 c5 c6 c7 c8 : Nat, (IntKind.u64.wrap ((d : Int) * 2 ^ s) = (Y : Int)) ∧
   ((Y : Int) / 4294967296 = (y1 : Int)) ∧
   (((y1 : Int) == 0) = false) ∧
   ((y1 == 0) = false) ∧
   (¬ y1 = 0) ∧
   (bits .and .u64 (Y : Int) 4294967295 = 0) ∧
   (bits .or .u64 (IntKind.u64.wrap ((hi : Int) * 2 ^ s)) ((lo : Int) / 2 ^ (64 - s)) = (U : Int)) ∧
   (IntKind.u64.wrap ((lo : Int) * 2 ^ s) = (V : Int)) ∧
   ((V : Int) / 4294967296 = (v1 : Int)) ∧
   (bits .and .u64 (V : Int) 4294967295 = (v0 : Int)) ∧
   ((U : Int).tdiv (y1 : Int) = (q1 : Int)) ∧
   (IntKind.u64.wrap (q1 : Int) = (q1 : Int)) ∧
   (IntKind.u64.wrap ((q1 : Int) * (y1 : Int)) = (m1 : Int)) ∧
   (IntKind.u64.wrap ((U : Int) - (m1 : Int)) = (r1 : Int)) ∧
   (decide ((4294967296 : Int) ≤ (q1 : Int)) = false) ∧
   (decide (4294967296 ≤ q1) = false) ∧
   (IntKind.u64.wrap (4294967296 * (r1 : Int)) = (m2 : Int)) ∧
   (IntKind.u64.wrap ((m2 : Int) + (v1 : Int)) = (m3 : Int)) ∧
   (IntKind.u64.wrap ((U : Int) * 4294967296) = (c1 : Int)) ∧
   (IntKind.u64.wrap ((c1 : Int) + (v1 : Int)) = (c2 : Int)) ∧
   (IntKind.u64.wrap ((q1 : Int) * (Y : Int)) = (c3 : Int)) ∧
   (IntKind.u64.wrap ((c2 : Int) - (c3 : Int)) = (W : Int)) ∧
   ((W : Int).tdiv (y1 : Int) = (q0 : Int)) ∧
   (IntKind.u64.wrap (q0 : Int) = (q0 : Int)) ∧
   (IntKind.u64.wrap ((q0 : Int) * (y1 : Int)) = (m4 : Int)) ∧
   (IntKind.u64.wrap ((W : Int) - (m4 : Int)) = (r0 : Int)) ∧
   (decide ((4294967296 : Int) ≤ (q0 : Int)) = false) ∧
   (decide (4294967296 ≤ q0) = false) ∧
   (IntKind.u64.wrap (4294967296 * (r0 : Int)) = (m5 : Int)) ∧
   (IntKind.u64.wrap ((m5 : Int) + (v0 : Int)) = (m6 : Int)) ∧
   (IntKind.u64.wrap ((q1 : Int) * 4294967296) = (c4 : Int)) ∧
   (IntKind.u64.wrap ((c4 : Int) + (q0 : Int)) = (((hi * 18446744073709551616 + lo) / d : Nat) : Int)) ∧
   (IntKind.u64.wrap ((W : Int) * 4294967296) = (c5 : Int)) ∧
   (IntKind.u64.wrap ((c5 : Int) + (v0 : Int)) = (c6 : Int)) ∧
   (IntKind.u64.wrap ((q0 : Int) * (Y : Int)) = (c7 : Int)) ∧
   (IntKind.u64.wrap ((c6 : Int) - (c7 : Int)) = (c8 : Int)) ∧
   ((c8 : Int) / 2 ^ s = (((hi * 18446744073709551616 + lo) % d : Nat) : Int)) := by
 obtain ⟨Y, y1, U, V, v1, v0, q1, r1, W, q0, r0, hYe, hY, hy1, hYl, hy0, hU, hUl, hV, hVl, hv1, hv0, hq1, hq1l, hUq, hr1l, hUW, hWl, hq0, hq0l, hWq, hr0l, hQ, hR, hRl⟩ :=
  div_plain (hi := hi) (lo := lo) (by rw [two64]; exact hlo) hd (Nat.lt_of_lt_of_eq hd32 (by decide)) hs hs32 (by rw [two64]; exact h64)
 rw [two64] at hY hUl hV hVl hWl hQ hR hRl
 rw [show (2 : Nat) ^ 32 = 4294967296 from by decide] at hy1 hYl hv1 hv0 hq1l hr1l hUW hq0l hr0l hQ hR
 have hhs : hi * 2 ^ s < 18446744073709551616 := Nat.lt_of_le_of_lt (Nat.mul_le_mul_right _ (Nat.le_of_lt hd)) h64
 have hQl : (hi * 18446744073709551616 + lo) / d < 18446744073709551616 := by
  rw [← hQ]; omega
 refine ⟨Y, y1, U, V, v1, v0, q1, q1 * y1 % 18446744073709551616, r1, 4294967296 * r1 % 18446744073709551616, (4294967296 * r1 % 18446744073709551616 + v1) % 18446744073709551616, U * 4294967296 % 18446744073709551616, (U * 4294967296 % 18446744073709551616 + v1) % 18446744073709551616, q1 * Y % 18446744073709551616, W, q0, q0 * y1 % 18446744073709551616, r0, 4294967296 * r0 % 18446744073709551616, (4294967296 * r0 % 18446744073709551616 + v0) % 18446744073709551616, q1 * 4294967296 % 18446744073709551616, W * 4294967296 % 18446744073709551616, (W * 4294967296 % 18446744073709551616 + v0) % 18446744073709551616, q0 * Y % 18446744073709551616, (hi * 18446744073709551616 + lo) % d * 2 ^ s, ?_, ?_, ?_, ?_, ?_, ?_, ?_, ?_, ?_, ?_, ?_, ?_, ?_, ?_, ?_, ?_, ?_, ?_, ?_, ?_, ?_, ?_, ?_, ?_, ?_, ?_, ?_, ?_, ?_, ?_, ?_, ?_, ?_, ?_, ?_, ?_, ?_⟩
 ·rw [pow_cast, wrap_mulN, Nat.mod_eq_of_lt (by rw [← hYe]; exact hY), hYe]
 ·rw [← hy1]; omega
 ·simp; omega
 ·simp; omega
 ·omega
 ·rw [Mul64.maskN Y hY, hYl]; rfl
 ·rw [pow_cast, or_shl64 hlo hhs hs, hU]
 ·rw [pow_cast, wrap_mulN, hV]
 ·rw [hv1]; omega
 ·rw [Mul64.maskN V hVl, hv0]
 ·rw [hq1]; exact (Int.ofNat_tdiv U y1).symm
 ·exact wrap_u64_lt _ (by omega)
 ·exact wrap_mulN _ _
 ·rw [wrap_subN _ _ (Nat.mod_lt _ (by decide))]; congr 1; omega
 ·simp; omega
 ·simp; omega
 ·exact wrap_mulN 4294967296 _
 ·exact wrap_addN _ _
 ·exact wrap_mulN _ 4294967296
 ·exact wrap_addN _ _
 ·exact wrap_mulN _ _
 ·rw [wrap_subN _ _ (Nat.mod_lt _ (by decide))]; congr 1; omega
 ·rw [hq0]; exact (Int.ofNat_tdiv W y1).symm
 ·exact wrap_u64_lt _ (by omega)
 ·exact wrap_mulN _ _
 ·rw [wrap_subN _ _ (Nat.mod_lt _ (by decide))]; congr 1; omega
 ·simp; omega
 ·simp; omega
 ·exact wrap_mulN 4294967296 _
 ·exact wrap_addN _ _
 ·exact wrap_mulN _ 4294967296
 ·rw [wrap_addN, ← hQ]; congr 1; omega
 ·exact wrap_mulN _ 4294967296
 ·exact wrap_addN _ _
 ·exact wrap_mulN _ _
 ·rw [wrap_subN _ _ (Nat.mod_lt _ (by decide))]; congr 1; omega
 ·rw [shr_cast, Nat.mul_div_cancel _ (Nat.two_pow_pos _)]
set_option maxRecDepth 100000 in
set_option maxHeartbeats 1000000 in
theorem div64_any (hi lo d : Nat) (hlo : lo < 18446744073709551616) (hd : hi < d) (hd32 : d < 4294967296) (w : World) :
  Calls Tryz.prog 166 #[.int .u64 hi, .int .u64 lo, .int .u64 d] w
   (Tells (.tuple #[.int .u64 ((hi * 18446744073709551616 + lo) / d : Nat), .int .u64 ((hi * 18446744073709551616 + lo) % d : Nat)]) w) := by
 have hb0 : ((d : Int) == 0) = false := by simp; omega
 have hb00 : (d == 0) = false := by simp; omega
 have hbd : ¬ d = 0 := by omega
 have hb1 : decide ((d : Int) ≤ (hi : Int)) = false := by simp; omega
 have hb11 : decide (d ≤ hi) = false := by simp; omega
 by_cases h0 : hi = 0
 ·subst h0
  have h1 : (lo : Int).tdiv (d : Int) = ((lo / d : Nat) : Int) := (Int.ofNat_tdiv lo d).symm
  have h2 : (lo : Int).tmod (d : Int) = ((lo % d : Nat) : Int) := (Int.ofNat_tmod lo d).symm
  have h3 := wrap_u64_lt _ (Nat.lt_of_le_of_lt (Nat.div_le_self lo d) hlo)
  have h4 := wrap_u64_lt _ (Nat.lt_of_le_of_lt (Nat.mod_le lo d) hlo)
  rw [show (0 * 18446744073709551616 + lo) = lo from by omega]
  go_enter Tryz.func166, Tryz.ntmps166
  go_wp2
  refine wp_region_pl (fun _ : World => True) 7 (.take 0 (.take 1 (.take 2 (.take 3 (.take 4 (.take 5 (.take 6 .nil))))))) (by kernel_rfl) (by kernel_rfl) ?_
  have hS : (fun _ : World => True) w := trivial
  repeat (refine tkL (v := ?_) rfl rfl rfl (fun w' hSw => ?_) hS ?_; rotate_left; (focus (go_simp; with_reducible rfl)); simp only [setL])
  clear hS
  refine wpPl_nil ?_
  simp only [drL]
  go_wp2
  rw [← Int.natCast_ediv, ← Int.natCast_emod, h3]
  go_ret2
  exact ⟨rfl, 1, rfl⟩
 ·obtain ⟨s, hsd⟩ : ∃ s, s = 64 - bl d := ⟨_, rfl⟩
  have hbl : bl d ≤ 32 := bl_le_of_lt (Nat.lt_of_lt_of_eq hd32 (by decide))
  have hbl0 : 0 < bl d := bl_pos hbd
  have hs1 : s < 64 := by omega
  have hs2 : 32 ≤ s := by omega
  have hs3 : d * 2 ^ s < 2 ^ 64 := by
   have h5 : d * 2 ^ s < 2 ^ bl d * 2 ^ s := Nat.mul_lt_mul_of_pos_right (lt_bl d) (Nat.two_pow_pos _)
   rw [← Nat.pow_add, show bl d + s = 64 from by omega] at h5
   exact h5
  obtain ⟨Y, y1, U, V, v1, v0, q1, m1, r1, m2, m3, c1, c2, c3, W, q0, m4, r0, m5, m6, c4, c5, c6, c7, c8, wrap_d, Y_hi, y1_0, y1_1, y1_2, Y_lo, or_U, wrap_V, V_hi, V_lo, q1_is, q1_w, m1_is, r1_is, q1_b, q1_c, m2_is, m3_is, c1_is, c2_is, c3_is, W_is, q0_is, q0_w, m4_is, r0_is, q0_b, q0_c, m5_is, m6_is, c4_is, Q_is, c5_is, c6_is, c7_is, c8_is, R_is⟩ := div_facts (hi := hi) (lo := lo) hlo hd hd32 hs1 hs2 (by rw [← two64]; exact hs3)
  have hb2 : ((hi : Int) == 0) = false := by simp; omega
  have hb22 : (hi == 0) = false := by simp; omega
  clear hs3 hbl hbl0
  go_enter Tryz.func166, Tryz.ntmps166
  go_wp2_with fail
  refine (lz64_any d (by omega) _).mono ?_
  rintro e w1 ⟨rfl, rfl⟩
  rw [← hsd]
  clear hsd
  go_wp2_with fail
  go_loopw [15, 16] (fun a b wr => a = .int .u64 q1 ∧ b = .int .u64 r1 ∧ wr = w) (fun _ _ _ => 0)
  case atStart => exact ⟨rfl, rfl, rfl⟩
  case round =>
   obtain ⟨rfl, rfl, rfl⟩ := hrel
   go_wp2_with fail
   go_loopw [16, 18] (fun a b wr' => a = .int .u64 r0 ∧ b = .int .u64 q0 ∧ wr' = wr) (fun _ _ _ => 0)
   case atStart => exact ⟨rfl, rfl, rfl⟩
   case round =>
    obtain ⟨rfl, rfl, rfl⟩ := hrel
    go_wp2
    go_ret2
    exact ⟨rfl, 0, rfl⟩
end
section
open Go.RowKit
theorem short_digit {X d k : Nat} (hd : 0 < d) :
  dg 64 (X / d) k = (X / 2 ^ (64 * (k + 1)) % d * 18446744073709551616 + dg 64 X k) / d ∧
  (X / 2 ^ (64 * (k + 1)) % d * 18446744073709551616 + dg 64 X k) % d = X / 2 ^ (64 * k) % d := by
 have h1 : X / 2 ^ (64 * k) = X / 2 ^ (64 * (k + 1)) * 18446744073709551616 + dg 64 X k := by
  have := Nat.div_add_mod (X / 2 ^ (64 * k)) (2 ^ 64)
  rw [Nat.div_div_eq_div_mul, ← Nat.pow_add, show 64 * k + 64 = 64 * (k + 1) from by omega, two64] at this
  unfold dg
  rw [two64]
  omega
 have h2 : dg 64 (X / d) k = X / 2 ^ (64 * k) / d % 18446744073709551616 := by
  unfold dg
  rw [two64, Nat.div_div_eq_div_mul, Nat.div_div_eq_div_mul, Nat.mul_comm d]
 have hg := dg64_lt X k
 generalize dg 64 X k = g at *
 generalize X / 2 ^ (64 * (k + 1)) = A at *
 have h3 := Nat.div_add_mod A d
 have h4 := Nat.mod_lt A hd
 generalize A / d = qa at *
 generalize A % d = r at *
 have h5 : A * 18446744073709551616 + g = d * (qa * 18446744073709551616) + (r * 18446744073709551616 + g) := by
  rw [← h3, Nat.add_mul, Nat.mul_assoc]; omega
 have h6 : (r * 18446744073709551616 + g) / d < 18446744073709551616 := by
  rw [Nat.div_lt_iff_lt_mul hd]
  have : (r + 1) * 18446744073709551616 ≤ d * 18446744073709551616 := Nat.mul_le_mul_right _ h4
  rw [Nat.mul_comm 18446744073709551616 d]
  omega
 constructor
 ·rw [h2, h1, h5, Nat.mul_add_div hd, Nat.add_comm, Nat.add_mul_mod_self_right, Nat.mod_eq_of_lt h6]
 ·rw [h1, h5, Nat.mul_add_mod]
theorem _root_.Go.RowKit.Below.drewN' {B : Nat} {a w : World} (h : Below B a w) (n : Nat) : Below B a (w.drewN n) := ⟨h.os, h.tape, h.output, h.size, h.block⟩
def ShortRel (X d m b0 k : Nat) (wr : World) : Prop :=
 wr.rowIs b0 (ety .u64) m (fun j => .int .u64 ((if k ≤ j then dg 64 (X / d) j else 0 : Nat)))
theorem ShortRel.step {X d m b0 k : Nat} {wr : World} (h : ShortRel X d m b0 (k + 1) wr) :
  ShortRel X d m b0 k (wr.setCell ⟨b0, k, none⟩ (.int .u64 (dg 64 (X / d) k : Nat))) := by
 refine (h.set k _).congr fun i hi => ?_
 by_cases e : i = k
 ·subst e; simp
 ·rw [if_neg e]
  by_cases e2 : k ≤ i
  ·rw [if_pos e2, if_pos (by omega)]
  ·rw [if_neg e2, if_neg (by omega)]
def Shorts (X d : Nat) (w : World) (e : Ending) (w' : World) : Prop := ∃ v, e = .returned (.tuple #[v, .int .u64 (X % d : Nat)]) ∧ Below w.heap.size w w' ∧ Raw .u64 64 w' v (ln 64 (X / d)) (X / d)
set_option maxRecDepth 100000 in
set_option maxHeartbeats 400000 in
theorem short_any (vx : Value) (n X d : Nat) (w : World) (hx : Raw .u64 64 w vx n X) (hn : n ≤ 274877906944) (hd0 : 0 < d) (hd : d < 4294967296) :
  Calls Tryz.prog 138 #[vx, .int .u64 d] w (Shorts X d w) := by
 obtain ⟨ax, cx, rfl, -, hX, hnx, hcx⟩ := hx
 have HCX := Lib.hid hcx
 have HBX := Lib.hid hX
 clear hcx hX
 have hmk := run_make_row' (P := Tryz.prog) 64 34 (.int .u64 0) 8 Tryz.underlying64 Tryz.info34 rfl .i64 .i64 n (by omega) (by omega)
 go_enter Tryz.func138, Tryz.ntmps138
 go_wp2
 clear hmk
 have HR : Hid (ShortRel X d n w.heap.size n (w.alloc (.cells (madeCells #[.int .u64 0] n) (ety .u64)))) :=
  Lib.hid ((World.rowIs_made _ _ _ _).congr fun i hi => by rw [if_neg (by omega)]; simp)
 have H0 : Hid (X / 2 ^ (64 * n) % d = 0) := Lib.hid (by rw [Nat.div_eq_of_lt HBX.out]; exact Nat.zero_mod _)
 go_loopw [7, 8] (fun r i wr => ∃ k R : Nat, k ≤ n ∧ i = .int .i64 ((k : Int) - 1) ∧ r = .int .u64 R ∧ Hid (R = X / 2 ^ (64 * k) % d ∧ ShortRel X d n w.heap.size k wr) ∧ Below w.heap.size w wr)
  (fun _ i _ => (intOf i + 1).toNat)
 case atStart => exact ⟨n, 0, Nat.le_refl _, rfl, rfl, Lib.hid ⟨H0.out.symm, HR.out⟩, (Below.refl _ _).alloc (Nat.le_refl _) _⟩
 case round =>
  clear HR H0
  obtain ⟨k', R, hk, rfl, rfl, HR, hbel⟩ := hrel
  have hs := HR.out.2.lt
  have hf := fun p => HR.out.2.frozen p
  by_cases hlt : 0 < k'
  ·obtain ⟨k, rfl⟩ : ∃ k, k' = k + 1 := ⟨k' - 1, by omega⟩
   obtain ⟨bx, ox, rfl, hbx, -, hcx⟩ := HCX.out (by omega)
   have hxk : wr.cell? ⟨bx, ox + k, none⟩ = some (.int .u64 (dg 64 X k : Nat)) := (hbel.cell (p := ⟨bx, ox + k, none⟩) hbx).trans (hcx k (by omega))
   have hz1 : ∃ v, wr.cell? ⟨w.heap.size, k, none⟩ = some v := ⟨_, HR.out.2.cell (by omega)⟩
   obtain ⟨v1, hz1⟩ := hz1
   have hf1 := hf k
   have HB := Lib.hid hbel
   have hRd : R < d := by rw [HR.out.1]; exact Nat.mod_lt _ hd0
   have hcast : ((k + 1 : Nat) : Int) - 1 = (k : Int) := by omega
   rw [hcast]
   clear hbel hf hcx hcast
   go_wp2_with fail
   refine (div64_any R _ d (dg64_lt X k) hRd hd _).mono ?_
   rintro e w1 ⟨rfl, q, rfl⟩
   have HE := Lib.hid (short_digit (X := X) (k := k) hd0)
   rw [← HR.out.1] at HE
   rw [← HE.out.1, HE.out.2]
   go_wp2
   go_roundw
   case rel => exact ⟨k, _, by omega, rfl, rfl, Lib.hid ⟨rfl, HR.out.2.step⟩, (HB.out.drewN' _).setCell (Nat.le_refl _) _⟩
   case measure => simp [intOf]
  ·obtain rfl : k' = 0 := by omega
   have hq : X / d < 2 ^ (64 * n) := Nat.lt_of_le_of_lt (Nat.div_le_self _ _) HBX.out
   have hraw := Raw.of_row (N := X / d) (HR.out.2.congr fun i hi => by rw [if_pos (by omega)]) (fun _ _ => rfl) hq (by omega)
   have HB := Lib.hid hbel
   obtain rfl : R = X % d := by rw [HR.out.1]; simp
   have HRaw := Lib.hid hraw
   clear hbel hf hraw hq HR
   go_wp2_with fail
   refine (norm_any _ _ _ _ HRaw.out).mono ?_
   rintro e w1 ⟨v, rfl, rfl, hr2⟩
   have HF := Lib.hid hr2
   clear hr2
   go_wp2
   rw [← Int.natCast_emod]
   go_ret2
   exact ⟨v, rfl, HB.out, HF.out⟩
def Quots (X d : Nat) (w : World) (e : Ending) (w' : World) : Prop :=
 ∃ v u, e = .returned (.tuple #[v, u]) ∧ Below w.heap.size w w' ∧ Raw .u64 64 w' v (ln 64 (X / d)) (X / d) ∧ Raw .u64 64 w' u (ln 64 (X % d)) (X % d)
set_option maxRecDepth 100000 in
set_option maxHeartbeats 400000 in
theorem quotient_any (vx vy : Value) (X d : Nat) (w : World) (hx : Raw .u64 64 w vx (ln 64 X) X) (hy : Raw .u64 64 w vy (ln 64 d) d) (hl : ln 64 X ≤ 68719476736) (hd0 : 0 < d) (hd : d < 4294967296) :
  Calls Tryz.prog 101 #[vx, vy] w (Quots X d w) := by
 have HX := Lib.hid hx
 have HY := Lib.hid hy
 obtain ⟨ay, cy, rfl, -, -, -, hcy⟩ := hy
 have hl1 : ln 64 d = 1 := by
  have h1 : ln 64 d ≤ 1 := (ln_le_iff (by decide)).2 (by rw [Nat.mul_one, two64]; omega)
  have h2 := (ln_pos_iff (s := 64) (N := d) (by decide)).2 hd0
  omega
 rw [hl1] at HY hcy ⊢
 obtain ⟨by', oy, rfl, hby, -, hcy⟩ := hcy (by omega)
 have hyc := hcy 0 (by omega)
 rw [show dg 64 d 0 = d from by unfold dg; rw [two64]; simp; omega, Nat.add_zero] at hyc
 clear hcy hx
 have HY' : Hid (Raw .u64 64 w (.slice (some ⟨by', oy, none⟩) 1 cy) (ln 64 d) d) := Lib.hid (by rw [hl1]; exact HY.out)
 clear HY
 by_cases hlt : X < d
 ·have hc := cmpZ_lt (a := (X : Int)) (b := d) (by omega)
  have h0 : X / d = 0 := Nat.div_eq_of_lt hlt
  have h1 : X % d = X := Nat.mod_eq_of_lt hlt
  unfold Quots
  rw [h0, h1, ln_zero]
  clear h0 h1 hlt
  go_enter Tryz.func101, Tryz.ntmps101
  go_wp2_with fail
  refine (compare_any _ _ X d w HX.out HY'.out).mono ?_
  rintro e w1 ⟨rfl, q, rfl⟩
  rw [hc]
  clear hc
  go_wp2_with fail
  refine (clone_any _ _ X _ (HX.out.drewN q) (by omega)).mono ?_
  rintro e w2 ⟨v, rfl, hb, hr⟩
  have HF := Lib.hid (And.intro (((Below.refl w.heap.size w).drewN' q).trans hb) hr)
  clear hb hr
  go_wp2
  go_ret2
  exact ⟨_, v, rfl, HF.out.1, ⟨none, 0, rfl, by omega, by simp, by omega, fun h => absurd h (by omega)⟩, HF.out.2⟩
 ·have hc : decide (cmpZ X d < 0) = false := by
   rcases Nat.lt_or_ge d X with h | h
   ·rw [cmpZ_gt (a := (X : Int)) (b := d) (by omega)]; rfl
   ·rw [cmpZ_eq (a := (X : Int)) (b := d) (by omega)]; rfl
  clear hlt
  generalize hz : cmpZ X d = z at *
  go_enter Tryz.func101, Tryz.ntmps101
  go_wp2_with fail
  refine (compare_any _ _ X d w HX.out HY'.out).mono ?_
  rintro e w1 ⟨rfl, q, rfl⟩
  rw [hz]
  go_wp2_with fail
  refine (short_any _ _ X d _ (HX.out.drewN q) (by omega) hd0 hd).mono ?_
  rintro e w2 ⟨v, rfl, hb, hr⟩
  have HV := Lib.hid (And.intro (((Below.refl w.heap.size w).drewN' q).trans hb) hr)
  have hrl : X % d < 18446744073709551616 := by have := Nat.mod_lt X hd0; omega
  have HL := Lib.hid hrl
  have hsz : w.heap.size ≤ w2.heap.size := HV.out.1.size
  clear hb hr hrl
  generalize hrr : X % d = r at *
  go_wp2_with fail
  refine (word_any r _ HL.out).mono ?_
  rintro e w3 ⟨u, rfl, hb, hr⟩
  have HF := Lib.hid (And.intro (HV.out.1.trans (hb.mono hsz)) (And.intro (HV.out.2.below hb) hr))
  clear hb hr
  go_wp2
  go_ret2
  exact ⟨v, u, rfl, HF.out.1, HF.out.2.1, by rw [hrr]; exact HF.out.2.2⟩
def QuoRems (b o c p : Nat) (X d : Nat) (w : World) (e : Ending) (w' : World) : Prop :=
 e = .returned (.tuple #[.pointer (some ⟨b, o, none⟩), .pointer (some ⟨c, p, none⟩)]) ∧ IntAt w' b o ((X / d : Nat) : Int) ∧ IntAt w' c p ((X % d : Nat) : Int) ∧ ∃ u, Mod b o w u ∧ Mod c p u w'
set_option maxRecDepth 100000 in
set_option maxHeartbeats 400000 in
theorem QuoRem_any (b o c p e q f r : Nat) (X d : Nat) (w : World) (hz : Spot w b o) (hr : Spot w c p) (ha : Apart c p b o) (hx : IntAt w e q (X : Int)) (hy : IntAt w f r (d : Int)) (hl : ln 64 X ≤ 68719476736) (hd0 : 0 < d) (hd : d < 4294967296) :
  Calls Tryz.prog 45 #[.pointer (some ⟨b, o, none⟩), .pointer (some ⟨e, q, none⟩), .pointer (some ⟨f, r, none⟩), .pointer (some ⟨c, p, none⟩)] w (QuoRems b o c p X d w) := by
 obtain ⟨hxs, hx0, vx, hx1, hrx⟩ := hx
 obtain ⟨hys, hy0, vy, hy1, hry⟩ := hy
 rw [show decide ((X : Int) < 0) = false from by simp] at hx0
 rw [show decide ((d : Int) < 0) = false from by simp] at hy0
 simp only [Int.natAbs_natCast] at hrx hry
 have hce := hxs.1
 have hcf := hys.1
 have HRx := Lib.hid hrx
 have HRy := Lib.hid hry
 have HZ := Lib.hid hz
 have HR := Lib.hid hr
 have HA := Lib.hid ha
 clear hrx hry hxs hys hz hr ha
 go_enter Tryz.func45, Tryz.ntmps45
 go_wp2_with fail
 go_quiet (fail)
 go_wp2_with fail
 refine wp_region_pl (fun w' : World => w'.cell? ⟨e, q + 1, none⟩ = some vx ∧ w'.cell? ⟨f, r + 1, none⟩ = some vy) 13 (.take 0 (.take 1 (.take 2 (.take 3 (.take 4 (.take 5 (.take 6 (.take 7 (.run 8 (.take 9 (.take 10 (.take 11 (.take 12 .nil))))))))))))) (by kernel_rfl) (by kernel_rfl) ?_
 have hS : (fun w' : World => w'.cell? ⟨e, q + 1, none⟩ = some vx ∧ w'.cell? ⟨f, r + 1, none⟩ = some vy) (w.drewN nq).drew := ⟨by go_simp, by go_simp⟩
 repeat (refine tkL (v := ?_) rfl rfl rfl (fun w' hSw => ?_) hS ?_; rotate_left; (focus (go_simp; with_reducible rfl)); simp only [setL])
 refine wpPl_goL rfl rfl fun K' hK => ?_
 go_simp
 refine (quotient_any _ _ X d _ ((HRx.out.drewN nq).below ((Below.refl _ _).drew)) ((HRy.out.drewN nq).below ((Below.refl _ _).drew)) hl hd0 hd).mono ?_
 rintro g w1 ⟨v1, u1, rfl, hb1, hr1, hr2⟩
 have HB := Lib.hid (((((Below.refl w.heap.size w).drewN' nq).drew)).trans hb1)
 have HR1 := Lib.hid hr1
 have HR2 := Lib.hid hr2
 replace hS : (fun w' : World => w'.cell? ⟨e, q + 1, none⟩ = some vx ∧ w'.cell? ⟨f, r + 1, none⟩ = some vy) w1 := ⟨(HB.out.cell (p := ⟨e, q + 1, none⟩) hce).trans hx1, (HB.out.cell (p := ⟨f, r + 1, none⟩) hcf).trans hy1⟩
 refine hK _ _ hS ?_
 clear hK K' hb1 hr1 hr2
 try simp only [Act.put, setL]
 repeat (refine tkL (v := ?_) rfl rfl rfl (fun w' hSw => ?_) hS ?_; rotate_left; (focus (go_simp; with_reducible rfl)); simp only [setL])
 clear hS
 refine wpPl_nil ?_
 simp only [drL]
 go_wp2_with fail
 refine (made_any b o (X / d) false _ _ (HZ.out.below HB.out) HR1.out).mono ?_
 rintro g w2 ⟨rfl, hi2, hm2⟩
 have HF1 := Lib.hid hi2
 have HM0 := Lib.hid hm2
 have HM := Lib.hid ((Mod.of_below HB.out HZ.out.1).trans HZ.out.1 hm2)
 have HS2 := Lib.hid (HR.out.mod HM.out HA.out)
 have HR3 := Lib.hid (HR2.out.mod HM0.out (HZ.out.below HB.out).2.1)
 clear hi2 hm2
 go_wp2_with fail
 refine (made_any c p (X % d) false _ _ HS2.out HR3.out).mono ?_
 rintro g w3 ⟨rfl, hi3, hm3⟩
 have HF2 := Lib.hid hi3
 have HM2 := Lib.hid hm3
 clear hi3 hm3
 go_wp2
 go_ret2
 refine ⟨rfl, ?_, HF2.out, w2, HM.out, HM2.out⟩
 refine (HF1.out).mod HM2.out ?_ HS2.out.2.1
 have := HA.out; unfold Apart at this ⊢; omega
end
section
open Go.RowKit
theorem shl_cast (N k : Nat) : (N : Int) * 2 ^ k = ((N * 2 ^ k : Nat) : Int) := by rw [Int.natCast_mul, Int.natCast_pow]; rfl
def mnN (N c : Nat) : Nat := N * 2 ^ 1200 / c * 2 ^ 1 + (if N * 2 ^ 1200 % c = 0 then 0 else 1)
def MeanRel (N k : Nat) (bx : Array Value) (w0 wr : World) : Prop :=
 IntAt wr (w0.heap.size + 1 + 1) 0 (N / 2 ^ (32 * k) : Nat) ∧ BlkT wr w0.heap.size 40 bx ∧ BlkT wr (w0.heap.size + 1) 40 #[.bool false, .slice none 0 0, .int .i64 0] ∧ Below w0.heap.size w0 wr
theorem MeanRel.start (neg : Bool) (sl : Value) (e : Int) (n N : Nat) (w : World) (hN : N < 2 ^ (32 * n)) :
  MeanRel N n #[.bool neg, sl, .int .i64 e] w (((w.alloc (.cells #[.bool neg, sl, .int .i64 e] 40)).alloc (.cells #[.bool false, .slice none 0 0, .int .i64 0] 40)).alloc (.cells #[.bool false, .slice none 0 0] 66)) := by
 refine ⟨?_, ((BlkT.new w _ _).alloc _).alloc _, ?_, (((Below.refl _ _).alloc (Nat.le_refl _) _).alloc (by simp) _).alloc (by simp; omega) _⟩
 ·rw [Nat.div_eq_of_lt hN]
  have := IntK.zero (k := .u64) (s := 64) ((w.alloc (.cells #[.bool neg, sl, .int .i64 e] 40)).alloc (.cells #[.bool false, .slice none 0 0, .int .i64 0] 40)) 66 objT_int
  simpa using this
 ·have := (BlkT.new (w.alloc (.cells #[.bool neg, sl, .int .i64 e] 40)) #[.bool false, .slice none 0 0, .int .i64 0] 40).alloc (.cells #[.bool false, .slice none 0 0] 66)
  simpa using this
def MeanBox (bx : Array Value) (w0 wr : World) : Prop :=
 BlkT wr w0.heap.size 40 bx ∧ BlkT wr (w0.heap.size + 1) 40 #[.bool false, .slice none 0 0, .int .i64 0] ∧ Below w0.heap.size w0 wr
theorem MeanBox.below {bx : Array Value} {w0 w w' : World} (h : MeanBox bx w0 w) (hb : Below w.heap.size w w') : MeanBox bx w0 w' :=
 ⟨h.1.below hb, h.2.1.below hb, h.2.2.trans (hb.mono h.2.2.size)⟩
theorem MeanBox.mod {bx : Array Value} {w0 w w' : World} {b o : Nat} (h : MeanBox bx w0 w) (hm : Mod b o w w') (hb : w0.heap.size + 1 < b) : MeanBox bx w0 w' :=
 ⟨h.1.mod hm (by omega), h.2.1.mod hm (by omega), hm.below h.2.2 (by omega) h.2.2.size⟩
theorem ln64_of_bl {N k : Nat} (h : bl N ≤ k) : ln 64 N ≤ k := ln_of_lt (by decide) (Nat.lt_of_lt_of_le (lt_bl N) (Nat.pow_le_pow_right (by decide) (by omega)))
theorem mul_pow_lt (N k : Nat) : N * 2 ^ k < 2 ^ (bl N + k) := by
 rw [Nat.pow_add]
 exact Nat.mul_lt_mul_of_pos_right (lt_bl N) (Nat.two_pow_pos _)
theorem bl_le_of_pow {N m k : Nat} (h : N < 2 ^ m) (hm : m ≤ k) : bl N ≤ k := bl_le_of_lt (Nat.lt_of_lt_of_le h (Nat.pow_le_pow_right (by decide) hm))
theorem bl_shl_le (N k : Nat) : bl (N * 2 ^ k) ≤ bl N + k := by
 refine bl_le_of_lt ?_
 rw [Nat.pow_add]
 exact Nat.mul_lt_mul_of_pos_right (lt_bl N) (Nat.two_pow_pos _)
theorem mnN_bl {N c : Nat} : bl (mnN N c) ≤ bl N + 1202 := by
 refine bl_le_of_lt ?_
 have h1 : N * 2 ^ 1200 / c ≤ N * 2 ^ 1200 := Nat.div_le_self _ _
 have h2 : N * 2 ^ 1200 < 2 ^ (bl N + 1200) := mul_pow_lt N 1200
 have h3 : 2 ^ (bl N + 1202) = 2 ^ (bl N + 1200) * 4 := by rw [show bl N + 1202 = (bl N + 1200) + 2 from rfl, Nat.pow_add _ _ 2]
 unfold mnN
 rw [h3]
 generalize N * 2 ^ 1200 / c = q at *
 generalize 2 ^ (bl N + 1200) = P at *
 generalize N * 2 ^ 1200 = A at *
 split <;> omega
structure MPut (bx : Array Value) (w0 wr : World) (N M k : Nat) (v : Value) (mb B : Nat) : Prop where
 box : MeanBox bx w0 wr
 m : IntAt wr mb 0 (M : Nat)
 own : wr.ownsRow B 76 1 v k (digs N k)
 hB : B ≤ wr.heap.size
 hm : w0.heap.size + 1 < mb ∧ mb < B
theorem MPut.later {bx : Array Value} {w0 wr w2 : World} {N M k : Nat} {v : Value} {mb B : Nat} (h : MPut bx w0 wr N M k v mb B) (hb : Below wr.heap.size wr w2) : MPut bx w0 w2 N M k v mb B :=
 ⟨h.box.below hb, h.m.below hb, h.own.kept (grown_of_below hb) (by cases v.ownBlock <;> simp), Nat.le_trans h.hB hb.size, h.hm⟩
theorem MPut.push {bx : Array Value} {w0 wr w2 : World} {N M k : Nat} {v v' : Value} {mb B : Nat} (h : MPut bx w0 wr N M k v mb B) (hg : wr.grownBy w2 v.ownBlock) (ho : w2.ownsRow B 76 1 v' (k + 1) (digs N (k + 1))) :
  MPut bx w0 w2 N M (k + 1) v' mb B := by
 have hm := h.hm
 have hne : ∀ {b : Nat}, b < B → some b ≠ v.ownBlock := fun hb e => by have := (h.own.lt _ e.symm).1; omega
 obtain ⟨h1, h2, h3⟩ := h.box
 refine ⟨⟨h1.of_block (hg.block _ h1.lt (hne (by omega))), h2.of_block (hg.block _ h2.lt (hne (by omega))), h3.grown hg h3.size (fun k hk => by have := (h.own.lt k hk).1; omega)⟩,
  h.m.grown hg (owns_elem h.own) (by decide) (hne hm.2), ho, Nat.le_trans h.hB hg.size, hm⟩
theorem MPut.rsh {bx : Array Value} {w0 wr w2 : World} {N M M' k : Nat} {v : Value} {mb B : Nat} (h : MPut bx w0 wr N M k v mb B) (hi : IntAt w2 mb 0 (M' : Nat)) (hm2 : Mod mb 0 wr w2) : MPut bx w0 w2 N M' k v mb B :=
 ⟨h.box.mod hm2 h.hm.1, hi, h.own.kept (grown_of_mod hm2) (owns_ne h.own h.hm.2), Nat.le_trans h.hB hm2.size, h.hm⟩
set_option maxRecDepth 100000 in
set_option maxHeartbeats 1600000 in
theorem mean_any (neg : Bool) (e : Int) (sl : Value) (n N c : Nat) (w : World) (h : Raw .u32 32 w sl n N) (hn : n ≤ 1048576) (hc0 : 0 < c) (hc1 : c < 4294967296) (he1 : -1000000 ≤ e) (he2 : e ≤ 1000000)
  (hT : Tab64 w) (hTs : 1 < w.heap.size) :
  Calls Tryz.prog 16 #[.agg #[.bool neg, sl, .int .i64 e], .int .i64 c] w (ResOf 0 (sgZ neg (mnN N c)) (e - 1201) w) := by
 have HR := Lib.hid h
 have HBT := Lib.hid (And.intro hT hTs)
 obtain ⟨ao, cap, rfl, hcap, hN, -, hc⟩ := h
 have HN := Lib.hid hN
 have HC := Lib.hid hc
 have HR0 := Lib.hid (MeanRel.start neg (.slice ao n cap) e n N w hN)
 clear hN hc hT hTs
 generalize hPost : ResOf 0 (sgZ neg (mnN N c)) (e - 1201) w = Post
 have HPost := Lib.hid hPost
 clear hPost
 go_enter Tryz.func16, Tryz.ntmps16
 go_wp2
 go_loopw [7] (fun i wr => ∃ (k : Nat) (j : Int), k ≤ n ∧ i = .int .i64 j ∧ j + 1 = k ∧ Hid (MeanRel N k #[.bool neg, .slice ao n cap, .int .i64 e] w wr))
  (fun i _ => (intOf i + 1).toNat)
 case atStart => exact ⟨n, _, Nat.le_refl _, rfl, by omega, HR0⟩
 case round =>
  obtain ⟨k, j, hk, rfl, hj, HT⟩ := hrel
  obtain ⟨q0, q1, q2, q3, q4, q5⟩ := HT.out.2.1.cells3
  by_cases h0 : k = 0
  ·subst h0
   obtain rfl : j = -1 := by omega
   have HM0 : Hid (IntAt wr (w.heap.size + 1 + 1) 0 (N : Int)) := Lib.hid (by have := HT.out.1; rw [Nat.mul_zero, Nat.pow_zero, Nat.div_one] at this; exact this)
   have HX0 : Hid (MeanBox #[.bool neg, .slice ao n cap, .int .i64 e] w wr) := Lib.hid HT.out.2
   clear HT
   have hbN : bl N ≤ 33554432 := bl_le_of_pow HN.out (by omega)
   have HLN : Hid (ln 64 N ≤ 68719476736) := Lib.hid (Nat.le_trans (ln64_of_bl hbN) (by decide))
   have HLA : Hid (ln 64 (N * 2 ^ 1200) ≤ 68719476736) := Lib.hid (Nat.le_trans (ln64_of_bl (Nat.le_trans (bl_shl_le N 1200) (Nat.add_le_add_right hbN 1200))) (by decide))
   have HQB : Hid (bl (mnN N c) ≤ 33555634) := Lib.hid (Nat.le_trans mnN_bl (Nat.add_le_add_right hbN 1202))
   have HQ0 : Hid (mnN N c = N * 2 ^ 1200 / c * 2 ^ 1 + (if N * 2 ^ 1200 % c = 0 then 0 else 1)) := Lib.hid rfl
   clear hbN
   obtain ⟨A, hA⟩ : ∃ A, A = N * 2 ^ 1200 := ⟨_, rfl⟩
   rw [← hA] at HLA HQ0
   have HAE := Lib.hid hA
   clear hA q0 q1 q2 q3 q4 q5
   go_wp2_with fail
   refine (Lsh_any _ 0 _ 0 1200 _ _ HM0.out.1 HM0.out HLN.out (by omega)).mono ?_
   rintro e2 w2 ⟨rfl, hi2, hm2⟩
   rw [shl_cast, ← HAE.out] at hi2
   have HA2 := Lib.hid hi2
   have HX2 := Lib.hid (HX0.out.mod hm2 (by omega))
   clear hi2 hm2 HX0 HM0 HAE
   have HLQ : Hid (ln 64 (A / c) ≤ 68719476736) := Lib.hid (Nat.le_trans (ln_mono (by decide) (Nat.div_le_self _ _)) HLA.out)
   have hzl : w.heap.size + 1 < w2.heap.size := HX2.out.2.1.lt
   have hal : w.heap.size + 1 + 1 < w2.heap.size := HA2.out.1.1
   go_wp2_with fail
   have HX3 := Lib.hid (HX2.out.below (Below.alloc_self w2 (.cells #[.bool false, .slice none 0 0] 66)))
   have HA3 := Lib.hid (HA2.out.below (Below.alloc_self w2 (.cells #[.bool false, .slice none 0 0] 66)))
   have HZ3 := Lib.hid (IntK.zero (k := .u64) (s := 64) w2 66 objT_int)
   generalize w2.alloc (.cells #[.bool false, .slice none 0 0] 66) = W3 at HX3 HA3 HZ3 ⊢
   generalize w2.heap.size = zb at HZ3 hzl hal ⊢
   clear HX2 HA2
   refine (NewInt_any c _ (by omega) (by omega)).mono ?_
   rintro e4 w4 ⟨yb, rfl, hy0, hyi, hyb⟩
   have HX4 := Lib.hid (HX3.out.below hyb)
   have HA4 := Lib.hid (HA3.out.below hyb)
   have HZ4 := Lib.hid (HZ3.out.below hyb)
   have HY4 := Lib.hid hyi
   clear hy0 hyi hyb HX3 HA3 HZ3
   have hzr : zb < w4.heap.size := HZ4.out.1.1
   go_wp2_with fail
   have HX5 := Lib.hid (HX4.out.below (Below.alloc_self w4 (.cells #[.bool false, .slice none 0 0] 66)))
   have HA5 := Lib.hid (HA4.out.below (Below.alloc_self w4 (.cells #[.bool false, .slice none 0 0] 66)))
   have HZ5 := Lib.hid (HZ4.out.below (Below.alloc_self w4 (.cells #[.bool false, .slice none 0 0] 66)))
   have HY5 := Lib.hid (HY4.out.below (Below.alloc_self w4 (.cells #[.bool false, .slice none 0 0] 66)))
   have HR5 := Lib.hid (IntK.zero (k := .u64) (s := 64) w4 66 objT_int)
   generalize w4.alloc (.cells #[.bool false, .slice none 0 0] 66) = W5 at HX5 HA5 HZ5 HY5 HR5 ⊢
   generalize w4.heap.size = rb at HR5 hzr ⊢
   clear HX4 HA4 HZ4 HY4
   refine (QuoRem_any zb 0 rb 0 _ 0 yb 0 A c _ HZ5.out.1 HR5.out.1 (.inl (by omega)) HA5.out HY5.out HLA.out hc0 hc1).mono ?_
   rintro e6 w6 ⟨rfl, hq6, hr6, u6, hm6, hm6'⟩
   have HX6 := Lib.hid ((HX5.out.mod hm6 hzl).mod hm6' (by omega))
   have HQ6 := Lib.hid hq6
   have HR6 := Lib.hid hr6
   clear hq6 hr6 hm6 hm6' HX5 HA5 HZ5 HY5 HR5 u6
   go_wp2_with fail
   refine (Lsh_any zb 0 zb 0 1 _ _ HQ6.out.1 HQ6.out HLQ.out (by omega)).mono ?_
   rintro e7 w7 ⟨rfl, hi7, hm7⟩
   rw [shl_cast] at hi7
   have HR7 := Lib.hid (HR6.out.mod hm7 (.inl (by omega)) HQ6.out.1.2.1)
   have HX7 := Lib.hid (HX6.out.mod hm7 hzl)
   have HQ7 := Lib.hid hi7
   clear hi7 hm7 HX6 HQ6 HR6
   go_wp2_with fail
   refine (Sign_any rb 0 _ _ HR7.out).mono ?_
   rintro e8 w8 ⟨rfl, rfl⟩
   obtain ⟨sg, HS⟩ : ∃ sg, Hid (((A % c : Nat) : Int).sign = sg) := ⟨_, Lib.hid rfl⟩
   rw [HS.out]
   go_upto_if 50 with fail
   go_cut [] from 49 to 54 (fun wx => Hid (IntAt wx zb 0 (mnN N c : Nat)) ∧ Hid (MeanBox #[.bool neg, .slice ao n cap, .int .i64 e] w wx))
   case first =>
    by_cases hr0 : A % c = 0
    ·obtain rfl : sg = 0 := by rw [← HS.out, hr0]; rfl
     have HF := Lib.hid (show IntAt w7 zb 0 (mnN N c : Nat) from by rw [HQ0.out, if_pos hr0, Nat.add_zero]; exact HQ7.out)
     clear hr0
     go_wp2_with fail
     go_meet
     exact ⟨HF, HX7⟩
    ·have hsg : (sg != 0) = true := by rw [← HS.out]; exact sign_ne (by omega)
     have HF0 := Lib.hid (show ((A / c * 2 ^ 1 : Nat) : Int) + 1 = (mnN N c : Nat) from by rw [HQ0.out, if_neg hr0, Int.natCast_add]; rfl)
     clear hr0
     go_wp2_with fail
     refine (NewInt_any 1 _ (by omega) (by omega)).mono ?_
     rintro e9 w9 ⟨ob, rfl, ho0, hoi, hob⟩
     have HX9 := Lib.hid (HX7.out.below hob)
     have HQ9 := Lib.hid (HQ7.out.below hob)
     have HO9 := Lib.hid hoi
     clear ho0 hoi hob
     go_wp2_with fail
     refine (Add_any zb 0 zb 0 ob 0 _ _ _ HQ9.out.1 HQ9.out HO9.out ?_ ?_).mono ?_
     ·rw [Int.natAbs_natCast]
      exact ln64_of_bl (Nat.le_trans (bl_mono (by rw [HQ0.out]; exact Nat.le_add_right _ _)) (Nat.le_trans HQB.out (by decide)))
     ·exact ln64_of_bl (by decide)
     rintro ea wa ⟨rfl, hia, hma⟩
     rw [HF0.out] at hia
     have HFA := Lib.hid hia
     have HXA := Lib.hid (HX9.out.mod hma hzl)
     clear hia hma
     go_wp2_with fail
     go_meet
     exact ⟨HFA, HXA⟩
   case rest =>
   obtain ⟨HQ, HX⟩ := hcut
   have HNL : Hid (ln 32 (mnN N c) ≤ 33555634) := Lib.hid (Nat.le_trans (ln_le_bl 32 _ (by decide)) HQB.out)
   generalize hQQ : mnN N c = Q at *
   have HQE := Lib.hid hQQ
   have hzw : zb < wc.heap.size := HQ.out.1.1
   clear hQQ HQ7 HX7 HR7 HS HLQ HLA HLN HQ0 hal hzr
   have HP0 : Hid (MPut #[.bool neg, .slice ao n cap, .int .i64 e] w wc Q (Q / 2 ^ (32 * 0)) 0 (.slice none 0 0) zb wc.heap.size) :=
    Lib.hid ⟨HX.out, by rw [Nat.mul_zero, Nat.pow_zero, Nat.div_one]; exact HQ.out, World.ownsRow_nil _ _ _ _, Nat.le_refl _, hzl, hzw⟩
   generalize wc.heap.size = B at HP0 hzw
   clear HX HQ
   obtain ⟨i0, hi, hz0, hz1, hz2⟩ := info_parts Tryz.info76
   go_wp2_with fail
   go_loopw [10] (fun v wr => ∃ k : Nat, k ≤ ln 32 Q ∧ Hid (MPut #[.bool neg, .slice ao n cap, .int .i64 e] w wr Q (Q / 2 ^ (32 * k)) k v zb B))
    (fun v _ => ln 32 Q - (match v with | .slice _ n _ => n | _ => 0))
   case atStart => exact ⟨0, Nat.zero_le _, HP0⟩
   case round =>
    clear HP0
    obtain ⟨k, hk, HR⟩ := hrel
    obtain ⟨ao', cap', rfl⟩ := owns_shape HR.out.own
    by_cases hM : Q / 2 ^ (32 * k) = 0
    ·have HK : Hid (k = ln 32 Q) := Lib.hid (eq_ln_of_div hk hM)
     have HS0 : Hid (((Q / 2 ^ (32 * k) : Nat) : Int).sign = 0) := Lib.hid (by rw [hM]; rfl)
     obtain ⟨q0, q1, q2, q3, q4, q5⟩ := HR.out.box.1.cells3
     have hw1 : IntKind.i64.wrap (e - 1200) = e - 1200 := IntWalk.i64_in _ (by omega)
     have hw2 : IntKind.i64.wrap (e - 1200 - 1) = e - 1201 := by rw [IntWalk.i64_in _ (by omega)]; omega
     have HRW : Hid (Raw .u32 32 wr (.slice ao' k cap') k Q) := Lib.hid (by
      have h1 := HK.out
      exact Raw.of_owns HR.out.own rfl (fun i hi => digs_get hi) (by rw [h1]; exact lt_ln (by decide)) (by rw [h1]; have := HNL.out; omega))
     have hkb : k ≤ 1073741824 := by have := HNL.out; omega
     clear hM hk
     go_wp2_with fail
     refine (Sign_any zb 0 _ _ HR.out.m).mono ?_
     rintro e5 w5 ⟨rfl, rfl⟩
     rw [HS0.out]
     go_wp2_with fail
     refine (dMake_any neg _ k Q (e - 1201) _ HRW.out hkb (HBT.out.1.below HBT.out.2 HR.out.box.2.2) (Nat.lt_of_lt_of_le HBT.out.2 HR.out.box.2.2.size)).mono ?_
     rintro e9 w9 ⟨n9, a9, l9, c9, x9, k9, rfl, hr9, hb9⟩
     have HX9 := Lib.hid (HR.out.box.below hb9)
     have HN9 := Lib.hid (res_store1 (bad := 0) HX9.out.2.1 HX9.out.2.2 (by omega) hr9)
     rw [HPost.out] at HN9
     clear hr9 hb9
     obtain ⟨r0, r1, r2, r3, r4, r5⟩ := HX9.out.2.1.cells3
     go_wp2
     refine bodyPost_ret (v := .tuple #[.agg #[.bool n9, .slice a9 l9 c9, .int .i64 x9], .int .i64 k9]) (by simp [results, Tryz.results16, go_sem, r0, r1, r2]) rfl HN9.out
    ·have hlt := lt_ln_of_div hM
     obtain ⟨sg2, HS2, hsg2⟩ : ∃ sg, Hid (((Q / 2 ^ (32 * k) : Nat) : Int).sign = sg) ∧ (sg != 0) = true := ⟨_, Lib.hid rfl, sign_ne (by omega)⟩
     have HLM : Hid (ln 64 ((Q / 2 ^ (32 * k) : Nat) : Int).natAbs ≤ 68719476736) := Lib.hid (by rw [Int.natAbs_natCast]; exact ln64_of_bl (Nat.le_trans (bl_mono (Nat.div_le_self _ _)) (Nat.le_trans HQB.out (by decide))))
     have hkl := HNL.out
     clear hM
     go_wp2_with fail
     refine (Sign_any zb 0 _ _ HR.out.m).mono ?_
     rintro e5 w5 ⟨rfl, rfl⟩
     rw [HS2.out]
     go_wp2_with fail
     have HR1 := Lib.hid (HR.out.later (Below.alloc_self wr (.cells #[.bool false, .slice none 0 0] 66)))
     have HT1 := Lib.hid (IntK.zero (k := .u64) (s := 64) wr 66 objT_int)
     have htb : B ≤ wr.heap.size := HR.out.hB
     have HBW1 := Lib.hid (Below.alloc_self wr (.cells #[.bool false, .slice none 0 0] 66))
     have HSL : Hid (wr.heap.size < (wr.alloc (.cells #[.bool false, .slice none 0 0] 66)).heap.size) := Lib.hid (by simp)
     generalize wr.alloc (.cells #[.bool false, .slice none 0 0] 66) = W1 at HR1 HT1 HBW1 HSL ⊢
     generalize htbe : wr.heap.size = tb at HT1 htb HBW1 HSL ⊢
     have HTB := Lib.hid htbe
     clear htbe
     refine (NewInt_any 4294967295 _ (by omega) (by omega)).mono ?_
     rintro e6 w6 ⟨kb, rfl, hk0, hki, hkb⟩
     have HR2 := Lib.hid (HR1.out.later hkb)
     have HT2 := Lib.hid (HT1.out.below hkb)
     have HK2 := Lib.hid hki
     have HSZ := Lib.hid hkb.size
     have HBW2 := Lib.hid (HBW1.out.trans (hkb.mono (Nat.le_of_lt HSL.out)))
     clear hk0 hki hkb HR1 HT1 HBW1
     go_wp2_with fail
     refine (And_any tb 0 zb 0 kb 0 _ _ _ HT2.out.1 HR2.out.m HK2.out HLM.out ?_).mono ?_
     ·exact ln_of_bl (Nat.le_trans (bl_le_of_lt (k := 32) (by decide)) (by decide))
     rintro e7 w7 ⟨rfl, hit, hmt⟩
     rw [and_mask] at hit
     have HIT : Hid (IntAt w7 tb 0 (dg 32 Q k : Nat)) := Lib.hid hit
     have HR3 : Hid (MPut #[.bool neg, .slice ao n cap, .int .i64 e] w w7 Q (Q / 2 ^ (32 * k)) k (.slice ao' k cap') zb B) := Lib.hid (HR.out.later (by rw [HTB.out]; exact hmt.below HBW2.out (Nat.le_refl _) (Nat.le_trans (Nat.le_of_lt HSL.out) HSZ.out)))
     clear hit hmt HR2 HT2 HK2
     go_wp2_with fail
     refine (Uint64_any tb 0 _ _ HIT.out).mono ?_
     rintro e8 w8 ⟨rfl, rfl⟩
     rw [low_of_lt (Nat.lt_of_lt_of_le (dg_lt 32 Q k) (by decide))]
     have hdd : dg 32 Q k < 4294967296 := dg_lt 32 Q k
     generalize hdg : dg 32 Q k = dd at *
     have HDD := Lib.hid hdg
     have hwr : IntKind.u32.wrap (dd : Int) = dd := by rw [IntKind.wrap_u32]; omega
     clear hdg HIT
     have HR4 := Lib.hid (HR3.out.later (Below.alloc_self w7 (.cells #[.int .u32 dd] 76)))
     have hnew := Lib.hid (cell_one_new w7 (.int .u32 dd) 76)
     go_wp2_with (at_builtin; refine wpList_append_own _ rfl _ _ 38 rfl B 76 i0 (.int .u32 0) 1 4 Tryz.underlying38 hi hz0 hz1 hz2 rfl (by decide) _ _ _ rfl HR4.out.own ⟨w7.heap.size, 0, none⟩ 1 1 [.int .u32 dd] rfl rfl hnew.out ?c2 ?c3 ?c4 ?c5 ?_)
     case c2 => intro u hu; simp only [List.mem_singleton] at hu; subst hu; rfl
     case c3 => unfold maxLen; omega
     case c4 => omega
     case c5 => exact HR4.out.hB
     intro v' U4 hown hgrow _
     have hown2 : U4.ownsRow B 76 1 v' (k + 1) (digs Q (k + 1)) := by rw [digs_succ, HDD.out]; exact hown
     obtain ⟨ao3, cap3, hv'⟩ := owns_shape hown2
     rw [hv'] at hown2 ⊢
     have HP := Lib.hid (HR4.out.push hgrow hown2)
     clear hown hown2 hgrow hv' HR4 HR3 hwr
     go_wp2_with fail
     refine (Rsh_any zb 0 zb 0 32 _ _ HP.out.m.1 HP.out.m HLM.out (by omega)).mono ?_
     rintro ea wa ⟨rfl, hi6, hm6⟩
     rw [div32] at hi6
     have HQ6 := Lib.hid (HP.out.rsh hi6 hm6)
     clear hi6 hm6
     go_wp2
     go_roundw
     case rel => exact ⟨k + 1, hlt, HQ6⟩
     case measure => exact Nat.sub_lt_sub_left hlt (Nat.lt_succ_self k)
  ·obtain ⟨i, rfl⟩ : ∃ i, k = i + 1 := ⟨k - 1, by omega⟩
   obtain rfl : j = (i : Int) := by omega
   obtain ⟨b1, off, rfl, hb1, -, hcc⟩ := HC.out (by omega)
   have HCC := Lib.hid (hcc i (by omega))
   have HB1 := Lib.hid hb1
   have hd := dg_lt 32 N i
   generalize hdd : dg 32 N i = d at *
   have HD := Lib.hid hdd
   have hlt1 : i < n := by omega
   have hlt2 : (i : Int) < (n : Int) := by omega
   have hwr : IntKind.i64.wrap (d : Int) = d := IntWalk.i64_in _ (by omega)
   clear h0 hj hcc hb1 hdd
   go_wp2_with fail
   refine wp_region_pl (fun w' : World => w'.cell? ⟨w.heap.size, 1, none⟩ = some (.slice (some ⟨b1, off, none⟩) n cap) ∧ w'.cell? ⟨b1, off + i, none⟩ = some (.int .u32 (d : Nat))) 11 (.take 0 (.take 1 (.take 2 (.take 4 (.take 5 (.take 6 (.take 7 (.take 8 (.take 9 (.run 3 (.run 10 .nil))))))))))) (by kernel_rfl) (by kernel_rfl) ?_
   have HT1 : Hid (MeanRel N (i + 1) #[.bool neg, .slice (some ⟨b1, off, none⟩) n cap, .int .i64 e] w wr.drew) :=
    Lib.hid ⟨HT.out.1.below (drew_below wr), HT.out.2.1.below (drew_below wr), HT.out.2.2.1.below (drew_below wr), HT.out.2.2.2.trans ((drew_below wr).mono HT.out.2.2.2.size)⟩
   generalize wr.drew = W at HT1 ⊢
   have hS : (fun w' : World => w'.cell? ⟨w.heap.size, 1, none⟩ = some (.slice (some ⟨b1, off, none⟩) n cap) ∧ w'.cell? ⟨b1, off + i, none⟩ = some (.int .u32 (d : Nat))) W := ⟨HT1.out.2.1.cell 1, (HT1.out.2.2.2.cell (p := ⟨b1, off + i, none⟩) HB1.out).trans HCC.out⟩
   repeat (refine tkL (v := ?_) rfl rfl rfl (fun w' hSw => ?_) hS ?_; rotate_left; (focus (go_simp; with_reducible rfl)); simp only [setL])
   refine wpPl_goL rfl rfl fun K' hK => ?_
   go_simp
   refine (Lsh_any _ 0 _ 0 32 _ _ HT1.out.1.1 HT1.out.1 ?_ (by omega)).mono ?_
   ·exact Nat.le_trans (ln64_div HN.out _) (by omega)
   rintro e2 w2 ⟨rfl, hi2, hm2⟩
   have HX2 : Hid (MeanBox #[.bool neg, .slice (some ⟨b1, off, none⟩) n cap, .int .i64 e] w w2) := Lib.hid (MeanBox.mod ⟨HT1.out.2.1, HT1.out.2.2.1, HT1.out.2.2.2⟩ hm2 (by omega))
   have HI2 := Lib.hid hi2
   clear hi2 hm2
   replace hS : (fun w' : World => w'.cell? ⟨w.heap.size, 1, none⟩ = some (.slice (some ⟨b1, off, none⟩) n cap) ∧ w'.cell? ⟨b1, off + i, none⟩ = some (.int .u32 (d : Nat))) w2 := ⟨HX2.out.1.cell 1, (HX2.out.2.2.cell (p := ⟨b1, off + i, none⟩) HB1.out).trans HCC.out⟩
   refine hK _ _ hS ?_
   clear hK K'
   try simp only [Act.put, setL]
   repeat (refine tkL (v := ?_) rfl rfl rfl (fun w' hSw => ?_) hS ?_; rotate_left; (focus (go_simp; with_reducible rfl)); simp only [setL])
   refine wpPl_goL rfl rfl fun K' hK => ?_
   go_simp
   refine (NewInt_any d _ (by omega) (by omega)).mono ?_
   rintro e3 w3 ⟨b3, rfl, hb3, hi3, hB3⟩
   have HX3 := Lib.hid (HX2.out.below hB3)
   have HI3 := Lib.hid hi3
   have HI23 := Lib.hid (HI2.out.below hB3)
   clear hb3 hi3 hB3
   replace hS : (fun w' : World => w'.cell? ⟨w.heap.size, 1, none⟩ = some (.slice (some ⟨b1, off, none⟩) n cap) ∧ w'.cell? ⟨b1, off + i, none⟩ = some (.int .u32 (d : Nat))) w3 := ⟨HX3.out.1.cell 1, (HX3.out.2.2.cell (p := ⟨b1, off + i, none⟩) HB1.out).trans HCC.out⟩
   refine hK _ _ hS ?_
   clear hK K'
   try simp only [Act.put, setL]
   repeat (refine tkL (v := ?_) rfl rfl rfl (fun w' hSw => ?_) hS ?_; rotate_left; (focus (go_simp; with_reducible rfl)); simp only [setL])
   clear hS
   refine wpPl_nil ?_
   simp only [drL]
   clear q0 q1 q2 q3 q4 q5
   go_wp2_with fail
   refine (Or_any _ 0 _ 0 _ 0 _ _ _ HI23.out.1 HI23.out HI3.out ?_ ?_).mono ?_
   ·exact Nat.le_trans (ln64_shl HN.out _) (by omega)
   ·exact Nat.le_trans (ln_of_lt (s := 64) (n := 1) (by decide) (by rw [Int.natAbs_natCast]; omega)) (by omega)
   rintro e4 w4 ⟨rfl, hi4, hm4⟩
   have HT4 : Hid (MeanRel N i #[.bool neg, .slice (some ⟨b1, off, none⟩) n cap, .int .i64 e] w w4) := by
    refine Lib.hid ⟨?_, HX3.out.mod hm4 (by omega)⟩
    rw [← HD.out, take_or] at hi4; exact hi4
   clear hi4 hm4 hd
   go_wp2_with fail
   go_roundw
   case rel => exact ⟨i, _, by omega, rfl, by omega, HT4⟩
   case measure => simp [intOf]
end
section
open Go.RowKit
def mnB (z e : Int) : Nat := if z = 0 ∨ lngB z e = false then rndB (hvZ z) (nrE z e) 0 else rndB 0 0 0
theorem mnB_res {z e : Int} {w : World} {d : Value} {k : Int} (h : ResIs 0 z e w d k) : ∃ Z E, DyAt w d Z E ∧ GoodD Z E ∧ rndB Z E 0 = mnB z e := by
 rcases h with ⟨-, h⟩ | ⟨h, -⟩
 ·rcases h with ⟨h1, h2, -⟩ | ⟨h1, h2, rfl, -⟩
  ·exact ⟨_, _, h2, good_of_lng h1, (if_pos h1).symm⟩
  ·exact ⟨0, 0, DyAt.zero w, good_zero, (if_neg (fun h => h.elim h1 (fun h => by rw [h2] at h; cases h))).symm⟩
 ·exact absurd rfl h
def mnQ (Z E : Int) (c : Nat) : Nat := mnB (sgZ (decide (Z < 0)) (mnN Z.natAbs c)) (E - 1201)
def meanB (l : List Nat) : Nat × Int :=
 if l.length = 0 then (0, 51) else if 4096 < l.length then (0, 2) else if l.all finB = false then (0, 4) else if ngtB l then (kSign, 0) else
  (mnQ (hvZ (foldS (prs l)).1) (nrE (foldS (prs l)).1 (foldS (prs l)).2) l.length, 0)
set_option maxRecDepth 100000 in
set_option maxHeartbeats 1600000 in
theorem Mean_any (v : Value) (l : List Nat) (w : World) (hl : FSl w v l) (hT : Tab64 w) (hTs : 1 < w.heap.size) :
  Calls Tryz.prog 5 #[v] w (Gives (.tuple #[.float .f64 (meanB l).1, .int .i64 (meanB l).2]) w) := by
 have HL := Lib.hid hl
 have HT := Lib.hid (And.intro hT hTs)
 have HFI := Lib.hid fun W (h : FSl W v l) => Finite_any v l W h
 have HNG := Lib.hid fun W (h : FSl W v l) => noughts_any v l W h
 have HSM : Hid (l.all finB = true → ∀ W, FSl W v l → Tab64 W → 1 < W.heap.size → Calls Tryz.prog 15 #[v] W (DyNew (hvZ (foldS (prs l)).1) (nrE (foldS (prs l)).1 (foldS (prs l)).2) W)) :=
  Lib.hid fun h W h1 h2 h3 => Sum_any v l W h1 h h2 h3
 have HGD : Hid (l.length ≤ 4096 → l.all finB = true → GoodD (hvZ (foldS (prs l)).1) (nrE (foldS (prs l)).1 (foldS (prs l)).2)) := Lib.hid fun hlen h => by
  have h1 := prs_small (l := l) (by omega) h l.length (Nat.le_refl _)
  rw [show (prs l).take l.length = prs l from List.take_of_length_le (by unfold prs; simp)] at h1
  exact good_hv (by omega) (by omega) (by omega)
 have HE : Hid (meanB l = if l.length = 0 then (0, 51) else if 4096 < l.length then (0, 2) else if l.all finB = false then (0, 4) else if ngtB l then (kSign, 0) else
  (mnQ (hvZ (foldS (prs l)).1) (nrE (foldS (prs l)).1 (foldS (prs l)).2) l.length, 0)) := Lib.hid rfl
 obtain ⟨ao, cap, rfl, -⟩ := hl
 generalize (foldS (prs l)) = S at *
 generalize hR : meanB l = R at *
 generalize l.all finB = fi at *
 generalize ngtB l = ng at *
 generalize hvZ S.1 = Z at *
 generalize nrE S.1 S.2 = E at *
 clear hT hTs hR
 generalize hnn : l.length = n at *
 have HLN := Lib.hid hnn
 clear hnn
 by_cases h0 : n = 0
 ·obtain rfl : R = (0, 51) := by rw [HE.out, if_pos h0]
  subst h0
  go_enter Tryz.func5, Tryz.ntmps5
  go_wp2
  go_ret2
  exact ⟨rfl, Below.refl _ _⟩
 have hc0 : ((n : Int) == 0) = false := by simp; omega
 have hc00 : (n == 0) = false := by simp; omega
 by_cases h1 : 4096 < n
 ·obtain rfl : R = (0, 2) := by rw [HE.out, if_neg h0, if_pos h1]
  have hci : decide ((4096 : Int) < (n : Int)) = true := by simp; omega
  go_enter Tryz.func5, Tryz.ntmps5
  go_wp2
  go_ret2
  exact ⟨rfl, Below.refl _ _⟩
 have hci : decide ((4096 : Int) < (n : Int)) = false := by simp; omega
 rw [if_neg h0, if_neg h1] at HE
 have hn4 : n ≤ 4096 := by omega
 clear h1
 go_enter Tryz.func5, Tryz.ntmps5
 go_wp2_with fail
 refine (HFI.out _ HL.out).mono ?_
 rintro e1 w1 ⟨rfl, hb1⟩
 have HB1 := Lib.hid hb1
 clear hb1
 cases fi
 ·obtain rfl : R = (0, 4) := by rw [HE.out]; rfl
  go_wp2
  go_ret2
  exact ⟨rfl, HB1.out⟩
 go_wp2_with fail
 refine (HNG.out _ (HL.out.below HB1.out)).mono ?_
 rintro e2 w2 ⟨rfl, hb2⟩
 have HB2 := Lib.hid (HB1.out.trans (hb2.mono HB1.out.size))
 clear hb2
 cases ng
 ·obtain rfl : R = (mnQ Z E n, 0) := by rw [HE.out]; rfl
  have HG := Lib.hid (HGD.out hn4 (by simp))
  go_wp2_with fail
  refine (HSM.out (by simp) _ (HL.out.below HB2.out) (HT.out.1.below HT.out.2 HB2.out) (Nat.lt_of_lt_of_le HT.out.2 HB2.out.size)).mono ?_
  rintro e3 w3 hd
  obtain ⟨da, dc, rfl, hr, -, hb3⟩ := hd.at
  have HB3 := Lib.hid ((HB2.out.trans (hb3.mono HB2.out.size)).alloc (HB2.out.trans (hb3.mono HB2.out.size)).size (.cells #[.bool (decide (Z < 0)), .slice da (ln 32 Z.natAbs) dc, .int .i64 E] 40))
  have HR3 : Hid (Raw .u32 32 (w3.alloc (.cells #[.bool (decide (Z < 0)), .slice da (ln 32 Z.natAbs) dc, .int .i64 E] 40)) (.slice da (ln 32 Z.natAbs) dc) (ln 32 Z.natAbs) Z.natAbs) := Lib.hid (hr.below (Below.alloc_self w3 _))
  have hln : ln 32 Z.natAbs ≤ 1048576 := Nat.le_trans (ln_le_bl 32 _ (by decide)) (Nat.le_trans HG.out.2.1 (by decide))
  have hE1 : -1000000 ≤ E := by have := HG.out.2.2.1; omega
  have hE2 : E ≤ 1000000 := by have := HG.out.2.2.2; omega
  have HQ : Hid (mnB (sgZ (decide (Z < 0)) (mnN Z.natAbs n)) (E - 1201) = mnQ Z E n) := Lib.hid rfl
  clear hd hr hb3 HE HFI HNG HSM HGD HL HG
  generalize mnQ Z E n = R at *
  generalize decide (Z < 0) = na at *
  generalize ln 32 Z.natAbs = la at *
  generalize Z.natAbs = N at *
  go_wp2_with fail
  refine (mean_any na E _ la N n _ HR3.out hln (by omega) (by omega) hE1 hE2 (HT.out.1.below HT.out.2 HB3.out) (Nat.lt_of_lt_of_le HT.out.2 HB3.out.size)).mono ?_
  rintro e4 w4 ⟨n4, a4, l4, c4, x4, k4, rfl, hr4, hb4⟩
  obtain ⟨Z5, E5, hd5, hg5, hq5⟩ := mnB_res hr4
  rw [HQ.out] at hq5
  have HB4 := Lib.hid (HB3.out.trans (hb4.mono HB3.out.size))
  have HB5 := Lib.hid (HB4.out.alloc HB4.out.size (.cells #[.bool n4, .slice a4 l4 c4, .int .i64 x4] 40))
  have HD5 := Lib.hid (hd5.below (Below.alloc_self w4 (.cells #[.bool n4, .slice a4 l4 c4, .int .i64 x4] 40)))
  have HG5 := Lib.hid hg5
  have HQ5 := Lib.hid hq5
  clear hr4 hb4 hd5 hg5 hq5 HQ
  have HRD := Lib.hid fun v W (h : DyAt W v Z5 E5) ht hts => dRound_any v Z5 E5 0 W h HG5.out (by decide) (by decide) ht hts
  rw [HQ5.out] at HRD
  go_wp2_with fail
  refine (HRD.out _ _ HD5.out (HT.out.1.below HT.out.2 HB5.out) (Nat.lt_of_lt_of_le HT.out.2 HB5.out.size)).mono ?_
  rintro e5 w5 ⟨rfl, hb5⟩
  have HB6 := Lib.hid (HB5.out.trans (hb5.mono HB5.out.size))
  clear hb5
  go_wp2
  go_ret2
  exact ⟨rfl, HB6.out⟩
 ·obtain rfl : R = (kSign, 0) := by rw [HE.out]; rfl
  have HCP : Hid (cpB (sgnB 13830554455654793216) 0 = kSign) := Lib.hid (by decide)
  go_wp2_with fail
  refine (copysign_any 0 13830554455654793216 _ (by decide) (by decide)).mono ?_
  rintro e3 w3 ⟨rfl, hb3⟩
  rw [HCP.out]
  have HB3 := Lib.hid (HB2.out.trans (hb3.mono HB2.out.size))
  clear hb3
  go_wp2
  go_ret2
  exact ⟨rfl, HB3.out⟩
end
end Go.Proofs.YthkhignbmefmjaaGreatDoor
