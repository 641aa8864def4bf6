/- Plain: singles; what the references' number comes to; no program. -/
import Derived.Test.YtloohbkceppocaaGreatDoorZRi1
import Derived.Test.YtloohbkceppocaaGreatDoorGO
import Derived.Test.YtloohbkceppocaaGreatDoorGQ
import Derived.Test.YtloohbkceppocaaGreatDoorGM
namespace Go.Proofs.YtloohbkceppocaaGreatDoor
section
open Go.RowKit
def cpB (neg : Bool) (x : Nat) : Nat := (if neg then kSign else 0) + x % kSign
end
section
open Go.RowKit
set_option maxRecDepth 100000 in
set_option maxHeartbeats 800000 in
theorem rCmp_any (c p d q : Nat) (X Y : Nat) (w : World) (hx : IntK .u32 32 w c p (X : Int)) (hy : IntK .u32 32 w d q (Y : Int)) :
  Calls Tryz.prog 124 #[.pointer (some ⟨c, p, none⟩), .pointer (some ⟨d, q, none⟩)] w (Tells (.int .i64 (cmpZ X Y)) w) := by
 obtain ⟨hxs, hx0, vx, hx1, hrx⟩ := hx
 obtain ⟨hys, hy0, vy, hy1, hry⟩ := hy
 rw [Int.natAbs_natCast] at hrx hry
 rw [decide_eq_false (by omega : ¬ (X : Int) < 0)] at hx0
 rw [decide_eq_false (by omega : ¬ (Y : Int) < 0)] at hy0
 have HRx := Lib.hid hrx
 have HRy := Lib.hid hry
 clear hrx hry hxs hys
 go_enter Tryz.func124, Tryz.ntmps124
 go_wp2
 go_quiet (fail)
 go_wp2_with fail
 refine wp_region_pl (fun w' : World => w'.cell? ⟨c, p + 1, none⟩ = some vx ∧ w'.cell? ⟨d, q + 1, none⟩ = some vy) 8 (.take 0 (.take 1 (.take 2 (.take 3 (.take 4 (.take 5 (.take 6 (.take 7 .nil)))))))) (by kernel_rfl) (by kernel_rfl) ?_
 have hS : (fun w' : World => w'.cell? ⟨c, p + 1, none⟩ = some vx ∧ w'.cell? ⟨d, q + 1, none⟩ = some vy) (w.drewN nq).drew := ⟨by go_simp, by go_simp⟩
 repeat (refine wpPl_take (v := ?_) rfl (fun _ _ _ h => h) rfl (fun w' hSw => ?_) hS ?_; rotate_left; focus (go_simp; with_reducible rfl); try simp only [Act.put, setL])
 clear hS
 refine wpPl_nil ?_
 simp only [drL]
 have HB := Lib.hid ((drewN_below w nq).trans (drew_below (w.drewN nq)))
 go_wp2_with fail
 refine (rcompare_any _ _ X Y _ (HRx.out.below HB.out) (HRy.out.below HB.out)).mono ?_
 rintro e wd ⟨rfl, nd, rfl⟩
 go_wp2
 go_ret
 exact ⟨rfl, _, rfl⟩
theorem and_one32 {x : Nat} (h : x < 4294967296) : bits .and .u32 (x : Int) 1 = ((x % 2 : Nat) : Int) := by
 have h1 := bits_and_u32_nat x 1 h (by decide)
 rw [Nat.and_one_is_mod] at h1
 exact h1
theorem dg32_even (N : Nat) : dg 32 N 0 % 2 = N % 2 := by unfold dg; simp
set_option maxRecDepth 100000 in
set_option maxHeartbeats 800000 in
theorem rBit_any (c p : Nat) (X : Int) (w : World) (hx : IntK .u32 32 w c p X) (hl : ln 32 X.natAbs ≤ 68719476736) :
  Calls Tryz.prog 185 #[.pointer (some ⟨c, p, none⟩), .int .i64 0] w (Gives (.int .u64 (X % 2)) w) := by
 obtain ⟨hxs, hx0, vx, hx1, hrx⟩ := hx
 have HF : Hid ((decide (X < 0) = false → X % 2 = ((X.natAbs % 2 : Nat) : Int)) ∧ (decide (X < 0) = true → 1 ≤ X.natAbs ∧ X % 2 = 1 - (((X.natAbs - 1) % 2 : Nat) : Int))) :=
  Lib.hid ⟨fun h => by have := of_decide_eq_false h; omega, fun h => by have := of_decide_eq_true h; omega⟩
 obtain ⟨R, hR⟩ : ∃ R, X % 2 = R := ⟨_, rfl⟩
 rw [hR] at HF ⊢
 generalize decide (X < 0) = sx at *
 generalize X.natAbs = N at *
 have hcx := hxs.1
 clear hR hxs
 cases sx
 ·have HR := Lib.hid (HF.out.1 rfl)
  clear HF
  obtain ⟨ao, cap, rfl, -, hN, hn, hc⟩ := hrx
  by_cases h0 : ln 32 N = 0
  ·have hN0 : N = 0 := by
    rw [h0] at hN; simp at hN; exact hN
   rw [hN0] at HR
   rw [h0] at hx1
   clear hN hn hc h0 hN0
   rw [HR.out]
   go_enter Tryz.func185, Tryz.ntmps185
   go_wp2
   go_ret
   exact ⟨rfl, Below.refl _ _⟩
  ·obtain ⟨b, off, rfl, hb, -, hc⟩ := hc (by omega)
   have hc0 := hc 0 (by omega)
   rw [Nat.add_zero] at hc0
   have hd := dg32_lt N 0
   have he := dg32_even N
   rw [← he] at HR
   have hand := and_one32 hd
   have hn0 : decide ((0 : Int) < (ln 32 N : Nat)) = true := by simp; omega
   have hn1 : (0 : Int) < (ln 32 N : Nat) := by omega
   clear hN hc h0 he
   rw [HR.out]
   generalize dg 32 N 0 = x at *
   generalize ln 32 N = n at *
   have hw := wrap_u64_lt (x % 2) (by omega)
   go_enter Tryz.func185, Tryz.ntmps185
   go_wp2
   go_ret
   exact ⟨rfl, Below.refl _ _⟩
 ·obtain ⟨h1, hR⟩ := HF.out.2 rfl
  have HR := Lib.hid hR
  have HRx := Lib.hid hrx
  obtain ⟨avx, cvx, rfl, -⟩ := hrx
  clear HF hR
  go_enter Tryz.func185, Tryz.ntmps185
  go_wp2_with fail
  refine (rminus_any _ _ _ 1 N 1 _ (HRx.out.below (Below.alloc_self _ _)) (Raw.uno _) (by omega) h1).mono ?_
  rintro e w1 ⟨v1, rfl, hb1, hr1⟩
  have HB := Lib.hid ((Below.alloc_self w _).trans (hb1.mono (by simp)))
  have hx0' := (HB.out.cell (p := ⟨c, p, none⟩) hcx).trans hx0
  have HR1 := Lib.hid hr1
  clear hb1
  obtain ⟨ao, cap, rfl, -, hN, hn, hc⟩ := hr1
  by_cases h0 : ln 32 (N - 1) = 0
  ·have hN0 : N - 1 = 0 := by
    rw [h0] at hN; simp at hN; exact hN
   rw [hN0] at HR
   clear hN hn hc hN0
   rw [h0]
   clear h0
   go_wp2
   go_ret
   exact ⟨by rw [HR.out]; rfl, HB.out⟩
  ·obtain ⟨b, off, rfl, hb, -, hc⟩ := hc (by omega)
   have hc0 := hc 0 (by omega)
   rw [Nat.add_zero] at hc0
   have hd := dg32_lt (N - 1) 0
   have he := dg32_even (N - 1)
   rw [← he] at HR
   have hand := and_one32 hd
   have hn1 : (0 : Int) < (ln 32 (N - 1) : Nat) := by omega
   clear hN hc h0 he
   generalize dg 32 (N - 1) 0 = x at *
   generalize ln 32 (N - 1) = n at *
   have hw : IntKind.u32.wrap (1 - ((x % 2 : Nat) : Int)) = 1 - ((x % 2 : Nat) : Int) := by rw [IntKind.wrap_u32]; omega
   have hw2 : IntKind.u64.wrap (1 - ((x % 2 : Nat) : Int)) = 1 - ((x % 2 : Nat) : Int) := by rw [IntKind.wrap_u64]; omega
   generalize ((x % 2 : Nat) : Int) = y at *
   go_wp2
   go_ret
   exact ⟨by rw [HR.out]; rfl, HB.out⟩
end
section
open Go.RowKit
theorem and_sign_val {b : Nat} (h : b < 18446744073709551616) : bits .and .u64 (b : Int) (kSign : Int) = (((if sgnB b then kSign else 0) : Nat) : Int) := by
 have h0 := bits_and_u64_nat b kSign h (by decide)
 rw [h0]
 congr 1
 have h1 : b &&& kSign = (b.testBit 63).toNat * 2 ^ 63 := by
  apply Nat.eq_of_testBit_eq
  intro i
  rw [Nat.testBit_and, show kSign = 2 ^ 63 from rfl, Nat.testBit_two_pow]
  by_cases hi : 63 = i
  ·subst hi
   cases b.testBit 63 <;> decide
  ·cases b.testBit 63
   ·simp [hi]
   ·rw [Bool.toNat_true, Nat.one_mul, Nat.testBit_two_pow]; simp [hi]
 rw [h1, Nat.testBit_eq_decide_div_mod_eq]
 unfold sgnB
 by_cases h2 : kSign ≤ b
 ·have : b / 2 ^ 63 % 2 = 1 := by unfold kSign at h2; omega
  simp [this, h2]; rfl
 ·have : b / 2 ^ 63 % 2 = 0 := by unfold kSign at h2; omega
  simp [this, h2]
theorem or_sign_val {x : Nat} (hx : x < kSign) (s : Bool) : bits .or .u64 (x : Int) (((if s then kSign else 0) : Nat) : Int) = (((if s then kSign else 0) + x : Nat) : Int) := by
 cases s
 ·have h0 := bits_or_u64_nat x 0 (Nat.lt_trans hx (by decide)) (by decide)
  simp only [Bool.false_eq_true, if_false, Nat.zero_add]
  rw [h0, Nat.or_zero]
 ·simp only [if_true]
  exact join_sign hx
set_option maxRecDepth 100000 in
set_option maxHeartbeats 400000 in
theorem copysign_any (x s : Nat) (w : World) (hx : x < 18446744073709551616) (hs : s < 18446744073709551616) :
  Calls Tryz.prog 155 #[.float .f64 x, .float .f64 s] w (Gives (.float .f64 (cpB (sgnB s) x)) w) := by
 have hp : x % kSign < kSign := Nat.mod_lt _ (by decide)
 have h1 := andNot_sign hx
 have h2 := and_sign_val hs
 have h3 := or_sign_val hp (sgnB s)
 have h4 := fbits_eq x
 have h5 := fbits_eq s
 have h6 := ffrom_eq (cpB (sgnB s) x)
 have HR : Hid ((if sgnB s then kSign else 0) + x % kSign = cpB (sgnB s) x) := Lib.hid rfl
 rw [HR.out] at h3
 generalize cpB (sgnB s) x = R at *
 generalize (if sgnB s then kSign else 0) = k at *
 generalize x % kSign = m at *
 clear hx hs HR hp
 rw [show ((kSign : Nat) : Int) = 9223372036854775808 from rfl] at h1 h2
 go_enter Tryz.func155, Tryz.ntmps155
 go_wp2
 go_ret
 exact ⟨rfl, Below.refl _ _⟩
set_option maxRecDepth 100000 in
set_option maxHeartbeats 400000 in
theorem abs_any (x : Nat) (w : World) (hx : x < 18446744073709551616) :
  Calls Tryz.prog 96 #[.float .f64 x] w (Gives (.float .f64 (x % kSign)) w) := by
 have h1 := andNot_sign hx
 have h4 := fbits_eq x
 have h6 := ffrom_eq (x % kSign)
 generalize x % kSign = m at *
 clear hx
 rw [show ((kSign : Nat) : Int) = 9223372036854775808 from rfl] at h1
 go_enter Tryz.func96, Tryz.ntmps96
 go_wp2
 go_ret
 exact ⟨rfl, Below.refl _ _⟩
theorem inf_test {x : Nat} (hf : x % kSign ≤ kInf) : (F6.order (x % kSign) 9218868437227405311 == some Ordering.gt) = decide (x % kSign = kInf) := by
 have hk := kSign_big
 have hm : x % kSign % kSign = x % kSign := Nat.mod_mod _ _
 have hl : x % kSign < kSign := Nat.mod_lt _ (by decide)
 have hk2 : kSign < 18446744073709551616 := by decide
 rw [order_ky (x := x % kSign) (y := 9218868437227405311) (by omega) (by decide) (by rw [hm]; exact hf) (by decide)]
 unfold ky
 rw [if_pos hl, if_pos (by decide)]
 have hi : kInf = 9218868437227405312 := rfl
 by_cases h : x % kSign = kInf
 ·rw [decide_eq_true h, h]; decide
 ·rw [decide_eq_false h]
  rcases Nat.lt_or_ge (x % kSign) 9218868437227405311 with h1 | h1
  ·rw [Int.compare_eq_lt.2 (by omega)]; rfl
  ·rw [Int.compare_eq_eq.2 (by omega)]; rfl
set_option maxRecDepth 100000 in
set_option maxHeartbeats 400000 in
theorem isInf_any (x : Nat) (w : World) (hx : x < 18446744073709551616) (hf : x % kSign ≤ kInf) :
  Calls Tryz.prog 45 #[.float .f64 x, .int .i64 0] w (Gives (.bool (decide (x % kSign = kInf))) w) := by
 have HA := Lib.hid fun w => abs_any x w hx
 have hT := inf_test hf
 generalize decide (x % kSign = kInf) = R at *
 generalize x % kSign = m at *
 clear hx hf
 go_enter Tryz.func45, Tryz.ntmps45
 go_wp2_with fail
 refine (HA.out _).mono ?_
 rintro e1 w1 ⟨rfl, hb⟩
 have HB := Lib.hid hb
 clear hb
 go_wp2
 go_ret
 exact ⟨rfl, HB.out⟩
set_option maxRecDepth 100000 in
set_option maxHeartbeats 400000 in
theorem infNeg_any (w : World) :
  Calls Tryz.prog 70 #[.int .i64 (-1)] w (Gives (.float .f64 18442240474082181120) w) := by
 have h1 : ∀ w, (callFunc 48 #[.int .u64 18442240474082181120]).run Tryz.prog w = .ok (.value (.float .f64 18442240474082181120)) w := ffrom_eq 18442240474082181120
 go_enter Tryz.func70, Tryz.ntmps70
 go_wp2
 go_ret
 exact ⟨rfl, Below.refl _ _⟩
end
section
open Go.RowKit
def rndX (z e mode : Int) : Nat := if z = 0 then 0 else rndB z e mode
end
end Go.Proofs.YtloohbkceppocaaGreatDoor
