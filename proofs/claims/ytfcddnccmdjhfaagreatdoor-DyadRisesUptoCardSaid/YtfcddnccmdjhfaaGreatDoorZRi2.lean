/- Walks: the references' Key, Unkey, Next. -/
import Derived.Test.YtfcddnccmdjhfaaGreatDoorZRi1
import Derived.Test.YtfcddnccmdjhfaaGreatDoorGM
namespace Go.Proofs.YtfcddnccmdjhfaaGreatDoor
open Go.RowKit

/-- Its place in the total order. -/
def keyZ (b : Nat) : Int := if sgnB b then -1 - ((b % kSign : Nat) : Int) else b

set_option maxRecDepth 100000 in
set_option maxHeartbeats 400000 in
theorem rKey_any (b : Nat) (w : World) (h : b < 18446744073709551616) (hn : b % kSign ≤ kInf) :
    Calls Tryz.prog 65 #[.float .f64 b] w (Gives (.int .i64 (keyZ b)) w) := by
  have hnn : nanB b = false := decide_eq_false (by omega)
  have hc : canonB b = b := by unfold canonB; rw [hnn]; rfl
  have HB := Lib.hid fun W => rBits_any b W
  rw [hc] at HB
  have ho : (FloatKind.f64.format.order b b != some Ordering.eq) = false := by
    have := order_self b
    unfold F6 at this
    rw [bne, this, hnn]; rfl
  have h1 : ((b : Int) / 9223372036854775808 == 1) = sgnB b := by unfold sgnB kSign; rw [Bool.eq_iff_iff]; simp; omega
  have h2 : (b : Int) % 9223372036854775808 = ((b % kSign : Nat) : Int) := by unfold kSign; omega
  have h3 : IntKind.i64.wrap ((b % kSign : Nat) : Int) = ((b % kSign : Nat) : Int) := IntWalk.i64_in _ (by unfold kSign; omega)
  have h4 : IntKind.i64.wrap (-1 - ((b % kSign : Nat) : Int)) = -1 - ((b % kSign : Nat) : Int) := IntWalk.i64_in _ (by unfold kSign; omega)
  have h5 : sgnB b = false → IntKind.i64.wrap (b : Int) = b := fun hs => IntWalk.i64_in _ (by have := of_decide_eq_false hs; unfold kSign at this; omega)
  have HK : Hid (keyZ b = if sgnB b then -1 - ((b % kSign : Nat) : Int) else b) := Lib.hid rfl
  clear hnn hc h hn
  generalize keyZ b = K at *
  generalize b % kSign = m at *
  cases hs : sgnB b
  · have h6 := h5 hs
    have HK2 : Hid (K = b) := Lib.hid (by rw [HK.out, hs]; rfl)
    rw [hs] at h1
    clear h5 hs HK h2 h3 h4
    go_enter Tryz.func65, Tryz.ntmps65
    go_wp2_with fail
    refine (HB.out _).mono ?_
    rintro e1 w1 ⟨rfl, hb1⟩
    have HB1 := Lib.hid hb1
    clear hb1
    go_wp2
    go_ret
    exact ⟨by rw [HK2.out]; rfl, HB1.out⟩
  · have HK2 : Hid (K = -1 - (m : Int)) := Lib.hid (by rw [HK.out, hs]; rfl)
    rw [hs] at h1
    clear h5 hs HK
    go_enter Tryz.func65, Tryz.ntmps65
    go_wp2_with fail
    refine (HB.out _).mono ?_
    rintro e1 w1 ⟨rfl, hb1⟩
    have HB1 := Lib.hid hb1
    clear hb1
    go_wp2
    go_ret
    exact ⟨by rw [HK2.out]; rfl, HB1.out⟩

set_option maxRecDepth 100000 in
set_option maxHeartbeats 400000 in
theorem rUnkey_pos (k : Nat) (w : World) (h : k ≤ kInf) :
    Calls Tryz.prog 67 #[.int .i64 k] w (Gives (.tuple #[.float .f64 k, .int .i64 0]) w) := by
  have h1 : ((k : Int) == 9218868437227405313) = false := by unfold kInf at h; exact beq_eq_false_iff_ne.2 (by omega)
  have h2 : decide ((9218868437227405312 : Int) < (k : Int)) = false := decide_eq_false (by unfold kInf at h; omega)
  have h3 : decide ((k : Int) < -9218868437227405313) = false := decide_eq_false (by omega)
  have h4 : decide ((k : Int) < 0) = false := by simp
  have h5 : IntKind.u64.wrap (k : Int) = k := wrap_u64_lt _ (by unfold kInf at h; omega)
  have hf := ffrom_eq k
  clear h
  go_enter Tryz.func67, Tryz.ntmps67
  go_wp2
  go_ret2
  exact ⟨rfl, Below.refl _ _⟩

set_option maxRecDepth 100000 in
set_option maxHeartbeats 400000 in
theorem rUnkey_neg (j : Int) (m : Nat) (w : World) (hj : j = -((m : Int) + 1)) (h : m < kInf) :
    Calls Tryz.prog 67 #[.int .i64 j] w (Gives (.tuple #[.float .f64 (kSign + m), .int .i64 0]) w) := by
  have h1 : (j == 9218868437227405313) = false := by simp; omega
  have h2 : decide ((9218868437227405312 : Int) < j) = false := by simp; omega
  have h3 : decide (j < -9218868437227405313) = false := by unfold kInf at h; simp; omega
  have h4 : decide (j < 0) = true := by simp; omega
  have h5 : IntKind.i64.wrap (-1 - j) = (m : Int) := by rw [IntWalk.i64_in _ (by unfold kInf at h; omega)]; omega
  have h6 : IntKind.u64.wrap (m : Int) = m := wrap_u64_lt _ (by unfold kInf at h; omega)
  have h7 : IntKind.u64.wrap (9223372036854775808 + (m : Int)) = ((kSign + m : Nat) : Int) := by rw [show (9223372036854775808 + (m : Int)) = ((kSign + m : Nat) : Int) by unfold kSign; omega]; exact wrap_u64_lt _ (by unfold kInf kSign at *; omega)
  have hf := ffrom_eq (kSign + m)
  clear h hj
  generalize kSign + m = R at *
  go_enter Tryz.func67, Tryz.ntmps67
  go_wp2
  go_ret2
  exact ⟨rfl, Below.refl _ _⟩

theorem order_zero_ky {b : Nat} (h : b < 18446744073709551616) (hn : b % kSign ≤ kInf) : (F6.order b 0 == some Ordering.eq) = decide (ky b = 0) := by
  rw [order_ky h (by decide) hn (by decide), ky_zero]
  rcases Int.lt_trichotomy (ky b) 0 with h1 | h1 | h1
  · rw [Int.compare_eq_lt.2 h1, decide_eq_false (by omega)]; rfl
  · rw [h1]; decide
  · rw [Int.compare_eq_gt.2 h1, decide_eq_false (by omega)]; rfl

set_option maxRecDepth 100000 in
set_option maxHeartbeats 400000 in
theorem rNext_any (b : Nat) (w : World) (h : b < 18446744073709551616) (h1 : ky b < kInf) (h2 : -(kInf : Int) ≤ ky b) :
    Calls Tryz.prog 16 #[.float .f64 b] w (Gives (.float .f64 (nxB b)) w) := by
  have hn : b % kSign ≤ kInf := by
    unfold ky at h1 h2
    unfold kSign kInf at *
    split at h1 <;> split at h2 <;> omega
  have HK := Lib.hid fun W => rKey_any b W h hn
  have ho := order_zero_ky h hn
  unfold F6 at ho
  by_cases h0 : ky b = 0
  · have hx : nxB b = 1 := by
      unfold ky at h0
      unfold nxB kSign at *
      split at h0
      · rw [if_neg (by omega), if_pos (by omega)]; omega
      · rw [if_pos (by omega)]
    rw [hx]
    rw [h0] at ho
    have ho2 : (FloatKind.f64.format.order b 0 == some Ordering.eq) = true := ho
    have HU := Lib.hid fun W => rUnkey_pos 1 W (by decide)
    generalize keyZ b = K at *
    clear h h1 h2 hn h0 hx ho
    go_enter Tryz.func16, Tryz.ntmps16
    go_wp2_with fail
    refine (HK.out _).mono ?_
    rintro e1 w1 ⟨rfl, hb1⟩
    have HB1 := Lib.hid hb1
    clear hb1
    go_wp2_with fail
    refine (HU.out _).mono ?_
    rintro e2 w2 ⟨rfl, hb2⟩
    have HB2 := Lib.hid (HB1.out.trans (hb2.mono HB1.out.size))
    clear hb2
    go_wp2
    go_ret
    exact ⟨rfl, HB2.out⟩
  · rw [decide_eq_false h0] at ho
    by_cases hs : b < kSign
    · have hx : nxB b = b + 1 := by unfold nxB; rw [if_neg (by omega), if_pos hs]
      have hk : keyZ b = b := by unfold keyZ sgnB; rw [decide_eq_false (by omega)]; rfl
      have hl : b < kInf := by unfold ky at h1; rw [if_pos hs] at h1; omega
      rw [hx]
      rw [hk] at HK
      have h3 : decide ((9218868437227405312 : Int) ≤ (b : Int)) = false := by unfold kInf at hl; simp; omega
      have h4 : IntKind.i64.wrap ((b : Int) + 1) = ((b + 1 : Nat) : Int) := by rw [IntWalk.i64_in _ (by unfold kInf at hl; omega)]; omega
      have HU := Lib.hid fun W => rUnkey_pos (b + 1) W hl
      clear h h1 h2 hn h0 hx hk hs hl
      generalize b + 1 = R at *
      go_enter Tryz.func16, Tryz.ntmps16
      go_wp2_with fail
      refine (HK.out _).mono ?_
      rintro e1 w1 ⟨rfl, hb1⟩
      have HB1 := Lib.hid hb1
      clear hb1
      go_wp2_with fail
      refine (HU.out _).mono ?_
      rintro e2 w2 ⟨rfl, hb2⟩
      have HB2 := Lib.hid (HB1.out.trans (hb2.mono HB1.out.size))
      clear hb2
      go_wp2
      go_ret
      exact ⟨rfl, HB2.out⟩
    · obtain ⟨m, hm⟩ : ∃ m, b = kSign + (m + 1) := by
        unfold ky at h0
        rw [if_neg hs] at h0
        exact ⟨b - kSign - 1, by omega⟩
      have hm2 : m < kInf := by unfold ky at h2; rw [if_neg hs] at h2; omega
      have hx : nxB b = kSign + m := by unfold nxB; rw [if_neg (by omega), if_neg hs]; omega
      obtain ⟨j, hj⟩ : ∃ j, keyZ b = j := ⟨_, rfl⟩
      have hj2 : j = -2 - (m : Int) := by
        rw [← hj]
        unfold keyZ sgnB
        rw [decide_eq_true (by omega), if_pos rfl]
        have : b % kSign = m + 1 := by unfold kSign kInf at *; omega
        rw [this]; omega
      rw [hx]
      rw [hj] at HK
      have h3 : decide ((9218868437227405312 : Int) ≤ j) = false := by simp; omega
      obtain ⟨i, hi⟩ : ∃ i, j + 1 = i := ⟨_, rfl⟩
      have h4 : IntKind.i64.wrap (j + 1) = i := by rw [IntWalk.i64_in _ (by unfold kInf at hm2; omega)]; exact hi
      have HU := Lib.hid fun W => rUnkey_neg i m W (by omega) hm2
      clear h h1 h2 hn h0 hx hs hj hj2 hm hm2 hi
      generalize kSign + m = R at *
      go_enter Tryz.func16, Tryz.ntmps16
      go_wp2_with fail
      refine (HK.out _).mono ?_
      rintro e1 w1 ⟨rfl, hb1⟩
      have HB1 := Lib.hid hb1
      clear hb1
      go_wp2_with fail
      refine (HU.out _).mono ?_
      rintro e2 w2 ⟨rfl, hb2⟩
      have HB2 := Lib.hid (HB1.out.trans (hb2.mono HB1.out.size))
      clear hb2
      go_wp2
      go_ret
      exact ⟨rfl, HB2.out⟩

end Go.Proofs.YtfcddnccmdjhfaaGreatDoor
