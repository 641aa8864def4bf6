/- Walks: a number made of fields, of parts. -/
import Derived.Test.YtfcddnccmdjhfaaDoorDyc
namespace Go.Proofs.YtfcddnccmdjhfaaDoor
open Go.RowKit

/-- The bits of a sign, an exponent field, a fraction field. -/
def joinB (neg : Bool) (e f : Nat) : Nat := (if neg then kSign else 0) + e * kHid + f

theorem join_or {e f : Nat} (he : e < 2048) (hf : f < kHid) : bits .or .u64 ((e * kHid : Nat) : Int) (f : Int) = ((e * kHid + f : Nat) : Int) := by
  unfold kHid at *
  have h0 := bits_or_u64_nat (e * 4503599627370496) f (by omega) (by omega)
  rw [h0]
  congr 1
  have := Nat.two_pow_add_eq_or_of_lt (i := 52) (b := f) hf e
  rw [Nat.mul_comm] at this
  exact this.symm

theorem join_sign {x : Nat} (hx : x < kSign) : bits .or .u64 (x : Int) (kSign : Int) = ((kSign + x : Nat) : Int) := by
  unfold kSign at *
  have h0 := bits_or_u64_nat x 9223372036854775808 (by omega) (by omega)
  rw [h0]
  congr 1
  have := Nat.two_pow_add_eq_or_of_lt (i := 63) (b := x) hx 1
  rw [Nat.or_comm]; exact this.symm

theorem joinB_fields {neg : Bool} {e f : Nat} (he : e < 2048) (hf : f < kHid) : expF (joinB neg e f) = e ∧ fracF (joinB neg e f) = f ∧ sgnB (joinB neg e f) = neg ∧ joinB neg e f < 18446744073709551616 := by
  unfold joinB expF fracF sgnB kSign kHid at *
  cases neg
  · simp only [Bool.false_eq_true, if_false, decide_eq_false_iff_not]; omega
  · simp only [if_true, decide_eq_true_eq]; omega

set_option maxRecDepth 100000 in
set_option maxHeartbeats 800000 in
theorem join_any (neg : Bool) (e f : Nat) (w : World) (he : e < 2047) (hf : f < kHid) :
    Calls Tryd.prog 82 #[.bool neg, .int .i64 e, .int .u64 f, F64] w (Gives (.tuple #[.int .u64 (joinB neg e f : Nat), .int .i64 0]) w) := by
  obtain ⟨f1, f2, f3, f4⟩ := joinB_fields (neg := neg) (show e < 2048 by omega) hf
  have HCN : Hid (canonB (joinB neg e f) = joinB neg e f) := Lib.hid (canonB_fin (by omega))
  have H4 := Lib.hid f4
  have HO : Hid (bits .or .u64 ((e : Int) * 4503599627370496) (f : Int) = ((e * kHid + f : Nat) : Int)) := Lib.hid (by have := join_or (show e < 2048 by omega) hf; rw [Int.natCast_mul] at this; exact this)
  have HCA := Lib.hid fun b h w => canon_any b w h
  have HJ : Hid ((neg = false → joinB neg e f = e * kHid + f) ∧ (neg = true → joinB neg e f = kSign + (e * kHid + f))) := Lib.hid ⟨fun h => by unfold joinB; rw [h]; simp, fun h => by unfold joinB; rw [h]; simp; omega⟩
  have HJS := Lib.hid (join_sign (show e * kHid + f < kSign by unfold kHid kSign at *; omega))
  have HH := Lib.hid fun w => hidden_any w
  have HSg := Lib.hid fun w => sign_any w
  have H0 := Lib.hid (Fmt3.new w 99)
  unfold F64 at *
  obtain ⟨c0, c1, c2⟩ := H0.out.2
  have hge : decide ((kHid : Int) ≤ (f : Int)) = false := by simp; omega
  clear f1 f2 f3 f4
  generalize e * kHid + f = x at HO HJ HJS
  generalize kHid = kh at hge HH hf
  generalize kSign = ks at HSg HJS HJ
  generalize joinB neg e f = R at *
  cases neg
  · obtain rfl : R = x := HJ.out.1 rfl
    go_enter Tryd.func82, Tryd.ntmps82
    go_wp2_with fail
    refine (HH.out _).mono ?_
    rintro e1 w1 ⟨rfl, hb1⟩
    have HB1 := Lib.hid ((below1 w _).trans (hb1.mono (by simp)))
    have HF1 := Lib.hid (H0.out.below hb1)
    obtain ⟨-, d0, d1, d2⟩ := HF1.out
    clear c0 c1 c2 hb1
    go_wp2_with fail
    rw [HO.out]
    refine (HCA.out R H4.out _).mono ?_
    rintro e2 w2 ⟨rfl, hb2⟩
    rw [HCN.out]
    have HB2 := Lib.hid (HB1.out.trans (hb2.mono HB1.out.size))
    clear hb2
    go_wp2
    go_ret2
    exact ⟨rfl, HB2.out⟩
  · obtain rfl : R = ks + x := HJ.out.2 rfl
    go_enter Tryd.func82, Tryd.ntmps82
    go_wp2_with fail
    refine (HH.out _).mono ?_
    rintro e1 w1 ⟨rfl, hb1⟩
    have HB1 := Lib.hid ((below1 w _).trans (hb1.mono (by simp)))
    have HF1 := Lib.hid (H0.out.below hb1)
    obtain ⟨-, d0, d1, d2⟩ := HF1.out
    clear c0 c1 c2 hb1
    go_wp2_with fail
    rw [HO.out]
    refine (HSg.out _).mono ?_
    rintro e2 w2 ⟨rfl, hb2⟩
    have HB2 := Lib.hid (HB1.out.trans (hb2.mono HB1.out.size))
    have HF2 := Lib.hid (HF1.out.below hb2)
    clear d0 d1 d2 hb2
    obtain ⟨-, d0, d1, d2⟩ := HF2.out
    go_wp2_with fail
    rw [HJS.out]
    refine (HCA.out _ H4.out _).mono ?_
    rintro e2 w3 ⟨rfl, hb3⟩
    rw [HCN.out]
    have HB3 := Lib.hid (HB2.out.trans (hb3.mono HB2.out.size))
    clear hb3
    go_wp2
    go_ret2
    exact ⟨rfl, HB3.out⟩

/-- The bits of m * 2^e, if there are such: m is m' * 2^t, m' odd. -/
def mkB (neg : Bool) (m : Nat) (e : Int) : Nat :=
  if m = 0 then joinB neg 0 0
  else
    let t := Lib.ctz 64 m
    let down := min (53 - (bl (m / 2 ^ t) : Int)) (e + t + 1074)
    let M := m / 2 ^ t * 2 ^ down.toNat
    if M < kHid then joinB neg 0 M else joinB neg (e + t - down + 1075).toNat (M - kHid)

set_option maxRecDepth 100000 in
set_option maxHeartbeats 800000 in
theorem made_zero (neg : Bool) (e : Int) (w : World) :
    Calls Tryd.prog 61 #[.agg #[.bool neg, .int .u64 0, .int .i64 e], F64] w (Gives (.tuple #[.int .u64 (joinB neg 0 0 : Nat), .int .i64 0]) w) := by
  have HJ := Lib.hid fun W => join_any neg 0 0 W (by decide) (by decide)
  unfold F64 at *
  go_enter Tryd.func61, Tryd.ntmps61
  go_wp2_with fail
  refine (HJ.out _).mono ?_
  rintro e1 w1 ⟨rfl, hb1⟩
  have HB1 := Lib.hid ((below2 w _ _).trans (hb1.mono (below2 w _ _).size))
  clear hb1
  go_wp2
  go_ret2
  exact ⟨rfl, HB1.out⟩

end Go.Proofs.YtfcddnccmdjhfaaDoor
