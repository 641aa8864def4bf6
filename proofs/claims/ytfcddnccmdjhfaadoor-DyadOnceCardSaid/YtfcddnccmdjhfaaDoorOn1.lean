/- Walks: the document's fields and class of a number; the same bits. -/
import Derived.Test.YtfcddnccmdjhfaaDoorIe2
namespace Go.Proofs.YtfcddnccmdjhfaaDoor
open Go.RowKit

set_option maxRecDepth 100000 in
set_option maxHeartbeats 400000 in
theorem rBits_any (b : Nat) (w : World) :
    Calls Tryd.prog 76 #[.float .f64 b] w (Gives (.int .u64 (canonB b : Nat)) w) := by
  have hf := fbits_eq b
  have ho : (FloatKind.f64.format.order b b != some Ordering.eq) = nanB b := by
    have := order_self b
    unfold F6 at this
    rw [bne, this, Bool.not_not]
  unfold canonB
  cases hn : nanB b
  · rw [hn] at ho
    rw [if_neg (by decide)]
    go_enter Tryd.func76, Tryd.ntmps76
    go_wp2
    go_ret
    exact ⟨rfl, Below.refl _ _⟩
  · rw [hn] at ho
    rw [if_pos rfl]
    go_enter Tryd.func76, Tryd.ntmps76
    go_wp2
    go_ret
    exact ⟨rfl, Below.refl _ _⟩

set_option maxRecDepth 100000 in
set_option maxHeartbeats 400000 in
theorem rSplit_any (b : Nat) (w : World) (h : b < 18446744073709551616) :
    Calls Tryd.prog 54 #[.float .f64 b] w (Gives (.tuple #[.bool (sgnB (canonB b)), .int .i64 (expF (canonB b)), .int .u64 (fracF (canonB b))]) w) := by
  have HB := Lib.hid fun W => rBits_any b W
  have hc := canonB_lt h
  clear h
  generalize canonB b = c at *
  have h1 : ((c : Int) / 9223372036854775808 == 1) = sgnB c := by unfold sgnB kSign; rw [Bool.eq_iff_iff]; simp; omega
  have h2 : (c : Int) / 4503599627370496 % 2048 = (expF c : Int) := by unfold expF kHid; omega
  have h3 : (c : Int) % 4503599627370496 = (fracF c : Int) := by unfold fracF kHid; omega
  have he : expF c < 2048 := Nat.mod_lt _ (by decide)
  have H1 := Lib.hid h1
  have H2 := Lib.hid h2
  have H3 := Lib.hid h3
  clear h1 h2 h3
  generalize hs : sgnB c = s at *
  generalize hee : expF c = e at *
  generalize hff : fracF c = f at *
  clear hs hee hff
  go_enter Tryd.func54, Tryd.ntmps54
  go_wp2_with fail
  refine (HB.out _).mono ?_
  rintro e1 w1 ⟨rfl, hb1⟩
  have HB1 := Lib.hid hb1
  clear hb1
  go_wp2
  go_ret3
  exact ⟨by simp only [H1.out, H2.out, H3.out]; rfl, HB1.out⟩

set_option maxRecDepth 100000 in
set_option maxHeartbeats 1000000 in
theorem classify_any (e f : Nat) (w : World) :
    Calls Tryd.prog 55 #[.int .i64 e, .int .u64 f, .int .i64 2047] w (Gives (.int .i64 (clsOf e f)) w) := by
  have k1 : ((e : Int) == 2047) = decide (e = 2047) := by rw [Bool.eq_iff_iff]; simp; omega
  have k2 : ((f : Int) != 0) = decide (f ≠ 0) := by rw [Bool.eq_iff_iff]; simp
  have k3 : ((e : Int) == 0) = decide (e = 0) := by rw [Bool.eq_iff_iff]; simp
  have k4 : ((f : Int) == 0) = decide (f = 0) := by rw [Bool.eq_iff_iff]; simp
  unfold clsOf
  by_cases h1 : e = 2047
  · rw [if_pos h1]
    rw [decide_eq_true h1] at k1
    by_cases h2 : f = 0
    · rw [if_pos h2]
      rw [decide_eq_false (fun x => x h2)] at k2
      clear h1 h2 k3 k4
      go_enter Tryd.func55, Tryd.ntmps55
      go_wp2
      go_ret
      exact ⟨rfl, Below.refl _ _⟩
    · rw [if_neg h2]
      rw [decide_eq_true h2] at k2
      clear h1 h2 k3 k4
      go_enter Tryd.func55, Tryd.ntmps55
      go_wp2
      go_ret
      exact ⟨rfl, Below.refl _ _⟩
  · rw [if_neg h1]
    rw [decide_eq_false h1] at k1
    by_cases h2 : e = 0
    · rw [if_pos h2]
      rw [decide_eq_true h2] at k3
      by_cases h3 : f = 0
      · rw [if_pos h3]
        rw [decide_eq_true h3] at k4
        clear h1 h2 h3 k2
        go_enter Tryd.func55, Tryd.ntmps55
        go_wp2
        go_ret
        exact ⟨rfl, Below.refl _ _⟩
      · rw [if_neg h3]
        rw [decide_eq_false h3] at k4
        clear h1 h2 h3 k2
        go_enter Tryd.func55, Tryd.ntmps55
        go_wp2
        go_ret
        exact ⟨rfl, Below.refl _ _⟩
    · rw [if_neg h2]
      rw [decide_eq_false h2] at k3
      clear h1 h2 k2 k4
      go_enter Tryd.func55, Tryd.ntmps55
      go_wp2
      go_ret
      exact ⟨rfl, Below.refl _ _⟩

set_option maxRecDepth 100000 in
set_option maxHeartbeats 400000 in
theorem rClass_any (b : Nat) (w : World) (h : b < 18446744073709551616) :
    Calls Tryd.prog 28 #[.float .f64 b] w (Gives (.int .i64 (clsB b)) w) := by
  have HS := Lib.hid fun W => rSplit_any b W h
  unfold clsB
  clear h
  generalize sgnB (canonB b) = s at *
  generalize expF (canonB b) = e at *
  generalize fracF (canonB b) = f at *
  go_enter Tryd.func28, Tryd.ntmps28
  go_wp2_with fail
  refine (HS.out _).mono ?_
  rintro e1 w1 ⟨rfl, hb1⟩
  have HB1 := Lib.hid hb1
  clear hb1
  go_wp2_with fail
  refine (classify_any e f _).mono ?_
  rintro e2 w2 ⟨rfl, hb2⟩
  have HB2 := Lib.hid (HB1.out.trans (hb2.mono HB1.out.size))
  clear hb2
  go_wp2
  go_ret
  exact ⟨rfl, HB2.out⟩

theorem cls_gt (b : Nat) : decide (2 < clsB b) = finB b := by
  have h := cls_fin b
  cases hf : finB b
  · have := h.2 hf
    simp only [beq_iff_eq] at this
    rcases this with h1 | ⟨-, h1⟩ <;> rw [h1] <;> rfl
  · refine decide_eq_true ?_
    have h2 : expF b ≠ 2047 := of_decide_eq_true hf
    unfold clsB clsOf
    rw [canon_fin hf, if_neg h2]
    split
    · split <;> decide
    · decide

set_option maxRecDepth 100000 in
set_option maxHeartbeats 400000 in
theorem rFinite_any (b : Nat) (w : World) (h : b < 18446744073709551616) :
    Calls Tryd.prog 17 #[.float .f64 b] w (Gives (.bool (finB b)) w) := by
  have HS := Lib.hid fun W => rClass_any b W h
  have hg := cls_gt b
  have HG := Lib.hid hg
  clear h hg
  generalize clsB b = c at *
  go_enter Tryd.func17, Tryd.ntmps17
  go_wp2_with fail
  refine (HS.out _).mono ?_
  rintro e1 w1 ⟨rfl, hb1⟩
  have HB1 := Lib.hid hb1
  clear hb1
  go_wp2
  go_ret
  exact ⟨by rw [← HG.out]; rfl, HB1.out⟩

set_option maxRecDepth 100000 in
set_option maxHeartbeats 400000 in
theorem lSame_any (a b : Nat) (w : World) :
    Calls Tryd.prog 19 #[.float .f64 a, .float .f64 b] w (Gives (.bool (decide (a = b))) w) := by
  have h1 := fbits_eq a
  have h2 := fbits_eq b
  have h3 : ((a : Int) == (b : Int)) = decide (a = b) := by rw [Bool.eq_iff_iff]; simp; omega
  have H3 := Lib.hid h3
  clear h3
  go_enter Tryd.func19, Tryd.ntmps19
  go_wp2
  go_ret
  exact ⟨by rw [← H3.out]; rfl, Below.refl _ _⟩

set_option maxRecDepth 100000 in
set_option maxHeartbeats 400000 in
theorem inf_any (w : World) :
    Calls Tryd.prog 36 #[.int .i64 1] w (Gives (.float .f64 9218868437227405312) w) := by
  have h1 : ∀ w, (callFunc 7 #[.int .u64 9218868437227405312]).run Tryd.prog w = .ok (.value (.float .f64 9218868437227405312)) w := ffrom_eq 9218868437227405312
  go_enter Tryd.func36, Tryd.ntmps36
  go_wp2
  go_ret
  exact ⟨rfl, Below.refl _ _⟩

theorem neg_bits {b : Nat} (h : b < kSign) : Op.negFloat .f64 b = kSign + b := by
  unfold Op.negFloat
  rw [show FloatKind.f64.format.exponentBits + FloatKind.f64.format.fractionBits = 63 by decide]
  unfold kSign at *
  rw [Nat.xor_comm, show (9223372036854775808 : Nat) = 2 ^ 63 from rfl]
  have h2 := Nat.two_pow_add_eq_or_of_lt (i := 63) (b := b) h 1
  rw [Nat.mul_one] at h2
  rw [h2]
  apply Nat.eq_of_testBit_eq
  intro i
  rw [Nat.testBit_xor, Nat.testBit_or]
  by_cases hi : i = 63
  · subst hi
    rw [Nat.testBit_lt_two_pow (x := b) h]; simp
  · rw [Nat.testBit_two_pow_of_ne (fun e => hi e.symm)]; simp

set_option maxRecDepth 100000 in
set_option maxHeartbeats 400000 in
theorem signed_any (b : Nat) (neg : Bool) (w : World) (h : b < kSign) :
    Calls Tryd.prog 35 #[.float .f64 b, .bool neg] w (Gives (.float .f64 ((if neg then kSign else 0) + b)) w) := by
  have h1 := neg_bits h
  clear h
  cases neg
  · rw [if_neg (by decide), Nat.zero_add]
    go_enter Tryd.func35, Tryd.ntmps35
    go_wp2
    go_ret
    exact ⟨rfl, Below.refl _ _⟩
  · rw [if_pos rfl]
    generalize kSign + b = c at *
    have H1 : ∀ w, (Op.unary .neg (.float .f64 b)).run Tryd.prog w = .ok (.float .f64 c) w := fun w => by rw [← h1]; rfl
    clear h1
    go_enter Tryd.func35, Tryd.ntmps35
    go_wp2
    go_ret
    exact ⟨rfl, Below.refl _ _⟩

set_option maxRecDepth 100000 in
set_option maxHeartbeats 1000000 in
theorem beyond_any (neg : Bool) (mode : Int) (w : World) (h1 : 0 ≤ mode) (h2 : mode ≤ 4) :
    Calls Tryd.prog 34 #[.bool neg, .int .i64 mode] w (Gives (.bool (beyB neg mode)) w) := by
  have hm : mode = 0 ∨ mode = 1 ∨ mode = 2 ∨ mode = 3 ∨ mode = 4 := by omega
  clear h1 h2
  unfold beyB
  rcases hm with rfl | rfl | rfl | rfl | rfl <;> cases neg <;>
    (go_enter Tryd.func34, Tryd.ntmps34
     go_wp2
     go_ret
     exact ⟨rfl, Below.refl _ _⟩)

end Go.Proofs.YtfcddnccmdjhfaaDoor
