/- Floats that may be NaNs: a number, or 'no number' whatever its bits; what an operation does to the world. -/
import Derived.Test.YtfmecpembnmnkaaGreatDoorGM
import Derived.Test.YtfmecpembnmnkaaGreatDoorGT
import Derived.Test.YtfmecpembnmnkaaGreatDoorGR
namespace Go.Proofs.YtfmecpembnmnkaaGreatDoor
section
open Go.RowKit
def Rep (o : Option Nat) (v : Nat) : Prop := v < 18446744073709551616 ∧ match o with | some x => v = x | none => nanB v = true
def oA (op : BinOp) (a b : Option Nat) : Option Nat := match a, b with | some x, some y => floatBits op .f64 x y | _, _ => none
def nzB (u v : Nat) (w : World) : Nat := (Question.nanBits .f64 u v).cut (w.tape w.drawn (Question.nanBits .f64 u v))
def fV (op : BinOp) (u v : Nat) (w : World) : Nat := match floatBits op .f64 u v with | some r => r | none => nzB u v w
def fN (op : BinOp) (u v : Nat) (w : World) : World := match floatBits op .f64 u v with | some _ => w | none => w.drew
theorem fN_below (op : BinOp) (u v : Nat) (w : World) : Below w.heap.size w (fN op u v w) := by
 unfold fN; split
 ·exact Below.refl _ _
 ·exact drew_below w
theorem run_float_any (op : BinOp) (hop : op = .add ∨ op = .sub ∨ op = .mul ∨ op = .quo) (t : TypeId) (u v : Nat) (w : World) :
  (binOp op t (.float .f64 u) (.float .f64 v)).run Tryz.prog w = .ok (.float .f64 (fV op u v w)) (fN op u v w) := by
 cases h : floatBits op .f64 u v with
 | some r =>
  have h1 : fV op u v w = r := by unfold fV; rw [h]
  have h2 : fN op u v w = w := by unfold fN; rw [h]
  rw [h1, h2]; exact run_float_arith w op t .f64 u v r h
 | none =>
  have h1 : fV op u v w = nzB u v w := by unfold fV; rw [h]
  have h2 : fN op u v w = w.drew := by unfold fN; rw [h]
  rw [h1, h2]
  unfold floatBits at h
  rcases hop with rfl | rfl | rfl | rfl <;> simp only at h <;> simp [binOp, Op.floatArith, h] <;> rfl
theorem nz_nan (u v : Nat) (w : World) : nzB u v w < 18446744073709551616 ∧ nanB (nzB u v w) = true := by
 unfold nzB Question.cut
 simp only
 generalize w.tape w.drawn (Question.nanBits .f64 u v) = t
 have h1 : t / 2 % (2 ^ 52 - 1) < 2 ^ 52 - 1 := Nat.mod_lt _ (by decide)
 generalize t / 2 % (2 ^ 52 - 1) = s at *
 have h2 : t % 2 < 2 := Nat.mod_lt _ (by decide)
 generalize t % 2 = p at *
 have h3 : p * 2 ^ 63 + 9218868437227405312 + 1 + s < 18446744073709551616 := by omega
 refine ⟨h3, ?_⟩
 unfold nanB
 rw [decide_eq_true_iff]
 have h4 : (p * 2 ^ 63 + 9218868437227405312 + 1 + s) % kSign = 9218868437227405312 + 1 + s := by
  rw [show p * 2 ^ 63 + 9218868437227405312 + 1 + s = (9218868437227405312 + 1 + s) + 2 ^ 63 * p by omega, show kSign = 2 ^ 63 from rfl, Nat.add_mul_mod_self_left]
  exact Nat.mod_eq_of_lt (by omega)
 show kInf < (p * 2 ^ 63 + 9218868437227405312 + 1 + s) % kSign
 rw [h4, show kInf = 9218868437227405312 from rfl]
 omega
theorem sum_nan_l {x : Ieee.Datum} {y : Ieee.Datum} (h : x.isNaN = true) : x.sum y = none := by
 cases x <;> cases y <;> first | rfl | (simp [Ieee.Datum.isNaN] at h)
theorem sum_nan_r {x : Ieee.Datum} {y : Ieee.Datum} (h : y.isNaN = true) : x.sum y = none := by
 cases x <;> cases y <;> first | rfl | (simp [Ieee.Datum.isNaN] at h)
theorem opp_nan {x : Ieee.Datum} (h : x.isNaN = true) : x.opposite.isNaN = true := by
 cases x <;> first | rfl | (simp [Ieee.Datum.isNaN] at h)
theorem product_nan_l {x : Ieee.Datum} {y : Ieee.Datum} (h : x.isNaN = true) : x.product y = none := by
 cases x <;> cases y <;> first | rfl | (simp [Ieee.Datum.isNaN] at h)
theorem product_nan_r {x : Ieee.Datum} {y : Ieee.Datum} (h : y.isNaN = true) : x.product y = none := by
 cases x <;> cases y <;> first | rfl | (simp [Ieee.Datum.isNaN] at h)
theorem quo_nan_l {k : Nat} {x : Ieee.Datum} {y : Ieee.Datum} (h : x.isNaN = true) : x.quotient k y = none := by
 cases x <;> cases y <;> first | rfl | (simp [Ieee.Datum.isNaN] at h)
theorem quo_nan_r {k : Nat} {x : Ieee.Datum} {y : Ieee.Datum} (h : y.isNaN = true) : x.quotient k y = none := by
 cases x <;> cases y <;> first | rfl | (simp [Ieee.Datum.isNaN] at h)
theorem bits_nan {op : BinOp} {u v : Nat} (h : nanB u = true ∨ nanB v = true) : floatBits op .f64 u v = none := by
 rw [← read_nan, ← read_nan] at h
 unfold floatBits
 split
 ·show ((F6.read u).sum (F6.read v)).map _ = none
  rcases h with h | h
  ·rw [sum_nan_l h]; rfl
  ·rw [sum_nan_r h]; rfl
 ·show ((F6.read u).sum (F6.read v).opposite).map _ = none
  rcases h with h | h
  ·rw [sum_nan_l h]; rfl
  ·rw [sum_nan_r (opp_nan h)]; rfl
 ·show ((F6.read u).product (F6.read v)).map _ = none
  rcases h with h | h
  ·rw [product_nan_l h]; rfl
  ·rw [product_nan_r h]; rfl
 ·show ((F6.read u).quotient _ (F6.read v)).map _ = none
  rcases h with h | h
  ·rw [quo_nan_l h]; rfl
  ·rw [quo_nan_r h]; rfl
 ·rfl
theorem bits_lt {op : BinOp} {u v r : Nat} (h : floatBits op .f64 u v = some r) : r < 18446744073709551616 := by
 have h1 := floatBits_wf h
 simpa [Lit.wf] using h1
theorem Rep.op {op : BinOp} {a b : Option Nat} {u v : Nat} (ha : Rep a u) (hb : Rep b v) (w : World) : Rep (oA op a b) (fV op u v w) := by
 have hn : ∀ o : Option Nat, o = none → floatBits op .f64 u v = none → Rep o (fV op u v w) := fun o ho hf => by
  subst ho
  unfold fV; rw [hf]; exact nz_nan u v w
 cases a with
 | none => exact hn _ rfl (bits_nan (.inl ha.2))
 | some x =>
  cases b with
  | none => exact hn _ rfl (bits_nan (.inr hb.2))
  | some y =>
   obtain rfl : u = x := ha.2
   obtain rfl : v = y := hb.2
   show Rep (floatBits op .f64 u v) (fV op u v w)
   cases h : floatBits op .f64 u v with
   | none => exact hn _ rfl h
   | some r =>
    have h1 : fV op u v w = r := by unfold fV; rw [h]
    rw [h1]
    exact ⟨bits_lt h, rfl⟩
end
section
open Go.RowKit
theorem order_nan {x y : Nat} (h : nanB x = true) : F6.order x y = none := by
 rw [← read_nan] at h
 unfold Ieee.Format.order
 revert h
 cases F6.read x <;> cases F6.read y <;> first | (intro _; rfl) | (intro h; simp [Ieee.Datum.isNaN] at h)
theorem nan_abs (x : Nat) : nanB (x % kSign) = nanB x := by unfold nanB; rw [Nat.mod_mod]
theorem inf_test_all (x : Nat) : (F6.order (x % kSign) 9218868437227405311 == some Ordering.gt) = decide (x % kSign = kInf) := by
 by_cases h : x % kSign ≤ kInf
 ·exact inf_test h
 ·rw [order_nan (by rw [nan_abs]; unfold nanB; rw [decide_eq_true_iff]; omega), decide_eq_false (by omega)]; rfl
set_option maxRecDepth 100000 in
set_option maxHeartbeats 400000 in
theorem isInf_all (x : Nat) (w : World) (hx : x < 18446744073709551616) :
  Calls Tryz.prog 140 #[.float .f64 x, .int .i64 0] w (Gives (.bool (decide (x % kSign = kInf))) w) := by
 have HA := Lib.hid fun w => abs_any x w hx
 have hT := inf_test_all x
 generalize decide (x % kSign = kInf) = R at *
 generalize x % kSign = m at *
 clear hx
 go_enter Tryz.func140, Tryz.ntmps140
 go_wp2_with fail
 refine (HA.out _).mono ?_
 rintro e1 w1 ⟨rfl, hb⟩
 have HB := Lib.hid hb
 clear hb
 go_wp2
 go_ret
 exact ⟨rfl, HB.out⟩
end
end Go.Proofs.YtfmecpembnmnkaaGreatDoor
