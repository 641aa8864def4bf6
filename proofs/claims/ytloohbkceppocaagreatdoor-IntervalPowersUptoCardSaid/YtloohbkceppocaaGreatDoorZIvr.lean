/- Walks: the references' intervals: what is one, its ends, tests, hull, what is in both. Printed by wip/gen/iv12.py. -/
import Derived.Test.YtloohbkceppocaaGreatDoorIG
import Derived.Test.YtloohbkceppocaaGreatDoorGC
import Derived.Test.YtloohbkceppocaaGreatDoorHB
namespace Go.Proofs.YtloohbkceppocaaGreatDoor
open Go.RowKit
attribute [local go_sem] run_store_f
theorem ky_inf {x : Nat} (hx : W64 x) : (ky x = kInf ↔ x = kInf) ∧ (ky x = -(kInf : Int) ↔ x = kSign + kInf) := by
 have hs : kSign = 9223372036854775808 := rfl
 have hi : kInf = 9218868437227405312 := rfl
 unfold ky
 split <;> omega
theorem rfull_ivK {l h : Nat} (hl : W64 l) (hh : W64 h) : (leB l h && (!decide (l = kInf) && !decide (h = kSign + kInf))) = (ivK l h).isSome := by
 rw [leB_ky hl hh]
 have k1 := (ky_inf hl).1
 have k2 := (ky_inf hh).2
 unfold ivK
 cases nl : nanB l
 ·cases nh : nanB h
  ·have b1 := ky_bd hl (num_of nl)
   have b2 := ky_bd hh (num_of nh)
   simp only [Bool.not_false, Bool.true_and, true_and]
   by_cases c1 : ky l ≤ ky h <;> by_cases c2 : l = kInf <;> by_cases c3 : h = kSign + kInf
   ·rw [if_neg (by omega), decide_eq_true c2]; simp
   ·rw [if_neg (by omega), decide_eq_true c2]; simp
   ·rw [if_neg (by omega), decide_eq_true c3]; simp
   ·rw [if_pos (by omega), decide_eq_true c1, decide_eq_false c2, decide_eq_false c3]; rfl
   ·rw [if_neg (by omega), decide_eq_false c1]; rfl
   ·rw [if_neg (by omega), decide_eq_false c1]; rfl
   ·rw [if_neg (by omega), decide_eq_false c1]; rfl
   ·rw [if_neg (by omega), decide_eq_false c1]; rfl
  ·simp
 ·simp
set_option maxRecDepth 100000 in
set_option maxHeartbeats 1600000 in
theorem rFull_any (l h : Nat) (w : World) (hl : W64 l) (hh : W64 h) :
  Calls Tryz.prog 61 #[.agg #[.float .f64 l, .float .f64 h]] w (Gives (.bool (ivK l h).isSome) w) := by
 obtain ⟨t1, h1⟩ : ∃ b, (FloatKind.f64.format.order l h == some Ordering.lt || FloatKind.f64.format.order l h == some Ordering.eq) = b := ⟨_, rfl⟩
 have HP := Lib.hid fun w => isInf_up l w hl
 have HN := Lib.hid fun w => isInf_down h w hh
 have HR : Hid ((t1 && (!decide (l = kInf) && !decide (h = kSign + kInf))) = (ivK l h).isSome) := Lib.hid (by rw [← rfull_ivK hl hh, ← h1]; rfl)
 have HW := Lib.hid (IBox.new w l h)
 generalize (ivK l h).isSome = R at *
 generalize decide (l = kInf) = t2 at *
 generalize decide (h = kSign + kInf) = t3 at *
 clear hl hh
 cases t1
 ·obtain rfl : false = R := HR.out
  go_enter Tryz.func61, Tryz.ntmps61
  obtain ⟨c0, c1⟩ := HW.out.cells
  go_wp2
  go_ret
  exact ⟨rfl, HW.out.2⟩
 ·cases t2
  ·obtain rfl : (!t3) = R := HR.out
   go_enter Tryz.func61, Tryz.ntmps61
   obtain ⟨c0, c1⟩ := HW.out.cells
   go_wp2_with fail
   refine (HP.out _).mono ?_
   rintro e1 w1 ⟨rfl, hb1⟩
   replace HW := Lib.hid (HW.out.later hb1)
   clear hb1 c0 c1
   obtain ⟨c0, c1⟩ := HW.out.cells
   go_wp2_with fail
   refine (HN.out _).mono ?_
   rintro e2 w2 ⟨rfl, hb2⟩
   replace HW := Lib.hid (HW.out.later hb2)
   clear hb2 c0 c1
   obtain ⟨c0, c1⟩ := HW.out.cells
   go_wp2
   go_ret
   exact ⟨rfl, HW.out.2⟩
  ·obtain rfl : false = R := HR.out
   go_enter Tryz.func61, Tryz.ntmps61
   obtain ⟨c0, c1⟩ := HW.out.cells
   go_wp2_with fail
   refine (HP.out _).mono ?_
   rintro e1 w1 ⟨rfl, hb1⟩
   replace HW := Lib.hid (HW.out.later hb1)
   clear hb1 c0 c1
   obtain ⟨c0, c1⟩ := HW.out.cells
   go_wp2
   go_ret
   exact ⟨rfl, HW.out.2⟩
set_option maxRecDepth 100000 in
set_option maxHeartbeats 800000 in
theorem rMade_any (l h : Nat) (w : World) (hl : W64 l) (hh : W64 h) (nl : nanB l = false) (nh : nanB h = false) :
  Calls Tryz.prog 63 #[.float .f64 l, .float .f64 h] w (Gives (.agg #[.float .f64 (kb (ky l)), .float .f64 (kb (ky h))]) w) := by
 have h1 : ∀ t w, (binOp .add t (.float .f64 l) (.float .f64 0)).run Tryz.prog w = .ok (.float .f64 (kb (ky l))) w := fun t w => run_float_arith w .add t .f64 _ _ _ (add_zero_any hl (num_of nl))
 have h2 : ∀ t w, (binOp .add t (.float .f64 h) (.float .f64 0)).run Tryz.prog w = .ok (.float .f64 (kb (ky h))) w := fun t w => run_float_arith w .add t .f64 _ _ _ (add_zero_any hh (num_of nh))
 generalize kb (ky l) = L at *
 generalize kb (ky h) = H at *
 clear hl hh nl nh
 go_enter Tryz.func63, Tryz.ntmps63
 go_wp2
 refine bodyPost_ret (v := .agg #[.float .f64 L, .float .f64 H]) (by simp [results, Tryz.results63, go_sem]) rfl ⟨rfl, Below.alloc_self _ _⟩
set_option maxRecDepth 100000 in
set_option maxHeartbeats 800000 in
theorem rEmpty_any (w : World) : Calls Tryz.prog 62 #[] w (Gives (.agg #[.float .f64 9218868437227405312, .float .f64 18442240474082181120]) w) := by
 have HP := Lib.hid fun w => inf_any w
 have HN := Lib.hid fun w => infNeg_any w
 have HW := Lib.hid (IBox.new w 0 0)
 go_enter Tryz.func62, Tryz.ntmps62
 go_wp2_with fail
 refine (HP.out _).mono ?_
 rintro e1 w1 ⟨rfl, hb1⟩
 replace HW := Lib.hid (HW.out.later hb1)
 clear hb1
 go_wp2_with fail
 refine (HN.out _).mono ?_
 rintro e2 w2 ⟨rfl, hb2⟩
 replace HW := Lib.hid (HW.out.later hb2)
 clear hb2
 obtain ⟨q0, q1, q2, q3⟩ := HW.out.cells2
 go_wp2
 refine bodyPost_ret (v := .agg #[.float .f64 9218868437227405312, .float .f64 18442240474082181120]) (by simp [results, Tryz.results62, go_sem, q0, q1]) rfl ⟨rfl, HW.out.stored (Nat.le_refl _) _ _⟩
set_option maxRecDepth 100000 in
set_option maxHeartbeats 400000 in
theorem rLeast_any (x y : Nat) (w : World) (hx : W64 x) (hy : W64 y) (nx : nanB x = false) (ny : nanB y = false) : Calls Tryz.prog 72 #[.float .f64 x, .float .f64 y] w (GivesK (min (ky x) (ky y)) w) := by
 have t1 := lt_test hy hx ny nx
 by_cases c : ky y < ky x
 ·rw [decide_eq_true c] at t1
  have HR9 : Hid (W64 y ∧ nanB y = false ∧ ky y = min (ky x) (ky y)) := Lib.hid ⟨hy, ny, by omega⟩
  generalize min (ky x) (ky y) = K at *
  clear hx hy nx ny c
  go_enter Tryz.func72, Tryz.ntmps72
  go_wp2
  go_ret
  exact ⟨_, rfl, HR9.out.1, HR9.out.2.1, HR9.out.2.2, Below.refl _ _⟩
 ·rw [decide_eq_false c] at t1
  have HR9 : Hid (W64 x ∧ nanB x = false ∧ ky x = min (ky x) (ky y)) := Lib.hid ⟨hx, nx, by omega⟩
  generalize min (ky x) (ky y) = K at *
  clear hx hy nx ny c
  go_enter Tryz.func72, Tryz.ntmps72
  go_wp2
  go_ret
  exact ⟨_, rfl, HR9.out.1, HR9.out.2.1, HR9.out.2.2, Below.refl _ _⟩
set_option maxRecDepth 100000 in
set_option maxHeartbeats 400000 in
theorem rMost_any (x y : Nat) (w : World) (hx : W64 x) (hy : W64 y) (nx : nanB x = false) (ny : nanB y = false) : Calls Tryz.prog 64 #[.float .f64 x, .float .f64 y] w (GivesK (max (ky x) (ky y)) w) := by
 have t1 := gt_test hy hx ny nx
 by_cases c : ky x < ky y
 ·rw [decide_eq_true c] at t1
  have HR9 : Hid (W64 y ∧ nanB y = false ∧ ky y = max (ky x) (ky y)) := Lib.hid ⟨hy, ny, by omega⟩
  generalize max (ky x) (ky y) = K at *
  clear hx hy nx ny c
  go_enter Tryz.func64, Tryz.ntmps64
  go_wp2
  go_ret
  exact ⟨_, rfl, HR9.out.1, HR9.out.2.1, HR9.out.2.2, Below.refl _ _⟩
 ·rw [decide_eq_false c] at t1
  have HR9 : Hid (W64 x ∧ nanB x = false ∧ ky x = max (ky x) (ky y)) := Lib.hid ⟨hx, nx, by omega⟩
  generalize max (ky x) (ky y) = K at *
  clear hx hy nx ny c
  go_enter Tryz.func64, Tryz.ntmps64
  go_wp2
  go_ret
  exact ⟨_, rfl, HR9.out.1, HR9.out.2.1, HR9.out.2.2, Below.refl _ _⟩
end Go.Proofs.YtloohbkceppocaaGreatDoor
