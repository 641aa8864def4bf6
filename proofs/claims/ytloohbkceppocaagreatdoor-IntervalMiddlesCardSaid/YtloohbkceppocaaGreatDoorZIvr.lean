/- Walks: the references' intervals: what is one, its ends, tests, hull, what is in both. Printed by wip/gen/iv12.py. -/
import Derived.Test.YtloohbkceppocaaGreatDoorIG
namespace Go.Proofs.YtloohbkceppocaaGreatDoor
open Go.RowKit
attribute [local go_sem] run_store_f

theorem ky_inf {x : Nat} (hx : W64 x) : (ky x = kInf ↔ x = kInf) ∧ (ky x = -(kInf : Int) ↔ x = kSign + kInf) := by
  have hs : kSign = 9223372036854775808 := rfl
  have hi : kInf = 9218868437227405312 := rfl
  unfold ky
  split <;> omega

theorem rfull_ivK {l h : Nat} (hl : W64 l) (hh : W64 h) : (leB l h && (!decide (l = kInf) && !decide (h = kSign + kInf))) = (ivK l h).isSome := by
  rw [leB_ky hl hh]
  have k1 := (ky_inf hl).1
  have k2 := (ky_inf hh).2
  unfold ivK
  cases nl : nanB l
  · cases nh : nanB h
    · have b1 := ky_bd hl (num_of nl)
      have b2 := ky_bd hh (num_of nh)
      simp only [Bool.not_false, Bool.true_and, true_and]
      by_cases c1 : ky l ≤ ky h <;> by_cases c2 : l = kInf <;> by_cases c3 : h = kSign + kInf
      · rw [if_neg (by omega), decide_eq_true c2]; simp
      · rw [if_neg (by omega), decide_eq_true c2]; simp
      · rw [if_neg (by omega), decide_eq_true c3]; simp
      · rw [if_pos (by omega), decide_eq_true c1, decide_eq_false c2, decide_eq_false c3]; rfl
      · rw [if_neg (by omega), decide_eq_false c1]; rfl
      · rw [if_neg (by omega), decide_eq_false c1]; rfl
      · rw [if_neg (by omega), decide_eq_false c1]; rfl
      · rw [if_neg (by omega), decide_eq_false c1]; rfl
    · simp
  · simp

set_option maxRecDepth 100000 in
set_option maxHeartbeats 1600000 in
theorem rFull_any (l h : Nat) (w : World) (hl : W64 l) (hh : W64 h) :
    Calls Tryz.prog 61 #[.agg #[.float .f64 l, .float .f64 h]] w (Gives (.bool (ivK l h).isSome) w) := by
  obtain ⟨t1, h1⟩ : ∃ b, (FloatKind.f64.format.order l h == some Ordering.lt || FloatKind.f64.format.order l h == some Ordering.eq) = b := ⟨_, rfl⟩
  have HP := Lib.hid fun w => isInf_up l w hl
  have HN := Lib.hid fun w => isInf_down h w hh
  have HR : Hid ((t1 && (!decide (l = kInf) && !decide (h = kSign + kInf))) = (ivK l h).isSome) := Lib.hid (by rw [← rfull_ivK hl hh, ← h1]; rfl)
  have HW := Lib.hid (IBox.new w l h)
  generalize (ivK l h).isSome = R at *
  generalize decide (l = kInf) = t2 at *
  generalize decide (h = kSign + kInf) = t3 at *
  clear hl hh
  cases t1
  · obtain rfl : false = R := HR.out
    go_enter Tryz.func61, Tryz.ntmps61
    obtain ⟨c0, c1⟩ := HW.out.cells
    go_wp2
    go_ret
    exact ⟨rfl, HW.out.2⟩
  · cases t2
    · obtain rfl : (!t3) = R := HR.out
      go_enter Tryz.func61, Tryz.ntmps61
      obtain ⟨c0, c1⟩ := HW.out.cells
      go_wp2_with fail
      refine (HP.out _).mono ?_
      rintro e1 w1 ⟨rfl, hb1⟩
      replace HW := Lib.hid (HW.out.later hb1)
      clear hb1 c0 c1
      obtain ⟨c0, c1⟩ := HW.out.cells
      go_wp2_with fail
      refine (HN.out _).mono ?_
      rintro e2 w2 ⟨rfl, hb2⟩
      replace HW := Lib.hid (HW.out.later hb2)
      clear hb2 c0 c1
      obtain ⟨c0, c1⟩ := HW.out.cells
      go_wp2
      go_ret
      exact ⟨rfl, HW.out.2⟩
    · obtain rfl : false = R := HR.out
      go_enter Tryz.func61, Tryz.ntmps61
      obtain ⟨c0, c1⟩ := HW.out.cells
      go_wp2_with fail
      refine (HP.out _).mono ?_
      rintro e1 w1 ⟨rfl, hb1⟩
      replace HW := Lib.hid (HW.out.later hb1)
      clear hb1 c0 c1
      obtain ⟨c0, c1⟩ := HW.out.cells
      go_wp2
      go_ret
      exact ⟨rfl, HW.out.2⟩

end Go.Proofs.YtloohbkceppocaaGreatDoor
