/- Walks: anatomy's class and parts of a number. Printed by wip/gen/cls.py. -/
import Derived.Test.YtfcddnccmdjhfaaDoorFld
namespace Go.Proofs.YtfcddnccmdjhfaaDoor
open Go.RowKit

/-- What kind of number bits are, by the fields. -/
def clsOf (e f : Nat) : Int := if e = 2047 then (if f = 0 then 2 else 1) else if e = 0 then (if f = 0 then 3 else 4) else 5
def clsB (b : Nat) : Int := clsOf (expF (canonB b)) (fracF (canonB b))
set_option maxRecDepth 100000 in
set_option maxHeartbeats 1000000 in
theorem class_any (b : Nat) (w : World) (h : b < 18446744073709551616) :
    Calls Tryd.prog 64 #[.int .u64 b, F64] w (Gives (.int .i64 (clsB b)) w) := by
  have H0 := Lib.hid (Fmt3.new w 99)
  have HC := Lib.hid fun w => split_any b w h
  have HV : Hid (∀ v, clsOf (expF (canonB b)) (fracF (canonB b)) = v → clsB b = v) := Lib.hid fun v hv => hv
  unfold F64 at HC ⊢
  obtain ⟨c0, c1, c2⟩ := H0.out.2
  generalize sgnB (canonB b) = s at *
  generalize expF (canonB b) = e at *
  generalize fracF (canonB b) = f at *
  clear h
  have pre : ∀ v, clsOf e f = v → (((e : Int) == 2047) = decide (e = 2047)) ∧ (((f : Int) != 0) = decide (f ≠ 0)) ∧ (((e : Int) == 0) = decide (e = 0)) ∧ (((f : Int) == 0) = decide (f = 0)) := fun v _ => by
    refine ⟨?_, ?_, ?_, ?_⟩ <;> rw [Bool.eq_iff_iff] <;> simp <;> omega
  obtain ⟨k1, k2, k3, k4⟩ := pre _ rfl
  clear pre
  by_cases h1 : e = 2047
  · rw [decide_eq_true h1] at k1
    by_cases h2 : f = 0
    · rw [decide_eq_false (fun x => x h2)] at k2
      have HF := Lib.hid (HV.out 2 (by unfold clsOf; rw [if_pos h1, if_pos h2]))
      clear h1 HV
      try clear h2
      try clear h3
      rw [HF.out]
      clear HF
      go_enter Tryd.func64, Tryd.ntmps64
      go_wp2_with fail
      refine (HC.out _).mono ?_
      rintro e w1 ⟨rfl, hb1⟩
      have HB := Lib.hid ((Below.alloc_self w _).trans (hb1.mono (by simp)))
      obtain ⟨-, d0, d1, d2⟩ := H0.out.below hb1
      clear hb1 c0 c1 c2
      go_wp2
      go_ret
      exact ⟨rfl, HB.out⟩
    · rw [decide_eq_true h2] at k2
      have HF := Lib.hid (HV.out 1 (by unfold clsOf; rw [if_pos h1, if_neg h2]))
      clear h1 HV
      try clear h2
      try clear h3
      rw [HF.out]
      clear HF
      go_enter Tryd.func64, Tryd.ntmps64
      go_wp2_with fail
      refine (HC.out _).mono ?_
      rintro e w1 ⟨rfl, hb1⟩
      have HB := Lib.hid ((Below.alloc_self w _).trans (hb1.mono (by simp)))
      obtain ⟨-, d0, d1, d2⟩ := H0.out.below hb1
      clear hb1 c0 c1 c2
      go_wp2
      go_ret
      exact ⟨rfl, HB.out⟩
  · rw [decide_eq_false h1] at k1
    by_cases h3 : e = 0
    · rw [decide_eq_true h3] at k3
      by_cases h2 : f = 0
      · rw [decide_eq_true h2] at k4
        have HF := Lib.hid (HV.out 3 (by unfold clsOf; rw [if_neg h1, if_pos h3, if_pos h2]))
        clear h1 HV
        try clear h2
        try clear h3
        rw [HF.out]
        clear HF
        go_enter Tryd.func64, Tryd.ntmps64
        go_wp2_with fail
        refine (HC.out _).mono ?_
        rintro e w1 ⟨rfl, hb1⟩
        have HB := Lib.hid ((Below.alloc_self w _).trans (hb1.mono (by simp)))
        obtain ⟨-, d0, d1, d2⟩ := H0.out.below hb1
        clear hb1 c0 c1 c2
        go_wp2
        go_ret
        exact ⟨rfl, HB.out⟩
      · rw [decide_eq_false h2] at k4
        have HF := Lib.hid (HV.out 4 (by unfold clsOf; rw [if_neg h1, if_pos h3, if_neg h2]))
        clear h1 HV
        try clear h2
        try clear h3
        rw [HF.out]
        clear HF
        go_enter Tryd.func64, Tryd.ntmps64
        go_wp2_with fail
        refine (HC.out _).mono ?_
        rintro e w1 ⟨rfl, hb1⟩
        have HB := Lib.hid ((Below.alloc_self w _).trans (hb1.mono (by simp)))
        obtain ⟨-, d0, d1, d2⟩ := H0.out.below hb1
        clear hb1 c0 c1 c2
        go_wp2
        go_ret
        exact ⟨rfl, HB.out⟩
    · rw [decide_eq_false h3] at k3
      have HF := Lib.hid (HV.out 5 (by unfold clsOf; rw [if_neg h1, if_neg h3]))
      clear h1 HV
      try clear h2
      try clear h3
      rw [HF.out]
      clear HF
      go_enter Tryd.func64, Tryd.ntmps64
      go_wp2_with fail
      refine (HC.out _).mono ?_
      rintro e w1 ⟨rfl, hb1⟩
      have HB := Lib.hid ((Below.alloc_self w _).trans (hb1.mono (by simp)))
      obtain ⟨-, d0, d1, d2⟩ := H0.out.below hb1
      clear hb1 c0 c1 c2
      go_wp2
      go_ret
      exact ⟨rfl, HB.out⟩

end Go.Proofs.YtfcddnccmdjhfaaDoor
