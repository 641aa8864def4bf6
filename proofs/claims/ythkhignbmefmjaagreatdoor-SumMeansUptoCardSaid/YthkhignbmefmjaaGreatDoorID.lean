/- Walks: how a product stands to a number; quotients and roots rounded outward. Printed by wip/gen/iv6.py. -/
import Derived.Test.YthkhignbmefmjaaGreatDoorIC
import Derived.Test.YthkhignbmefmjaaGreatDoorGM
import Derived.Test.YthkhignbmefmjaaGreatDoorBD
import Derived.Test.YthkhignbmefmjaaGreatDoorGV
import Derived.Test.YthkhignbmefmjaaGreatDoorGC
import Derived.Test.YthkhignbmefmjaaGreatDoorZRi1
import Derived.Test.YthkhignbmefmjaaGreatDoorGT
import Derived.Test.YthkhignbmefmjaaGreatDoorGW
import Derived.Test.YthkhignbmefmjaaGreatDoorZFw1
import Derived.Test.YthkhignbmefmjaaGreatDoorGR
import Derived.Test.YthkhignbmefmjaaGreatDoorZNe3
import Derived.Test.YthkhignbmefmjaaGreatDoorHB
import Derived.Test.YthkhignbmefmjaaGreatDoorGY
import Derived.Test.YthkhignbmefmjaaGreatDoorIB
namespace Go.Proofs.YthkhignbmefmjaaGreatDoor
section
open Go.RowKit
attribute [local go_sem] run_store_f
theorem sqrt_eq (a r : Nat) (h : F6.sqrt a = some r) (w : World) : (callFunc 76 #[.float .f64 a]).run Tryz.prog w = .ok (.value (.float .f64 r)) w := by
 rw [run_callFunc_extern Tryz.func76 (by kernel_rfl) (by kernel_rfl) (by kernel_rfl) (e := Extern.MathSqrt.sqrt) (by kernel_rfl)]
 have h2 : FloatKind.f64.format.sqrt a = some r := h
 have h3 : Extern.MathSqrt.sqrt #[.float .f64 a] = pure (.float .f64 r) := by
  show (match FloatKind.f64.format.sqrt a with | some r => (pure (Value.float .f64 r) : Sem Value) | none => _) = _
  rw [h2]
 rw [h3]; rfl
theorem sqrt_any (a r : Nat) (h : F6.sqrt a = some r) (w : World) : Calls Tryz.prog 26 #[.float .f64 a] w (Gives (.float .f64 r) w) := by
 have h1 := sqrt_eq a r h
 clear h
 go_enter Tryz.func26, Tryz.ntmps26
 go_wp2
 go_ret
 exact ⟨rfl, Below.refl _ _⟩
theorem fI_zero_iff {b : Nat} (h : W64 b) (hf : finB b = true) : (fI b = 0 ↔ valZ b = 0) ∧ (0 < fI b ↔ 0 < ky b) ∧ (fI b < 0 ↔ ky b < 0) := by
 have a := ky_lt_vI (M := 1074) (by decide : W64 0) h (by decide) hf (by decide)
 have c := ky_lt_vI (M := 1074) h (by decide : W64 0) hf (by decide) (by decide)
 rw [ky_zero, vI_zero, ← fI_vI] at a c
 refine ⟨?_, a.symm, c.symm⟩
 unfold fI
 exact sc_eq_zero
theorem sgn_ky {x : Nat} (h : W64 x) (h0 : ky x ≠ 0) : sgnB x = decide (ky x < 0) := by
 rw [ky_cases h] at *
 cases hs : sgnB x
 ·rw [if_neg (by decide)]; exact (decide_eq_false (by omega)).symm
 ·rw [hs, if_pos rfl] at h0; rw [if_pos rfl]; exact (decide_eq_true (by omega)).symm
end
section
open Go.RowKit
attribute [local go_sem] run_store_f
def sgK (x y : Nat) : Int := if (decide (0 < ky x) == decide (0 < ky y)) = true then kInf else -(kInf : Int)
theorem write_inf (s : Bool) : W64 (F6.write (.infinity s)) ∧ nanB (F6.write (.infinity s)) = false ∧ ky (F6.write (.infinity s)) = if s then -(kInf : Int) else kInf := by
 cases s <;> decide
theorem inf_read {x : Nat} (h : W64 x) (n : nanB x = false) (f : finB x = false) : F6.read x = .infinity (sgnB x) := by
 rcases fin_word (num_of n) with h1 | h1
 ·rw [f] at h1; cases h1.1
 ·exact read_inf h h1.2
theorem mant_ne {x : Nat} (h : W64 x) (f : finB x = true) (h0 : ky x ≠ 0) : valZ x ≠ 0 ∧ mantB x ≠ 0 := by
 have hz := fI_zero_iff h f
 have : valZ x ≠ 0 := fun e => h0 (by have := hz.1.2 e; have := hz.2; omega)
 exact ⟨this, fun e => this (valZ_zero.2 e)⟩
theorem xor_sgK {x y : Nat} (hx : W64 x) (hy : W64 y) (x0 : ky x ≠ 0) (y0 : ky y ≠ 0) : (if (sgnB x ^^ sgnB y) then -(kInf : Int) else kInf) = sgK x y := by
 rw [sgn_ky hx x0, sgn_ky hy y0]
 unfold sgK
 by_cases h1 : 0 < ky x <;> by_cases h2 : 0 < ky y
 ·rw [decide_eq_true h1, decide_eq_true h2, decide_eq_false (by omega : ¬ ky x < 0), decide_eq_false (by omega : ¬ ky y < 0)]; rfl
 ·rw [decide_eq_true h1, decide_eq_false h2, decide_eq_false (by omega : ¬ ky x < 0), decide_eq_true (by omega : ky y < 0)]; rfl
 ·rw [decide_eq_false h1, decide_eq_true h2, decide_eq_true (by omega : ky x < 0), decide_eq_false (by omega : ¬ ky y < 0)]; rfl
 ·rw [decide_eq_false h1, decide_eq_false h2, decide_eq_true (by omega : ky x < 0), decide_eq_true (by omega : ky y < 0)]; rfl
theorem mul_inf {x y : Nat} (hx : W64 x) (hy : W64 y) (nx : nanB x = false) (ny : nanB y = false) (x0 : ky x ≠ 0) (y0 : ky y ≠ 0) (h : finB x = false ∨ finB y = false) :
  ∃ r, F6.mul x y = some r ∧ W64 r ∧ nanB r = false ∧ ky r = sgK x y := by
 obtain ⟨w1, w2, w3⟩ := write_inf (sgnB x ^^ sgnB y)
 refine ⟨F6.write (.infinity (sgnB x ^^ sgnB y)), ?_, w1, w2, by rw [w3]; exact xor_sgK hx hy x0 y0⟩
 unfold Ieee.Format.mul
 cases fx : finB x
 ·rw [inf_read hx nx fx]
  cases fy : finB y
  ·rw [inf_read hy ny fy]; rfl
  ·rw [read_fin hy fy]
   unfold Ieee.Datum.product
   simp only [if_neg (mant_ne hy fy y0).2]; rfl
 ·have fy : finB y = false := by rcases h with h | h; rw [fx] at h; cases h; exact h
  rw [read_fin hx fx, inf_read hy ny fy]
  unfold Ieee.Datum.product
  simp only [if_neg (mant_ne hx fx x0).2, Option.map_some]
  rw [Bool.xor_comm]
end
end Go.Proofs.YthkhignbmefmjaaGreatDoor
