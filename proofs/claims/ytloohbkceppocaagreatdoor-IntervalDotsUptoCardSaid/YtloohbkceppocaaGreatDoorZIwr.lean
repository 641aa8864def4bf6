/- Plain: how exact numbers stand to each other, told by their values; walks: the law's word 'infinite'. -/
import Derived.Test.YtloohbkceppocaaGreatDoorII
import Derived.Test.YtloohbkceppocaaGreatDoorZBks
import Derived.Test.YtloohbkceppocaaGreatDoorZRk3
import Derived.Test.YtloohbkceppocaaGreatDoorGV
namespace Go.Proofs.YtloohbkceppocaaGreatDoor
open Go.RowKit

theorem plE_in {z e y f a b : Int} (h1 : a ≤ e) (h2 : e ≤ b) (h3 : a ≤ f) (h4 : f ≤ b) : a ≤ plE z e y f ∧ plE z e y f ≤ b := by
  unfold plE; split
  · omega
  · split <;> omega

theorem sc_pos {M z e : Int} : (0 < sc M z e ↔ 0 < z) ∧ (sc M z e < 0 ↔ z < 0) := by
  have h : (0 : Int) < 2 ^ (e + M).toNat := Int.pow_pos (by decide)
  unfold sc
  refine ⟨⟨fun h1 => ?_, fun h1 => Int.mul_pos h1 h⟩, fun h1 => ?_, fun h1 => Int.mul_neg_of_neg_of_pos h1 h⟩
  · rcases Int.lt_or_le 0 z with h2 | h2
    · exact h2
    · have := Int.mul_nonpos_of_nonpos_of_nonneg h2 (Int.le_of_lt h); omega
  · rcases Int.lt_or_le z 0 with h2 | h2
    · exact h2
    · have := Int.mul_nonneg h2 (Int.le_of_lt h); omega

theorem sign_iff (z : Int) : (z.sign ≤ 0 ↔ z ≤ 0) ∧ (0 ≤ z.sign ↔ 0 ≤ z) ∧ (z.sign < 0 ↔ z < 0) ∧ (0 < z.sign ↔ 0 < z) := by
  rcases Int.lt_trichotomy z 0 with h | h | h
  · rw [Int.sign_eq_neg_one_of_neg h]; omega
  · rw [h]; decide
  · rw [Int.sign_eq_one_of_pos h]; omega

/-- How one exact number stands to another one. -/
theorem cmp_sc {z e y f M : Int} (h1 : 0 ≤ e + M) (h2 : 0 ≤ f + M) :
    ((plZ z e (-y) f).sign ≤ 0 ↔ sc M z e ≤ sc M y f) ∧ (0 ≤ (plZ z e (-y) f).sign ↔ sc M y f ≤ sc M z e) ∧ ((plZ z e (-y) f).sign < 0 ↔ sc M z e < sc M y f) ∧ (0 < (plZ z e (-y) f).sign ↔ sc M y f < sc M z e) := by
  have h3 := sc_pl (M := M) (z := z) (e := e) (y := -y) (f := f) h1 h2
  have h4 := sc_pos (M := M) (z := plZ z e (-y) f) (e := plE z e (-y) f)
  have h5 := sign_iff (plZ z e (-y) f)
  have h6 : sc M (-y) f = -sc M y f := by unfold sc; rw [Int.neg_mul]
  rw [h3, h6] at h4
  omega

set_option maxRecDepth 100000 in
theorem linf_any (x : Nat) (w : World) (hx : W64 x) (nx : nanB x = false) : Calls Tryz.prog 105 #[.float .f64 x] w (Gives (.bool (!finB x)) w) := by
  have HI := Lib.hid fun W => isInf_all x W hx
  have he : decide (x % kSign = kInf) = !finB x := by
    rcases fin_word (num_of nx) with ⟨h1, h2⟩ | ⟨h1, h2⟩
    · rw [h1]; exact decide_eq_false (by unfold kInf at *; omega)
    · rw [h1]; exact decide_eq_true h2
  rw [he] at HI
  generalize (!finB x) = b at *
  clear he hx nx
  go_enter Tryz.func105, Tryz.ntmps105
  go_wp2_with fail
  refine (HI.out _).mono ?_
  rintro e1 w1 ⟨rfl, hb1⟩
  go_wp2
  go_ret
  exact ⟨rfl, hb1⟩

end Go.Proofs.YtloohbkceppocaaGreatDoor
