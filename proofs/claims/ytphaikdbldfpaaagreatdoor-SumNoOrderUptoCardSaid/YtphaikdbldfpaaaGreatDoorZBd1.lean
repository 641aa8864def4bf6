/- Plain: numbers of 53 digits, rounded to the nearest: half a unit; what is lost can be had exactly; sums in order, by halves, Neumaier's. No program. -/
import Init
namespace Go.Proofs.YtphaikdbldfpaaaGreatDoor

/-- A whole number that a float of 53 digits can be, whatever its size. -/
def Rep53 (x : Int) : Prop := ∃ (m : Int) (k : Nat), x = m * 2 ^ k ∧ m.natAbs ≤ 9007199254740992

/-- r is of those the nearest to x. -/
def NearR (x r : Int) : Prop := Rep53 r ∧ ∀ y, Rep53 y → (x - r).natAbs ≤ (x - y).natAbs

theorem Rep53.neg {x : Int} (h : Rep53 x) : Rep53 (-x) := by
  obtain ⟨m, k, rfl, hm⟩ := h
  exact ⟨-m, k, by rw [Int.neg_mul], by rw [Int.natAbs_neg]; exact hm⟩

theorem Rep53.small {x : Int} (h : x.natAbs ≤ 9007199254740992) : Rep53 x := ⟨x, 0, by simp, h⟩

theorem Rep53.zero : Rep53 0 := Rep53.small (by decide)

theorem NearR.neg {x r : Int} (h : NearR x r) : NearR (-x) (-r) := by
  refine ⟨h.1.neg, fun y hy => ?_⟩
  have := h.2 (-y) hy.neg
  omega

end Go.Proofs.YtphaikdbldfpaaaGreatDoor
