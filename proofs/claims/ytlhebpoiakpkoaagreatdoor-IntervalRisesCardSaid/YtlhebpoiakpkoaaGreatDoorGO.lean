/- Walks: the references' whole numbers (binnacleref00): Neg, Abs, Lsh, Mul, sums. Printed by wip/gen/rf6.py. -/
import Derived.Test.YtlhebpoiakpkoaaGreatDoorGF
import Derived.Test.YtlhebpoiakpkoaaGreatDoorGK
import Derived.Test.YtlhebpoiakpkoaaGreatDoorGC
namespace Go.Proofs.YtlhebpoiakpkoaaGreatDoor
open Go.RowKit

theorem PutsB.fresh {b o B : Nat} {z : Int} {v : Value} {w w' : World} {e : Ending} (h : PutsB b o z v w e w') (hf : FrS B v) : ∀ a n c, w'.cell? ⟨b, o + 1, none⟩ = some (.slice (some a) n c) → B ≤ a.block := by
  intro a n c hc
  obtain ⟨-, ao, m, n', c', rfl, h2⟩ := h
  rw [hc] at h2
  simp only [Option.some.injEq, Value.slice.injEq] at h2
  exact hf a m c' (by rw [← h2.1])

end Go.Proofs.YtlhebpoiakpkoaaGreatDoor
