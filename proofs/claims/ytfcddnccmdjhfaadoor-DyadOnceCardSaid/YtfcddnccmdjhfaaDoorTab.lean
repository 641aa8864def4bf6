/- What the row's condition on the table of math/bits gives a walk. -/
import Derived.Test.YtfcddnccmdjhfaaDoorBits
import Derived.Test.YtfcddnccmdjhfaaDoorTie
import Derived.Test.YtfcddnccmdjhfaaDoorCards
import Derived.ProofKit
import Derived.OpenShut
import Derived.Handy
import Derived.Lay
import Derived.LaidMore
import Derived.Lib.LaidTab
import Derived.SevenTiedAt
namespace Go.Proofs.YtfcddnccmdjhfaaDoor
open Go.ChangeShapes Go.WideShapes Go.ChangeAt Go.RowKit

theorem own : ownKnob Tryd.prog.godebug = none := by kernel_rfl

/-- The listed variable. -/
def laidL : List (String × DataW Unit) := [("math/bits.deBruijn64tab", Rows.laid_math_bits_deBruijn64tab)]

theorem laid_is : laidL = [("math/bits.deBruijn64tab", Lib.tabData .u8 (Lib.deBruijn64tab.map fun (n : Nat) => (n : Int)))] := by rfl

theorem tab_of_laid {W : World} (h : laidMetH Tryd.prog laidL W) : Tab64 W ∧ 1 < W.heap.size := by
  rw [MakeChecks.laidMetH_plain _ _ _ (by kernel_rfl), laid_is] at h
  have hg : Tryd.prog.globalNamed "math/bits.deBruijn64tab" = some 1 := by kernel_rfl
  have ht := Lib.tabIs_of_head hg (show (Tryd.prog.globals[1]?).map (·.type) = some 123 by kernel_rfl) Tryd.underlying123 Tryd.underlying5 (by kernel_rfl) (by kernel_rfl) h
  have hT : Tab64 W := by
    intro j hj
    have := ht.cell hg j (by simpa using hj)
    rw [this]
    congr 2
    simp only [List.getD_eq_getElem?_getD, List.getElem?_map]
    cases Lib.deBruijn64tab[j]? <;> rfl
  refine ⟨hT, ?_⟩
  have h0 := hT 0 (by decide)
  unfold World.cell? at h0
  cases hh : W.heap[1]? with
  | none => simp [hh] at h0
  | some o => exact (Array.getElem?_eq_some_iff.1 hh).1

end Go.Proofs.YtfcddnccmdjhfaaDoor
