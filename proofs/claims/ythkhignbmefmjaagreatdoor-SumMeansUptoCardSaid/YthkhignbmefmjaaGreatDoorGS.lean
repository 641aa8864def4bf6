/- What a row's condition on both tables of math/bits gives a walk. -/
import Derived.Test.YthkhignbmefmjaaGreatDoorGL
import Derived.Test.YthkhignbmefmjaaGreatDoorGO
import Derived.Deep.DeepHandedRow
import Derived.Test.YthkhignbmefmjaaGreatDoorRows
namespace Go.Proofs.YthkhignbmefmjaaGreatDoor
section
open Go.ChangeShapes Go.WideShapes Go.ChangeAt Go.RowKit
theorem gone_of_cell {W : World} {g : Nat} {v : Value} (h0 : W.cell? ⟨g, 0, none⟩ = some v) : g < W.heap.size := by
 unfold World.cell? at h0
 cases hh : W.heap[g]? with
 | none => simp [hh] at h0
 | some o => exact (Array.getElem?_eq_some_iff.1 hh).1
theorem laid_tail {P : Program} {n : String} {d : DataW Unit} {r : List (String × DataW Unit)} {w : World} (h : laidMet P ((n, d) :: r) w) : laidMet P r w := by
 obtain ⟨ps, ⟨g, t, cs, fuel, p, q, -, -, -, -, hr, rfl⟩, hn, hc⟩ := h
 exact ⟨q, hr, (List.nodup_append.1 hn).2.1, fun b off hm => hc b off (List.mem_append_right _ hm)⟩
def laidL2 : List (String × DataW Unit) := [("math/bits.deBruijn32tab", Rows.laid_math_bits_deBruijn32tab), ("math/bits.deBruijn64tab", Rows.laid_math_bits_deBruijn64tab)]
theorem laid_is2 : laidL2 = [("math/bits.deBruijn32tab", Lib.tabData .u8 (Lib.deBruijn32tab.map fun (n : Nat) => (n : Int))), ("math/bits.deBruijn64tab", Lib.tabData .u8 (Lib.deBruijn64tab.map fun (n : Nat) => (n : Int)))] := by rfl
theorem tabs_of_laid {W : World} (h : laidMetH Tryz.prog laidL2 W) : (Tab64 W ∧ 1 < W.heap.size) ∧ Tab32 W ∧ 2 < W.heap.size := by
 rw [MakeChecks.laidMetH_plain _ _ _ (by kernel_rfl), laid_is2] at h
 have hg : Tryz.prog.globalNamed "math/bits.deBruijn32tab" = some 2 := by kernel_rfl
 have hg6 : Tryz.prog.globalNamed "math/bits.deBruijn64tab" = some 1 := by kernel_rfl
 have ht := Lib.tabIs_of_head hg (show (Tryz.prog.globals[2]?).map (·.type) = some 182 by kernel_rfl) Tryz.underlying182 Tryz.underlying5 (by kernel_rfl) (by kernel_rfl) h
 have ht6 := Lib.tabIs_of_head hg6 (show (Tryz.prog.globals[1]?).map (·.type) = some 181 by kernel_rfl) Tryz.underlying181 Tryz.underlying5 (by kernel_rfl) (by kernel_rfl) (laid_tail h)
 have hT : Tab32 W := by
  intro j hj
  have := ht.cell hg j (by simpa using hj)
  rw [this]
  congr 2
  simp only [List.getD_eq_getElem?_getD, List.getElem?_map]
  cases Lib.deBruijn32tab[j]? <;> rfl
 have hT6 : Tab64 W := by
  intro j hj
  have := ht6.cell hg6 j (by simpa using hj)
  rw [this]
  congr 2
  simp only [List.getD_eq_getElem?_getD, List.getElem?_map]
  cases Lib.deBruijn64tab[j]? <;> rfl
 exact ⟨⟨hT6, gone_of_cell (hT6 0 (by decide))⟩, hT, gone_of_cell (hT 0 (by decide))⟩
end
section
theorem bulk_one {H : Type} (d : DataW H) : 1 ≤ Rows.uptoBulk d := by
 cases d with
 | lit l => cases l <;> simp [Rows.uptoBulk]
 | nil => simp [Rows.uptoBulk]
 | ptr d => simp [Rows.uptoBulk]
 | slice elems spare => simp [Rows.uptoBulk]
 | agg parts => simp [Rows.uptoBulk]
 | iface t d => simp [Rows.uptoBulk]
 | map entries => simp [Rows.uptoBulk]
 | held h => simp [Rows.uptoBulk]
theorem bulk_part {H : Type} {d : DataW H} {l : List (DataW H)} (h : d ∈ l) : Rows.uptoBulk d ≤ Rows.uptoBulkAll l := by
 induction l with
 | nil => cases h
 | cons x r ih =>
  simp only [Rows.uptoBulkAll]
  cases List.mem_cons.1 h with
  | inl e => subst e; omega
  | inr e => have := ih e; omega
theorem bulk_len {H : Type} (l : List (DataW H)) : l.length ≤ Rows.uptoBulkAll l := by
 induction l with
 | nil => simp [Rows.uptoBulkAll]
 | cons x r ih => have := bulk_one x; simp only [Rows.uptoBulkAll, List.length_cons]; omega
theorem bulk_slice {H : Type} (elems spare : List (DataW H)) : elems.length + 1 ≤ Rows.uptoBulk (.slice elems spare) := by
 have h1 := bulk_len elems
 simp only [Rows.uptoBulk]
 omega
theorem bulk_bound {H : Type} {l : List (DataW H)} (hk : Rows.uptoSmall H l = true) : Rows.uptoBulkAll l ≤ 1048576 := by
 have h : decide (Rows.uptoBulkAll l ≤ 1048576) = true := hk
 exact of_decide_eq_true h
end
end Go.Proofs.YthkhignbmefmjaaGreatDoor
