/- Walks: whether any dyad may be (dyad.May, the references' May). Printed by wip/gen/may.py. -/
import Derived.Test.YthkhignbmefmjaaGreatDoorGR
import Derived.Test.YthkhignbmefmjaaGreatDoorGS
import Derived.Lib.SmallJoins
namespace Go.Proofs.YthkhignbmefmjaaGreatDoor
section
open Go.RowKit
def sgZ (neg : Bool) (N : Nat) : Int := if neg then -(N : Int) else N
theorem sgZ_abs (neg : Bool) (N : Nat) : (sgZ neg N).natAbs = N := by unfold sgZ; split <;> omega
end
section
open Go.ChangeShapes Go.WideShapes Go.ChangeAt Go.RowKit
theorem Tryz.laidOut : laidOutB Tryz.prog = true := by kernel_rfl
set_option maxRecDepth 100000 in
theorem usl_of {H : Type} {enc : TypeId × Value → H} {W : World} {a0 : Option Addr} {len cap : Nat} {d : DataW H} {p : List MemPlace}
  (h : DataW.Trod enc Tryz.prog W 0 (fun _ => true) true 22 (.slice a0 len cap) d p) (hlt : ∀ x ∈ p, x.block < W.heap.size) (hb : Rows.uptoBulk d ≤ 1048576) : ∃ l, USl W (.slice a0 len cap) l := by
 obtain ⟨fuel, hf⟩ := h
 rcases open_ints Tryz.underlying22 Tryz.underlying34 (show Tryz.prog.cellsOf 34 = 1 by kernel_rfl) hf with ⟨hcs, hx⟩ | ⟨a, len', cap', zs, hcs, _, hl, hm, hz, hx, hcell, hwz⟩
 ·simp [Value.cells] at hcs
  obtain ⟨rfl, rfl, rfl⟩ := hcs
  exact ⟨[], none, 0, rfl, Nat.zero_le _, Nat.zero_le _, (fun x hx => nomatch hx), fun h => absurd h (by simp)⟩
 ·simp [Value.cells] at hcs
  obtain ⟨rfl, rfl, rfl⟩ := hcs
  simp only [Prod.mk.injEq] at hx
  obtain ⟨rfl, rfl⟩ := hx
  simp only [if_true] at hz
  have hlen := bulk_slice (H := H) (lits .u64 (zs.take len)) (lits .u64 (zs.drop len))
  have hll : (lits (H := H) .u64 (zs.take len)).length = len := by unfold lits; simp; omega
  have hwf : ∀ z ∈ zs, 0 ≤ z ∧ z ≤ 18446744073709551615 := fun z hz => by simpa [Lit.wf, IntKind.min, IntKind.max, IntKind.signed, IntKind.bits] using hwz z hz
  refine ⟨(zs.take len).map Int.toNat, some a, cap, by simp; omega, by simp; omega, by simp; omega, fun x hx => ?_, fun h0 => ?_⟩
  ·obtain ⟨z, hz, rfl⟩ := List.mem_map.1 hx
   have := hwf z (List.mem_of_mem_take hz)
   omega
  ·have hpos : 0 < zs.length := by simp at h0; omega
   obtain ⟨b, off, rfl, hc⟩ := ints_at hcell hpos
   refine ⟨b, off, rfl, hlt (.cell b off) (MemPlace.mem_row.2 ⟨0, by omega, by simp⟩), fun i hi => ?_⟩
   have hi2 : i < len := by simp at hi; omega
   rw [hc i (by omega)]
   have := hwf (zs.getD i 0) (by rw [List.getD_eq_getElem?_getD, List.getElem?_eq_getElem (by omega)]; exact List.getElem_mem _)
   simp only [List.getElem_map, List.getElem_take]
   rw [List.getD_eq_getElem?_getD, List.getElem?_eq_getElem (by omega), Option.getD_some] at this ⊢
   rw [Int.toNat_of_nonneg this.1]
end
end Go.Proofs.YthkhignbmefmjaaGreatDoor
