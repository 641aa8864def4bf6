/- Lists of ends out of their reading. -/
import Derived.Test.YtloohbkceppocaaGreatDoorGY
import Derived.Test.YtloohbkceppocaaGreatDoorIM
import Derived.Deep.SlicePairs
namespace Go.Proofs.YtloohbkceppocaaGreatDoor
open Go.ChangeShapes Go.WideShapes Go.ChangeAt Go.RowKit
def wdOf : Value → Nat | .int _ z => z.toNat | _ => 0
set_option maxRecDepth 100000 in
theorem esl_of {H : Type} {enc : TypeId × Value → H} {W : World} {a0 : Option Addr} {len cap : Nat} {d : DataW H} {p : List MemPlace}
  (h : DataW.Trod enc Tryz.prog W 0 (fun _ => true) true 22 (.slice a0 len cap) d p) (hlt : ∀ x ∈ p, x.block < W.heap.size) (hb : Rows.uptoBulk d ≤ 1048576) : ∃ l, ESl W (.slice a0 len cap) l := by
 obtain ⟨fuel, hf⟩ := h
 rcases Go.Deep.open_slice_pairs Tryz.underlying22 Tryz.underlying37 (by kernel_rfl) rfl rfl (by kernel_rfl) (by kernel_rfl) hf with ⟨hcs, hx⟩ | ⟨a, len', cap', m, n, V0, V1, D0, D1, P0, P1, hcs, _, hl, hm, hme, hx, hcell⟩
 ·simp [Value.cells] at hcs
  obtain ⟨rfl, rfl, rfl⟩ := hcs
  exact ⟨[], none, 0, rfl, Nat.zero_le _, Nat.zero_le _, (fun x hx => nomatch hx), fun h => absurd h (by simp)⟩
 ·simp [Value.cells] at hcs
  obtain ⟨rfl, rfl, rfl⟩ := hcs
  simp only [Prod.mk.injEq] at hx
  obtain ⟨rfl, rfl⟩ := hx
  simp only [if_true] at hme
  subst hme
  have hlen := bulk_slice (H := H) ((List.range len).map fun i => DataW.agg [D0 i, D1 i]) ((List.range (m - len)).map fun j => DataW.agg [D0 (len + j), D1 (len + j)])
  have hll : ((List.range len).map fun i => DataW.agg [D0 i, D1 i]).length = len := by simp
  have hw : ∀ i, i < len → V0 i = .int .u64 (wdOf (V0 i) : Nat) ∧ V1 i = .int .u64 (wdOf (V1 i) : Nat) ∧ wdOf (V0 i) < 18446744073709551616 ∧ wdOf (V1 i) < 18446744073709551616 := by
   intro i hi
   obtain ⟨-, -, h0, h1⟩ := hcell i (by omega)
   obtain ⟨z, hc0, -, hw0⟩ := DataW.trod_int Tryz.underlying31 h0
   obtain ⟨y, hc1, -, hw1⟩ := DataW.trod_int Tryz.underlying31 h1
   simp only [List.cons.injEq, and_true] at hc0 hc1
   obtain ⟨x, rfl, hx⟩ := u64_of hw0
   obtain ⟨t, rfl, ht⟩ := u64_of hw1
   rw [hc0, hc1]
   exact ⟨by simp [wdOf], by simp [wdOf], by simpa [wdOf] using hx, by simpa [wdOf] using ht⟩
  refine ⟨(List.range len).map fun i => (wdOf (V0 i), wdOf (V1 i)), some a, m, by simp, by simp; omega, by simp; omega, fun x hx => ?_, fun h0 => ?_⟩
  ·obtain ⟨i, hi, rfl⟩ := List.mem_map.1 hx
   have := hw i (List.mem_range.1 hi)
   exact this.2.2
  ·have hpos : 0 < len := by simpa using h0
   obtain ⟨b, off, spot⟩ := a
   have hspot : spot = none := by simpa [Addr.add] using World.cell?_spot (hcell 0 (by omega)).1
   subst hspot
   refine ⟨b, off, rfl, hlt (.cell b off) (List.mem_append_left _ (MemPlace.mem_row.2 ⟨0, by omega, by simp⟩)), fun i hi => ?_⟩
   have hi2 : i < len := by simpa using hi
   obtain ⟨c0, c1, -, -⟩ := hcell i (by omega)
   obtain ⟨w0, w1, -, -⟩ := hw i hi2
   rw [add_plain] at c0 c1
   rw [w0] at c0
   rw [w1] at c1
   simp only [List.getElem_map, List.getElem_range]
   exact ⟨c0, c1⟩
end Go.Proofs.YtloohbkceppocaaGreatDoor
