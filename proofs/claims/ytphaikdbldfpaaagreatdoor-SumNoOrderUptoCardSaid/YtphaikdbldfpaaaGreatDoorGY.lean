/- Walks: whether any dyad may be (dyad.May, the references' May). Printed by wip/gen/may.py. -/
import Derived.Test.YtphaikdbldfpaaaGreatDoorGR
import Derived.Test.YtphaikdbldfpaaaGreatDoorGS
import Derived.Lib.SmallJoins
section
namespace Go.Proofs.YtphaikdbldfpaaaGreatDoor
open Go.RowKit

/-- Any dyad in memory. -/
def DyRaw (w : World) (v : Value) (neg : Bool) (n N : Nat) (e : Int) : Prop := ∃ sl, v = DyV neg sl e ∧ Raw .u32 32 w sl n N ∧ n ≤ 1073741824

theorem DyRaw.below {w w' : World} {v : Value} {neg : Bool} {n N : Nat} {e : Int} (h : DyRaw w v neg n N e) (hb : Below w.heap.size w w') : DyRaw w' v neg n N e := by
  obtain ⟨sl, h1, h2, h3⟩ := h; exact ⟨sl, h1, h2.below hb, h3⟩

/-- The number of a sign and a magnitude. -/
def sgZ (neg : Bool) (N : Nat) : Int := if neg then -(N : Int) else N

theorem sgZ_abs (neg : Bool) (N : Nat) : (sgZ neg N).natAbs = N := by unfold sgZ; split <;> omega

end Go.Proofs.YtphaikdbldfpaaaGreatDoor
end

/- Walks: words that were handed in (nothing is known of their block's type): twin, the references' words, In, May. Printed by wip/gen/inp.py. -/
section
namespace Go.Proofs.YtphaikdbldfpaaaGreatDoor
open Go.RowKit

/-- As Raw .u32 32, but that nothing is said of the block's type. -/
def RawI (w : World) (v : Value) (n N : Nat) : Prop :=
  ∃ ao cap, v = .slice ao n cap ∧ n ≤ cap ∧ N < 2 ^ (32 * n) ∧ n ≤ 1099511627776 ∧
    (0 < n → ∃ b off, ao = some ⟨b, off, none⟩ ∧ b < w.heap.size ∧ ∀ i, i < n → w.cell? ⟨b, off + i, none⟩ = some (.int .u32 (dg 32 N i : Nat)))

theorem RawI.below {w w' : World} {v : Value} {n N : Nat} (h : RawI w v n N) (hb : Below w.heap.size w w') : RawI w' v n N := by
  obtain ⟨ao, cap, h1, h2, h3, h4, h5⟩ := h
  refine ⟨ao, cap, h1, h2, h3, h4, fun h0 => ?_⟩
  obtain ⟨b, off, e, hlt, hc⟩ := h5 h0
  exact ⟨b, off, e, Nat.lt_of_lt_of_le hlt hb.size, fun i hi => (hb.cell (p := ⟨b, off + i, none⟩) hlt).trans (hc i hi)⟩

/-- A dyad that was handed in. -/
def DyIn (w : World) (v : Value) (neg : Bool) (n N : Nat) (e : Int) : Prop := ∃ sl, v = DyV neg sl e ∧ RawI w sl n N ∧ n ≤ 1073741824

theorem DyIn.below {w w' : World} {v : Value} {neg : Bool} {n N : Nat} {e : Int} (h : DyIn w v neg n N e) (hb : Below w.heap.size w w') : DyIn w' v neg n N e := by
  obtain ⟨sl, h1, h2, h3⟩ := h; exact ⟨sl, h1, h2.below hb, h3⟩

end Go.Proofs.YtphaikdbldfpaaaGreatDoor
end

/- Arguments out of their readings: dyads, lists of words, whole numbers. -/
section
namespace Go.Proofs.YtphaikdbldfpaaaGreatDoor
open Go.ChangeShapes Go.WideShapes Go.ChangeAt Go.RowKit

theorem Tryz.laidOut : laidOutB Tryz.prog = true := by kernel_rfl

set_option maxRecDepth 100000 in
/-- A list of words out of its reading. -/
theorem usl_of {H : Type} {enc : TypeId × Value → H} {W : World} {a0 : Option Addr} {len cap : Nat} {d : DataW H} {p : List MemPlace}
    (h : DataW.Trod enc Tryz.prog W 0 (fun _ => true) true 22 (.slice a0 len cap) d p) (hlt : ∀ x ∈ p, x.block < W.heap.size) (hb : Rows.uptoBulk d ≤ 1048576) : ∃ l, USl W (.slice a0 len cap) l := by
  obtain ⟨fuel, hf⟩ := h
  rcases open_ints Tryz.underlying22 Tryz.underlying34 (show Tryz.prog.cellsOf 34 = 1 by kernel_rfl) hf with ⟨hcs, hx⟩ | ⟨a, len', cap', zs, hcs, _, hl, hm, hz, hx, hcell, hwz⟩
  · simp [Value.cells] at hcs
    obtain ⟨rfl, rfl, rfl⟩ := hcs
    exact ⟨[], none, 0, rfl, Nat.zero_le _, Nat.zero_le _, (fun x hx => nomatch hx), fun h => absurd h (by simp)⟩
  · simp [Value.cells] at hcs
    obtain ⟨rfl, rfl, rfl⟩ := hcs
    simp only [Prod.mk.injEq] at hx
    obtain ⟨rfl, rfl⟩ := hx
    simp only [if_true] at hz
    have hlen := bulk_slice (H := H) (lits .u64 (zs.take len)) (lits .u64 (zs.drop len))
    have hll : (lits (H := H) .u64 (zs.take len)).length = len := by unfold lits; simp; omega
    have hwf : ∀ z ∈ zs, 0 ≤ z ∧ z ≤ 18446744073709551615 := fun z hz => by simpa [Lit.wf, IntKind.min, IntKind.max, IntKind.signed, IntKind.bits] using hwz z hz
    refine ⟨(zs.take len).map Int.toNat, some a, cap, by simp; omega, by simp; omega, by simp; omega, fun x hx => ?_, fun h0 => ?_⟩
    · obtain ⟨z, hz, rfl⟩ := List.mem_map.1 hx
      have := hwf z (List.mem_of_mem_take hz)
      omega
    · have hpos : 0 < zs.length := by simp at h0; omega
      obtain ⟨b, off, rfl, hc⟩ := ints_at hcell hpos
      refine ⟨b, off, rfl, hlt (.cell b off) (MemPlace.mem_row.2 ⟨0, by omega, by simp⟩), fun i hi => ?_⟩
      have hi2 : i < len := by simp at hi; omega
      rw [hc i (by omega)]
      have := hwf (zs.getD i 0) (by rw [List.getD_eq_getElem?_getD, List.getElem?_eq_getElem (by omega)]; exact List.getElem_mem _)
      simp only [List.getElem_map, List.getElem_take]
      rw [List.getD_eq_getElem?_getD, List.getElem?_eq_getElem (by omega), Option.getD_some] at this ⊢
      rw [Int.toNat_of_nonneg this.1]

end Go.Proofs.YtphaikdbldfpaaaGreatDoor
end
