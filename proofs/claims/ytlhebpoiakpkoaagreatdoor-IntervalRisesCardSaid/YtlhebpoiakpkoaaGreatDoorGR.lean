/- Walks: numbers of bits; the references' exact sums. Printed by wip/gen/rx8.py. -/
import Derived.Test.YtlhebpoiakpkoaaGreatDoorGQ
import Derived.Test.YtlhebpoiakpkoaaGreatDoorGN
section
namespace Go.Proofs.YtlhebpoiakpkoaaGreatDoor
open Go.RowKit

/-- A slice of words of 64 bits. -/
def USl (w : World) (v : Value) (l : List Nat) : Prop :=
  ∃ ao cap, v = .slice ao l.length cap ∧ l.length ≤ cap ∧ l.length ≤ 1099511627776 ∧ (∀ x ∈ l, x < 18446744073709551616) ∧
    (0 < l.length → ∃ b off, ao = some ⟨b, off, none⟩ ∧ b < w.heap.size ∧ ∀ i (h : i < l.length), w.cell? ⟨b, off + i, none⟩ = some (.int .u64 l[i]))

theorem USl.below {w w' : World} {v : Value} {l : List Nat} (h : USl w v l) (hb : Below w.heap.size w w') : USl w' v l := by
  obtain ⟨ao, cap, h1, h2, h3, h4, h5⟩ := h
  refine ⟨ao, cap, h1, h2, h3, h4, fun h0 => ?_⟩
  obtain ⟨b, off, e, hlt, hc⟩ := h5 h0
  exact ⟨b, off, e, Nat.lt_of_lt_of_le hlt hb.size, fun i hi => (hb.cell (p := ⟨b, off + i, none⟩) hlt).trans (hc i hi)⟩

def fls64 (l : List Nat) : List Value := l.map fun (x : Nat) => Value.float .f64 x

theorem FSl.of_owns {w : World} {base t : Nat} {v : Value} {l : List Nat} (h : w.ownsRow base t 1 v l.length (fls64 l)) (hn : l.length ≤ 1099511627776) (hx : ∀ x ∈ l, x < 18446744073709551616) : FSl w v l := by
  obtain ⟨h1, ⟨rfl, h0⟩ | ⟨g, cap, cur, rfl, hg, hh, hcap, hmax, hcs, ht⟩⟩ := h
  · exact ⟨none, 0, by rw [h0], by omega, hn, hx, fun h => absurd h (by omega)⟩
  · refine ⟨_, cap, rfl, hcap, hn, hx, fun _ => ⟨g, 0, rfl, (Array.getElem?_eq_some_iff.1 hh).1, fun i hi => ?_⟩⟩
    have h2 : (fls64 l)[i]? = some (.float .f64 l[i]) := by unfold fls64; rw [List.getElem?_map, List.getElem?_eq_getElem hi]; rfl
    rw [← ht, List.getElem?_take_of_lt (by omega)] at h2
    simp only [World.cell?, hh, Nat.zero_add]
    simpa using h2

end Go.Proofs.YtlhebpoiakpkoaaGreatDoor
end

/- Walks: an answer against the references', an error or not; lists of two lengths. -/
section
namespace Go.Proofs.YtlhebpoiakpkoaaGreatDoor
open Go.RowKit

/-- The answer for z * 2^e, or an error's number. -/
def ResIs (bad z e : Int) (w : World) (d : Value) (k : Int) : Prop := (bad = 0 ∧ DyIs z e w d k) ∨ (bad ≠ 0 ∧ d = .agg #[.bool false, .slice none 0 0, .int .i64 0] ∧ k = bad)

theorem ResIs.below {bad z e : Int} {w w' : World} {d : Value} {k : Int} (h : ResIs bad z e w d k) (hb : Below w.heap.size w w') : ResIs bad z e w' d k := by
  rcases h with ⟨h1, h2⟩ | h
  · exact .inl ⟨h1, h2.below hb⟩
  · exact .inr h

theorem DyAt.setOther {W : World} {v : Value} {z e : Int} {r t i : Nat} {cs : Array Value} (h : DyAt W v z e) (hr : BlkT W r t cs) (hT : ObjT t) (x : Value) : DyAt (W.setCell ⟨r, i, none⟩ x) v z e := by
  obtain ⟨sl, rfl, hraw⟩ := h
  exact ⟨sl, rfl, hraw.setOther hr hT _⟩

theorem ResIs.setOther {bad z e : Int} {W : World} {d : Value} {k : Int} {r t i : Nat} {cs : Array Value} (h : ResIs bad z e W d k) (hr : BlkT W r t cs) (hT : ObjT t) (x : Value) : ResIs bad z e (W.setCell ⟨r, i, none⟩ x) d k := by
  rcases h with ⟨h1, ⟨h2, h3, h4⟩ | h2⟩ | h
  · exact .inl ⟨h1, .inl ⟨h2, h3.setOther hr hT _, h4⟩⟩
  · exact .inl ⟨h1, .inr h2⟩
  · exact .inr h

/-- The references' exact number: where no error is, z * 2^e. -/
def XIs (bad z e : Int) (w : World) (b : Nat) (x : Int) : Prop := bad = 0 → RInt w b z ∧ x = e ∧ bl z.natAbs ≤ 68719476736 ∧ -1099511627776 ≤ e ∧ e ≤ 1099511627776

end Go.Proofs.YtlhebpoiakpkoaaGreatDoor
end
