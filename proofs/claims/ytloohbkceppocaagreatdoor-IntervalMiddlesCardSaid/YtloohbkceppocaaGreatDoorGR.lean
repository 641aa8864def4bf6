/- Walks: the references' numbers: Of, AllFinite, Of64. -/
import Derived.Test.YtloohbkceppocaaGreatDoorGQ
import Derived.Test.YtloohbkceppocaaGreatDoorGN
section
namespace Go.Proofs.YtloohbkceppocaaGreatDoor
open Go.RowKit

/-- The blocks of Of: the result's, the parts'. -/
def OfBox (w0 W : World) (r pb : Nat) (sg : Bool) (m : Nat) (x : Int) : Prop :=
  BlkT W r 27 #[.pointer none, .int .i64 0] ∧ BlkT W pb 70 #[.bool sg, .int .u64 m, .int .i64 x] ∧ Below w0.heap.size w0 W ∧ r = w0.heap.size ∧ r < pb

theorem OfBox.mod {w0 W V : World} {r pb ib : Nat} {sg : Bool} {m : Nat} {x : Int} (h : OfBox w0 W r pb sg m x) (hm : Mod ib 0 W V) (hi : pb < ib) : OfBox w0 V r pb sg m x := by
  obtain ⟨h1, h2, h3, rfl, h5⟩ := h
  exact ⟨h1.mod hm (by omega), h2.mod hm (by omega), hm.below h3 (by omega) h3.size, rfl, h5⟩

end Go.Proofs.YtloohbkceppocaaGreatDoor
end

/- Walks: numbers of bits; the references' exact sums. Printed by wip/gen/rx8.py. -/
section
namespace Go.Proofs.YtloohbkceppocaaGreatDoor
open Go.RowKit

/-- A slice of words of 64 bits. -/
def USl (w : World) (v : Value) (l : List Nat) : Prop :=
  ∃ ao cap, v = .slice ao l.length cap ∧ l.length ≤ cap ∧ l.length ≤ 1099511627776 ∧ (∀ x ∈ l, x < 18446744073709551616) ∧
    (0 < l.length → ∃ b off, ao = some ⟨b, off, none⟩ ∧ b < w.heap.size ∧ ∀ i (h : i < l.length), w.cell? ⟨b, off + i, none⟩ = some (.int .u64 l[i]))

theorem USl.below {w w' : World} {v : Value} {l : List Nat} (h : USl w v l) (hb : Below w.heap.size w w') : USl w' v l := by
  obtain ⟨ao, cap, h1, h2, h3, h4, h5⟩ := h
  refine ⟨ao, cap, h1, h2, h3, h4, fun h0 => ?_⟩
  obtain ⟨b, off, e, hlt, hc⟩ := h5 h0
  exact ⟨b, off, e, Nat.lt_of_lt_of_le hlt hb.size, fun i hi => (hb.cell (p := ⟨b, off + i, none⟩) hlt).trans (hc i hi)⟩

def fls64 (l : List Nat) : List Value := l.map fun (x : Nat) => Value.float .f64 x

theorem FSl.of_owns {w : World} {base t : Nat} {v : Value} {l : List Nat} (h : w.ownsRow base t 1 v l.length (fls64 l)) (hn : l.length ≤ 1099511627776) (hx : ∀ x ∈ l, x < 18446744073709551616) : FSl w v l := by
  obtain ⟨h1, ⟨rfl, h0⟩ | ⟨g, cap, cur, rfl, hg, hh, hcap, hmax, hcs, ht⟩⟩ := h
  · exact ⟨none, 0, by rw [h0], by omega, hn, hx, fun h => absurd h (by omega)⟩
  · refine ⟨_, cap, rfl, hcap, hn, hx, fun _ => ⟨g, 0, rfl, (Array.getElem?_eq_some_iff.1 hh).1, fun i hi => ?_⟩⟩
    have h2 : (fls64 l)[i]? = some (.float .f64 l[i]) := by unfold fls64; rw [List.getElem?_map, List.getElem?_eq_getElem hi]; rfl
    rw [← ht, List.getElem?_take_of_lt (by omega)] at h2
    simp only [World.cell?, hh, Nat.zero_add]
    simpa using h2

end Go.Proofs.YtloohbkceppocaaGreatDoor
end

/- Walks: the references' exact sums (binnacleref03): Sum, Dot. Printed by wip/gen/rx9.py. -/
section
namespace Go.Proofs.YtloohbkceppocaaGreatDoor
open Go.RowKit

/-- The state of the loops of Sum and Dot. -/
structure RAcc (w0 wr : World) (bb : Nat) (z e : Int) (p : Nat) : Prop where
  res : BlkT wr w0.heap.size 27 #[.pointer none, .int .i64 0]
  box : BlkT wr bb 27 #[.pointer (some ⟨p, 0, none⟩), .int .i64 e]
  num : RInt wr p z
  below : Below w0.heap.size w0 wr
  lt : w0.heap.size < bb

theorem RAcc.later {w0 wr w2 : World} {bb : Nat} {z e : Int} {p : Nat} (h : RAcc w0 wr bb z e p) (hb : Below wr.heap.size wr w2) : RAcc w0 w2 bb z e p :=
  ⟨h.res.below hb, h.box.below hb, h.num.below hb, h.below.trans (hb.mono h.below.size), h.lt⟩

theorem RAcc.put {w0 wr : World} {bb : Nat} {z e y f : Int} {p q : Nat} (h : RAcc w0 wr bb z e p) (hq : RInt wr q y) :
    RAcc w0 ((wr.setCell ⟨bb, 0, none⟩ (.pointer (some ⟨q, 0, none⟩))).setCell ⟨bb, 1, none⟩ (.int .i64 f)) bb y f q := by
  have hne : q ≠ bb := RInt.ne_box hq h.box rfl
  have h1 := h.box.set (i := 0) (.pointer (some ⟨q, 0, none⟩))
  have h2 := h1.set (i := 1) (.int .i64 f)
  have hl := h.lt
  refine ⟨(h.res.setOther (by omega) _).setOther (by omega) _, ?_, (hq.setOther h.box objT_rexact hne _).setOther h1 objT_rexact hne _, (h.below.setCell (Nat.le_of_lt hl) _).setCell (Nat.le_of_lt hl) _, hl⟩
  simpa using h2

theorem RAcc.start {w w1 : World} {q : Nat} (hb : Below (w.alloc (.cells #[.pointer none, .int .i64 0] 27)).heap.size (w.alloc (.cells #[.pointer none, .int .i64 0] 27)) w1) (hq : RInt w1 q 0) :
    RAcc w (w1.alloc (.cells #[.pointer (some ⟨q, 0, none⟩), .int .i64 0] 27)) w1.heap.size 0 0 q := by
  have hs := hb.size
  simp at hs
  exact ⟨((BlkT.new w _ _).below hb).alloc _, BlkT.new w1 _ _, hq.below (below1 _ _), ((below1 w _).trans (hb.mono (below1 w _).size)).trans ((below1 w1 _).mono (by omega)), by omega⟩

end Go.Proofs.YtloohbkceppocaaGreatDoor
end

/- Walks: an answer against the references', an error or not; lists of two lengths. -/
section
namespace Go.Proofs.YtloohbkceppocaaGreatDoor
open Go.RowKit

/-- The answer for z * 2^e, or an error's number. -/
def ResIs (bad z e : Int) (w : World) (d : Value) (k : Int) : Prop := (bad = 0 ∧ DyIs z e w d k) ∨ (bad ≠ 0 ∧ d = .agg #[.bool false, .slice none 0 0, .int .i64 0] ∧ k = bad)

theorem ResIs.below {bad z e : Int} {w w' : World} {d : Value} {k : Int} (h : ResIs bad z e w d k) (hb : Below w.heap.size w w') : ResIs bad z e w' d k := by
  rcases h with ⟨h1, h2⟩ | h
  · exact .inl ⟨h1, h2.below hb⟩
  · exact .inr h

theorem ResIs.shape {bad z e : Int} {w : World} {d : Value} {k : Int} (h : ResIs bad z e w d k) : ∃ n ao l c x, d = .agg #[.bool n, .slice ao l c, .int .i64 x] := by
  rcases h with ⟨-, h⟩ | ⟨-, rfl, -⟩
  · exact h.shape
  · exact ⟨_, _, _, _, _, rfl⟩

theorem DyAt.setOther {W : World} {v : Value} {z e : Int} {r t i : Nat} {cs : Array Value} (h : DyAt W v z e) (hr : BlkT W r t cs) (hT : ObjT t) (x : Value) : DyAt (W.setCell ⟨r, i, none⟩ x) v z e := by
  obtain ⟨sl, rfl, hraw⟩ := h
  exact ⟨sl, rfl, hraw.setOther hr hT _⟩

theorem ResIs.setOther {bad z e : Int} {W : World} {d : Value} {k : Int} {r t i : Nat} {cs : Array Value} (h : ResIs bad z e W d k) (hr : BlkT W r t cs) (hT : ObjT t) (x : Value) : ResIs bad z e (W.setCell ⟨r, i, none⟩ x) d k := by
  rcases h with ⟨h1, ⟨h2, h3, h4⟩ | h2⟩ | h
  · exact .inl ⟨h1, .inl ⟨h2, h3.setOther hr hT _, h4⟩⟩
  · exact .inl ⟨h1, .inr h2⟩
  · exact .inr h

/-- The call answers so. -/
def ResOf (bad z e : Int) (w : World) (en : Ending) (w' : World) : Prop :=
  ∃ n ao l c x k, en = .returned (.tuple #[.agg #[.bool n, .slice ao l c, .int .i64 x], .int .i64 k]) ∧ ResIs bad z e w' (.agg #[.bool n, .slice ao l c, .int .i64 x]) k ∧ Below w.heap.size w w'

theorem ResOf.of_dy {z e : Int} {w w' : World} {en : Ending} (h : DyOf z e w en w') : ResOf 0 z e w en w' := by
  obtain ⟨d, k, rfl, h1, h2⟩ := h
  obtain ⟨n, ao, l, c, x, rfl⟩ := h1.shape
  exact ⟨n, ao, l, c, x, k, rfl, .inl ⟨rfl, h1⟩, h2⟩

theorem ResOf.of_err {z e bad : Int} {w w' : World} {en : Ending} (h0 : bad ≠ 0) (h : DyErr bad w en w') : ResOf bad z e w en w' :=
  ⟨_, _, _, _, _, _, h.1, .inr ⟨h0, rfl, rfl⟩, h.2⟩

/-- The references' exact number: where no error is, z * 2^e. -/
def XIs (bad z e : Int) (w : World) (b : Nat) (x : Int) : Prop := bad = 0 → RInt w b z ∧ x = e ∧ bl z.natAbs ≤ 68719476736 ∧ -1099511627776 ≤ e ∧ e ≤ 1099511627776

end Go.Proofs.YtloohbkceppocaaGreatDoor
end
