/- Walks: the exact sum of a list of numbers. -/
import Derived.Test.YtloohbkceppocaaGreatDoorGM
namespace Go.Proofs.YtloohbkceppocaaGreatDoor
open Go.RowKit

/-- The state of the loops of Sum and Dot: the result's block; the sum's block and its whole part. -/
structure AccRel (w0 wr : World) (bb : Nat) (z e : Int) (p : Nat) : Prop where
  res : BlkT wr w0.heap.size 98 #[.bool false, .slice none 0 0, .int .i64 0]
  box : BlkT wr bb 132 #[.pointer (some ⟨p, 0, none⟩), .int .i64 e]
  num : IntAt wr p 0 z
  below : Below w0.heap.size w0 wr
  lt : w0.heap.size < bb

theorem AccRel.later {w0 wr w2 : World} {bb : Nat} {z e : Int} {p : Nat} (h : AccRel w0 wr bb z e p) (hb : Below wr.heap.size wr w2) : AccRel w0 w2 bb z e p :=
  ⟨h.res.below hb, h.box.below hb, h.num.below hb, h.below.trans (hb.mono h.below.size), h.lt⟩

theorem IntAt.ne_box {w : World} {p b t : Nat} {z : Int} {x y : Value} {a : Addr} (h : IntAt w p 0 z) (hb : BlkT w b t #[x, y]) (hx : x = .pointer (some a)) : p ≠ b := by
  intro e
  subst e
  have h1 := h.2.1
  have h2 := hb.cell 0
  rw [h2, hx] at h1
  simp at h1

theorem AccRel.put {w0 wr : World} {bb : Nat} {z e y f : Int} {p q : Nat} (h : AccRel w0 wr bb z e p) (hq : IntAt wr q 0 y) :
    AccRel w0 ((wr.setCell ⟨bb, 0, none⟩ (.pointer (some ⟨q, 0, none⟩))).setCell ⟨bb, 1, none⟩ (.int .i64 f)) bb y f q := by
  have hne : q ≠ bb := IntAt.ne_box hq h.box rfl
  have h1 := h.box.set (i := 0) (.pointer (some ⟨q, 0, none⟩))
  have h2 := h1.set (i := 1) (.int .i64 f)
  have hl := h.lt
  refine ⟨(h.res.setOther (by omega) _).setOther (by omega) _, ?_, (hq.setOther h.box objT_exact hne _).setOther h1 objT_exact hne _, (h.below.setCell (Nat.le_of_lt hl) _).setCell (Nat.le_of_lt hl) _, hl⟩
  simpa using h2

theorem AccRel.start {w0 w1 : World} (hr : BlkT w1 w0.heap.size 98 #[.bool false, .slice none 0 0, .int .i64 0]) (hb : Below w0.heap.size w0 w1) :
    AccRel w0 ((w1.alloc (.cells #[.bool false, .slice none 0 0] 157)).alloc (.cells #[.pointer (some ⟨w1.heap.size, 0, none⟩), .int .i64 0] 132)) (w1.heap.size + 1) 0 0 w1.heap.size :=
  ⟨hr.below (below2 _ _ _), BlkT.new1 _ _ _ _, (IntK.zero w1 _ objT_int).below (below1 _ _), hb.trans ((below2 _ _ _).mono hb.size), by have := hr.lt; omega⟩

theorem bl_hvZ (z : Int) : bl (hvZ z).natAbs ≤ bl z.natAbs := bl_mono hvZ_natAbs_le

theorem hvE_bd (z e : Int) : e ≤ hvE z e ∧ hvE z e ≤ e + bl z.natAbs := by
  unfold hvE; have := tzb_le (N := z.natAbs); omega

theorem lng_small {z e : Int} (h1 : -100000 ≤ e) (h2 : e + bl z.natAbs ≤ 100000) (h3 : bl z.natAbs ≤ 65536) : lngB z e = false := by
  unfold lngB
  have := bl_hvZ z
  have := hvE_bd z e
  rw [decide_eq_false (by omega), decide_eq_false (by omega), decide_eq_false (by omega)]; rfl

end Go.Proofs.YtloohbkceppocaaGreatDoor
