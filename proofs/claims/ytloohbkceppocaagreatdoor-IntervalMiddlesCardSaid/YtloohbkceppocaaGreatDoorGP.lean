/- Walks: the references' exact numbers (binnacleref03). Printed by wip/gen/rx1.py. -/
import Derived.Test.YtloohbkceppocaaGreatDoorGO
import Derived.Test.YtloohbkceppocaaGreatDoorGC
section
namespace Go.Proofs.YtloohbkceppocaaGreatDoor
open Go.RowKit

theorem objT_rexact : ObjT 27 := by intro k; cases k <;> decide

/-- The call hands one of the references' exact numbers back, whose whole part is new. -/
def RxNew (z e : Int) (w : World) (en : Ending) (w' : World) : Prop :=
  ∃ b, en = .returned (ExV b e) ∧ w.heap.size ≤ b ∧ RInt w' b z ∧ Below w.heap.size w w'

/-- .. whose whole part may be an old one. -/
def RxAny (z e : Int) (w : World) (en : Ending) (w' : World) : Prop :=
  ∃ b, en = .returned (ExV b e) ∧ RInt w' b z ∧ Below w.heap.size w w'

theorem RxNew.any {z e : Int} {w w' : World} {en : Ending} (h : RxNew z e w en w') : RxAny z e w en w' := by
  obtain ⟨b, h1, _, h2, h3⟩ := h; exact ⟨b, h1, h2, h3⟩

/-- A box of an exact number and a result's block. -/
def XB1 (t : Nat) (w0 W : World) (b : Nat) (e : Int) : Prop :=
  BlkT W w0.heap.size t #[.pointer (some ⟨b, 0, none⟩), .int .i64 e] ∧ BlkT W (w0.heap.size + 1) t #[.pointer none, .int .i64 0] ∧ Below w0.heap.size w0 W

theorem XB1.lt {t : Nat} {w0 W : World} {b : Nat} {e : Int} (h : XB1 t w0 W b e) : w0.heap.size + 1 < W.heap.size := h.2.1.lt
theorem XB1.later {t : Nat} {w0 W V : World} {b : Nat} {e : Int} (h : XB1 t w0 W b e) (hb : Below W.heap.size W V) : XB1 t w0 V b e :=
  ⟨h.1.below hb, h.2.1.below hb, h.2.2.trans (hb.mono h.2.2.size)⟩
theorem XB1.mod {t ib : Nat} {w0 W V : World} {b : Nat} {e : Int} (h : XB1 t w0 W b e) (hm : Mod ib 0 W V) (hs : w0.heap.size + 1 < ib) : XB1 t w0 V b e :=
  ⟨h.1.mod hm (by omega), h.2.1.mod hm (by omega), hm.below h.2.2 (by omega) h.2.2.size⟩
theorem XB1.cells {t : Nat} {w0 W : World} {b : Nat} {e : Int} (h : XB1 t w0 W b e) : W.cell? ⟨w0.heap.size, 0, none⟩ = some (.pointer (some ⟨b, 0, none⟩)) ∧ W.cell? ⟨w0.heap.size, 1, none⟩ = some (.int .i64 e) := ⟨h.1.cell 0, h.1.cell 1⟩
theorem XB1.start0 (t : Nat) (w : World) (b : Nat) (e : Int) : XB1 t w ((w.alloc (.cells #[.pointer (some ⟨b, 0, none⟩), .int .i64 e] t)).alloc (.cells #[.pointer none, .int .i64 0] t)) b e :=
  ⟨(BlkT.new w _ _).alloc _, BlkT.new1 w _ _ _, below2 _ _ _⟩
theorem XB1.start (t : Nat) (w : World) (b : Nat) (e : Int) : XB1 t w ((w.alloc (.cells #[.pointer (some ⟨b, 0, none⟩), .int .i64 e] t)).alloc (.cells #[.pointer none, .int .i64 0] t)).drew b e :=
  (XB1.start0 t w b e).later (drew_below _)

/-- Two boxes and a result's block. -/
def XB2 (t : Nat) (w0 W : World) (b : Nat) (e : Int) (c : Nat) (f : Int) : Prop :=
  BlkT W w0.heap.size t #[.pointer (some ⟨b, 0, none⟩), .int .i64 e] ∧ BlkT W (w0.heap.size + 1) t #[.pointer (some ⟨c, 0, none⟩), .int .i64 f] ∧ BlkT W (w0.heap.size + 1 + 1) t #[.pointer none, .int .i64 0] ∧ Below w0.heap.size w0 W

theorem XB2.lt {t : Nat} {w0 W : World} {b c : Nat} {e f : Int} (h : XB2 t w0 W b e c f) : w0.heap.size + 1 + 1 < W.heap.size := h.2.2.1.lt
theorem XB2.later {t : Nat} {w0 W V : World} {b c : Nat} {e f : Int} (h : XB2 t w0 W b e c f) (hb : Below W.heap.size W V) : XB2 t w0 V b e c f :=
  ⟨h.1.below hb, h.2.1.below hb, h.2.2.1.below hb, h.2.2.2.trans (hb.mono h.2.2.2.size)⟩
theorem XB2.mod {t ib : Nat} {w0 W V : World} {b c : Nat} {e f : Int} (h : XB2 t w0 W b e c f) (hm : Mod ib 0 W V) (hs : w0.heap.size + 1 + 1 < ib) : XB2 t w0 V b e c f :=
  ⟨h.1.mod hm (by omega), h.2.1.mod hm (by omega), h.2.2.1.mod hm (by omega), hm.below h.2.2.2 (by omega) h.2.2.2.size⟩
theorem XB2.cells {t : Nat} {w0 W : World} {b c : Nat} {e f : Int} (h : XB2 t w0 W b e c f) : ((W.cell? ⟨w0.heap.size, 0, none⟩ = some (.pointer (some ⟨b, 0, none⟩)) ∧ W.cell? ⟨w0.heap.size, 1, none⟩ = some (.int .i64 e)) ∧ W.cell? ⟨w0.heap.size + 1, 0, none⟩ = some (.pointer (some ⟨c, 0, none⟩))) ∧ W.cell? ⟨w0.heap.size + 1, 1, none⟩ = some (.int .i64 f) :=
  ⟨⟨⟨h.1.cell 0, h.1.cell 1⟩, h.2.1.cell 0⟩, h.2.1.cell 1⟩
theorem XB2.start0 (t : Nat) (w : World) (b c : Nat) (e f : Int) : XB2 t w (((w.alloc (.cells #[.pointer (some ⟨b, 0, none⟩), .int .i64 e] t)).alloc (.cells #[.pointer (some ⟨c, 0, none⟩), .int .i64 f] t)).alloc (.cells #[.pointer none, .int .i64 0] t)) b e c f :=
  ⟨((BlkT.new w _ _).alloc _).alloc _, (BlkT.new1 w _ _ _).alloc _, BlkT.new2 w _ _ _ _, below3 _ _ _ _⟩
theorem XB2.start (t : Nat) (w : World) (b c : Nat) (e f : Int) : XB2 t w (((w.alloc (.cells #[.pointer (some ⟨b, 0, none⟩), .int .i64 e] t)).alloc (.cells #[.pointer (some ⟨c, 0, none⟩), .int .i64 f] t)).alloc (.cells #[.pointer none, .int .i64 0] t)).drew b e c f :=
  (XB2.start0 t w b c e f).later (drew_below _)

theorem RInt.ne_box {w : World} {p b t : Nat} {z : Int} {x y : Value} {a : Option Addr} (h : RInt w p z) (hb : BlkT w b t #[x, y]) (hx : x = .pointer a) : p ≠ b := by
  intro e; subst e
  have h1 := h.2.1
  rw [hb.cell 0, hx] at h1
  simp at h1

end Go.Proofs.YtloohbkceppocaaGreatDoor
end

/- Walks: the references' exact numbers (binnacleref03): Add, Cmp. Printed by wip/gen/rx2.py. -/
section
namespace Go.Proofs.YtloohbkceppocaaGreatDoor
open Go.RowKit

/-- Two boxes. -/
def XBB (t : Nat) (w0 W : World) (b : Nat) (e : Int) (c : Nat) (f : Int) : Prop :=
  BlkT W w0.heap.size t #[.pointer (some ⟨b, 0, none⟩), .int .i64 e] ∧ BlkT W (w0.heap.size + 1) t #[.pointer (some ⟨c, 0, none⟩), .int .i64 f] ∧ Below w0.heap.size w0 W
theorem XBB.later {t : Nat} {w0 W V : World} {b c : Nat} {e f : Int} (h : XBB t w0 W b e c f) (hb : Below W.heap.size W V) : XBB t w0 V b e c f :=
  ⟨h.1.below hb, h.2.1.below hb, h.2.2.trans (hb.mono h.2.2.size)⟩
theorem XBB.cells {t : Nat} {w0 W : World} {b c : Nat} {e f : Int} (h : XBB t w0 W b e c f) : ((W.cell? ⟨w0.heap.size, 0, none⟩ = some (.pointer (some ⟨b, 0, none⟩)) ∧ W.cell? ⟨w0.heap.size, 1, none⟩ = some (.int .i64 e)) ∧ W.cell? ⟨w0.heap.size + 1, 0, none⟩ = some (.pointer (some ⟨c, 0, none⟩))) ∧ W.cell? ⟨w0.heap.size + 1, 1, none⟩ = some (.int .i64 f) :=
  ⟨⟨⟨h.1.cell 0, h.1.cell 1⟩, h.2.1.cell 0⟩, h.2.1.cell 1⟩
theorem XBB.start (t : Nat) (w : World) (b c : Nat) (e f : Int) : XBB t w ((w.alloc (.cells #[.pointer (some ⟨b, 0, none⟩), .int .i64 e] t)).alloc (.cells #[.pointer (some ⟨c, 0, none⟩), .int .i64 f] t)).drew b e c f :=
  ⟨((BlkT.new w _ _).alloc _).below (drew_below _), (BlkT.new1 w _ _ _).below (drew_below _), (below2 _ _ _).drew⟩

end Go.Proofs.YtloohbkceppocaaGreatDoor
end
