/- Walks: dyad.Neg, dyad.Compare of any dyads. Printed by wip/gen/rk3.py. -/
import Derived.Test.YtphaikdbldfpaaaGreatDoorGY
import Derived.Test.YtphaikdbldfpaaaGreatDoorGC
namespace Go.Proofs.YtphaikdbldfpaaaGreatDoor
open Go.RowKit

theorem res_store1 {bad R RE : Int} {w W : World} {r : Nat} {cs : Array Value} {x k : Int} {n : Bool} {a : Option Addr} {l c : Nat} (h : BlkT W r 50 cs) (hw : Below w.heap.size w W) (hge : w.heap.size ≤ r) (hr : ResIs bad R RE W (.agg #[.bool n, .slice a l c, .int .i64 x]) k) :
    ResOf bad R RE w (.returned (.tuple #[.agg #[.bool n, .slice a l c, .int .i64 x], .int .i64 k])) (((W.setCell ⟨r, 0, none⟩ (.bool n)).setCell ⟨r, 1, none⟩ (.slice a l c)).setCell ⟨r, 2, none⟩ (.int .i64 x)) :=
  ⟨n, a, l, c, x, k, rfl, ((hr.setOther h objT_dyad _).setOther (h.set (i := 0) _) objT_dyad _).setOther ((h.set (i := 0) _).set (i := 1) _) objT_dyad _,
    ((hw.setCell hge _).setCell hge _).setCell hge _⟩

/-- Two boxed dyads. -/
def Box2d (w0 W : World) (na nb : Bool) (sa sb : Value) (e f : Int) : Prop :=
  BlkT W w0.heap.size 50 #[.bool na, sa, .int .i64 e] ∧ BlkT W (w0.heap.size + 1) 50 #[.bool nb, sb, .int .i64 f] ∧ Below w0.heap.size w0 W

theorem Box2d.later {w0 W V : World} {na nb : Bool} {sa sb : Value} {e f : Int} (h : Box2d w0 W na nb sa sb e f) (hb : Below W.heap.size W V) : Box2d w0 V na nb sa sb e f :=
  ⟨h.1.below hb, h.2.1.below hb, h.2.2.trans (hb.mono h.2.2.size)⟩

theorem Box2d.size {w0 W : World} {na nb : Bool} {sa sb : Value} {e f : Int} (h : Box2d w0 W na nb sa sb e f) : w0.heap.size ≤ W.heap.size := h.2.2.size

theorem Box2d.start (w : World) (na nb : Bool) (sa sb : Value) (e f : Int) :
    Box2d w ((w.alloc (.cells #[.bool na, sa, .int .i64 e] 50)).alloc (.cells #[.bool nb, sb, .int .i64 f] 50)) na nb sa sb e f :=
  ⟨(BlkT.new w _ _).alloc _, BlkT.new1 w _ _ _, below2 _ _ _⟩

theorem Box2d.cells {w0 W : World} {na nb : Bool} {sa sb : Value} {e f : Int} (h : Box2d w0 W na nb sa sb e f) :
    ((((W.cell? ⟨w0.heap.size, 0, none⟩ = some (.bool na) ∧ W.cell? ⟨w0.heap.size, 1, none⟩ = some sa) ∧ W.cell? ⟨w0.heap.size, 2, none⟩ = some (.int .i64 e)) ∧ W.cell? ⟨w0.heap.size + 1, 0, none⟩ = some (.bool nb)) ∧ W.cell? ⟨w0.heap.size + 1, 1, none⟩ = some sb) ∧ W.cell? ⟨w0.heap.size + 1, 2, none⟩ = some (.int .i64 f) :=
  ⟨⟨⟨⟨⟨h.1.cell 0, h.1.cell 1⟩, h.1.cell 2⟩, h.2.1.cell 0⟩, h.2.1.cell 1⟩, h.2.1.cell 2⟩

/-- Two boxed exact numbers. -/
def BoxE (w0 W : World) (r s p q : Nat) (e f : Int) : Prop :=
  BlkT W r 78 #[.pointer (some ⟨p, 0, none⟩), .int .i64 e] ∧ BlkT W s 78 #[.pointer (some ⟨q, 0, none⟩), .int .i64 f] ∧ Below w0.heap.size w0 W

theorem BoxE.later {w0 W V : World} {r s p q : Nat} {e f : Int} (h : BoxE w0 W r s p q e f) (hb : Below W.heap.size W V) : BoxE w0 V r s p q e f :=
  ⟨h.1.below hb, h.2.1.below hb, h.2.2.trans (hb.mono h.2.2.size)⟩
theorem BoxE.mod {ib : Nat} {w0 W V : World} {r s p q : Nat} {e f : Int} (h : BoxE w0 W r s p q e f) (hm : Mod ib 0 W V) (h1 : r < ib) (h2 : s < ib) (h3 : w0.heap.size ≤ ib) : BoxE w0 V r s p q e f :=
  ⟨h.1.mod hm (by omega), h.2.1.mod hm (by omega), hm.below h.2.2 (by omega) h.2.2.size⟩
theorem BoxE.cells {w0 W : World} {r s p q : Nat} {e f : Int} (h : BoxE w0 W r s p q e f) :
    ((W.cell? ⟨r, 0, none⟩ = some (.pointer (some ⟨p, 0, none⟩)) ∧ W.cell? ⟨r, 1, none⟩ = some (.int .i64 e)) ∧ W.cell? ⟨s, 0, none⟩ = some (.pointer (some ⟨q, 0, none⟩))) ∧ W.cell? ⟨s, 1, none⟩ = some (.int .i64 f) :=
  ⟨⟨⟨h.1.cell 0, h.1.cell 1⟩, h.2.1.cell 0⟩, h.2.1.cell 1⟩

theorem BoxE.lt {w0 W : World} {r s p q : Nat} {e f : Int} (h : BoxE w0 W r s p q e f) : (r < W.heap.size ∧ s < W.heap.size) ∧ w0.heap.size ≤ W.heap.size := ⟨⟨h.1.lt, h.2.1.lt⟩, h.2.2.size⟩

theorem IntAt.ne_boxN {w : World} {p b t : Nat} {z : Int} {x y : Value} {a : Option Addr} (h : IntAt w p 0 z) (hb : BlkT w b t #[x, y]) (hx : x = .pointer a) : p ≠ b := by
  intro e; subst e
  have h1 := h.2.1
  rw [hb.cell 0, hx] at h1
  simp at h1

end Go.Proofs.YtphaikdbldfpaaaGreatDoor
