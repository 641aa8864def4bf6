/- Walks: the references' Point; IntervalTells. Printed by wip/gen/iv13.py. -/
import Derived.Test.YtloohbkceppocaaGreatDoorIG
import Derived.Test.YtloohbkceppocaaGreatDoorGC
import Derived.Test.YtloohbkceppocaaGreatDoorHB
import Derived.Test.YtloohbkceppocaaGreatDoorZIvr
import Derived.Deep.CutRange
namespace Go.Proofs.YtloohbkceppocaaGreatDoor
open Go.RowKit
attribute [local go_sem] run_store_f
def EB2 (w0 W : World) (a0 a1 b0 b1 : Nat) : Prop := (BlkT W w0.heap.size 37 #[.int .u64 a0, .int .u64 a1] ∧ BlkT W (w0.heap.size + 1) 37 #[.int .u64 b0, .int .u64 b1]) ∧ Below w0.heap.size w0 W
theorem EB2.later {w0 W V : World} {a0 a1 b0 b1 : Nat} (h : EB2 w0 W a0 a1 b0 b1) (hb : Below W.heap.size W V) : EB2 w0 V a0 a1 b0 b1 := ⟨⟨h.1.1.below hb, h.1.2.below hb⟩, h.2.trans (hb.mono h.2.size)⟩
theorem EB2.size {w0 W : World} {a0 a1 b0 b1 : Nat} (h : EB2 w0 W a0 a1 b0 b1) : w0.heap.size ≤ W.heap.size := h.2.size
theorem EB2.new (w : World) (a0 a1 b0 b1 : Nat) : EB2 w ((w.alloc (.cells #[.int .u64 a0, .int .u64 a1] 37)).alloc (.cells #[.int .u64 b0, .int .u64 b1] 37)) a0 a1 b0 b1 := by
 have h1 := (Below.alloc_self w (.cells #[.int .u64 a0, .int .u64 a1] 37))
 exact ⟨⟨(BlkT.new w _ _).alloc _, BlkT.new1 w _ _ _⟩, h1.alloc h1.size _⟩
theorem EB2.cells {w0 W : World} {a0 a1 b0 b1 : Nat} (h : EB2 w0 W a0 a1 b0 b1) :
  (W.cell? ⟨w0.heap.size, 0, none⟩ = some (.int .u64 a0) ∧ W.cell? ⟨w0.heap.size, 1, none⟩ = some (.int .u64 a1)) ∧ W.cell? ⟨w0.heap.size + 1, 0, none⟩ = some (.int .u64 b0) ∧ W.cell? ⟨w0.heap.size + 1, 1, none⟩ = some (.int .u64 b1) :=
 ⟨⟨h.1.1.cell 0, h.1.1.cell 1⟩, h.1.2.cell 0, h.1.2.cell 1⟩
def S2b (w0 W : World) (x y a0 a1 b0 b1 : Nat) : Prop := IBox w0 W x a0 a1 ∧ IBox w0 W y b0 b1
theorem S2b.later {w0 W V : World} {x y a0 a1 b0 b1 : Nat} (h : S2b w0 W x y a0 a1 b0 b1) (hb : Below W.heap.size W V) : S2b w0 V x y a0 a1 b0 b1 := ⟨h.1.later hb, h.2.later hb⟩
theorem S2b.cells {w0 W : World} {x y a0 a1 b0 b1 : Nat} (h : S2b w0 W x y a0 a1 b0 b1) :
  (W.cell? ⟨x, 0, none⟩ = some (.float .f64 a0) ∧ W.cell? ⟨x, 1, none⟩ = some (.float .f64 a1)) ∧ W.cell? ⟨y, 0, none⟩ = some (.float .f64 b0) ∧ W.cell? ⟨y, 1, none⟩ = some (.float .f64 b1) := ⟨h.1.cells, h.2.cells⟩
theorem S2b.make {w0 B : World} {x y : Nat} (a0 a1 b0 b1 : Nat) (hb : Below w0.heap.size w0 B) (hx : BlkT B x 34 #[.float .f64 0, .float .f64 0]) (hy : BlkT B y 34 #[.float .f64 0, .float .f64 0])
  (lx : w0.heap.size ≤ x) (ly : w0.heap.size ≤ y) (nxy : x ≠ y) :
  S2b w0 ((((B.setCell ⟨x, 0, none⟩ (.float .f64 a0)).setCell ⟨x, 1, none⟩ (.float .f64 a1)).setCell ⟨y, 0, none⟩ (.float .f64 b0)).setCell ⟨y, 1, none⟩ (.float .f64 b1)) x y a0 a1 b0 b1 := by
 have hB := (((hb.setCell (p := ⟨x, 0, none⟩) lx (.float .f64 a0)).setCell (p := ⟨x, 1, none⟩) lx (.float .f64 a1)).setCell (p := ⟨y, 0, none⟩) ly (.float .f64 b0)).setCell (p := ⟨y, 1, none⟩) ly (.float .f64 b1)
 exact ⟨⟨(((hx.set (i := 0) (.float .f64 a0)).set (i := 1) (.float .f64 a1)).setOther nxy _).setOther nxy _, hB⟩, (((hy.setOther nxy.symm (i := 0) (.float .f64 a0)).setOther nxy.symm (i := 1) (.float .f64 a1)).set (i := 0) (.float .f64 b0)).set (i := 1) (.float .f64 b1), hB⟩
end Go.Proofs.YtloohbkceppocaaGreatDoor
