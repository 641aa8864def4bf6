/- Walks: the references' Point; IntervalTells. Printed by wip/gen/iv13.py. -/
import Derived.Test.YtlhebpoiakpkoaaGreatDoorIG
import Derived.Deep.CutRange
namespace Go.Proofs.YtlhebpoiakpkoaaGreatDoor
open Go.RowKit
attribute [local go_sem] run_store_f

/-- Two ends handed in, in a law's own blocks. -/
def EB2 (w0 W : World) (a0 a1 b0 b1 : Nat) : Prop := (BlkT W w0.heap.size 24 #[.int .u64 a0, .int .u64 a1] ∧ BlkT W (w0.heap.size + 1) 24 #[.int .u64 b0, .int .u64 b1]) ∧ Below w0.heap.size w0 W
theorem EB2.later {w0 W V : World} {a0 a1 b0 b1 : Nat} (h : EB2 w0 W a0 a1 b0 b1) (hb : Below W.heap.size W V) : EB2 w0 V a0 a1 b0 b1 := ⟨⟨h.1.1.below hb, h.1.2.below hb⟩, h.2.trans (hb.mono h.2.size)⟩
theorem EB2.size {w0 W : World} {a0 a1 b0 b1 : Nat} (h : EB2 w0 W a0 a1 b0 b1) : w0.heap.size ≤ W.heap.size := h.2.size
theorem EB2.new (w : World) (a0 a1 b0 b1 : Nat) : EB2 w ((w.alloc (.cells #[.int .u64 a0, .int .u64 a1] 24)).alloc (.cells #[.int .u64 b0, .int .u64 b1] 24)) a0 a1 b0 b1 := by
  have h1 := (Below.alloc_self w (.cells #[.int .u64 a0, .int .u64 a1] 24))
  exact ⟨⟨(BlkT.new w _ _).alloc _, BlkT.new1 w _ _ _⟩, h1.alloc h1.size _⟩
theorem EB2.cells {w0 W : World} {a0 a1 b0 b1 : Nat} (h : EB2 w0 W a0 a1 b0 b1) :
    (W.cell? ⟨w0.heap.size, 0, none⟩ = some (.int .u64 a0) ∧ W.cell? ⟨w0.heap.size, 1, none⟩ = some (.int .u64 a1)) ∧ W.cell? ⟨w0.heap.size + 1, 0, none⟩ = some (.int .u64 b0) ∧ W.cell? ⟨w0.heap.size + 1, 1, none⟩ = some (.int .u64 b1) :=
  ⟨⟨h.1.1.cell 0, h.1.1.cell 1⟩, h.1.2.cell 0, h.1.2.cell 1⟩

/-- Two intervals in a law's own blocks. -/
def S2b (w0 W : World) (x y a0 a1 b0 b1 : Nat) : Prop := IBox w0 W x a0 a1 ∧ IBox w0 W y b0 b1
theorem S2b.later {w0 W V : World} {x y a0 a1 b0 b1 : Nat} (h : S2b w0 W x y a0 a1 b0 b1) (hb : Below W.heap.size W V) : S2b w0 V x y a0 a1 b0 b1 := ⟨h.1.later hb, h.2.later hb⟩
theorem S2b.cells {w0 W : World} {x y a0 a1 b0 b1 : Nat} (h : S2b w0 W x y a0 a1 b0 b1) :
    (W.cell? ⟨x, 0, none⟩ = some (.float .f64 a0) ∧ W.cell? ⟨x, 1, none⟩ = some (.float .f64 a1)) ∧ W.cell? ⟨y, 0, none⟩ = some (.float .f64 b0) ∧ W.cell? ⟨y, 1, none⟩ = some (.float .f64 b1) := ⟨h.1.cells, h.2.cells⟩
/-- And two more, behind them. -/
def T3b (w0 W : World) (x y z a0 a1 b0 b1 c0 c1 : Nat) : Prop := S2b w0 W x y a0 a1 b0 b1 ∧ IBox w0 W z c0 c1 ∧ w0.heap.size ≤ z ∧ x ≠ z ∧ y ≠ z
theorem T3b.later {w0 W V : World} {x y z a0 a1 b0 b1 c0 c1 : Nat} (h : T3b w0 W x y z a0 a1 b0 b1 c0 c1) (hb : Below W.heap.size W V) : T3b w0 V x y z a0 a1 b0 b1 c0 c1 := ⟨h.1.later hb, h.2.1.later hb, h.2.2⟩
theorem T3b.cells {w0 W : World} {x y z a0 a1 b0 b1 c0 c1 : Nat} (h : T3b w0 W x y z a0 a1 b0 b1 c0 c1) :
    ((W.cell? ⟨x, 0, none⟩ = some (.float .f64 a0) ∧ W.cell? ⟨x, 1, none⟩ = some (.float .f64 a1)) ∧ W.cell? ⟨y, 0, none⟩ = some (.float .f64 b0) ∧ W.cell? ⟨y, 1, none⟩ = some (.float .f64 b1)) ∧ W.cell? ⟨z, 0, none⟩ = some (.float .f64 c0) ∧ W.cell? ⟨z, 1, none⟩ = some (.float .f64 c1) ∧ W.frozen? ⟨z, 0, none⟩ = false ∧ W.frozen? ⟨z, 1, none⟩ = false := ⟨h.1.cells, h.2.1.cells2⟩
def T4b (w0 W : World) (x y z u a0 a1 b0 b1 c0 c1 d0 d1 : Nat) : Prop := T3b w0 W x y z a0 a1 b0 b1 c0 c1 ∧ IBox w0 W u d0 d1 ∧ w0.heap.size ≤ u ∧ (x ≠ u ∧ y ≠ u) ∧ z ≠ u
theorem T4b.later {w0 W V : World} {x y z u a0 a1 b0 b1 c0 c1 d0 d1 : Nat} (h : T4b w0 W x y z u a0 a1 b0 b1 c0 c1 d0 d1) (hb : Below W.heap.size W V) : T4b w0 V x y z u a0 a1 b0 b1 c0 c1 d0 d1 := ⟨h.1.later hb, h.2.1.later hb, h.2.2⟩
theorem T4b.cells {w0 W : World} {x y z u a0 a1 b0 b1 c0 c1 d0 d1 : Nat} (h : T4b w0 W x y z u a0 a1 b0 b1 c0 c1 d0 d1) :
    (((W.cell? ⟨x, 0, none⟩ = some (.float .f64 a0) ∧ W.cell? ⟨x, 1, none⟩ = some (.float .f64 a1)) ∧ W.cell? ⟨y, 0, none⟩ = some (.float .f64 b0) ∧ W.cell? ⟨y, 1, none⟩ = some (.float .f64 b1)) ∧ W.cell? ⟨z, 0, none⟩ = some (.float .f64 c0) ∧ W.cell? ⟨z, 1, none⟩ = some (.float .f64 c1) ∧ W.frozen? ⟨z, 0, none⟩ = false ∧ W.frozen? ⟨z, 1, none⟩ = false) ∧ W.cell? ⟨u, 0, none⟩ = some (.float .f64 d0) ∧ W.cell? ⟨u, 1, none⟩ = some (.float .f64 d1) ∧ W.frozen? ⟨u, 0, none⟩ = false ∧ W.frozen? ⟨u, 1, none⟩ = false := ⟨h.1.cells, h.2.1.cells2⟩
theorem T4b.put {w0 W : World} {x y z u a0 a1 b0 b1 c0 c1 d0 d1 : Nat} (e0 e1 : Nat) (h : T4b w0 W x y z u a0 a1 b0 b1 c0 c1 d0 d1) :
    T4b w0 ((W.setCell ⟨z, 0, none⟩ (.float .f64 e0)).setCell ⟨z, 1, none⟩ (.float .f64 e1)) x y z u a0 a1 b0 b1 e0 e1 d0 d1 := by
  obtain ⟨⟨⟨⟨hx, _⟩, hy, _⟩, ⟨hz, hb⟩, lz, nxz, nyz⟩, ⟨hu, _⟩, lu, hn, nzu⟩ := h
  have hB := (hb.setCell (p := ⟨z, 0, none⟩) lz (.float .f64 e0)).setCell (p := ⟨z, 1, none⟩) lz (.float .f64 e1)
  exact ⟨⟨⟨⟨(hx.setOther nxz _).setOther nxz _, hB⟩, (hy.setOther nyz _).setOther nyz _, hB⟩, ⟨(hz.set (i := 0) (.float .f64 e0)).set (i := 1) (.float .f64 e1), hB⟩, lz, nxz, nyz⟩, ⟨(hu.setOther nzu.symm _).setOther nzu.symm _, hB⟩, lu, hn, nzu⟩
end Go.Proofs.YtlhebpoiakpkoaaGreatDoor
