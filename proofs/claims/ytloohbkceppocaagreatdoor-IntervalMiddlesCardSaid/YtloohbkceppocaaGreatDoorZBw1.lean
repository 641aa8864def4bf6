/- Walks: the references' Whole, Magnitudes; the law's word 'below'. Printed by wip/gen/bw1.py. -/
import Derived.Test.YtloohbkceppocaaGreatDoorGR
import Derived.Test.YtloohbkceppocaaGreatDoorZSm1
import Derived.Test.YtloohbkceppocaaGreatDoorZRk5
namespace Go.Proofs.YtloohbkceppocaaGreatDoor
open Go.RowKit

/-- Boxes of exact numbers. -/
def XB0 (W : World) (b q : Nat) (z e : Int) : Prop := BlkT W b 27 #[.pointer (some ⟨q, 0, none⟩), .int .i64 e] ∧ RInt W q z
theorem XB0.below {W V : World} {b q : Nat} {z e : Int} (h : XB0 W b q z e) (hb : Below W.heap.size W V) : XB0 V b q z e := ⟨h.1.below hb, h.2.below hb⟩
theorem XB0.new {w : World} {q : Nat} {z e : Int} (h : RInt w q z) : XB0 (w.alloc (.cells #[.pointer (some ⟨q, 0, none⟩), .int .i64 e] 27)) w.heap.size q z e := ⟨BlkT.new w _ _, h.below (Below.alloc_self w _)⟩
theorem XB0.st2 {W : World} {b q r : Nat} {z e f : Int} {a : Option Addr} (h : XB0 W b q z e) (hr : BlkT W r 27 #[.pointer a, .int .i64 f]) (hn : b ≠ r) (x0 x1 : Value) : XB0 ((W.setCell ⟨r, 0, none⟩ x0).setCell ⟨r, 1, none⟩ x1) b q z e :=
  ⟨(h.1.setOther hn _).setOther hn _, h.2.st2 hr _ _⟩
theorem XB0.put {W : World} {p r : Nat} {z e f : Int} {a : Option Addr} (h : RInt W p z) (hr : BlkT W r 27 #[.pointer a, .int .i64 f]) : XB0 ((W.setCell ⟨r, 0, none⟩ (.pointer (some ⟨p, 0, none⟩))).setCell ⟨r, 1, none⟩ (.int .i64 e)) r p z e :=
  ⟨(hr.set (i := 0) _).set (i := 1) _, h.st2 hr _ _⟩

/-- The boxes of 'below': x, y, u, one. -/
structure BelB (w0 W : World) (b3 b5 b7 b8 q3 q5 q7 q8 : Nat) (x e y f : Int) : Prop where
  x : XB0 W b3 q3 x e
  y : XB0 W b5 q5 y f
  u : XB0 W b7 q7 1 (-53)
  o : XB0 W b8 q8 1 0
  below : Below w0.heap.size w0 W
theorem BelB.later {w0 W V : World} {b3 b5 b7 b8 q3 q5 q7 q8 : Nat} {x e y f : Int} (h : BelB w0 W b3 b5 b7 b8 q3 q5 q7 q8 x e y f) (hb : Below W.heap.size W V) : BelB w0 V b3 b5 b7 b8 q3 q5 q7 q8 x e y f :=
  ⟨h.x.below hb, h.y.below hb, h.u.below hb, h.o.below hb, h.below.trans (hb.mono h.below.size)⟩
theorem BelB.st2 {w0 W : World} {b3 b5 b7 b8 q3 q5 q7 q8 r : Nat} {x e y f g : Int} {a : Option Addr} (h : BelB w0 W b3 b5 b7 b8 q3 q5 q7 q8 x e y f) (hr : BlkT W r 27 #[.pointer a, .int .i64 g]) (h3 : b3 < r ∧ b5 < r ∧ b7 < r ∧ b8 < r) (h0 : w0.heap.size ≤ r) (x0 x1 : Value) :
    BelB w0 ((W.setCell ⟨r, 0, none⟩ x0).setCell ⟨r, 1, none⟩ x1) b3 b5 b7 b8 q3 q5 q7 q8 x e y f :=
  ⟨h.x.st2 hr (by omega) _ _, h.y.st2 hr (by omega) _ _, h.u.st2 hr (by omega) _ _, h.o.st2 hr (by omega) _ _, (h.below.setCell h0 _).setCell h0 _⟩

end Go.Proofs.YtloohbkceppocaaGreatDoor
