/- Facts for the walk of DyadReckons. Printed by wip/gen/reck.py. -/
import Derived.Test.YtloohbkceppocaaGreatDoorZRk4
import Derived.Test.YtloohbkceppocaaGreatDoorGY
namespace Go.Proofs.YtloohbkceppocaaGreatDoor
open Go.RowKit

theorem XIs.later {bad z e : Int} {w w' : World} {b : Nat} {x : Int} (h : XIs bad z e w b x) (hb : Below w.heap.size w w') : XIs bad z e w' b x := fun h0 => ⟨(h h0).1.below hb, (h h0).2⟩

def SzLe (W : World) (B : Nat) : Prop := B ≤ W.heap.size
theorem SzLe.below {W V : World} {B : Nat} (h : SzLe W B) (hb : Below W.heap.size W V) : SzLe V B := Nat.le_trans h hb.size

/-- The references' two numbers in their boxes. -/
def PQ (W : World) (b c q1 q2 : Nat) (e1 e2 zp zq : Int) : Prop :=
  (BlkT W b 27 #[.pointer (some ⟨q1, 0, none⟩), .int .i64 e1] ∧ BlkT W c 27 #[.pointer (some ⟨q2, 0, none⟩), .int .i64 e2]) ∧ RInt W q1 zp ∧ RInt W q2 zq

theorem PQ.below {W V : World} {b c q1 q2 : Nat} {e1 e2 zp zq : Int} (h : PQ W b c q1 q2 e1 e2 zp zq) (hb : Below W.heap.size W V) : PQ V b c q1 q2 e1 e2 zp zq :=
  ⟨⟨h.1.1.below hb, h.1.2.below hb⟩, h.2.1.below hb, h.2.2.below hb⟩

theorem PQ.lt {W : World} {b c q1 q2 : Nat} {e1 e2 zp zq : Int} (h : PQ W b c q1 q2 e1 e2 zp zq) : (b < W.heap.size ∧ c < W.heap.size) ∧ q1 < W.heap.size ∧ q2 < W.heap.size :=
  ⟨⟨h.1.1.lt, h.1.2.lt⟩, h.2.1.1.1, h.2.2.1.1⟩

theorem Box2d.st2 {w0 W : World} {na nb : Bool} {sa sb : Value} {e f : Int} {r : Nat} (h : Box2d w0 W na nb sa sb e f) (hn : w0.heap.size + 1 < r) (x0 x1 : Value) : Box2d w0 ((W.setCell ⟨r, 0, none⟩ x0).setCell ⟨r, 1, none⟩ x1) na nb sa sb e f :=
  ⟨(h.1.setOther (show w0.heap.size ≠ r by omega) _).setOther (show w0.heap.size ≠ r by omega) _, (h.2.1.setOther (show w0.heap.size + 1 ≠ r by omega) _).setOther (show w0.heap.size + 1 ≠ r by omega) _, (h.2.2.setCell (by show w0.heap.size ≤ r; omega) _).setCell (by show w0.heap.size ≤ r; omega) _⟩

theorem PQ.start {w : World} {q1 q2 : Nat} (h1 : RInt w q1 0) (h2 : RInt w q2 0) : PQ ((w.alloc (.cells #[.pointer (some ⟨q1, 0, none⟩), .int .i64 0] 27)).alloc (.cells #[.pointer (some ⟨q2, 0, none⟩), .int .i64 0] 27)) w.heap.size (w.heap.size + 1) q1 q2 0 0 0 0 :=
  ⟨⟨(BlkT.new w _ _).alloc _, BlkT.new1 w _ _ _⟩, h1.below (below2 _ _ _), h2.below (below2 _ _ _)⟩

/-- An answer in its box. -/
def Ans3 (W : World) (b : Nat) (k bad z e : Int) (n : Bool) (a : Option Addr) (l c : Nat) (x : Int) : Prop :=
  BlkT W b 98 #[.bool n, .slice a l c, .int .i64 x] ∧ ResIs bad z e W (.agg #[.bool n, .slice a l c, .int .i64 x]) k

theorem Ans3.below {W V : World} {b : Nat} {k bad z e : Int} {n : Bool} {a : Option Addr} {l c : Nat} {x : Int} (h : Ans3 W b k bad z e n a l c x) (hb : Below W.heap.size W V) : Ans3 V b k bad z e n a l c x :=
  ⟨h.1.below hb, h.2.below hb⟩

end Go.Proofs.YtloohbkceppocaaGreatDoor
