/- Facts for the walk of DyadReckons. Printed by wip/gen/reck.py. -/
import Derived.Test.YtlhebpoiakpkoaaGreatDoorZRk3
import Derived.Test.YtlhebpoiakpkoaaGreatDoorGY
namespace Go.Proofs.YtlhebpoiakpkoaaGreatDoor
open Go.RowKit

theorem XIs.later {bad z e : Int} {w w' : World} {b : Nat} {x : Int} (h : XIs bad z e w b x) (hb : Below w.heap.size w w') : XIs bad z e w' b x := fun h0 => ⟨(h h0).1.below hb, (h h0).2⟩

def SzLe (W : World) (B : Nat) : Prop := B ≤ W.heap.size
theorem SzLe.below {W V : World} {B : Nat} (h : SzLe W B) (hb : Below W.heap.size W V) : SzLe V B := Nat.le_trans h hb.size

/-- An answer in its box. -/
def Ans3 (W : World) (b : Nat) (k bad z e : Int) (n : Bool) (a : Option Addr) (l c : Nat) (x : Int) : Prop :=
  BlkT W b 63 #[.bool n, .slice a l c, .int .i64 x] ∧ ResIs bad z e W (.agg #[.bool n, .slice a l c, .int .i64 x]) k

theorem Ans3.below {W V : World} {b : Nat} {k bad z e : Int} {n : Bool} {a : Option Addr} {l c : Nat} {x : Int} (h : Ans3 W b k bad z e n a l c x) (hb : Below W.heap.size W V) : Ans3 V b k bad z e n a l c x :=
  ⟨h.1.below hb, h.2.below hb⟩

end Go.Proofs.YtlhebpoiakpkoaaGreatDoor
