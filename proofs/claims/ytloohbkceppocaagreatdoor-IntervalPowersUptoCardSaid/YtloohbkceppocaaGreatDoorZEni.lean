/- Ends of intervals out of their reading. -/
import Derived.Test.YtloohbkceppocaaGreatDoorGY
import Derived.Test.YtloohbkceppocaaGreatDoorIG
import Derived.Test.YtloohbkceppocaaGreatDoorGC
import Derived.Test.YtloohbkceppocaaGreatDoorHB
namespace Go.Proofs.YtloohbkceppocaaGreatDoor
open Go.ChangeShapes Go.WideShapes Go.ChangeAt Go.RowKit
set_option maxRecDepth 100000 in
theorem ends_of {H : Type} {enc : TypeId × Value → H} {W : World} {base : Nat} {v : Value} {d : DataW H} {p : List MemPlace} (hv : Value.okWide Tryz.prog W .any base 37 v)
  (h : DataW.Trod enc Tryz.prog W 0 (fun _ => true) true 37 v d p) : ∃ a b : Nat, v = .agg #[.int .u64 a, .int .u64 b] ∧ a < 18446744073709551616 ∧ b < 18446744073709551616 := by
 obtain ⟨v0, v1, y0, y1, m, rfl, rfl, rfl, h0, h1⟩ := Go.Joins.open_agg2 Tryz.underlying37 (by kernel_rfl) (by kernel_rfl) hv h
 obtain ⟨a, hc0, -, hw0⟩ := DataW.trod_int Tryz.underlying31 h0
 obtain ⟨b, hc1, -, hw1⟩ := DataW.trod_int Tryz.underlying31 h1
 simp only [List.cons.injEq, and_true] at hc0 hc1
 subst hc0
 subst hc1
 obtain ⟨x, rfl, hx⟩ := u64_of hw0
 obtain ⟨y, rfl, hy⟩ := u64_of hw1
 exact ⟨x, y, rfl, hx, hy⟩
end Go.Proofs.YtloohbkceppocaaGreatDoor
