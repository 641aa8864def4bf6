/- Walks: dyad.Neg, dyad.Compare of any dyads. Printed by wip/gen/rk3.py. -/
import Derived.Test.YthkhignbmefmjaaGreatDoorGY
import Derived.Test.YthkhignbmefmjaaGreatDoorGC
import Derived.Test.YthkhignbmefmjaaGreatDoorZRi1
import Derived.Test.YthkhignbmefmjaaGreatDoorGM
namespace Go.Proofs.YthkhignbmefmjaaGreatDoor
section
open Go.RowKit
theorem res_store1 {bad R RE : Int} {w W : World} {r : Nat} {cs : Array Value} {x k : Int} {n : Bool} {a : Option Addr} {l c : Nat} (h : BlkT W r 40 cs) (hw : Below w.heap.size w W) (hge : w.heap.size ≤ r) (hr : ResIs bad R RE W (.agg #[.bool n, .slice a l c, .int .i64 x]) k) :
  ResOf bad R RE w (.returned (.tuple #[.agg #[.bool n, .slice a l c, .int .i64 x], .int .i64 k])) (((W.setCell ⟨r, 0, none⟩ (.bool n)).setCell ⟨r, 1, none⟩ (.slice a l c)).setCell ⟨r, 2, none⟩ (.int .i64 x)) :=
 ⟨n, a, l, c, x, k, rfl, ((hr.setOther h objT_dyad _).setOther (h.set (i := 0) _) objT_dyad _).setOther ((h.set (i := 0) _).set (i := 1) _) objT_dyad _,
  ((hw.setCell hge _).setCell hge _).setCell hge _⟩
theorem IntAt.ne_boxN {w : World} {p b t : Nat} {z : Int} {x y : Value} {a : Option Addr} (h : IntAt w p 0 z) (hb : BlkT w b t #[x, y]) (hx : x = .pointer a) : p ≠ b := by
 intro e; subst e
 have h1 := h.2.1
 rw [hb.cell 0, hx] at h1
 simp at h1
end
section
open Go.RowKit
section
variable {P : Program} {L : List Oper} {Q : Exit → Act → World → Prop} {S : World → Prop} {md : Region.Mode}
theorem wpPl_skipL {i k : Nat} {o : Oper} {K : Act → World → Prop} {pl : Pl} {a : Act} {w : World} (ho : L[i]? = some o) (hd : o.dst = some k)
  (hQ : ∀ c a' w', Q (.panic c) (a'.put o.dst undef) w' → Q (.panic c) a' w')
  (hw : Region.wanted o (yielded L.toArray a.tmps) = false) (hS : S w)
  (h : wpPl P L.toArray Q S K pl { tmps := a.tmps.setIfInBounds k undef, defers := a.defers } w) : wpPl P L.toArray Q S K (.take i pl) a w := by
 refine ⟨o, undef, getL ho, hQ, .inr ⟨hw, rfl⟩, hS, ?_⟩
 rw [hd]; exact h
end
theorem skL {P : Program} {Q : Exit → Act → World → Prop} {S : World → Prop} {L : List Oper} {i k : Nat} {o : Oper} {K : Act → World → Prop} {pl : Pl} {a : Act} {w : World} (ho : L[i]? = some o) (hd : o.dst = some k) (hw : Region.wanted o (yielded L.toArray a.tmps) = false) (hS : S w)
 (h : wpPl P L.toArray Q S K pl { tmps := a.tmps.setIfInBounds k undef, defers := a.defers } w) (hQ : ∀ c a' w', Q (.panic c) (a'.put o.dst undef) w' → Q (.panic c) a' w' := by exact fun _ _ _ h => h) : wpPl P L.toArray Q S K (.take i pl) a w := wpPl_skipL ho hd hQ hw hS h
end
end Go.Proofs.YthkhignbmefmjaaGreatDoor
