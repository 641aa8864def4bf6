/- Facts for the walk of DyadRises. Printed by wip/gen/ri3.py. -/
import Derived.Test.YtloohbkceppocaaGreatDoorZRi1
import Derived.Test.YtloohbkceppocaaGreatDoorGM
import Derived.Test.YtloohbkceppocaaGreatDoorZRin
import Derived.Test.YtloohbkceppocaaGreatDoorZRk5
namespace Go.Proofs.YtloohbkceppocaaGreatDoor
open Go.RowKit

section
variable {P : Program} {L : List Oper} {Q : Exit → Act → World → Prop} {S : World → Prop} {md : Region.Mode}

/-- One that only reads, or of a value that is not asked. -/
theorem wpPl_skipL {i k : Nat} {o : Oper} {K : Act → World → Prop} {pl : Pl} {a : Act} {w : World} (ho : L[i]? = some o) (hd : o.dst = some k)
    (hQ : ∀ c a' w', Q (.panic c) (a'.put o.dst undef) w' → Q (.panic c) a' w')
    (hw : Region.wanted o (yielded L.toArray a.tmps) = false) (hS : S w)
    (h : wpPl P L.toArray Q S K pl { tmps := a.tmps.setIfInBounds k undef, defers := a.defers } w) : wpPl P L.toArray Q S K (.take i pl) a w := by
  refine ⟨o, undef, getL ho, hQ, .inr ⟨hw, rfl⟩, hS, ?_⟩
  rw [hd]; exact h

theorem wpPl_idleL {i k : Nat} {o : Oper} {K : Act → World → Prop} {pl : Pl} {a : Act} {w : World} (ho : L[i]? = some o) (hd : o.dst = some k)
    (hw : Region.wanted o (yielded L.toArray a.tmps) = false) (hS : S w)
    (h : wpPl P L.toArray Q S K pl { tmps := a.tmps.setIfInBounds k undef, defers := a.defers } w) : wpPl P L.toArray Q S K (.run i pl) a w :=
  wpPl_run (getL ho) fun K' hK => by
    rw [hw]
    refine hK _ _ hS ?_
    rw [hd]; exact h
end

theorem Box2d.swap {w0 W : World} {na nb : Bool} {sa sb : Value} {e f : Int} (h : Box2d w0 W na nb sa sb e f) :
    Box2d w0 ((((((W.setCell ⟨w0.heap.size, 0, none⟩ (.bool nb)).setCell ⟨w0.heap.size, 1, none⟩ sb).setCell ⟨w0.heap.size, 2, none⟩ (.int .i64 f)).setCell ⟨w0.heap.size + 1, 0, none⟩ (.bool na)).setCell ⟨w0.heap.size + 1, 1, none⟩ sa).setCell ⟨w0.heap.size + 1, 2, none⟩ (.int .i64 e)) nb na sb sa f e := by
  obtain ⟨h1, h2, h3⟩ := h
  have g1 := ((h1.set (i := 0) (.bool nb)).set (i := 1) sb).set (i := 2) (.int .i64 f)
  have g2 := ((h2.setOther (c := w0.heap.size) (i := 0) (by omega) (.bool nb)).setOther (c := w0.heap.size) (i := 1) (by omega) sb).setOther (c := w0.heap.size) (i := 2) (by omega) (.int .i64 f)
  refine ⟨((g1.setOther (by omega) _).setOther (by omega) _).setOther (by omega) _, ((g2.set (i := 0) (.bool na)).set (i := 1) sa).set (i := 2) (.int .i64 e), ?_⟩
  exact (((((h3.setCell (Nat.le_refl _) _).setCell (Nat.le_refl _) _).setCell (Nat.le_refl _) _).setCell (show w0.heap.size ≤ w0.heap.size + 1 by omega) _).setCell (show w0.heap.size ≤ w0.heap.size + 1 by omega) _).setCell (show w0.heap.size ≤ w0.heap.size + 1 by omega) _

end Go.Proofs.YtloohbkceppocaaGreatDoor
