/- Walk: CholFactors. Printed by wip/gen/ch26.py. -/
import Derived.Test.YtfmecpembnmnkaaGreatDoorLH
import Derived.Test.YtfmecpembnmnkaaGreatDoorLI
import Derived.Test.YtfmecpembnmnkaaGreatDoorLJ
import Derived.Test.YtfmecpembnmnkaaGreatDoorLD
namespace Go.Proofs.YtfmecpembnmnkaaGreatDoor
open Go.RowKit
attribute [local go_sem] run_store_f
structure LwF (w0 W : World) (N mb : Nat) (r c : Int) (sl : Value) (l : List Nat) : Prop where
 m : BlkT W mb 25 #[.int .i64 r, .int .i64 c, sl]
 l : ∀ sb, N ≤ sb → FSn W sl l sb
 b : Below w0.heap.size w0 W
 ne : mb < N ∧ w0.heap.size ≤ N ∧ N ≤ W.heap.size
theorem LwF.later {w0 W V : World} {N mb : Nat} {r c : Int} {sl : Value} {l : List Nat} (h : LwF w0 W N mb r c sl l) (hb : Below W.heap.size W V) : LwF w0 V N mb r c sl l := ⟨h.m.below hb, fun sb hs => (h.l sb hs).below hb, h.b.trans (hb.mono h.b.size), by have := h.ne; have := hb.size; omega⟩
theorem LwF.fl {w0 W : World} {N mb : Nat} {r c : Int} {sl : Value} {l : List Nat} (h : LwF w0 W N mb r c sl l) : FSl W sl l := (h.l N (Nat.le_refl _)).1
theorem Upd.set3 {W : World} {b : Nat} (x y z : Value) : Upd b W (((W.setCell ⟨b, 0, none⟩ x).setCell ⟨b, 1, none⟩ y).setCell ⟨b, 2, none⟩ z) := ((Upd.set x).trans (Upd.set y)).trans (Upd.set z)
theorem FSl.upd_lt {W V : World} {v : Value} {l : List Nat} {sb : Nat} (h : FSl W v l) (hf : ∀ a c d, v = .slice (some a) c d → sb < a.block) (hu : Upd sb W V) : FSl V v l := (FSn.upd ⟨h, fun _ a c d e => by have := hf a c d e; omega⟩ hu).1
theorem LwF.upd {w0 W V : World} {N mb sb : Nat} {r c : Int} {sl : Value} {l : List Nat} (h : LwF w0 W N mb r c sl l) (hu : Upd sb W V) (hs : N ≤ sb) : LwF w0 V N mb r c sl l := by
 have hne := h.ne
 have hsz := hu.size
 refine ⟨h.m.upd hu (by omega), fun s h1 => ⟨((h.l sb hs).upd hu).1, (h.l s h1).2⟩, hu.below h.b (by omega) h.b.size, by omega⟩
theorem BlkT.set3 {W : World} {b : Nat} {x y z : Value} (u v w : Value) (h : BlkT W b 25 #[x, y, z]) : BlkT (((W.setCell ⟨b, 0, none⟩ u).setCell ⟨b, 1, none⟩ v).setCell ⟨b, 2, none⟩ w) b 25 #[u, v, w] := ((h.set (i := 0) u).set (i := 1) v).set (i := 2) w
end Go.Proofs.YtfmecpembnmnkaaGreatDoor
