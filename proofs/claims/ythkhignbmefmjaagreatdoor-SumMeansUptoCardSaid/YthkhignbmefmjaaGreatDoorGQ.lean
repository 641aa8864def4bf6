/- Walks: what a dyad's function answers; whether it is the references' (binnaclelaw03.is). -/
import Derived.Test.YthkhignbmefmjaaGreatDoorGP
import Derived.Maps.AppendAt
import Derived.Test.YthkhignbmefmjaaGreatDoorGL
namespace Go.Proofs.YthkhignbmefmjaaGreatDoor
open Go.RowKit
def DyIs (z e : Int) (w : World) (d : Value) (k : Int) : Prop :=
 ((z = 0 ∨ lngB z e = false) ∧ DyAt w d (hvZ z) (nrE z e) ∧ k = 0) ∨ (z ≠ 0 ∧ lngB z e = true ∧ d = DyV false (.slice none 0 0) 0 ∧ k = 2)
theorem DyIs.shape {z e : Int} {w : World} {d : Value} {k : Int} (h : DyIs z e w d k) : ∃ n ao l c x, d = .agg #[.bool n, .slice ao l c, .int .i64 x] := by
 rcases h with ⟨-, ⟨sl, rfl, ao, cap, rfl, -⟩, -⟩ | ⟨-, -, rfl, -⟩
 ·exact ⟨_, _, _, _, _, rfl⟩
 ·exact ⟨_, _, _, _, _, rfl⟩
def DyOf (z e : Int) (w : World) (en : Ending) (w' : World) : Prop := ∃ d k, en = .returned (.tuple #[d, .int .i64 k]) ∧ DyIs z e w' d k ∧ Below w.heap.size w w'
theorem DyOf.of_new {z e : Int} {w w' : World} {en : Ending} (hg : z = 0 ∨ lngB z e = false) (h : DyNew (hvZ z) (nrE z e) w en w') : DyOf z e w en w' := by
 obtain ⟨sl, h1, h2, -, h4⟩ := h
 exact ⟨_, _, h1, .inl ⟨hg, ⟨sl, rfl, h2⟩, rfl⟩, h4⟩
theorem DyOf.of_err {z e : Int} {w w' : World} {en : Ending} (h0 : z ≠ 0) (hg : lngB z e = true) (h : DyErr 2 w en w') : DyOf z e w en w' :=
 ⟨_, _, h.1, .inr ⟨h0, hg, rfl, rfl⟩, h.2⟩
theorem good_of_lng {z e : Int} (h : z = 0 ∨ lngB z e = false) : GoodD (hvZ z) (nrE z e) := by
 refine ⟨nrm_hv z e, ?_⟩
 by_cases h0 : z = 0
 ·subst h0; rw [hvZ_zero, nrE, if_pos rfl]; exact ⟨by decide, by decide, by decide⟩
 ·rcases h with h | h
  ·exact absurd h h0
  ·unfold lngB at h
   simp only [Bool.or_eq_false_iff, decide_eq_false_iff_not] at h
   rw [nrE, if_neg h0]
   omega
theorem put_all (b : Nat) (z e : Int) (w : World) (hx : IntAt w b 0 z) (hl : bl z.natAbs ≤ 68719476736) (h1 : -4611686018427387904 ≤ e) (h2 : e ≤ 1099511627776) (hT : Tab64 w) (hTs : 1 < w.heap.size) :
  Calls Tryz.prog 41 #[ExV b e] w (DyOf z e w) := by
 by_cases hg : z = 0 ∨ lngB z e = false
 ·exact (put_any b z e w hx hl h1 h2 hT hTs hg).mono fun _ _ h => .of_new hg h
 ·have h0 : z ≠ 0 := fun h => hg (.inl h)
  have hlng : lngB z e = true := by
   cases hb : lngB z e
   ·exact absurd (.inr hb) hg
   ·rfl
  exact (put_errAll b z e w hx hl h1 h2 hT hTs h0 hlng).mono fun _ _ h => .of_err h0 hlng h
end Go.Proofs.YthkhignbmefmjaaGreatDoor
