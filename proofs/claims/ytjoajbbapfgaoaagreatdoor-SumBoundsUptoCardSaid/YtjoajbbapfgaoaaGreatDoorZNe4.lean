/- Plain: what the law of the nearest sum asks. -/
import Derived.Test.YtjoajbbapfgaoaaGreatDoorZNe2
import Derived.Test.YtjoajbbapfgaoaaGreatDoorGW
namespace Go.Proofs.YtjoajbbapfgaoaaGreatDoor
open Go.RowKit

theorem sc_natAbs (M z e : Int) : sc M (z.natAbs : Int) e = ((sc M z e).natAbs : Int) := by
  rw [natAbs_sc]; unfold sc; rw [Int.natCast_mul, Int.natCast_pow]; rfl

theorem ngt_zero {l : List Nat} (h : ngtB l = true) : (foldS (prs l)).1 = 0 := by
  have h1 : l.all (fun x => decide (x = kSign)) = true := by
    unfold ngtB at h; rw [Bool.and_eq_true] at h; exact h.1
  have hv : valZ kSign = 0 := by decide
  have key : ∀ (l : List Nat), l.all (fun x => decide (x = kSign)) = true → ∀ s : Int × Int, s.1 = 0 → ((prs l).foldl (fun s t => (plZ s.1 s.2 t.1 t.2, plE s.1 s.2 t.1 t.2)) s).1 = 0 := by
    intro l
    induction l with
    | nil => intro _ s hs; exact hs
    | cons x l ih =>
      intro h s hs
      rw [List.all_cons, Bool.and_eq_true, decide_eq_true_iff] at h
      obtain ⟨rfl, h⟩ := h
      refine ih h _ ?_
      show plZ s.1 s.2 (valZ kSign) (pE kSign) = 0
      rw [hs, hv]
      unfold plZ; rw [if_pos rfl]
  exact key l h1 (0, 0) rfl

theorem exB_lt {l : List Nat} (hf : l.all finB = true) : exB l < 18446744073709551616 := by
  cases hg : ngtB l
  · rw [exB_fin (spc_fin.2 hf) hg]
    unfold rndX
    by_cases h : (foldS (prs l)).1 = 0
    · rw [if_pos h]; decide
    · rw [if_neg h]; exact (rnd_lt 0 (.inl h)).1
  · rw [exB_ngt (spc_fin.2 hf) hg]; decide

end Go.Proofs.YtjoajbbapfgaoaaGreatDoor
