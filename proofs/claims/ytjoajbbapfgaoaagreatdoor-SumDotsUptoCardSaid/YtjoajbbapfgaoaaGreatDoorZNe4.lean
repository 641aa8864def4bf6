/- Plain: what the law of the nearest sum asks. -/
import Derived.Test.YtjoajbbapfgaoaaGreatDoorZNe2
import Derived.Test.YtjoajbbapfgaoaaGreatDoorZFl7
namespace Go.Proofs.YtjoajbbapfgaoaaGreatDoor
open Go.RowKit

/-- The sign of a difference, of values that stand so. -/
theorem sgn_np {z e y f : Int} (h1 : 0 ≤ e + 100000) (h2 : 0 ≤ f + 100000) (h : sc 100000 z e ≤ sc 100000 y f) : (plZ z e (-y) f).sign ≤ 0 := by
  have h3 := sc_pl (M := 100000) (z := z) (e := e) (y := -y) (f := f) h1 h2
  rw [sc_neg] at h3
  rcases Int.lt_trichotomy (plZ z e (-y) f) 0 with h4 | h4 | h4
  · rw [Int.sign_eq_neg_one_of_neg h4]; decide
  · rw [h4]; decide
  · have h5 : 0 < sc 100000 (plZ z e (-y) f) (plE z e (-y) f) := by unfold sc; exact Int.mul_pos h4 (Int.pow_pos (by decide))
    omega

theorem sgn_nn {z e y f : Int} (h1 : 0 ≤ e + 100000) (h2 : 0 ≤ f + 100000) (h : sc 100000 y f ≤ sc 100000 z e) : 0 ≤ (plZ z e (-y) f).sign := by
  have h3 := sc_pl (M := 100000) (z := z) (e := e) (y := -y) (f := f) h1 h2
  rw [sc_neg] at h3
  rcases Int.lt_trichotomy (plZ z e (-y) f) 0 with h4 | h4 | h4
  · have h5 : sc 100000 (plZ z e (-y) f) (plE z e (-y) f) < 0 := by unfold sc; exact Int.mul_neg_of_neg_of_pos h4 (Int.pow_pos (by decide))
    omega
  · rw [h4]; decide
  · rw [Int.sign_eq_one_of_pos h4]; decide

theorem sc_natAbs (M z e : Int) : sc M (z.natAbs : Int) e = ((sc M z e).natAbs : Int) := by
  rw [natAbs_sc]; unfold sc; rw [Int.natCast_mul, Int.natCast_pow]; rfl

theorem ngt_zero {l : List Nat} (h : ngtB l = true) : (foldS (prs l)).1 = 0 := by
  have h1 : l.all (fun x => decide (x = kSign)) = true := by
    unfold ngtB at h; rw [Bool.and_eq_true] at h; exact h.1
  have hv : valZ kSign = 0 := by decide
  have key : ∀ (l : List Nat), l.all (fun x => decide (x = kSign)) = true → ∀ s : Int × Int, s.1 = 0 → ((prs l).foldl (fun s t => (plZ s.1 s.2 t.1 t.2, plE s.1 s.2 t.1 t.2)) s).1 = 0 := by
    intro l
    induction l with
    | nil => intro _ s hs; exact hs
    | cons x l ih =>
      intro h s hs
      rw [List.all_cons, Bool.and_eq_true, decide_eq_true_iff] at h
      obtain ⟨rfl, h⟩ := h
      refine ih h _ ?_
      show plZ s.1 s.2 (valZ kSign) (pE kSign) = 0
      rw [hs, hv]
      unfold plZ; rw [if_pos rfl]
  exact key l h1 (0, 0) rfl

theorem near_fin_law {l : List Nat} {o : Nat} (hn : l.length ≤ 600) (hf : l.all finB = true) (ho : o < 18446744073709551616) (hof : finB o = true) (hx : finB (exB l) = true) :
    (plZ (plZ (foldS (prs l)).1 (foldS (prs l)).2 (-valZ (exB l)) (pE (exB l))).natAbs (plE (foldS (prs l)).1 (foldS (prs l)).2 (-valZ (exB l)) (pE (exB l)))
      (-((plZ (foldS (prs l)).1 (foldS (prs l)).2 (-valZ o) (pE o)).natAbs : Int)) (plE (foldS (prs l)).1 (foldS (prs l)).2 (-valZ o) (pE o))).sign ≤ 0 := by
  have hs := prs_small (l := l) (by omega) hf l.length (Nat.le_refl _)
  rw [show (prs l).take l.length = prs l from List.take_of_length_le (by unfold prs; simp)] at hs
  have key : (sc 100000 (foldS (prs l)).1 (foldS (prs l)).2 - sc 100000 (valZ (exB l)) (pE (exB l))).natAbs ≤ (sc 100000 (foldS (prs l)).1 (foldS (prs l)).2 - sc 100000 (valZ o) (pE o)).natAbs := by
    cases hg : ngtB l
    · have he := exB_fin (spc_fin.2 hf) hg
      rw [he] at hx ⊢
      exact near_le (by omega) (by omega) hx ho hof
    · rw [exB_ngt (spc_fin.2 hf) hg, ngt_zero hg, sc_zero, show valZ kSign = 0 from by decide, sc_zero]; simp
  have hxb := pE_bd hx
  have hob := pE_bd hof
  have e1 := sc_pl (M := 100000) (z := (foldS (prs l)).1) (e := (foldS (prs l)).2) (y := -valZ (exB l)) (f := pE (exB l)) (by omega) (by omega)
  have e2 := sc_pl (M := 100000) (z := (foldS (prs l)).1) (e := (foldS (prs l)).2) (y := -valZ o) (f := pE o) (by omega) (by omega)
  have g1 := plE_ge (M := 100000) (z := (foldS (prs l)).1) (e := (foldS (prs l)).2) (y := -valZ (exB l)) (f := pE (exB l)) (by omega) (by omega)
  have g2 := plE_ge (M := 100000) (z := (foldS (prs l)).1) (e := (foldS (prs l)).2) (y := -valZ o) (f := pE o) (by omega) (by omega)
  rw [sc_neg] at e1 e2
  refine sgn_np g1 g2 ?_
  rw [sc_natAbs, sc_natAbs, e1, e2]
  omega

theorem near_inf_law {l : List Nat} (hn : l.length ≤ 600) (hf : l.all finB = true) (hx : finB (exB l) = false) :
    nanB (exB l) = false ∧ 0 ≤ (plZ ((foldS (prs l)).1.natAbs : Int) (foldS (prs l)).2 (-18014398509481983) 970).sign ∧ (F6.order (exB l) 0 == some Ordering.gt) = decide (0 < (foldS (prs l)).1.sign) := by
  have hs := prs_small (l := l) (by omega) hf l.length (Nat.le_refl _)
  rw [show (prs l).take l.length = prs l from List.take_of_length_le (by unfold prs; simp)] at hs
  cases hg : ngtB l
  · have he := exB_fin (spc_fin.2 hf) hg
    rw [he] at hx ⊢
    obtain ⟨h1, h2, h3⟩ := near_inf (M := 100000) (by omega) (by omega) hx
    refine ⟨?_, ?_, ?_⟩
    · rw [h2]; cases decide ((foldS (prs l)).1 < 0) <;> decide
    · refine sgn_nn (by omega) (by decide) ?_
      rw [sc_natAbs, natAbs_sc]
      have h4 : sc 100000 18014398509481983 970 = (((2 ^ 54 - 1) * 2 ^ (970 + 100000 : Int).toNat : Nat) : Int) := by
        unfold sc
        rw [Int.natCast_mul, Int.natCast_pow]
        rfl
      rw [h4]
      exact Int.ofNat_le.2 h3
    · rw [h2]
      by_cases hneg : (foldS (prs l)).1 < 0
      · rw [decide_eq_true hneg, Int.sign_eq_neg_one_of_neg hneg]; decide
      · rw [decide_eq_false hneg, Int.sign_eq_one_of_pos (by omega)]; decide
  · rw [exB_ngt (spc_fin.2 hf) hg] at hx
    exact absurd hx (by decide)

theorem exB_lt {l : List Nat} (hf : l.all finB = true) : exB l < 18446744073709551616 := by
  cases hg : ngtB l
  · rw [exB_fin (spc_fin.2 hf) hg]
    unfold rndX
    by_cases h : (foldS (prs l)).1 = 0
    · rw [if_pos h]; decide
    · rw [if_neg h]; exact (rnd_lt 0 (.inl h)).1
  · rw [exB_ngt (spc_fin.2 hf) hg]; decide

end Go.Proofs.YtjoajbbapfgaoaaGreatDoor
