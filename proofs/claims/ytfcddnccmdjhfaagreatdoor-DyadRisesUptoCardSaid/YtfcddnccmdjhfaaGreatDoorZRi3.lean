/- Facts for the walk of DyadRises. Printed by wip/gen/ri3.py. -/
import Derived.Test.YtfcddnccmdjhfaaGreatDoorZRi2
import Derived.Test.YtfcddnccmdjhfaaGreatDoorZRin
import Derived.Test.YtfcddnccmdjhfaaGreatDoorZRk5
namespace Go.Proofs.YtfcddnccmdjhfaaGreatDoor
open Go.RowKit

section
variable {P : Program} {L : List Oper} {Q : Exit → Act → World → Prop} {S : World → Prop} {md : Region.Mode}

/-- One that only reads, or of a value that is not asked. -/
theorem wpPl_skipL {i k : Nat} {o : Oper} {K : Act → World → Prop} {pl : Pl} {a : Act} {w : World} (ho : L[i]? = some o) (hd : o.dst = some k)
    (hQ : ∀ c a' w', Q (.panic c) (a'.put o.dst undef) w' → Q (.panic c) a' w')
    (hw : Region.wanted o (yielded L.toArray a.tmps) = false) (hS : S w)
    (h : wpPl P L.toArray Q S K pl { tmps := a.tmps.setIfInBounds k undef, defers := a.defers } w) : wpPl P L.toArray Q S K (.take i pl) a w := by
  refine ⟨o, undef, getL ho, hQ, .inr ⟨hw, rfl⟩, hS, ?_⟩
  rw [hd]; exact h

theorem wpPl_idleL {i k : Nat} {o : Oper} {K : Act → World → Prop} {pl : Pl} {a : Act} {w : World} (ho : L[i]? = some o) (hd : o.dst = some k)
    (hw : Region.wanted o (yielded L.toArray a.tmps) = false) (hS : S w)
    (h : wpPl P L.toArray Q S K pl { tmps := a.tmps.setIfInBounds k undef, defers := a.defers } w) : wpPl P L.toArray Q S K (.run i pl) a w :=
  wpPl_run (getL ho) fun K' hK => by
    rw [hw]
    refine hK _ _ hS ?_
    rw [hd]; exact h
end

theorem Box2d.swap {w0 W : World} {na nb : Bool} {sa sb : Value} {e f : Int} (h : Box2d w0 W na nb sa sb e f) :
    Box2d w0 ((((((W.setCell ⟨w0.heap.size, 0, none⟩ (.bool nb)).setCell ⟨w0.heap.size, 1, none⟩ sb).setCell ⟨w0.heap.size, 2, none⟩ (.int .i64 f)).setCell ⟨w0.heap.size + 1, 0, none⟩ (.bool na)).setCell ⟨w0.heap.size + 1, 1, none⟩ sa).setCell ⟨w0.heap.size + 1, 2, none⟩ (.int .i64 e)) nb na sb sa f e := by
  obtain ⟨h1, h2, h3⟩ := h
  have g1 := ((h1.set (i := 0) (.bool nb)).set (i := 1) sb).set (i := 2) (.int .i64 f)
  have g2 := ((h2.setOther (c := w0.heap.size) (i := 0) (by omega) (.bool nb)).setOther (c := w0.heap.size) (i := 1) (by omega) sb).setOther (c := w0.heap.size) (i := 2) (by omega) (.int .i64 f)
  refine ⟨((g1.setOther (by omega) _).setOther (by omega) _).setOther (by omega) _, ((g2.set (i := 0) (.bool na)).set (i := 1) sa).set (i := 2) (.int .i64 e), ?_⟩
  exact (((((h3.setCell (Nat.le_refl _) _).setCell (Nat.le_refl _) _).setCell (Nat.le_refl _) _).setCell (show w0.heap.size ≤ w0.heap.size + 1 by omega) _).setCell (show w0.heap.size ≤ w0.heap.size + 1 by omega) _).setCell (show w0.heap.size ≤ w0.heap.size + 1 by omega) _

theorem rIn_I (v : Value) (z e : Int) (w : World) (h : DyI w v z e) (hl : bl z.natAbs ≤ 65536) : Calls Tryz.prog 12 #[v] w (RxNew z e w) := by
  obtain ⟨sl, rfl, hr⟩ := h
  have := rIn_in (decide (z < 0)) e sl _ _ w hr (Nat.le_trans (ln_le_bl 32 _ (by decide)) (by omega))
  rw [show (if decide (z < 0) = true then -((z.natAbs : Nat) : Int) else ((z.natAbs : Nat) : Int)) = z by
    by_cases h : z < 0
    · rw [decide_eq_true h, if_pos rfl]; omega
    · rw [decide_eq_false h, if_neg (by decide)]; omega] at this
  exact this

theorem good_zero_or {z e : Int} (h : GoodD z e) : z ≠ 0 ∨ e = 0 := by
  rcases h.1 with h1 | h1
  · exact .inr h1.2
  · left; omega

/-- How the walk asks for <=, for >=, for ==. -/
theorem leq_ways {x y : Nat} (hx : x < 18446744073709551616 ∧ x % kSign ≤ kInf) (hy : y < 18446744073709551616 ∧ y % kSign ≤ kInf) (h : ky x ≤ ky y) :
    ((FloatKind.f64.format.order x y == some Ordering.lt) = true ∧ (FloatKind.f64.format.order x y == some Ordering.eq) = false) ∨ ((FloatKind.f64.format.order x y == some Ordering.lt) = false ∧ (FloatKind.f64.format.order x y == some Ordering.eq) = true) := by
  have := order_ky hx.1 hy.1 hx.2 hy.2
  unfold F6 at this
  rw [this]
  rcases Int.lt_or_eq_of_le h with h1 | h1
  · rw [Int.compare_eq_lt.2 h1]; exact .inl ⟨rfl, rfl⟩
  · rw [h1]; right; simp

theorem geq_ways {x y : Nat} (hx : x < 18446744073709551616 ∧ x % kSign ≤ kInf) (hy : y < 18446744073709551616 ∧ y % kSign ≤ kInf) (h : ky y ≤ ky x) :
    ((FloatKind.f64.format.order x y == some Ordering.gt) = true ∧ (FloatKind.f64.format.order x y == some Ordering.eq) = false) ∨ ((FloatKind.f64.format.order x y == some Ordering.gt) = false ∧ (FloatKind.f64.format.order x y == some Ordering.eq) = true) := by
  have := order_ky hx.1 hy.1 hx.2 hy.2
  unfold F6 at this
  rw [this]
  rcases Int.lt_or_eq_of_le h with h1 | h1
  · rw [Int.compare_eq_gt.2 h1]; exact .inl ⟨rfl, rfl⟩
  · rw [h1]; right; simp

/-- Two dyads in their boxes' form, the first at most the second. -/
def LoHi (w : World) (v1 v2 : Value) (z1 e1 z2 e2 : Int) : Prop :=
  (DyI w v1 z1 e1 ∧ GoodD z1 e1) ∧ (DyI w v2 z2 e2 ∧ GoodD z2 e2) ∧ sc 100000 z1 e1 ≤ sc 100000 z2 e2

theorem sign_le {z e y f : Int} (hz : GoodD z e) (hy : GoodD y f) (h : ¬ 0 < (plZ z e (-y) f).sign) : sc 100000 z e ≤ sc 100000 y f := by
  have h1 := sc_pl (M := 100000) (z := z) (e := e) (y := -y) (f := f) (by have := hz.2.2.1; omega) (by have := hy.2.2.1; omega)
  rw [sc_neg] at h1
  have h2 : ¬ 0 < plZ z e (-y) f := fun h0 => h (by rw [Int.sign_eq_one_of_pos h0]; decide)
  have h3 : sc 100000 (plZ z e (-y) f) (plE z e (-y) f) ≤ 0 := by
    unfold sc
    exact Int.mul_nonpos_of_nonpos_of_nonneg (by omega) (Int.le_of_lt (Int.pow_pos (by decide)))
  omega

theorem sign_ge {z e y f : Int} (hz : GoodD z e) (hy : GoodD y f) (h : 0 < (plZ z e (-y) f).sign) : sc 100000 y f ≤ sc 100000 z e := by
  have h1 := sc_pl (M := 100000) (z := z) (e := e) (y := -y) (f := f) (by have := hz.2.2.1; omega) (by have := hy.2.2.1; omega)
  rw [sc_neg] at h1
  have h2 : 0 < plZ z e (-y) f := Int.sign_pos_iff.1 h
  have h3 : 0 ≤ sc 100000 (plZ z e (-y) f) (plE z e (-y) f) := by
    unfold sc
    exact Int.mul_nonneg (by omega) (Int.le_of_lt (Int.pow_pos (by decide)))
  omega

/-- The sign of a difference, of values that stand so. -/
theorem sign_np {z e y f : Int} (h1 : 0 ≤ e + 100000) (h2 : 0 ≤ f + 100000) (h : sc 100000 z e ≤ sc 100000 y f) : (plZ z e (-y) f).sign ≤ 0 := by
  have h3 := sc_pl (M := 100000) (z := z) (e := e) (y := -y) (f := f) h1 h2
  rw [sc_neg] at h3
  rcases Int.lt_trichotomy (plZ z e (-y) f) 0 with h4 | h4 | h4
  · rw [Int.sign_eq_neg_one_of_neg h4]; decide
  · rw [h4]; decide
  · have h5 : 0 < sc 100000 (plZ z e (-y) f) (plE z e (-y) f) := by unfold sc; exact Int.mul_pos h4 (Int.pow_pos (by decide))
    omega

theorem sign_nn {z e y f : Int} (h1 : 0 ≤ e + 100000) (h2 : 0 ≤ f + 100000) (h : sc 100000 y f ≤ sc 100000 z e) : 0 ≤ (plZ z e (-y) f).sign := by
  have h3 := sc_pl (M := 100000) (z := z) (e := e) (y := -y) (f := f) h1 h2
  rw [sc_neg] at h3
  rcases Int.lt_trichotomy (plZ z e (-y) f) 0 with h4 | h4 | h4
  · have h5 : sc 100000 (plZ z e (-y) f) (plE z e (-y) f) < 0 := by unfold sc; exact Int.mul_neg_of_neg_of_pos h4 (Int.pow_pos (by decide))
    omega
  · rw [h4]; decide
  · rw [Int.sign_eq_one_of_pos h4]; decide

end Go.Proofs.YtfcddnccmdjhfaaGreatDoor
