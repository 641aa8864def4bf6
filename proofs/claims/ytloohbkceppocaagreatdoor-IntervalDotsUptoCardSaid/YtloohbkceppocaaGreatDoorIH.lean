/- Walk: a number's power, rounded. -/
import Derived.Test.YtloohbkceppocaaGreatDoorIG
import Derived.Deep.CutRange
section
namespace Go.Proofs.YtloohbkceppocaaGreatDoor
open Go.RowKit

/-- The state of the loop: the number itself, and its power so far. -/
def PwR (w0 W : World) (bb cc : Nat) (nd : Bool) (sd : Value) (z e : Int) (np : Bool) (sp : Value) (y f : Int) : Prop :=
  BlkT W bb 98 #[.bool nd, sd, .int .i64 e] ∧ DyAt W (.agg #[.bool nd, sd, .int .i64 e]) z e ∧ BlkT W cc 98 #[.bool np, sp, .int .i64 f] ∧ DyAt W (.agg #[.bool np, sp, .int .i64 f]) y f ∧ Below w0.heap.size w0 W ∧ w0.heap.size ≤ cc ∧ bb ≠ cc
theorem PwR.later {w0 W V : World} {bb cc : Nat} {nd : Bool} {sd : Value} {z e : Int} {np : Bool} {sp : Value} {y f : Int} (h : PwR w0 W bb cc nd sd z e np sp y f) (hb : Below W.heap.size W V) : PwR w0 V bb cc nd sd z e np sp y f :=
  ⟨h.1.below hb, h.2.1.below hb, h.2.2.1.below hb, h.2.2.2.1.below hb, h.2.2.2.2.1.trans (hb.mono h.2.2.2.2.1.size), h.2.2.2.2.2⟩
theorem PwR.put {w0 W : World} {bb cc : Nat} {nd : Bool} {sd : Value} {z e : Int} {np : Bool} {sp : Value} {y f : Int} {n2 : Bool} {s2 : Value} {y2 g : Int} (h : PwR w0 W bb cc nd sd z e np sp y f) (ha : DyAt W (.agg #[.bool n2, s2, .int .i64 g]) y2 g) :
    PwR w0 (((W.setCell ⟨cc, 0, none⟩ (.bool n2)).setCell ⟨cc, 1, none⟩ s2).setCell ⟨cc, 2, none⟩ (.int .i64 g)) bb cc nd sd z e n2 s2 y2 g := by
  obtain ⟨hb, hd, hc, hp, hB, hl, hn⟩ := h
  exact ⟨((hb.setOther hn _).setOther hn _).setOther hn _, hd.set3 hc _ _ _, ((hc.set (i := 0) (.bool n2)).set (i := 1) s2).set (i := 2) (.int .i64 g), ha.set3 hc _ _ _,
    ((hB.setCell (p := ⟨cc, 0, none⟩) hl _).setCell (p := ⟨cc, 1, none⟩) hl _).setCell (p := ⟨cc, 2, none⟩) hl _, hl, hn⟩
theorem PwR.start {w0 W : World} {nd : Bool} {sd : Value} {z e : Int} (h : DyAt W (.agg #[.bool nd, sd, .int .i64 e]) z e) (hb : Below w0.heap.size w0 W) :
    PwR w0 ((W.alloc (.cells #[.bool nd, sd, .int .i64 e] 98)).alloc (.cells #[.bool nd, sd, .int .i64 e] 98)) W.heap.size (W.heap.size + 1) nd sd z e nd sd z e := by
  have h1 := (Below.alloc_self W (.cells #[.bool nd, sd, .int .i64 e] 98)).alloc (Below.alloc_self W (.cells #[.bool nd, sd, .int .i64 e] 98)).size (.cells #[.bool nd, sd, .int .i64 e] 98)
  exact ⟨(BlkT.new W _ _).alloc _, h.below h1, BlkT.new1 W _ _ _, h.below h1, hb.trans (h1.mono hb.size), by have := hb.size; omega, by omega⟩

end Go.Proofs.YtloohbkceppocaaGreatDoor
end

/- Walk: the power of an interval. Printed by wip/gen/iv14.py. -/
section
namespace Go.Proofs.YtloohbkceppocaaGreatDoor
open Go.RowKit
attribute [local go_sem] run_store_f

theorem I1.put {w0 W : World} {l h : Nat} (hx : I1 w0 W l h) (x y : Nat) : I1 w0 ((W.setCell ⟨w0.heap.size, 0, none⟩ (.float .f64 x)).setCell ⟨w0.heap.size, 1, none⟩ (.float .f64 y)) x y :=
  ⟨⟨(hx.1.1.set (i := 0) (.float .f64 x)).set (i := 1) (.float .f64 y), (hx.1.2.setOther (by omega) _).setOther (by omega) _⟩, (hx.2.setCell (p := ⟨w0.heap.size, 0, none⟩) (Nat.le_refl _) _).setCell (p := ⟨w0.heap.size, 1, none⟩) (Nat.le_refl _) _⟩

end Go.Proofs.YtloohbkceppocaaGreatDoor
end

/- The values of places; sums and products of places: they rise, they turn round. -/
section
namespace Go.Proofs.YtloohbkceppocaaGreatDoor
open Go.RowKit

/-- The value of a place, in units of the least float. -/
def vv (k : Int) : Int := vI 1074 (kb k)

theorem kb_fin {k : Int} (h1 : -(kInf : Int) < k) (h2 : k < kInf) : W64 (kb k) ∧ finB (kb k) = true ∧ nanB (kb k) = false ∧ ky (kb k) = k := by
  obtain ⟨a, b, c⟩ := kb_lt (k := k) (by omega) (by omega)
  exact ⟨a, (fin_ky a b).2 (by omega), num_iff.2 b, c⟩
theorem kb_inf {k : Int} (h1 : -(kInf : Int) ≤ k) (h2 : k ≤ kInf) : finB (kb k) = decide (-(kInf : Int) < k ∧ k < kInf) := by
  obtain ⟨a, b, c⟩ := kb_lt (k := k) (by omega) (by omega)
  have h := fin_ky a b
  rw [c] at h
  cases hf : finB (kb k)
  · exact (decide_eq_false (fun h3 => by have := h.2 h3; rw [hf] at this; cases this)).symm
  · exact (decide_eq_true (h.1 hf)).symm
theorem vv_zero : vv 0 = 0 := by unfold vv; rw [kb_zero]; exact vI_zero _
theorem kb_neg {k : Int} (h1 : -(kInf : Int) ≤ k) (h2 : k ≤ kInf) (h : k ≠ 0) : kb (-k) = flipB (kb k) := by
  obtain ⟨a, b, c⟩ := kb_lt (k := k) h1 h2
  have h3 := flip_ky a
  rw [c] at h3
  rw [← h3]
  refine kb_own fun h4 => h ?_
  rw [h4, ky_sign] at h3
  omega
theorem vv_neg {k : Int} (h1 : -(kInf : Int) < k) (h2 : k < kInf) : vv (-k) = -vv k := by
  by_cases h : k = 0
  · subst h; rw [Int.neg_zero, vv_zero]; rfl
  · obtain ⟨a, b, c, d⟩ := kb_fin h1 h2
    unfold vv
    rw [kb_neg (by omega) (by omega) h, vI_flip a b (Int.le_refl _)]
theorem vv_le {k j : Int} (h1 : -(kInf : Int) < k) (h2 : k < kInf) (h3 : -(kInf : Int) < j) (h4 : j < kInf) : k ≤ j ↔ vv k ≤ vv j := by
  obtain ⟨a, b, c, d⟩ := kb_fin h1 h2
  obtain ⟨a', b', c', d'⟩ := kb_fin h3 h4
  have := ky_le_vI a a' b b' (Int.le_refl 1074)
  rw [d, d'] at this
  exact this
theorem vv_pos {k : Int} (h1 : -(kInf : Int) < k) (h2 : k < kInf) : (0 ≤ k ↔ 0 ≤ vv k) ∧ (k ≤ 0 ↔ vv k ≤ 0) := by
  have hk : (0 : Int) < kInf := by decide
  have a := vv_le (k := 0) (j := k) (by omega) hk h1 h2
  have b := vv_le (k := k) (j := 0) h1 h2 (by omega) hk
  rw [vv_zero] at a b
  exact ⟨a, b⟩

theorem sc_times {M z e y f : Int} (h1 : 0 ≤ e + M) (h2 : 0 ≤ f + M) : sc (M + M) (z * y) (e + f) = sc M z e * sc M y f := by
  unfold sc
  have : (e + f + (M + M)).toNat = (e + M).toNat + (f + M).toNat := by omega
  rw [this, Int.pow_add, Int.mul_assoc, Int.mul_assoc]
  congr 1
  rw [Int.mul_left_comm]

theorem ml_rises {x y x' y' : Int} (mode : Int) (hx : -(kInf : Int) < x ∧ x < kInf) (hy : -(kInf : Int) < y ∧ y < kInf) (hx' : -(kInf : Int) < x' ∧ x' < kInf) (hy' : -(kInf : Int) < y' ∧ y' < kInf)
    (h : vv x * vv y ≤ vv x' * vv y') : mlK (kb x) (kb y) mode ≤ mlK (kb x') (kb y') mode := by
  have e1 := pE_bd (kb_fin hx.1 hx.2).2.1
  have e2 := pE_bd (kb_fin hy.1 hy.2).2.1
  have e3 := pE_bd (kb_fin hx'.1 hx'.2).2.1
  have e4 := pE_bd (kb_fin hy'.1 hy'.2).2.1
  unfold mlK
  refine rndX_rises (M := 1074 + 1074) mode (by omega) (by omega) (by omega) ?_
  rw [sc_times (by omega) (by omega), sc_times (by omega) (by omega)]
  exact h

theorem ml_sign {x y : Int} (mode : Int) (hx : -(kInf : Int) < x ∧ x < kInf) (hy : -(kInf : Int) < y ∧ y < kInf) : (vv x * vv y ≤ 0 → mlK (kb x) (kb y) mode ≤ 0) ∧ (0 ≤ vv x * vv y → 0 ≤ mlK (kb x) (kb y) mode) := by
  have e1 := pE_bd (kb_fin hx.1 hx.2).2.1
  have e2 := pE_bd (kb_fin hy.1 hy.2).2.1
  have hz : ky 0 = 0 := by decide
  refine ⟨fun h => ?_, fun h => ?_⟩
  · rw [← hz]
    refine rnd_le (M := 1074 + 1074) mode (by omega) (by omega) (by decide) (by decide) ?_
    rw [sc_times (by omega) (by omega), vI_zero]
    exact h
  · rw [← hz]
    refine le_rnd (M := 1074 + 1074) mode (by omega) (by omega) (by decide) (by decide) ?_
    rw [sc_times (by omega) (by omega), vI_zero]
    exact h

theorem ad_rises {x y x' y' : Int} (mode : Int) (hx : -(kInf : Int) < x ∧ x < kInf) (hy : -(kInf : Int) < y ∧ y < kInf) (hx' : -(kInf : Int) < x' ∧ x' < kInf) (hy' : -(kInf : Int) < y' ∧ y' < kInf)
    (h : vv x + vv y ≤ vv x' + vv y') : adK (kb x) (kb y) mode ≤ adK (kb x') (kb y') mode := by
  have e1 := pE_bd (kb_fin hx.1 hx.2).2.1
  have e2 := pE_bd (kb_fin hy.1 hy.2).2.1
  have e3 := pE_bd (kb_fin hx'.1 hx'.2).2.1
  have e4 := pE_bd (kb_fin hy'.1 hy'.2).2.1
  unfold adK
  refine rndX_rises (M := 1074) mode (by omega) (plE_ge (by omega) (by omega)) (plE_ge (by omega) (by omega)) ?_
  rw [sc_pl (by omega) (by omega), sc_pl (by omega) (by omega)]
  exact h

/-- Rounded down it is not above what is rounded up; it is no infinity on the wrong side. -/
theorem ad_bd (x y : Nat) : adK x y 4 ≤ adK x y 3 ∧ adK x y 4 < kInf ∧ -(kInf : Int) ≤ adK x y 4 ∧ -(kInf : Int) < adK x y 3 ∧ adK x y 3 ≤ kInf := by
  have h := rndX_adj (plZ (valZ x) (pE x) (valZ y) (pE y)) (plE (valZ x) (pE x) (valZ y) (pE y))
  have h2 := rndX_up_low (plZ (valZ x) (pE x) (valZ y) (pE y)) (plE (valZ x) (pE x) (valZ y) (pE y))
  obtain ⟨a, b⟩ := rndX_lt (plZ (valZ x) (pE x) (valZ y) (pE y)) (plE (valZ x) (pE x) (valZ y) (pE y)) 3
  have h3 := ky_bd a b
  unfold adK
  omega
theorem ml_bd (x y : Nat) : mlK x y 4 ≤ mlK x y 3 ∧ mlK x y 4 < kInf ∧ -(kInf : Int) ≤ mlK x y 4 ∧ -(kInf : Int) < mlK x y 3 ∧ mlK x y 3 ≤ kInf := by
  have h := rndX_adj (valZ x * valZ y) (pE x + pE y)
  have h2 := rndX_up_low (valZ x * valZ y) (pE x + pE y)
  obtain ⟨a, b⟩ := rndX_lt (valZ x * valZ y) (pE x + pE y) 3
  have h3 := ky_bd a b
  unfold mlK
  omega

end Go.Proofs.YtloohbkceppocaaGreatDoor
end

/- Sums, products and powers of intervals are intervals; turned round they are the same; a square is in the product. -/
section
namespace Go.Proofs.YtloohbkceppocaaGreatDoor
open Go.RowKit

theorem kInf_pos : (0 : Int) < kInf := by decide

theorem su_form {x y : Int} (hx : -(kInf : Int) ≤ x ∧ x ≤ kInf) (hy : -(kInf : Int) ≤ y ∧ y ≤ kInf) (mode : Int) :
    suK (kb x) (kb y) mode = if -(kInf : Int) < x ∧ x < kInf then (if -(kInf : Int) < y ∧ y < kInf then adK (kb x) (kb y) mode else y) else x := by
  unfold suK
  rw [kb_inf hx.1 hx.2, kb_inf hy.1 hy.2, (kb_lt hx.1 hx.2).2.2, (kb_lt hy.1 hy.2).2.2]
  by_cases h1 : -(kInf : Int) < x ∧ x < kInf
  · by_cases h2 : -(kInf : Int) < y ∧ y < kInf
    · rw [decide_eq_true h1, decide_eq_true h2, if_neg (by decide), if_neg (by decide), if_pos h1, if_pos h2]
    · rw [decide_eq_true h1, decide_eq_false h2, if_neg (by decide), if_pos rfl, if_pos h1, if_neg h2]
  · rw [decide_eq_false h1, if_pos rfl, if_neg h1]

theorem addK_ok {a b : Option (Int × Int)} (ha : Iok a) (hb : Iok b) : Iok (addK a b) := by
  rcases a with _ | ⟨l, h⟩
  · exact Iok.none
  rcases b with _ | ⟨m, k⟩
  · exact Iok.none
  obtain ⟨a1, a2, a3, a4, a5⟩ := ha l h rfl
  obtain ⟨b1, b2, b3, b4, b5⟩ := hb m k rfl
  intro x y e
  have e2 : (suK (kb l) (kb m) 4, suK (kb h) (kb k) 3) = (x, y) := Option.some.inj e
  obtain ⟨rfl, rfl⟩ := Prod.mk.inj e2
  rw [su_form ⟨by omega, by omega⟩ ⟨by omega, by omega⟩, su_form ⟨by omega, by omega⟩ ⟨by omega, by omega⟩]
  have c1 := ad_bd (kb l) (kb m)
  have c2 := ad_bd (kb h) (kb k)
  by_cases f1 : -(kInf : Int) < l ∧ l < kInf <;> by_cases f2 : -(kInf : Int) < m ∧ m < kInf <;> by_cases f3 : -(kInf : Int) < h ∧ h < kInf <;> by_cases f4 : -(kInf : Int) < k ∧ k < kInf <;>
    simp only [f1, f2, f3, f4, and_self, if_true, if_false] <;> try omega
  have := ad_rises 4 f1 f2 f3 f4 (Int.add_le_add ((vv_le f1.1 f1.2 f3.1 f3.2).1 a2) ((vv_le f2.1 f2.2 f4.1 f4.2).1 b2))
  omega

theorem pr_form {x y : Int} (hx : -(kInf : Int) ≤ x ∧ x ≤ kInf) (hy : -(kInf : Int) ≤ y ∧ y ≤ kInf) (mode : Int) :
    prK (kb x) (kb y) mode = if x = 0 ∨ y = 0 then 0 else if (-(kInf : Int) < x ∧ x < kInf) ∧ (-(kInf : Int) < y ∧ y < kInf) then mlK (kb x) (kb y) mode else if (0 < x ↔ 0 < y) then (kInf : Int) else -(kInf : Int) := by
  unfold prK sgK
  rw [kb_inf hx.1 hx.2, kb_inf hy.1 hy.2, (kb_lt hx.1 hx.2).2.2, (kb_lt hy.1 hy.2).2.2]
  by_cases h0 : x = 0 ∨ y = 0
  · rw [if_pos h0, if_pos h0]
  · rw [if_neg h0, if_neg h0]
    by_cases h1 : -(kInf : Int) < x ∧ x < kInf <;> by_cases h2 : -(kInf : Int) < y ∧ y < kInf <;> by_cases h3 : 0 < x <;> by_cases h4 : 0 < y <;> simp [h1, h2, h3, h4]

theorem ml_comm (x y : Nat) (mode : Int) : mlK x y mode = mlK y x mode := by unfold mlK; rw [Int.mul_comm, Int.add_comm]

theorem pr_comm {x y : Int} (hx : -(kInf : Int) ≤ x ∧ x ≤ kInf) (hy : -(kInf : Int) ≤ y ∧ y ≤ kInf) (mode : Int) : prK (kb x) (kb y) mode = prK (kb y) (kb x) mode := by
  rw [pr_form hx hy, pr_form hy hx, ml_comm]
  by_cases h0 : x = 0 <;> by_cases h1 : y = 0 <;> by_cases h3 : 0 < x <;> by_cases h4 : 0 < y <;> simp [h0, h1, h3, h4, and_comm]

theorem pr_neg {x y : Int} (hx : -(kInf : Int) ≤ x ∧ x ≤ kInf) (hy : -(kInf : Int) ≤ y ∧ y ≤ kInf) (mode : Int) : prK (kb (-x)) (kb (-y)) mode = prK (kb x) (kb y) mode := by
  rw [pr_form hx hy, pr_form ⟨by omega, by omega⟩ ⟨by omega, by omega⟩]
  by_cases h0 : x = 0 ∨ y = 0
  · rw [if_pos h0, if_pos (by omega)]
  · rw [if_neg h0, if_neg (by omega)]
    by_cases h1 : (-(kInf : Int) < x ∧ x < kInf) ∧ (-(kInf : Int) < y ∧ y < kInf)
    · rw [if_pos h1, if_pos (by omega)]
      have e : vv (-x) * vv (-y) = vv x * vv y := by rw [vv_neg h1.1.1 h1.1.2, vv_neg h1.2.1 h1.2.2, Int.neg_mul_neg]
      exact Int.le_antisymm (ml_rises mode ⟨by omega, by omega⟩ ⟨by omega, by omega⟩ h1.1 h1.2 (by omega)) (ml_rises mode h1.1 h1.2 ⟨by omega, by omega⟩ ⟨by omega, by omega⟩ (by omega))
    · rw [if_neg h1, if_neg (by omega)]
      by_cases h3 : (0 < x ↔ 0 < y)
      · rw [if_pos h3, if_pos (by omega)]
      · rw [if_neg h3, if_neg (by omega)]

theorem pr_bd {x y : Int} (hx : -(kInf : Int) ≤ x ∧ x ≤ kInf) (hy : -(kInf : Int) ≤ y ∧ y ≤ kInf) :
    prK (kb x) (kb y) 4 ≤ prK (kb x) (kb y) 3 ∧ -(kInf : Int) ≤ prK (kb x) (kb y) 4 ∧ prK (kb x) (kb y) 3 ≤ kInf ∧
    (prK (kb x) (kb y) 4 = kInf → (x = kInf ∨ x = -kInf ∨ y = kInf ∨ y = -kInf) ∧ ((0 < x ∧ 0 < y) ∨ (x < 0 ∧ y < 0))) ∧
    (prK (kb x) (kb y) 3 = -kInf → (x = kInf ∨ x = -kInf ∨ y = kInf ∨ y = -kInf) ∧ ((0 < x ∧ y < 0) ∨ (x < 0 ∧ 0 < y))) := by
  rw [pr_form hx hy, pr_form hx hy]
  have hb := ml_bd (kb x) (kb y)
  have hk := kInf_pos
  by_cases h0 : x = 0 ∨ y = 0
  · rw [if_pos h0, if_pos h0]; omega
  · rw [if_neg h0, if_neg h0]
    by_cases h1 : (-(kInf : Int) < x ∧ x < kInf) ∧ (-(kInf : Int) < y ∧ y < kInf)
    · rw [if_pos h1, if_pos h1]; omega
    · rw [if_neg h1, if_neg h1]
      by_cases h3 : (0 < x ↔ 0 < y)
      · rw [if_pos h3]; omega
      · rw [if_neg h3]; omega

theorem mulK_ok {a b : Option (Int × Int)} (ha : Iok a) (hb : Iok b) : Iok (mulK a b) := by
  rcases a with _ | ⟨l, h⟩
  · exact Iok.none
  rcases b with _ | ⟨m, k⟩
  · exact Iok.none
  obtain ⟨a1, a2, a3, a4, a5⟩ := ha l h rfl
  obtain ⟨b1, b2, b3, b4, b5⟩ := hb m k rfl
  intro x y e
  obtain ⟨rfl, rfl⟩ := Prod.mk.inj (Option.some.inj e)
  have c1 := pr_bd (x := l) (y := m) ⟨by omega, by omega⟩ ⟨by omega, by omega⟩
  have c2 := pr_bd (x := l) (y := k) ⟨by omega, by omega⟩ ⟨by omega, by omega⟩
  have c3 := pr_bd (x := h) (y := m) ⟨by omega, by omega⟩ ⟨by omega, by omega⟩
  have c4 := pr_bd (x := h) (y := k) ⟨by omega, by omega⟩ ⟨by omega, by omega⟩
  have hk := kInf_pos
  generalize prK (kb l) (kb m) 4 = p1 at *
  generalize prK (kb l) (kb k) 4 = p2 at *
  generalize prK (kb h) (kb m) 4 = p3 at *
  generalize prK (kb h) (kb k) 4 = p4 at *
  generalize prK (kb l) (kb m) 3 = q1 at *
  generalize prK (kb l) (kb k) 3 = q2 at *
  generalize prK (kb h) (kb m) 3 = q3 at *
  generalize prK (kb h) (kb k) 3 = q4 at *
  clear e
  generalize (kInf : Int) = I at *
  obtain ⟨c11, c12, c13, c14, c15⟩ := c1
  obtain ⟨c21, c22, c23, c24, c25⟩ := c2
  obtain ⟨c31, c32, c33, c34, c35⟩ := c3
  obtain ⟨c41, c42, c43, c44, c45⟩ := c4
  refine ⟨by omega, by omega, by omega, ?_, ?_⟩
  · have : p1 < I ∨ p2 < I ∨ p3 < I ∨ p4 < I := by
      clear c15 c25 c35 c45
      by_cases g1 : p1 = I
      · by_cases g2 : p2 = I
        · by_cases g3 : p3 = I
          · by_cases g4 : p4 = I
            · have := c14 g1; have := c24 g2; have := c34 g3; have := c44 g4; omega
            · omega
          · omega
        · omega
      · omega
    omega
  · have : -I < q1 ∨ -I < q2 ∨ -I < q3 ∨ -I < q4 := by
      clear c14 c24 c34 c44
      by_cases g1 : q1 = -I
      · by_cases g2 : q2 = -I
        · by_cases g3 : q3 = -I
          · by_cases g4 : q4 = -I
            · have := c15 g1; have := c25 g2; have := c35 g3; have := c45 g4; omega
            · omega
          · omega
        · omega
      · omega
    omega

end Go.Proofs.YtloohbkceppocaaGreatDoor
end
