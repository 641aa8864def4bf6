/- The values of places; sums and products of places: they rise, they turn round. -/
import Derived.Test.YtfmecpembnmnkaaGreatDoorIF
import Derived.Test.YtfmecpembnmnkaaGreatDoorGC
import Derived.Test.YtfmecpembnmnkaaGreatDoorHB
import Derived.Test.YtfmecpembnmnkaaGreatDoorGY
import Derived.Deep.CutRange
namespace Go.Proofs.YtfmecpembnmnkaaGreatDoor
section
open Go.RowKit
def vv (k : Int) : Int := vI 1074 (kb k)
theorem kb_fin {k : Int} (h1 : -(kInf : Int) < k) (h2 : k < kInf) : W64 (kb k) ∧ finB (kb k) = true ∧ nanB (kb k) = false ∧ ky (kb k) = k := by
 obtain ⟨a, b, c⟩ := kb_lt (k := k) (by omega) (by omega)
 exact ⟨a, (fin_ky a b).2 (by omega), num_iff.2 b, c⟩
theorem kb_inf {k : Int} (h1 : -(kInf : Int) ≤ k) (h2 : k ≤ kInf) : finB (kb k) = decide (-(kInf : Int) < k ∧ k < kInf) := by
 obtain ⟨a, b, c⟩ := kb_lt (k := k) (by omega) (by omega)
 have h := fin_ky a b
 rw [c] at h
 cases hf : finB (kb k)
 ·exact (decide_eq_false (fun h3 => by have := h.2 h3; rw [hf] at this; cases this)).symm
 ·exact (decide_eq_true (h.1 hf)).symm
theorem vv_zero : vv 0 = 0 := by unfold vv; rw [kb_zero]; exact vI_zero _
theorem vv_le {k j : Int} (h1 : -(kInf : Int) < k) (h2 : k < kInf) (h3 : -(kInf : Int) < j) (h4 : j < kInf) : k ≤ j ↔ vv k ≤ vv j := by
 obtain ⟨a, b, c, d⟩ := kb_fin h1 h2
 obtain ⟨a', b', c', d'⟩ := kb_fin h3 h4
 have := ky_le_vI a a' b b' (Int.le_refl 1074)
 rw [d, d'] at this
 exact this
theorem vv_pos {k : Int} (h1 : -(kInf : Int) < k) (h2 : k < kInf) : (0 ≤ k ↔ 0 ≤ vv k) ∧ (k ≤ 0 ↔ vv k ≤ 0) := by
 have hk : (0 : Int) < kInf := by decide
 have a := vv_le (k := 0) (j := k) (by omega) hk h1 h2
 have b := vv_le (k := k) (j := 0) h1 h2 (by omega) hk
 rw [vv_zero] at a b
 exact ⟨a, b⟩
theorem ad_rises {x y x' y' : Int} (mode : Int) (hx : -(kInf : Int) < x ∧ x < kInf) (hy : -(kInf : Int) < y ∧ y < kInf) (hx' : -(kInf : Int) < x' ∧ x' < kInf) (hy' : -(kInf : Int) < y' ∧ y' < kInf)
  (h : vv x + vv y ≤ vv x' + vv y') : adK (kb x) (kb y) mode ≤ adK (kb x') (kb y') mode := by
 have e1 := pE_bd (kb_fin hx.1 hx.2).2.1
 have e2 := pE_bd (kb_fin hy.1 hy.2).2.1
 have e3 := pE_bd (kb_fin hx'.1 hx'.2).2.1
 have e4 := pE_bd (kb_fin hy'.1 hy'.2).2.1
 unfold adK
 refine rndX_rises (M := 1074) mode (by omega) (plE_ge (by omega) (by omega)) (plE_ge (by omega) (by omega)) ?_
 rw [sc_pl (by omega) (by omega), sc_pl (by omega) (by omega)]
 exact h
theorem ad_bd (x y : Nat) : adK x y 4 ≤ adK x y 3 ∧ adK x y 4 < kInf ∧ -(kInf : Int) ≤ adK x y 4 ∧ -(kInf : Int) < adK x y 3 ∧ adK x y 3 ≤ kInf := by
 have h := rndX_adj (plZ (valZ x) (pE x) (valZ y) (pE y)) (plE (valZ x) (pE x) (valZ y) (pE y))
 have h2 := rndX_up_low (plZ (valZ x) (pE x) (valZ y) (pE y)) (plE (valZ x) (pE x) (valZ y) (pE y))
 obtain ⟨a, b⟩ := rndX_lt (plZ (valZ x) (pE x) (valZ y) (pE y)) (plE (valZ x) (pE x) (valZ y) (pE y)) 3
 have h3 := ky_bd a b
 unfold adK
 omega
theorem ml_bd (x y : Nat) : mlK x y 4 ≤ mlK x y 3 ∧ mlK x y 4 < kInf ∧ -(kInf : Int) ≤ mlK x y 4 ∧ -(kInf : Int) < mlK x y 3 ∧ mlK x y 3 ≤ kInf := by
 have h := rndX_adj (valZ x * valZ y) (pE x + pE y)
 have h2 := rndX_up_low (valZ x * valZ y) (pE x + pE y)
 obtain ⟨a, b⟩ := rndX_lt (valZ x * valZ y) (pE x + pE y) 3
 have h3 := ky_bd a b
 unfold mlK
 omega
end
section
open Go.RowKit
theorem kInf_pos : (0 : Int) < kInf := by decide
theorem su_form {x y : Int} (hx : -(kInf : Int) ≤ x ∧ x ≤ kInf) (hy : -(kInf : Int) ≤ y ∧ y ≤ kInf) (mode : Int) :
  suK (kb x) (kb y) mode = if -(kInf : Int) < x ∧ x < kInf then (if -(kInf : Int) < y ∧ y < kInf then adK (kb x) (kb y) mode else y) else x := by
 unfold suK
 rw [kb_inf hx.1 hx.2, kb_inf hy.1 hy.2, (kb_lt hx.1 hx.2).2.2, (kb_lt hy.1 hy.2).2.2]
 by_cases h1 : -(kInf : Int) < x ∧ x < kInf
 ·by_cases h2 : -(kInf : Int) < y ∧ y < kInf
  ·rw [decide_eq_true h1, decide_eq_true h2, if_neg (by decide), if_neg (by decide), if_pos h1, if_pos h2]
  ·rw [decide_eq_true h1, decide_eq_false h2, if_neg (by decide), if_pos rfl, if_pos h1, if_neg h2]
 ·rw [decide_eq_false h1, if_pos rfl, if_neg h1]
theorem addK_ok {a b : Option (Int × Int)} (ha : Iok a) (hb : Iok b) : Iok (addK a b) := by
 rcases a with _ | ⟨l, h⟩
 ·exact Iok.none
 rcases b with _ | ⟨m, k⟩
 ·exact Iok.none
 obtain ⟨a1, a2, a3, a4, a5⟩ := ha l h rfl
 obtain ⟨b1, b2, b3, b4, b5⟩ := hb m k rfl
 intro x y e
 have e2 : (suK (kb l) (kb m) 4, suK (kb h) (kb k) 3) = (x, y) := Option.some.inj e
 obtain ⟨rfl, rfl⟩ := Prod.mk.inj e2
 rw [su_form ⟨by omega, by omega⟩ ⟨by omega, by omega⟩, su_form ⟨by omega, by omega⟩ ⟨by omega, by omega⟩]
 have c1 := ad_bd (kb l) (kb m)
 have c2 := ad_bd (kb h) (kb k)
 by_cases f1 : -(kInf : Int) < l ∧ l < kInf <;> by_cases f2 : -(kInf : Int) < m ∧ m < kInf <;> by_cases f3 : -(kInf : Int) < h ∧ h < kInf <;> by_cases f4 : -(kInf : Int) < k ∧ k < kInf <;>
  simp only [f1, f2, f3, f4, and_self, if_true, if_false] <;> try omega
 have := ad_rises 4 f1 f2 f3 f4 (Int.add_le_add ((vv_le f1.1 f1.2 f3.1 f3.2).1 a2) ((vv_le f2.1 f2.2 f4.1 f4.2).1 b2))
 omega
theorem pr_form {x y : Int} (hx : -(kInf : Int) ≤ x ∧ x ≤ kInf) (hy : -(kInf : Int) ≤ y ∧ y ≤ kInf) (mode : Int) :
  prK (kb x) (kb y) mode = if x = 0 ∨ y = 0 then 0 else if (-(kInf : Int) < x ∧ x < kInf) ∧ (-(kInf : Int) < y ∧ y < kInf) then mlK (kb x) (kb y) mode else if (0 < x ↔ 0 < y) then (kInf : Int) else -(kInf : Int) := by
 unfold prK sgK
 rw [kb_inf hx.1 hx.2, kb_inf hy.1 hy.2, (kb_lt hx.1 hx.2).2.2, (kb_lt hy.1 hy.2).2.2]
 by_cases h0 : x = 0 ∨ y = 0
 ·rw [if_pos h0, if_pos h0]
 ·rw [if_neg h0, if_neg h0]
  by_cases h1 : -(kInf : Int) < x ∧ x < kInf <;> by_cases h2 : -(kInf : Int) < y ∧ y < kInf <;> by_cases h3 : 0 < x <;> by_cases h4 : 0 < y <;> simp [h1, h2, h3, h4]
theorem pr_bd {x y : Int} (hx : -(kInf : Int) ≤ x ∧ x ≤ kInf) (hy : -(kInf : Int) ≤ y ∧ y ≤ kInf) :
  prK (kb x) (kb y) 4 ≤ prK (kb x) (kb y) 3 ∧ -(kInf : Int) ≤ prK (kb x) (kb y) 4 ∧ prK (kb x) (kb y) 3 ≤ kInf ∧
  (prK (kb x) (kb y) 4 = kInf → (x = kInf ∨ x = -kInf ∨ y = kInf ∨ y = -kInf) ∧ ((0 < x ∧ 0 < y) ∨ (x < 0 ∧ y < 0))) ∧
  (prK (kb x) (kb y) 3 = -kInf → (x = kInf ∨ x = -kInf ∨ y = kInf ∨ y = -kInf) ∧ ((0 < x ∧ y < 0) ∨ (x < 0 ∧ 0 < y))) := by
 rw [pr_form hx hy, pr_form hx hy]
 have hb := ml_bd (kb x) (kb y)
 have hk := kInf_pos
 by_cases h0 : x = 0 ∨ y = 0
 ·rw [if_pos h0, if_pos h0]; omega
 ·rw [if_neg h0, if_neg h0]
  by_cases h1 : (-(kInf : Int) < x ∧ x < kInf) ∧ (-(kInf : Int) < y ∧ y < kInf)
  ·rw [if_pos h1, if_pos h1]; omega
  ·rw [if_neg h1, if_neg h1]
   by_cases h3 : (0 < x ↔ 0 < y)
   ·rw [if_pos h3]; omega
   ·rw [if_neg h3]; omega
theorem mulK_ok {a b : Option (Int × Int)} (ha : Iok a) (hb : Iok b) : Iok (mulK a b) := by
 rcases a with _ | ⟨l, h⟩
 ·exact Iok.none
 rcases b with _ | ⟨m, k⟩
 ·exact Iok.none
 obtain ⟨a1, a2, a3, a4, a5⟩ := ha l h rfl
 obtain ⟨b1, b2, b3, b4, b5⟩ := hb m k rfl
 intro x y e
 obtain ⟨rfl, rfl⟩ := Prod.mk.inj (Option.some.inj e)
 have c1 := pr_bd (x := l) (y := m) ⟨by omega, by omega⟩ ⟨by omega, by omega⟩
 have c2 := pr_bd (x := l) (y := k) ⟨by omega, by omega⟩ ⟨by omega, by omega⟩
 have c3 := pr_bd (x := h) (y := m) ⟨by omega, by omega⟩ ⟨by omega, by omega⟩
 have c4 := pr_bd (x := h) (y := k) ⟨by omega, by omega⟩ ⟨by omega, by omega⟩
 have hk := kInf_pos
 generalize prK (kb l) (kb m) 4 = p1 at *
 generalize prK (kb l) (kb k) 4 = p2 at *
 generalize prK (kb h) (kb m) 4 = p3 at *
 generalize prK (kb h) (kb k) 4 = p4 at *
 generalize prK (kb l) (kb m) 3 = q1 at *
 generalize prK (kb l) (kb k) 3 = q2 at *
 generalize prK (kb h) (kb m) 3 = q3 at *
 generalize prK (kb h) (kb k) 3 = q4 at *
 clear e
 generalize (kInf : Int) = I at *
 obtain ⟨c11, c12, c13, c14, c15⟩ := c1
 obtain ⟨c21, c22, c23, c24, c25⟩ := c2
 obtain ⟨c31, c32, c33, c34, c35⟩ := c3
 obtain ⟨c41, c42, c43, c44, c45⟩ := c4
 refine ⟨by omega, by omega, by omega, ?_, ?_⟩
 ·have : p1 < I ∨ p2 < I ∨ p3 < I ∨ p4 < I := by
   clear c15 c25 c35 c45
   by_cases g1 : p1 = I
   ·by_cases g2 : p2 = I
    ·by_cases g3 : p3 = I
     ·by_cases g4 : p4 = I
      ·have := c14 g1; have := c24 g2; have := c34 g3; have := c44 g4; omega
      ·omega
     ·omega
    ·omega
   ·omega
  omega
 ·have : -I < q1 ∨ -I < q2 ∨ -I < q3 ∨ -I < q4 := by
   clear c14 c24 c34 c44
   by_cases g1 : q1 = -I
   ·by_cases g2 : q2 = -I
    ·by_cases g3 : q3 = -I
     ·by_cases g4 : q4 = -I
      ·have := c15 g1; have := c25 g2; have := c35 g3; have := c45 g4; omega
      ·omega
     ·omega
    ·omega
   ·omega
  omega
end
end Go.Proofs.YtfmecpembnmnkaaGreatDoor
