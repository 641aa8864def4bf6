/- Plain: what is inside stays inside. -/
import Derived.Test.YtloohbkceppocaaGreatDoorII
import Derived.Test.YtloohbkceppocaaGreatDoorZIwr
namespace Go.Proofs.YtloohbkceppocaaGreatDoor
open Go.RowKit

theorem own_parts {b : Nat} (hb : W64 b) : valZ (kb (ky b)) = valZ b ∧ pE (kb (ky b)) = pE b := by
  by_cases h : b = kSign
  · subst h; decide
  · rw [kb_own h]; exact ⟨rfl, rfl⟩
theorem rnd_mid (z e : Int) : ky (rndX z e 4) ≤ ky (rndX z e 0) ∧ ky (rndX z e 0) ≤ ky (rndX z e 3) := by
  obtain ⟨M, hM, h1⟩ : ∃ M : Int, 1074 ≤ M ∧ 0 ≤ e + M := ⟨1074 + e.natAbs, by omega, by omega⟩
  obtain ⟨l, n⟩ := rndX_lt z e 0
  obtain ⟨l4, n4⟩ := rndX_lt z e 4
  obtain ⟨l3, n3⟩ := rndX_lt z e 3
  have b := ky_bd l n
  have b3 := ky_bd l3 n3
  have adj := rndX_adj z e
  have up := rndX_up_low z e
  constructor
  · by_cases h : ky (rndX z e 4) = -(kInf : Int)
    · omega
    · have hf := (fin_ky l4 n4).2 ⟨by omega, by omega⟩
      exact le_rnd 0 hM h1 l4 hf (rndX_down_le hM h1 hf)
  · by_cases h : ky (rndX z e 3) = kInf
    · omega
    · have hf := (fin_ky l3 n3).2 ⟨by omega, by omega⟩
      exact rnd_le 0 hM h1 l3 hf (rndX_up_ge hM h1 hf)

/-- An interval that holds a number rounded outward. -/
def Enc (o : Option (Int × Int)) (z e : Int) : Prop := ∃ l h, o = some (l, h) ∧ l ≤ ky (rndX z e 4) ∧ ky (rndX z e 3) ≤ h

theorem enc_low {M z e l : Int} (hM : 1074 ≤ M) (h1 : 0 ≤ e + M) (h : l ≤ ky (rndX z e 4)) (hl : -(kInf : Int) < l) : vI M (kb l) ≤ sc M z e := by
  obtain ⟨l4, n4⟩ := rndX_lt z e 4
  have adj := rndX_adj z e
  have hf := (fin_ky l4 n4).2 ⟨by omega, by omega⟩
  obtain ⟨a, b, c, d⟩ := kb_fin (k := l) hl (by omega)
  have := (ky_le_vI a l4 b hf hM).1 (by rw [d]; exact h)
  have h2 := rndX_down_le hM h1 hf
  omega
theorem enc_high {M z e h : Int} (hM : 1074 ≤ M) (h1 : 0 ≤ e + M) (hh : ky (rndX z e 3) ≤ h) (hl : h < kInf) : sc M z e ≤ vI M (kb h) := by
  obtain ⟨l3, n3⟩ := rndX_lt z e 3
  have up := rndX_up_low z e
  have hf := (fin_ky l3 n3).2 ⟨by omega, by omega⟩
  obtain ⟨a, b, c, d⟩ := kb_fin (k := h) (by omega) hl
  have := (ky_le_vI l3 a hf b hM).1 (by rw [d]; exact hh)
  have h2 := rndX_up_ge hM h1 hf
  omega

theorem has_iff {l h : Int} {r : Nat} : hasK (some (l, h)) r = true ↔ finB r = true ∧ l ≤ ky r ∧ ky r ≤ h := by
  show (finB r && (decide (l ≤ ky r) && decide (ky r ≤ h))) = true ↔ _
  rw [Bool.and_eq_true, Bool.and_eq_true, decide_eq_true_iff, decide_eq_true_iff]

theorem Enc.has {o : Option (Int × Int)} {z e : Int} (h : Enc o z e) {r : Nat} (fr : finB r = true) (hr : ky r = ky (rndX z e 0)) : hasK o r = true := by
  obtain ⟨l, u, rfl, h1, h2⟩ := h
  have := rnd_mid z e
  exact has_iff.2 ⟨fr, by omega, by omega⟩

theorem Enc.wider {a b : Option (Int × Int)} {z e : Int} (h : Enc a z e) (hi : inK a b = true) : Enc b z e := by
  obtain ⟨l, u, rfl, h1, h2⟩ := h
  rcases b with _ | ⟨m, k⟩
  · cases hi
  · obtain ⟨e1, e2⟩ := inK_iff.1 hi
    exact ⟨m, k, rfl, by omega, by omega⟩

/-- A number as an interval. -/
def ptK (u : Nat) : Option (Int × Int) := some (ky u, ky u)
theorem pt_ok {u : Nat} (hu : W64 u) (fu : finB u = true) : Iok (ptK u) := by
  have := (fin_ky hu (num_of (nan_fin fu))).1 fu
  exact Iok.some (by omega) (by omega) (by omega) (by omega) (by omega)
theorem pt_in {a : Option (Int × Int)} {u : Nat} (h : hasK a u = true) : finB u = true ∧ inK (ptK u) a = true := by
  rcases a with _ | ⟨l, k⟩
  · cases h
  · obtain ⟨h1, h2, h3⟩ := has_iff.1 h
    exact ⟨h1, inK_iff.2 ⟨h2, h3⟩⟩
theorem pt_plc {u : Nat} (hu : W64 u) (fu : finB u = true) : (-(kInf : Int) < ky u ∧ ky u < kInf) ∧ PlcR (ky u) := by
  have := (fin_ky hu (num_of (nan_fin fu))).1 fu
  exact ⟨this, by unfold PlcR; omega⟩
theorem add_pt {u v : Nat} (hu : W64 u) (hv : W64 v) (fu : finB u = true) (fv : finB v = true) : addK (ptK u) (ptK v) = some (adK u v 4, adK u v 3) := by
  obtain ⟨a1, a2⟩ := pt_plc hu fu
  obtain ⟨b1, b2⟩ := pt_plc hv fv
  show some (suK (kb (ky u)) (kb (ky v)) 4, suK (kb (ky u)) (kb (ky v)) 3) = _
  rw [su_form a2 b2, su_form a2 b2, if_pos a1, if_pos b1, if_pos a1, if_pos b1]
  unfold adK
  rw [(own_parts hu).1, (own_parts hu).2, (own_parts hv).1, (own_parts hv).2]

theorem pr_pt {u v : Nat} (hu : W64 u) (hv : W64 v) (fu : finB u = true) (fv : finB v = true) (mode : Int) : prK (kb (ky u)) (kb (ky v)) mode = mlK u v mode := by
  obtain ⟨a1, a2⟩ := pt_plc hu fu
  obtain ⟨b1, b2⟩ := pt_plc hv fv
  have hz : ky 0 = 0 := by decide
  rw [pr_form a2 b2]
  by_cases h : ky u = 0 ∨ ky v = 0
  · rw [if_pos h]
    have : valZ u * valZ v = 0 := by
      rcases h with h | h
      · rw [(fI_zero_iff hu fu).1.1 (by have := fI_zero_iff hu fu; omega), Int.zero_mul]
      · rw [(fI_zero_iff hv fv).1.1 (by have := fI_zero_iff hv fv; omega), Int.mul_zero]
    unfold mlK
    rw [this]
    show 0 = ky (rndX 0 _ mode)
    unfold rndX
    rw [if_pos rfl, hz]
  · rw [if_neg h, if_pos ⟨a1, b1⟩]
    unfold mlK
    rw [(own_parts hu).1, (own_parts hu).2, (own_parts hv).1, (own_parts hv).2]
theorem mul_pt {u v : Nat} (hu : W64 u) (hv : W64 v) (fu : finB u = true) (fv : finB v = true) : mulK (ptK u) (ptK v) = some (mlK u v 4, mlK u v 3) := by
  have hb := ml_bd u v
  show some (min (min (min (min (kInf : Int) (prK (kb (ky u)) (kb (ky v)) 4)) (prK (kb (ky u)) (kb (ky v)) 4)) (prK (kb (ky u)) (kb (ky v)) 4)) (prK (kb (ky u)) (kb (ky v)) 4),
      max (max (max (max (-(kInf : Int)) (prK (kb (ky u)) (kb (ky v)) 3)) (prK (kb (ky u)) (kb (ky v)) 3)) (prK (kb (ky u)) (kb (ky v)) 3)) (prK (kb (ky u)) (kb (ky v)) 3)) = _
  rw [pr_pt hu hv fu fv, pr_pt hu hv fu fv]
  congr 2 <;> omega

theorem enc_pt (z e : Int) : Enc (some (ky (rndX z e 4), ky (rndX z e 3))) z e := ⟨_, _, rfl, Int.le_refl _, Int.le_refl _⟩

theorem enc_add {a b : Option (Int × Int)} (ha : Iok a) (hb : Iok b) {u v : Nat} (hu : W64 u) (hv : W64 v) (h1 : hasK a u = true) (h2 : hasK b v = true) :
    Enc (addK a b) (plZ (valZ u) (pE u) (valZ v) (pE v)) (plE (valZ u) (pE u) (valZ v) (pE v)) := by
  obtain ⟨fu, iu⟩ := pt_in h1
  obtain ⟨fv, iv⟩ := pt_in h2
  have := addK_in (pt_ok hu fu) (pt_ok hv fv) ha hb iu iv
  rw [add_pt hu hv fu fv] at this
  exact (enc_pt _ _).wider this
theorem enc_mul {a b : Option (Int × Int)} (ha : Iok a) (hb : Iok b) {u v : Nat} (hu : W64 u) (hv : W64 v) (h1 : hasK a u = true) (h2 : hasK b v = true) :
    Enc (mulK a b) (valZ u * valZ v) (pE u + pE v) := by
  obtain ⟨fu, iu⟩ := pt_in h1
  obtain ⟨fv, iv⟩ := pt_in h2
  have := mulK_in (pt_ok hu fu) (pt_ok hv fv) ha hb iu iv
  rw [mul_pt hu hv fu fv] at this
  exact (enc_pt _ _).wider this

/-- How an interval's ends stand to n / d, d above 0. -/
def HoldQ (o : Option (Int × Int)) (zn en zd ed : Int) : Prop :=
  ∃ l h, o = some (l, h) ∧ (-(kInf : Int) < l → (plZ (valZ (kb l) * zd) (pE (kb l) + ed) (-zn) en).sign ≤ 0) ∧ (h < kInf → 0 ≤ (plZ (valZ (kb h) * zd) (pE (kb h) + ed) (-zn) en).sign)

theorem Enc.hold {o : Option (Int × Int)} {z e : Int} (ho : Iok o) (h : Enc o z e) : HoldQ o z e 1 0 := by
  obtain ⟨l, u, rfl, h1, h2⟩ := h
  obtain ⟨a1, a2, a3, a4, a5⟩ := ho l u rfl
  obtain ⟨M, hM, m1⟩ : ∃ M : Int, 1074 ≤ M ∧ 0 ≤ e + M := ⟨1074 + e.natAbs, by omega, by omega⟩
  refine ⟨l, u, rfl, fun hl => ?_, fun hu => ?_⟩
  · obtain ⟨a, b, c, d⟩ := kb_fin (k := l) hl a4
    have ep := pE_bd b
    refine (cmp_sc (M := M) (by omega) m1).1.2 ?_
    rw [Int.mul_one, Int.add_zero]
    exact enc_low hM m1 h1 hl
  · obtain ⟨a, b, c, d⟩ := kb_fin (k := u) a5 hu
    have ep := pE_bd b
    refine (cmp_sc (M := M) (by omega) m1).2.1.2 ?_
    rw [Int.mul_one, Int.add_zero]
    exact enc_high hM m1 h2 hu

end Go.Proofs.YtloohbkceppocaaGreatDoor
