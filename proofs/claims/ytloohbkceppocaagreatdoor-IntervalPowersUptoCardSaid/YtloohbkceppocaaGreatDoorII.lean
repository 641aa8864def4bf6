/- Sums and products of intervals rise with them. -/
import Derived.Test.YtloohbkceppocaaGreatDoorIH
namespace Go.Proofs.YtloohbkceppocaaGreatDoor
section
open Go.RowKit
def PlcR (x : Int) : Prop := -(kInf : Int) ≤ x ∧ x ≤ kInf
end
section
open Go.RowKit
theorem sc_powr {M z e : Int} (h : 0 ≤ e + M) (n : Nat) : sc (M * (n : Int)) (z ^ n) (e * (n : Int)) = sc M z e ^ n := by
 unfold sc
 have h2 : (e * (n : Int) + M * (n : Int)).toNat = (e + M).toNat * n := by
  rw [← Int.add_mul]
  obtain ⟨k, hk⟩ := Int.eq_ofNat_of_zero_le h
  rw [hk]
  show (((k : Nat) : Int) * (n : Int)).toNat = k * n
  rw [← Int.natCast_mul]
  rfl
 rw [h2, Int.mul_pow, Int.pow_mul]
theorem pw_rises {x y : Int} (n : Nat) (mode : Int) (hx : -(kInf : Int) < x ∧ x < kInf) (hy : -(kInf : Int) < y ∧ y < kInf) (h : vv x ^ n ≤ vv y ^ n) : pwK (kb x) n mode ≤ pwK (kb y) n mode := by
 have e1 := pE_bd (kb_fin hx.1 hx.2).2.1
 have e2 := pE_bd (kb_fin hy.1 hy.2).2.1
 have B (e : Int) (h1 : -1074 ≤ e) : 0 ≤ e * (n : Int) + 1074 * (n : Int) := by
  rw [← Int.add_mul]; exact Int.mul_nonneg (by omega) (by omega)
 unfold pwK
 refine rndX_rises (M := 1074 * (n : Int)) mode (Int.mul_nonneg (by decide) (by omega)) (B _ e1.1) (B _ e2.1) ?_
 rw [sc_powr (by omega), sc_powr (by omega)]
 exact h
end
section
open Go.RowKit
theorem pw_bd (x n : Nat) : pwK x n 4 ≤ pwK x n 3 ∧ pwK x n 4 < kInf ∧ -(kInf : Int) ≤ pwK x n 4 ∧ -(kInf : Int) < pwK x n 3 ∧ pwK x n 3 ≤ kInf := by
 have h := rndX_adj (valZ x ^ n) (pE x * (n : Int))
 have h2 := rndX_up_low (valZ x ^ n) (pE x * (n : Int))
 obtain ⟨a, b⟩ := rndX_lt (valZ x ^ n) (pE x * (n : Int)) 3
 have h3 := ky_bd a b
 unfold pwK
 omega
theorem to_form {x : Int} (hx : PlcR x) (n : Nat) (mode : Int) : toK (kb x) n mode = if -(kInf : Int) < x ∧ x < kInf then pwK (kb x) n mode else if n % 2 = 0 then (kInf : Int) else x := by
 unfold toK
 rw [kb_inf hx.1 hx.2, (kb_lt hx.1 hx.2).2.2]
 by_cases h : -(kInf : Int) < x ∧ x < kInf
 ·rw [decide_eq_true h, if_pos rfl, if_pos h]
 ·rw [decide_eq_false h, if_neg (by decide), if_neg h]
theorem pow_rises0 {u v : Int} (h0 : 0 ≤ u) (h : u ≤ v) (n : Nat) : 0 ≤ u ^ n ∧ u ^ n ≤ v ^ n := by
 induction n with
 | zero => rw [Int.pow_zero, Int.pow_zero]; omega
 | succ n ih =>
  rw [Int.pow_succ, Int.pow_succ]
  exact ⟨Int.mul_nonneg ih.1 h0, Int.mul_le_mul ih.2 h h0 (by omega)⟩
theorem pow_minus (u : Int) (k : Nat) : (-u) ^ (2 * k) = u ^ (2 * k) ∧ (-u) ^ (2 * k + 1) = -(u ^ (2 * k + 1)) := by
 have h : (-u) ^ (2 * k) = u ^ (2 * k) := by
  rw [Int.pow_mul, Int.pow_mul]
  congr 1
  rw [Int.pow_succ, Int.pow_succ, Int.pow_succ, Int.pow_succ, Int.pow_zero, Int.pow_zero, Int.one_mul, Int.one_mul, Int.neg_mul_neg]
 refine ⟨h, ?_⟩
 rw [Int.pow_succ, Int.pow_succ, h, Int.mul_neg]
theorem pow_rises_odd {u v : Int} (h : u ≤ v) (k : Nat) : u ^ (2 * k + 1) ≤ v ^ (2 * k + 1) := by
 rcases Int.le_total 0 u with h0 | h0
 ·exact (pow_rises0 h0 h _).2
 ·rcases Int.le_total 0 v with h1 | h1
  ·have c1 := (pow_rises0 (u := 0) (v := -u) (Int.le_refl _) (by omega) (2 * k + 1))
   have c2 := (pow_rises0 h1 (Int.le_refl v) (2 * k + 1)).1
   have c3 := (pow_minus u k).2
   omega
  ·have c1 := (pow_rises0 (u := -v) (v := -u) (by omega) (by omega) (2 * k + 1)).2
   rw [(pow_minus u k).2, (pow_minus v k).2] at c1
   omega
end
section
open Go.RowKit
theorem vv_pow {x y : Int} (n : Nat) (hx : -(kInf : Int) < x ∧ x < kInf) (hy : -(kInf : Int) < y ∧ y < kInf) (h : x ≤ y) (hc : n % 2 = 1 ∨ 0 ≤ x) : vv x ^ n ≤ vv y ^ n := by
 have hv := (vv_le hx.1 hx.2 hy.1 hy.2).1 h
 rcases hc with hc | hc
 ·obtain ⟨k, rfl⟩ : ∃ k, n = 2 * k + 1 := ⟨n / 2, by omega⟩
  exact pow_rises_odd hv k
 ·exact (pow_rises0 ((vv_pos hx.1 hx.2).1.1 hc) hv n).2
theorem to_bd {x : Int} (hx : PlcR x) (n : Nat) : PlcR (toK (kb x) n 4) ∧ PlcR (toK (kb x) n 3) := by
 have hb := pw_bd (kb x) n
 have hk := kInf_pos
 obtain ⟨x1, x2⟩ := hx
 rw [to_form ⟨x1, x2⟩, to_form ⟨x1, x2⟩]
 unfold PlcR
 split
 ·omega
 ·split <;> omega
theorem to_low {x x' : Int} (n : Nat) (hx : PlcR x) (hx' : PlcR x') (h : x' ≤ x) (n1 : x < kInf) (hc : n % 2 = 1 ∨ 0 ≤ x') : toK (kb x') n 4 ≤ toK (kb x) n 4 := by
 have hb := (to_bd hx n).1.1
 have hk := kInf_pos
 by_cases e : x' = -(kInf : Int)
 ·rw [to_form hx', if_neg (by omega), if_neg (by omega), e]; exact hb
 ·have fx' : -(kInf : Int) < x' ∧ x' < kInf := ⟨by have := hx'.1; omega, by omega⟩
  have fx : -(kInf : Int) < x ∧ x < kInf := ⟨by omega, n1⟩
  rw [to_form hx', to_form hx, if_pos fx', if_pos fx]
  exact pw_rises n 4 fx' fx (vv_pow n fx' fx h hc)
theorem to_ends {x y : Int} (n : Nat) (hx : -(kInf : Int) ≤ x) (h : x ≤ y) (hy : y ≤ kInf) (n1 : x < kInf) (n2 : -(kInf : Int) < y) (hc : n % 2 = 1 ∨ 0 ≤ x) :
  -(kInf : Int) ≤ toK (kb x) n 4 ∧ toK (kb x) n 4 ≤ toK (kb y) n 3 ∧ toK (kb y) n 3 ≤ kInf ∧ toK (kb x) n 4 < kInf ∧ -(kInf : Int) < toK (kb y) n 3 := by
 have hk := kInf_pos
 have X : PlcR x := ⟨hx, by omega⟩
 have Y : PlcR y := ⟨by omega, hy⟩
 have b1 := to_bd X n
 have b2 := to_bd Y n
 have p1 := pw_bd (kb x) n
 have p2 := pw_bd (kb y) n
 have k1 : toK (kb x) n 4 < kInf := by
  rw [to_form X]
  split
  ·omega
  ·split <;> omega
 have k2 : -(kInf : Int) < toK (kb y) n 3 := by
  rw [to_form Y]
  split
  ·omega
  ·split <;> omega
 refine ⟨b1.1.1, ?_, b2.2.2, k1, k2⟩
 by_cases e : y = kInf
 ·have : toK (kb y) n 3 = kInf := by rw [to_form Y, if_neg (by omega)]; split <;> omega
  rw [this]; omega
 ·have c1 := to_low n Y X h (by omega) hc
  have fy : -(kInf : Int) < y ∧ y < kInf := ⟨n2, by omega⟩
  rw [to_form Y n 4, if_pos fy] at c1
  rw [to_form Y n 3, if_pos fy]
  omega
end
section
open Go.RowKit
def pwA (a : Option (Int × Int)) (n : Nat) : Option (Int × Int) := if n % 2 = 0 then absK a else a
theorem pwA_ok {a : Option (Int × Int)} (ha : Iok a) (n : Nat) : Iok (pwA a n) := by
 unfold pwA; split
 ·exact absK_ok ha
 ·exact ha
theorem pwA_sign {a : Option (Int × Int)} (ha : Iok a) (n : Nat) {x y : Int} (h : pwA a n = some (x, y)) : n % 2 = 1 ∨ 0 ≤ x := by
 unfold pwA at h
 split at h
 ·exact .inr (absK_pos ha h)
 ·left; omega
theorem powK_eq (a : Option (Int × Int)) (n : Nat) : powK a n = if n = 0 then a.map fun _ => (ky 4607182418800017408, ky 4607182418800017408) else (pwA a n).map fun p => (toK (kb p.1) n 4, toK (kb p.2) n 3) := by
 unfold powK pwA; rfl
theorem one_bd : -(kInf : Int) < ky 4607182418800017408 ∧ ky 4607182418800017408 < kInf := by decide
theorem powK_ok {a : Option (Int × Int)} (ha : Iok a) (n : Nat) : Iok (powK a n) := by
 rw [powK_eq]
 by_cases h0 : n = 0
 ·rw [if_pos h0]
  rcases a with _ | p
  ·exact Iok.none
  ·have h1 := one_bd
   intro x y e
   simp only [Option.map_some, Option.some.injEq, Prod.mk.injEq] at e
   obtain ⟨rfl, rfl⟩ := e
   generalize ky 4607182418800017408 = o at *
   omega
 ·rw [if_neg h0]
  have hA := pwA_ok ha n
  rcases e : pwA a n with _ | ⟨x, y⟩
  ·exact Iok.none
  ·obtain ⟨a1, a2, a3, a4, a5⟩ := hA x y e
   have hs := to_ends n a1 a2 a3 a4 a5 (pwA_sign ha n e)
   intro u v e2
   simp only [Option.map_some, Option.some.injEq, Prod.mk.injEq] at e2
   obtain ⟨rfl, rfl⟩ := e2
   exact hs
end
end Go.Proofs.YtloohbkceppocaaGreatDoor
