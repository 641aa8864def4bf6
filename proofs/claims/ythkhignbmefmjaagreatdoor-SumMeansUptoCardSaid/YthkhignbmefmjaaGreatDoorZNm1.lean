/- Plain: a quotient's digits, however many are taken, with one more that says whether anything is left, are rounded alike. No program. -/
import Derived.Test.YthkhignbmefmjaaGreatDoorKE
import Derived.Test.YthkhignbmefmjaaGreatDoorGZ
namespace Go.Proofs.YthkhignbmefmjaaGreatDoor
open Go.RowKit
theorem rndX_same {M z e y f : Int} (mode : Int) (hM : 0 ≤ M) (h1 : 0 ≤ e + M) (h2 : 0 ≤ f + M) (h : sc M z e = sc M y f) : rndX z e mode = rndX y f mode := by
 rw [← rndX_hv z e mode, ← rndX_hv y f mode]
 obtain ⟨a, b⟩ := nrm_unique (M := M) (nrm_hv z e) (nrm_hv y f) (nrE_ge hM h1) (nrE_ge hM h2) (by rw [sc_nr h1, sc_nr h2, h])
 rw [a, b]
theorem cmp_cut {t r h K : Nat} (ht : t < K) : cmpZ ((t + K * r : Nat) : Int) ((h * K : Nat) : Int) = if r = h then (if t = 0 then 0 else 1) else cmpZ (r : Int) (h : Int) := by
 have e1 : r < h → t + K * r < h * K := fun c => by
  have := Nat.mul_le_mul_left K (show r + 1 ≤ h from c)
  rw [Nat.mul_add, Nat.mul_comm K h] at this; omega
 have e2 : h < r → h * K < t + K * r ∨ h * K ≤ t + K * r ∧ h * K ≠ t + K * r := fun c => by
  have := Nat.mul_le_mul_left K (show h + 1 ≤ r from c)
  rw [Nat.mul_add, Nat.mul_comm K h] at this; omega
 unfold cmpZ
 by_cases c : r = h
 ·subst c
  rw [if_pos rfl, Nat.mul_comm r K]
  by_cases t0 : t = 0
  ·subst t0; rw [if_pos rfl, if_neg (by omega), if_neg (by omega)]
  ·rw [if_neg t0, if_neg (by omega), if_pos (by omega)]
 ·rw [if_neg c]
  rcases Nat.lt_or_gt_of_ne c with c1 | c1
  ·have := e1 c1
   rw [if_pos (by omega), if_pos (by omega)]
  ·have := e2 c1
   rw [if_neg (by omega), if_pos (by omega), if_neg (by omega), if_pos (by omega)]
theorem cutC_trunc {N k s : Nat} {more : Bool} (hs : 1 ≤ s) : cutC N (s + k) more = cutC (N / 2 ^ k) s (more || !decide (N % 2 ^ k = 0)) := by
 have hK := Nat.two_pow_pos k
 have ht : N % 2 ^ k < 2 ^ k := Nat.mod_lt _ hK
 have hm : N % 2 ^ (s + k) = N % 2 ^ k + 2 ^ k * (N / 2 ^ k % 2 ^ s) := by rw [Nat.add_comm s k, Nat.pow_add, Nat.mod_mul]
 have hh : 2 ^ (s + k - 1) = 2 ^ (s - 1) * 2 ^ k := by rw [← Nat.pow_add]; congr 1; omega
 unfold cutC
 rw [hm, hh, cmp_cut ht]
 generalize N % 2 ^ k = t at *
 generalize N / 2 ^ k % 2 ^ s = r at *
 generalize hK2 : 2 ^ k = K at *
 have hhp := Nat.two_pow_pos (s - 1)
 generalize 2 ^ (s - 1) = h at *
 have hz : t + K * r = 0 ↔ t = 0 ∧ r = 0 := by
  constructor
  ·intro e
   have h1 : K * r = 0 := by omega
   rcases Nat.mul_eq_zero.1 h1 with h2 | h2
   ·omega
   ·exact ⟨by omega, h2⟩
  ·rintro ⟨rfl, rfl⟩; simp
 have hc : cmpZ (r : Int) (h : Int) = 0 ↔ r = h := by unfold cmpZ; split <;> (try split) <;> omega
 generalize t + K * r = X at *
 have hh0 : ¬ h = 0 := by omega
 by_cases t0 : t = 0
 ·by_cases c : r = h
  ·subst c
   have hn : ¬ X = 0 := fun e => hh0 (hz.1 e).2
   have e0 := hc.2 rfl
   cases more <;> simp [hn, hh0, e0, t0]
  ·have e0 : ¬ cmpZ (r : Int) (h : Int) = 0 := fun e => c (hc.1 e)
   by_cases hr : r = 0
   ·have hn : X = 0 := hz.2 ⟨t0, hr⟩
    cases more
    ·simp [hn, hr, t0]
    ·simp [t0, c]
   ·have hn : ¬ X = 0 := fun e => hr (hz.1 e).2
    cases more <;> simp [hn, hr, t0, c]
 ·have hn : ¬ X = 0 := fun e => t0 (hz.1 e).1
  by_cases c : r = h
  ·subst c
   have e0 := hc.2 rfl
   cases more <;> simp [hn, t0, e0]
  ·have e0 : ¬ cmpZ (r : Int) (h : Int) = 0 := fun e => c (hc.1 e)
   cases more <;> simp [hn, t0, c, e0]
theorem bl_trunc {N k : Nat} (h : 2 ^ k ≤ N) : bl N = bl (N / 2 ^ k) + k := by
 have hq : N / 2 ^ k ≠ 0 := by have := Nat.div_pos h (Nat.two_pow_pos k); omega
 have h1 := bl_shlN (k := k) hq
 have h2 : N / 2 ^ k * 2 ^ k ≤ N := Nat.div_mul_le_self _ _
 have h3 : N < (N / 2 ^ k + 1) * 2 ^ k := by rw [Nat.mul_comm]; exact Nat.lt_mul_div_succ N (Nat.two_pow_pos k)
 have h4 := bl_mono h2
 have h5 : N < 2 ^ (bl (N / 2 ^ k) + k) := by
  refine Nat.lt_of_lt_of_le h3 ?_
  rw [Nat.pow_add]
  exact Nat.mul_le_mul_right _ (lt_bl _)
 have h6 := bl_le_of_lt h5
 omega
theorem roundR_trunc {neg : Bool} {N k : Nat} {e : Int} {more : Bool} (hk : 2 ^ k ≤ N) (hl : e + k < lastR N e) :
  roundR neg N e more 0 = roundR neg (N / 2 ^ k) (e + k) (more || !decide (N % 2 ^ k = 0)) 0 := by
 have hp := Nat.two_pow_pos k
 have hq : N / 2 ^ k ≠ 0 := by have := Nat.div_pos hk hp; omega
 have hb := bl_trunc hk
 have hL : lastR (N / 2 ^ k) (e + k) = lastR N e := by unfold lastR; omega
 rw [← round_pack (by omega) (fun _ => by omega) (.inl rfl), ← round_pack hq (fun _ => by omega) (.inl rfl), hL]
 congr 1
 have hc1 : cutQ (N / 2 ^ k) (e + k) = cutQ N e := by
  unfold cutQ
  rw [hL, if_neg (by omega), if_neg (by omega), Nat.div_div_eq_div_mul, ← Nat.pow_add]
  congr 2; omega
 have hc2 : cutR (N / 2 ^ k) (e + k) (more || !decide (N % 2 ^ k = 0)) = cutR N e more := by
  unfold cutR
  rw [hL, if_neg (by omega), if_neg (by omega), show (lastR N e - e).toNat = (lastR N e - (e + k)).toNat + k by omega, cutC_trunc (by omega)]
 unfold rndQ
 rw [hc1, hc2]
def stQ (N k c : Nat) : Nat := N * 2 ^ k / c * 2 + (if N * 2 ^ k % c = 0 then 0 else 1)
theorem stQ_round (neg : Bool) (N k c : Nat) (e : Int) : rndX (sgI neg (stQ N k c)) (e - 1) 0 = roundR neg (N * 2 ^ k / c) e (!decide (N * 2 ^ k % c = 0)) 0 := by
 unfold stQ roundR
 by_cases h : N * 2 ^ k % c = 0
 ·rw [if_pos h, decide_eq_true h, if_neg (by decide), Nat.add_zero]
  refine rndX_same (M := 1 + e.natAbs) 0 (by omega) (by omega) (by omega) ?_
  unfold sc
  rw [show (e + (1 + (e.natAbs : Int))).toNat = (e - 1 + (1 + (e.natAbs : Int))).toNat + 1 by omega, Int.pow_succ]
  generalize (2 : Int) ^ _ = G
  generalize N * 2 ^ k / c = Q
  unfold sgI
  cases neg
  ·rw [if_neg (by decide), if_neg (by decide), Int.natCast_mul, Int.mul_comm G, Int.mul_assoc]; rfl
  ·rw [if_pos rfl, if_pos rfl, Int.natCast_mul, Int.neg_mul, Int.neg_mul, Int.mul_comm G, ← Int.mul_assoc]; rfl
 ·rw [if_neg h, decide_eq_false h, Bool.not_false, if_pos rfl, Nat.mul_comm]
theorem stQ_less {N c k j : Nat} {E : Int} (neg : Bool) (hN : N ≠ 0) (hc : 0 < c) (hc2 : c ≤ 4096) (hk : 100 ≤ k) :
  rndX (sgI neg (stQ N (k + j) c)) (E - ((k + j : Nat) : Int) - 1) 0 = rndX (sgI neg (stQ N k c)) (E - (k : Int) - 1) 0 := by
 rw [stQ_round, stQ_round]
 have hA : N * 2 ^ (k + j) = N * 2 ^ k * 2 ^ j := by rw [Nat.pow_add, Nat.mul_assoc]
 rw [hA]
 have hb : 2 ^ 88 ≤ N * 2 ^ k / c := by
  rw [Nat.le_div_iff_mul_le hc]
  have h1 : 2 ^ 88 * c ≤ 2 ^ 88 * 2 ^ 12 := Nat.mul_le_mul_left _ (by omega)
  have h2 : 1 * 2 ^ 100 ≤ N * 2 ^ k := Nat.mul_le_mul (by omega) (Nat.pow_le_pow_right (by decide) hk)
  rw [← Nat.pow_add] at h1
  omega
 have hjp := Nat.two_pow_pos j
 have hD : N * 2 ^ k * 2 ^ j / c / 2 ^ j = N * 2 ^ k / c := by rw [Nat.div_div_eq_div_mul, Nat.mul_div_mul_right _ _ hjp]
 have hr : (N * 2 ^ k * 2 ^ j % c = 0 ∧ N * 2 ^ k * 2 ^ j / c % 2 ^ j = 0) ↔ N * 2 ^ k % c = 0 := by
  generalize N * 2 ^ k = A at *
  generalize 2 ^ j = J at *
  constructor
  ·rintro ⟨h1, h2⟩
   have d1 := Nat.div_add_mod (A * J) c
   have d2 := Nat.div_add_mod (A * J / c) J
   rw [h1, Nat.add_zero] at d1
   rw [h2, Nat.add_zero] at d2
   rw [← d2] at d1
   have : A = c * (A * J / c / J) := Nat.eq_of_mul_eq_mul_right hjp (by rw [Nat.mul_assoc, Nat.mul_comm (A * J / c / J) J, d1])
   rw [this]; exact Nat.mul_mod_right _ _
  ·intro h1
   have d1 := Nat.div_add_mod A c
   rw [h1, Nat.add_zero] at d1
   rw [← d1]
   refine ⟨by rw [Nat.mul_assoc]; exact Nat.mul_mod_right _ _, ?_⟩
   rw [Nat.mul_assoc, Nat.mul_div_cancel_left _ hc]; exact Nat.mul_mod_left _ _
 have hbig : 2 ^ j ≤ N * 2 ^ k * 2 ^ j / c := by
  rw [Nat.le_div_iff_mul_le hc, Nat.mul_comm (2 ^ j) c]
  refine Nat.mul_le_mul_right _ ?_
  have := Nat.le_trans (show 1 ≤ 2 ^ 88 from Nat.one_le_two_pow) hb
  rw [Nat.le_div_iff_mul_le hc] at this
  omega
 have hbl := bl_trunc hbig
 rw [hD] at hbl
 have hb88 : 89 ≤ bl (N * 2 ^ k / c) := by
  rcases Nat.lt_or_ge (bl (N * 2 ^ k / c)) 89 with h | h
  ·have := bl_le_iff.1 (show bl (N * 2 ^ k / c) ≤ 88 by omega); omega
  ·exact h
 rw [roundR_trunc (k := j) hbig (by unfold lastR; omega), hD, show E - ((k + j : Nat) : Int) + (j : Int) = E - (k : Int) by omega]
 congr 1
 have hb : ∀ p q r : Prop, [Decidable p] → [Decidable q] → [Decidable r] → ((p ∧ q) ↔ r) → (!decide p || !decide q) = !decide r := by
  intro p q r _ _ _ h
  by_cases hp : p <;> by_cases hq : q <;> simp [← h, hp, hq]
 exact hb _ _ _ hr
theorem stQ_same {N c k1 k2 : Nat} {E : Int} (neg : Bool) (hN : N ≠ 0) (hc : 0 < c) (hc2 : c ≤ 4096) (h1 : 100 ≤ k1) (h2 : 100 ≤ k2) :
  rndX (sgI neg (stQ N k1 c)) (E - (k1 : Int) - 1) 0 = rndX (sgI neg (stQ N k2 c)) (E - (k2 : Int) - 1) 0 := by
 rcases Nat.le_total k1 k2 with h | h
 ·obtain ⟨j, rfl⟩ := Nat.exists_eq_add_of_le h
  exact (stQ_less neg hN hc hc2 h1).symm
 ·obtain ⟨j, rfl⟩ := Nat.exists_eq_add_of_le h
  exact stQ_less neg hN hc hc2 h2
end Go.Proofs.YthkhignbmefmjaaGreatDoor
