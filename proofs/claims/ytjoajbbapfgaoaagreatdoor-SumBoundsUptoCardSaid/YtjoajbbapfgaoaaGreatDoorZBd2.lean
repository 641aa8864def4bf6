/- Plain: floats as whole numbers of units of 2^-1074; a sum, a difference is the nearest to the exact one. -/
import Derived.Test.YtjoajbbapfgaoaaGreatDoorZBd1
import Derived.Test.YtjoajbbapfgaoaaGreatDoorZNe2
import Derived.Test.YtjoajbbapfgaoaaGreatDoorGW
namespace Go.Proofs.YtjoajbbapfgaoaaGreatDoor
open Go.RowKit

/-- A number in units of 2^-1074. -/
def fI (b : Nat) : Int := sc 1074 (valZ b) (pE b)

/-- Where sums of numbers begin to be no numbers: (2^54 - 1) U, with U = 2^2044. -/
def unE : Nat := 2044
def unU : Nat := 2 ^ unE
theorem unU_pos : 0 < unU := Nat.two_pow_pos unE

theorem fI_rep {b : Nat} (hf : finB b = true) : Rep53 (fI b) := by
  refine ⟨ownZ b, (expB b + 1074).toNat, ?_, ?_⟩
  · unfold fI; rw [← sc_own hf (by omega)]; rfl
  · rw [ownZ_natAbs]; exact Nat.le_of_lt (mantB_lt b)

theorem wv_rep (k : Nat) : ∀ m : Nat, m ≤ 2 ^ 53 → ∃ c, wv c = m * 2 ^ k := by
  induction k with
  | zero => intro m hm; exact ⟨0 * kHid + m, wv_word hm (.inl rfl)⟩
  | succ k ih =>
    intro m hm
    by_cases h : 2 ^ 52 ≤ m
    · exact ⟨(k + 1) * kHid + m, wv_word hm (.inr h)⟩
    · obtain ⟨c, hc⟩ := ih (2 * m) (by omega)
      exact ⟨c, by rw [hc, Nat.pow_succ, Nat.mul_comm 2 m, Nat.mul_assoc, Nat.mul_comm 2]⟩

theorem near_rnd {z e : Int} (he : 0 ≤ e + 1074) (hz : z ≠ 0) (hf : finB (rndB z e 0) = true) : NearR (sc 1074 z e) (fI (rndB z e 0)) := by
  have hb : beyB (decide (z < 0)) 0 = false := by cases decide (z < 0) <;> rfl
  have h1 := sc_rnd (M := 1074) (by omega) hz hf
  have h2 : capW (beyB (decide (z < 0)) 0) (wdN z e 0) = wdN z e 0 := by unfold capW; rw [if_pos (fin_cap hz hb hf)]
  rw [h2, show ((1074 : Int) - 1074).toNat = 0 from rfl, Int.pow_zero, Int.mul_one] at h1
  refine ⟨fI_rep hf, fun y hy => ?_⟩
  obtain ⟨m, k, rfl, hm⟩ := hy
  obtain ⟨c, hc⟩ := wv_rep k m.natAbs hm
  have k1 := near_word (M := 1074) (by omega) he hz c
  have k2 := near_word (M := 1074) (by omega) he hz 0
  rw [show ((1074 : Int) - 1074).toNat = 0 from rfl, Nat.pow_zero, Nat.mul_one, Nat.mul_one] at k1 k2
  rw [wv_zero] at k2
  have hy : (m * 2 ^ k).natAbs = wv c := by rw [hc, Int.natAbs_mul, Int.natAbs_pow]; rfl
  have hsc := sc_abs (M := 1074) (z := z) (e := e)
  show (sc 1074 z e - fI (rndB z e 0)).natAbs ≤ (sc 1074 z e - m * 2 ^ k).natAbs
  have h1' : fI (rndB z e 0) = (if z < 0 then -(wv (wdN z e 0) : Int) else (wv (wdN z e 0) : Int)) := h1
  rw [h1', hsc]
  generalize m * 2 ^ k = y at *
  generalize wv (wdN z e 0) = a at *
  generalize wv c = b at *
  generalize z.natAbs * 2 ^ (e + 1074).toNat = g at *
  clear h1 h1' hsc
  split <;> omega

theorem fI_zero {r : Nat} (h : r = 0 ∨ r = kSign) : fI r = 0 := by
  rcases h with rfl | rfl
  · unfold fI; rw [show valZ 0 = 0 by decide, sc_zero]
  · unfold fI; rw [show valZ kSign = 0 by decide, sc_zero]

/-- A sum of two numbers that is not too great. -/
theorem add_near {x y : Nat} (hx : x < 18446744073709551616) (hy : y < 18446744073709551616) (fx : finB x = true) (fy : finB y = true) (hB : (fI x + fI y).natAbs < 18014398509481983 * unU) :
    ∃ r, F6.add x y = some r ∧ r < 18446744073709551616 ∧ finB r = true ∧ NearR (fI x + fI y) (fI r) := by
  obtain ⟨r, hr, h1, h2⟩ := fadd_fin hx hy fx fy
  have hrl : r < 18446744073709551616 := bits_lt (op := .add) hr
  have hpx := pE_bd fx
  have hpy := pE_bd fy
  have hE : 0 ≤ plE (valZ x) (pE x) (valZ y) (pE y) + 1074 := plE_ge (by omega) (by omega)
  have hs := sc_pl (M := 1074) (z := valZ x) (e := pE x) (y := valZ y) (f := pE y) (by omega) (by omega)
  have hs' : sc 1074 (plZ (valZ x) (pE x) (valZ y) (pE y)) (plE (valZ x) (pE x) (valZ y) (pE y)) = fI x + fI y := hs
  rw [← hs'] at hB ⊢
  generalize plZ (valZ x) (pE x) (valZ y) (pE y) = P at *
  generalize plE (valZ x) (pE x) (valZ y) (pE y) = PE at *
  by_cases hP : P = 0
  · refine ⟨r, hr, hrl, ?_, ?_⟩
    · rcases h2 hP with h | h <;> rw [h] <;> decide
    · rw [hP, sc_zero, fI_zero (h2 hP)]
      exact ⟨Rep53.zero, fun y _ => by simp⟩
  · have h3 := h1 hP
    rw [rndX_hv, rndX, if_neg hP] at h3
    subst h3
    have hf : finB (rndB P PE 0) = true := by
      cases hf : finB (rndB P PE 0)
      · have h4 : finB (rndX P PE 0) = false := by rw [rndX, if_neg hP]; exact hf
        obtain ⟨-, -, h5⟩ := near_inf (M := 1074) (by omega) hE h4
        rw [natAbs_sc] at hB
        exfalso
        have h6 : (970 + 1074 : Int).toNat = unE := rfl
        rw [h6] at h5
        unfold unU at hB
        omega
      · rfl
    exact ⟨_, hr, hrl, hf, near_rnd hE hP hf⟩

/-- The other sign. -/
def flipB (b : Nat) : Nat := if b < kSign then b + kSign else b - kSign

theorem flip_lt {b : Nat} (h : b < 18446744073709551616) : flipB b < 18446744073709551616 := by unfold flipB kSign; split <;> omega
theorem flip_fin {b : Nat} : finB (flipB b) = finB b := by
  unfold finB expF flipB kHid kSign
  congr 2
  rw [show ((if b < 9223372036854775808 then b + 9223372036854775808 else b - 9223372036854775808) / 4503599627370496 % 2048 = b / 4503599627370496 % 2048) by split <;> omega]

theorem flip_parts {b : Nat} (h : b < 18446744073709551616) : mantB (flipB b) = mantB b ∧ expB (flipB b) = expB b ∧ sgnB (flipB b) = !sgnB b := by
  have h1 : expF (flipB b) = expF b := by unfold expF flipB kHid kSign; split <;> omega
  have h2 : fracF (flipB b) = fracF b := by unfold fracF flipB kHid kSign; split <;> omega
  refine ⟨by unfold mantB; rw [h1, h2], by unfold expB; rw [h1], ?_⟩
  unfold sgnB flipB kSign
  by_cases h3 : b < 9223372036854775808
  · rw [if_pos h3, decide_eq_true (by omega), decide_eq_false (by omega)]; rfl
  · rw [if_neg h3, decide_eq_false (by omega), decide_eq_true (by omega)]; rfl

theorem flip_fI {b : Nat} (h : b < 18446744073709551616) (hf : finB b = true) : fI (flipB b) = -fI b := by
  obtain ⟨h1, h2, h3⟩ := flip_parts h
  unfold fI
  rw [← sc_own hf (by omega), ← sc_own (by rw [flip_fin]; exact hf) (by omega), ← sc_neg]
  unfold ownZ
  rw [h1, h2, h3]
  cases sgnB b
  · rw [if_pos (by rfl), if_neg (by decide)]
  · rw [if_neg (by decide), if_pos rfl, Int.neg_neg]

theorem sub_flip {x y : Nat} (hy : y < 18446744073709551616) (fy : finB y = true) : F6.sub x y = F6.add x (flipB y) := by
  obtain ⟨h1, h2, h3⟩ := flip_parts hy
  unfold Ieee.Format.sub Ieee.Format.add
  rw [read_fin hy fy, read_fin (flip_lt hy) (by rw [flip_fin]; exact fy), h1, h2, h3]
  rfl

/-- A difference of two numbers that is not too great. -/
theorem sub_near {x y : Nat} (hx : x < 18446744073709551616) (hy : y < 18446744073709551616) (fx : finB x = true) (fy : finB y = true) (hB : (fI x - fI y).natAbs < 18014398509481983 * unU) :
    ∃ r, F6.sub x y = some r ∧ r < 18446744073709551616 ∧ finB r = true ∧ NearR (fI x - fI y) (fI r) := by
  rw [sub_flip hy fy]
  have h := add_near hx (flip_lt hy) fx (by rw [flip_fin]; exact fy) (by rw [flip_fI hy fy]; rw [Int.sub_eq_add_neg] at hB; exact hB)
  rw [flip_fI hy fy, ← Int.sub_eq_add_neg] at h
  exact h

/-- The k-th number; the sum in order of the first k. -/
def nthI (l : List Nat) (k : Nat) : Int := fI (l.getD k 0)
def bits0 (o : Option Nat) : Nat := match o with | some x => x | none => 0
def leftI (l : List Nat) (k : Nat) : Int := fI (bits0 (leftO (l.take k)))

theorem absI_mono (a : Nat → Int) {i j : Nat} (h : i ≤ j) : absI a i ≤ absI a j := by
  induction j with
  | zero => rw [show i = 0 by omega]; exact Nat.le_refl _
  | succ j ih =>
    by_cases he : i = j + 1
    · rw [he]; exact Nat.le_refl _
    · exact Nat.le_trans (ih (by omega)) (Nat.le_add_right _ _)

/-- All beginnings' sums are numbers, each the nearest to the one before and the next. -/
theorem left_chain {l : List Nat} (hx : ∀ x ∈ l, x < 18446744073709551616) (hf : l.all finB = true) (hn : l.length ≤ 4096) (hA : absI (nthI l) l.length < 9007199254740992 * unU) :
    ∀ k, k ≤ l.length → (∃ s, leftO (l.take k) = some s ∧ s < 18446744073709551616 ∧ finB s = true) ∧ ∀ j, j < k → NearR (leftI l j + nthI l j) (leftI l (j + 1)) := by
  have hfk : ∀ k (h : k < l.length), finB l[k] = true := fun k h => List.all_eq_true.1 hf _ (List.getElem_mem h)
  have h0 : leftI l 0 = 0 := by unfold leftI; rw [List.take_zero]; exact fI_zero (.inl rfl)
  intro k
  induction k with
  | zero => intro _; exact ⟨⟨0, rfl, by decide, by decide⟩, fun j hj => by omega⟩
  | succ k ih =>
    intro hk
    obtain ⟨⟨s, hs, hsl, hsf⟩, hc⟩ := ih (by omega)
    have hlt : k < l.length := hk
    have hsI : leftI l k = fI s := by unfold leftI; rw [hs]; rfl
    have hxI : nthI l k = fI l[k] := by unfold nthI; rw [List.getD_eq_getElem?_getD, List.getElem?_eq_getElem hlt]; rfl
    have hAk : absI (nthI l) (k + 1) ≤ absI (nthI l) l.length := absI_mono _ hk
    have hA1 : absI (nthI l) (k + 1) = absI (nthI l) k + (nthI l k).natAbs := rfl
    have hsz : 1000000 * (leftI l k).natAbs ≤ 1000001 * absI (nthI l) k := by
      rcases Nat.eq_zero_or_pos k with rfl | hpos
      · rw [h0]; simp
      · obtain ⟨j, rfl⟩ : ∃ j, k = j + 1 := ⟨k - 1, by omega⟩
        exact left_size (left_bound h0 (fun i hi => fI_rep (by
          have : i < l.length := by omega
          rw [List.getD_eq_getElem?_getD, List.getElem?_eq_getElem this]; exact hfk i this)) hc (by omega) j (Nat.le_refl _)) (by omega)
    have hU := unU_pos
    obtain ⟨r, hr, hrl, hrf, hnr⟩ := add_near hsl (hx _ (List.getElem_mem hlt)) hsf (hfk k hlt) (by
      rw [← hsI, ← hxI]
      generalize unU = U at *
      omega)
    have hnext : leftO (l.take (k + 1)) = some r := by rw [leftO_take hlt, hs]; exact hr
    refine ⟨⟨r, hnext, hrl, hrf⟩, fun j hj => ?_⟩
    by_cases hjk : j = k
    · subst hjk
      rw [hsI, hxI, show leftI l (j + 1) = fI r by unfold leftI; rw [hnext]; rfl]
      exact hnr
    · exact hc j (by omega)

/-- The sum in order: how far off it is. -/
theorem left_off {l : List Nat} (hx : ∀ x ∈ l, x < 18446744073709551616) (hf : l.all finB = true) (hn : l.length ≤ 4096) (h1 : 0 < l.length) (hA : absI (nthI l) l.length < 9007199254740992 * unU) :
    ∃ s, leftO l = some s ∧ s < 18446744073709551616 ∧ finB s = true ∧ (fI s - sumI (nthI l) l.length).natAbs * (9007199254740992 - (l.length - 1)) ≤ (l.length - 1) * absI (nthI l) l.length := by
  obtain ⟨⟨s, hs, hsl, hsf⟩, hc⟩ := left_chain hx hf hn hA l.length (Nat.le_refl _)
  have h0 : leftI l 0 = 0 := by unfold leftI; rw [List.take_zero]; exact fI_zero (.inl rfl)
  have hb := left_bound h0 (fun i hi => fI_rep (by
          rw [List.getD_eq_getElem?_getD, List.getElem?_eq_getElem hi]; exact List.all_eq_true.1 hf _ (List.getElem_mem hi))) hc (by omega) (l.length - 1) (by omega)
  rw [show l.length - 1 + 1 = l.length by omega] at hb
  have hsI : leftI l l.length = fI s := by unfold leftI; rw [hs]; rfl
  rw [hsI] at hb
  rw [List.take_length] at hs
  exact ⟨s, hs, hsl, hsf, hb⟩

end Go.Proofs.YtjoajbbapfgaoaaGreatDoor
