/- Plain: a nought behind a sum in order changes nothing. -/
import Derived.Test.YtjoajbbapfgaoaaDoorGV
import Derived.Test.YtjoajbbapfgaoaaDoorGW
namespace Go.Proofs.YtjoajbbapfgaoaaDoor
open Go.RowKit

theorem read_infinite {x : Nat} (h2 : x % kSign = kInf) : ∃ s, F6.read x = .infinity s := by
  refine ⟨(x / kSign % 2 == 1), ?_⟩
  unfold Ieee.Format.read
  simp only [F6_binade, F6_inf, F6_sign]
  rw [h2, if_neg (by decide), if_neg (by omega), if_pos rfl]

theorem write_infinite (s : Bool) : F6.write (.infinity s) = kInf ∨ F6.write (.infinity s) = kSign + kInf := by
  show F6.word s F6.infRung = _ ∨ F6.word s F6.infRung = _
  rw [F6_word, F6_inf]
  cases s
  · left; simp
  · right; rfl

theorem round_pos {z e : Int} (hz : z ≠ 0) (he : -1074 ≤ e) : 1 ≤ roundZ z e 53 (-1074) 0 := by
  rcases roundZ_low (e := e) (mode := 0) hz with h | h
  · unfold roundZ cutZ
    rw [h, if_pos (by omega)]
    have h1 : 0 < z.natAbs := by omega
    exact Nat.mul_pos h1 (Nat.two_pow_pos _)
  · omega

/-- A rounded number that is not 0: its amount is not. -/
theorem rnd_amount {z e : Int} (hz : z ≠ 0) (he : -1074 ≤ e) : rndB z e 0 % kSign ≠ 0 ∧ rndB z e 0 % kSign ≤ kInf := by
  have h1 := round_pos hz he
  rw [rnd_near hz, nearest_eq hz rfl]
  have hk := kSign_big
  have h2 : kInf ≠ 0 := by decide
  have h3 : 1 ≤ min ((lastE z e 53 (-1074) + 1074).toNat * kHid + roundZ z e 53 (-1074) 0) kInf ∧ min ((lastE z e 53 (-1074) + 1074).toNat * kHid + roundZ z e 53 (-1074) 0) kInf ≤ kInf := by
    refine ⟨?_, Nat.min_le_right _ _⟩
    rw [Nat.le_min]; omega
  generalize min ((lastE z e 53 (-1074) + 1074).toNat * kHid + roundZ z e 53 (-1074) 0) kInf = a at *
  split
  · rw [Nat.add_mod_left, Nat.mod_eq_of_lt (by omega)]; omega
  · rw [Nat.zero_add, Nat.mod_eq_of_lt (by omega)]; omega

theorem own_nought {s : Nat} (h : s < 18446744073709551616) (hf : finB s = true) (hs : sgnB s = true) (hm : mantB s = 0) : s = kSign := by
  have := bits_eq h hf
  rw [hs, if_pos rfl, hm] at this
  have h2 : expB s = -1074 := by
    unfold mantB at hm
    unfold expB
    by_cases h0 : expF s = 0
    · rw [if_pos h0]; rfl
    · rw [if_neg h0] at hm
      unfold kHid at hm; omega
  rw [h2] at this
  simpa using this

/-- A nought behind changes nothing. -/
theorem add_zero_back {s x r : Nat} (hs : s < 18446744073709551616) (hx : x < 18446744073709551616) (hsk : s ≠ kSign) (h : F6.add s x = some r) : r ≠ kSign ∧ F6.add r 0 = some r := by
  have hinf : (r = kInf ∨ r = kSign + kInf) → r ≠ kSign ∧ F6.add r 0 = some r := by
    rintro (rfl | rfl)
    · exact ⟨by decide, by decide⟩
    · exact ⟨by decide, by decide⟩
  by_cases hns : nanB s = true
  · exact absurd h (by rw [show F6.add s x = none from bits_nan (op := .add) (.inl hns)]; simp)
  by_cases hnx : nanB x = true
  · exact absurd h (by rw [show F6.add s x = none from bits_nan (op := .add) (.inr hnx)]; simp)
  have hle : s % kSign ≤ kInf := by unfold nanB at hns; simpa using hns
  have hle2 : x % kSign ≤ kInf := by unfold nanB at hnx; simpa using hnx
  rcases fin_word hle with ⟨fs, -⟩ | ⟨-, is⟩
  · rcases fin_word hle2 with ⟨fx, -⟩ | ⟨-, ix⟩
    · obtain ⟨r', hr', h1, h2⟩ := fadd_fin hs hx fs fx
      obtain rfl : r' = r := Option.some.inj (hr'.symm.trans h)
      have hpx := pE_bd fs
      have hpy := pE_bd fx
      have hE : 0 ≤ plE (valZ s) (pE s) (valZ x) (pE x) + 1074 := plE_ge (by omega) (by omega)
      by_cases hP : plZ (valZ s) (pE s) (valZ x) (pE x) = 0
      · have hr := h2 hP
        have hrk : r' ≠ kSign := by
          intro hk
          have hadd := h
          unfold Ieee.Format.add at hadd
          rw [read_fin hs fs, read_fin hx fx] at hadd
          unfold Ieee.Datum.sum at hadd
          simp only [signed_own, Option.map_some, Option.some.injEq] at hadd
          have hs1 := expB_bd fs
          have hx1 := expB_bd fx
          have hp1 : (0 : Int) < 2 ^ (expB s - min (expB s) (expB x)).toNat := Int.pow_pos (by decide)
          have hp2 : (0 : Int) < 2 ^ (expB x - min (expB s) (expB x)).toNat := Int.pow_pos (by decide)
          have ho1 := ownZ_natAbs s
          have hsc : sc 1074 (ownZ s * 2 ^ (expB s - min (expB s) (expB x)).toNat + ownZ x * 2 ^ (expB x - min (expB s) (expB x)).toNat) (min (expB s) (expB x)) = 0 := by
            have e1 := sc_pl (M := 1074) (z := valZ s) (e := pE s) (y := valZ x) (f := pE x) (by omega) (by omega)
            rw [hP, sc_zero, ← sc_own fs (by omega), ← sc_own fx (by omega)] at e1
            unfold sc at e1 ⊢
            rw [Int.add_mul, Int.mul_assoc, Int.mul_assoc, ← Int.pow_add, ← Int.pow_add]
            rw [e1]
            congr 3 <;> omega
          have ht := sc_eq_zero.1 hsc
          rw [if_pos ht, show F6.write (.number (sgnB s && sgnB x) (ownZ s * 2 ^ (expB s - min (expB s) (expB x)).toNat + ownZ x * 2 ^ (expB x - min (expB s) (expB x)).toNat).natAbs (min (expB s) (expB x))) = F6.word (sgnB s && sgnB x) 0 by rw [ht]; rfl, F6_word, hk] at hadd
          have hk0 : kSign ≠ 0 := by decide
          cases hss : sgnB s
          · rw [hss] at hadd; simp at hadd; omega
          · cases hsx : sgnB x
            · rw [hss, hsx] at hadd; simp at hadd; omega
            · have o1 : ownZ s ≤ 0 := by unfold ownZ; rw [hss, if_pos rfl]; omega
              have o2 : ownZ x ≤ 0 := by unfold ownZ; rw [hsx, if_pos rfl]; omega
              have m1 : ownZ s * 2 ^ (expB s - min (expB s) (expB x)).toNat ≤ 0 := Int.mul_nonpos_of_nonpos_of_nonneg o1 (Int.le_of_lt hp1)
              have m2 : ownZ x * 2 ^ (expB x - min (expB s) (expB x)).toNat ≤ 0 := Int.mul_nonpos_of_nonpos_of_nonneg o2 (Int.le_of_lt hp2)
              have m3 : ownZ s * 2 ^ (expB s - min (expB s) (expB x)).toNat = 0 := by omega
              rcases Int.mul_eq_zero.1 m3 with m4 | m4
              · exact hsk (own_nought hs fs hss (by omega))
              · omega
        rcases hr with rfl | rfl
        · exact ⟨by decide, by decide⟩
        · exact absurd rfl hrk
      · have hr := h1 hP
        have hz := hvZ_ne hP
        have hn : -1074 ≤ nrE (plZ (valZ s) (pE s) (valZ x) (pE x)) (plE (valZ s) (pE s) (valZ x) (pE x)) := by
          have := nrE_ge (M := 1074) (z := plZ (valZ s) (pE s) (valZ x) (pE x)) (by omega) hE; omega
        obtain ⟨a1, a2⟩ := rnd_amount hz hn
        rw [← hr] at a1 a2
        have hrl : r' < 18446744073709551616 := bits_lt (op := .add) h
        rcases fin_word a2 with ⟨fr, -⟩ | ⟨-, ir⟩
        · refine ⟨fun hk => a1 (by rw [hk]; exact Nat.mod_self _), ?_⟩
          obtain ⟨q, hq, k1, -⟩ := fadd_fin hrl (by decide : (0 : Nat) < 18446744073709551616) fr (by decide)
          have hv : valZ r' ≠ 0 := by
            intro h0
            have h3 := valZ_word hrl fr
            rw [bne, order_zero hrl fr, decide_eq_true h0, decide_eq_false a1] at h3
            cases h3
          have hpl : plZ (valZ r') (pE r') (valZ 0) (pE 0) = valZ r' ∧ plE (valZ r') (pE r') (valZ 0) (pE 0) = pE r' := by
            rw [show valZ 0 = 0 by decide]
            unfold plZ plE
            rw [if_neg hv, if_neg hv, if_pos rfl, if_pos rfl]; exact ⟨rfl, rfl⟩
          rw [hpl.1, hpl.2] at k1
          have hq2 := k1 hv
          rw [rndX_hv, rndX, if_neg hv, rnd_own hrl fr hv] at hq2
          rw [hq, hq2]
        · refine hinf ?_
          have : r' / kSign < 2 := Nat.div_lt_of_lt_mul (by rw [show kSign = 9223372036854775808 from rfl]; omega)
          have hdm := Nat.div_add_mod r' kSign
          rw [ir] at hdm
          generalize r' / kSign = d at *
          rcases (show d = 0 ∨ d = 1 by omega) with rfl | rfl
          · left; omega
          · right; omega
    · obtain ⟨t, ht⟩ := read_infinite ix
      unfold Ieee.Format.add at h
      rw [read_fin hs fs, ht] at h
      have h2 : F6.write (.infinity t) = r := Option.some.inj h
      exact hinf (by rw [← h2]; exact write_infinite t)
  · obtain ⟨t, ht⟩ := read_infinite is
    unfold Ieee.Format.add at h
    rw [ht] at h
    rcases fin_word hle2 with ⟨fx, -⟩ | ⟨-, ix⟩
    · rw [read_fin hx fx] at h
      have h2 : F6.write (.infinity t) = r := Option.some.inj h
      exact hinf (by rw [← h2]; exact write_infinite t)
    · obtain ⟨u, hu⟩ := read_infinite ix
      rw [hu] at h
      have h3 : Option.map F6.write (if t = u then some (.infinity t) else none) = some r := h
      by_cases htu : t = u
      · rw [if_pos htu] at h3
        have h2 : F6.write (.infinity t) = r := Option.some.inj h3
        exact hinf (by rw [← h2]; exact write_infinite t)
      · rw [if_neg htu] at h3; cases h3

/-- A nought behind a sum in order. -/
theorem left_zero (l : List Nat) (hx : ∀ x ∈ l, x < 18446744073709551616) : leftO (l ++ [0]) = leftO l := by
  have key : ∀ k, k ≤ l.length → ∀ s, leftO (l.take k) = some s → s < 18446744073709551616 ∧ s ≠ kSign ∧ F6.add s 0 = some s := by
    intro k
    induction k with
    | zero => intro _ s hs; cases hs; exact ⟨by decide, by decide, by decide⟩
    | succ k ih =>
      intro hk s hs
      rw [leftO_take (by omega)] at hs
      cases ho : leftO (l.take k) with
      | none => rw [ho] at hs; cases hs
      | some t =>
        rw [ho] at hs
        obtain ⟨i1, i2, i3⟩ := ih (by omega) t ho
        have hadd : F6.add t l[k] = some s := hs
        obtain ⟨j1, j2⟩ := add_zero_back i1 (hx _ (List.getElem_mem (by omega))) i2 hadd
        exact ⟨bits_lt (op := .add) hs, j1, j2⟩
  have h := key l.length (Nat.le_refl _)
  rw [List.take_length] at h
  unfold leftO at *
  rw [List.foldl_append]
  cases ho : List.foldl (fun s x => oA .add s (some x)) (some 0) l with
  | none => rfl
  | some s => exact (h s ho).2.2

end Go.Proofs.YtjoajbbapfgaoaaDoor
