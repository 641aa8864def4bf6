/- Walks: the references' Round, where it is not too great. -/
import Derived.Test.YtjoajbbapfgaoaaGreatDoorZRn5
namespace Go.Proofs.YtjoajbbapfgaoaaGreatDoor
open Go.RowKit

theorem rnd_odd {z e digits least mode : Int} (hz : z ≠ 0) : lastE (hvZ z) (nrE z e) digits least = lastE z e digits least ∧
    nearZ (hvZ z) (lastE (hvZ z) (nrE z e) digits least - nrE z e) mode = nearZ z (lastE z e digits least - e) mode := by
  have h1 : 0 ≤ e + (e.natAbs : Int) := by omega
  obtain ⟨a1, a2, a3, -⟩ := round_val (digits := digits) (least := least) (mode := mode) (hvZ_ne hz) (nrE_ge (M := (e.natAbs : Int)) (by omega) h1) h1 (sc_nr h1)
  refine ⟨a1, ?_⟩
  rw [near_last, near_last, a2]
  by_cases h : z < 0
  · rw [if_pos h, if_pos (hvZ_neg_iff.2 h)]
  · rw [if_neg h, if_neg (fun h2 => h (hvZ_neg_iff.1 h2))]

theorem near_abs {z e digits least mode : Int} : (nearZ z (lastE z e digits least - e) mode).natAbs = roundZ z e digits least mode := by
  rw [near_last]; split <;> omega

theorem fit_odd {z e mode : Int} (hfit : lastE z e 53 (-1074) + bl (roundZ z e 53 (-1074) mode) ≤ 1024) :
    bl (hvZ (nearZ z (lastE z e 53 (-1074) - e) mode)).natAbs ≤ 53 ∧ -1074 ≤ nrE (nearZ z (lastE z e 53 (-1074) - e) mode) (lastE z e 53 (-1074)) ∧
    nrE (nearZ z (lastE z e 53 (-1074) - e) mode) (lastE z e 53 (-1074)) + bl (hvZ (nearZ z (lastE z e 53 (-1074) - e) mode)).natAbs ≤ 1024 := by
  have h1 := roundZ_le z e 53 (-1074) mode 53 rfl
  have h2 : -1074 ≤ lastE z e 53 (-1074) := by unfold lastE; omega
  have hna := near_abs (z := z) (e := e) (digits := 53) (least := -1074) (mode := mode)
  generalize nearZ z (lastE z e 53 (-1074) - e) mode = n at *
  generalize roundZ z e 53 (-1074) mode = m at *
  generalize lastE z e 53 (-1074) = last at *
  by_cases hn0 : n = 0
  · subst hn0
    rw [hvZ_zero, show nrE 0 last = 0 from if_pos rfl]; decide
  have hE : 0 ≤ last + 1074 := by omega
  have hnr := nrE_ge (M := 1074) (z := n) (by omega) hE
  have hs := sc_nr (M := 1074) (z := n) (e := last) hE
  have hb := hvZ_ne hn0
  have habs := congrArg Int.natAbs hs
  unfold sc at habs
  rw [natAbs_shift, natAbs_shift, hna] at habs
  have hbe : bl (hvZ n).natAbs + (nrE n last + 1074).toNat = bl m + (last + 1074).toNat := by
    rw [← bl_mul_pow (by omega), ← bl_mul_pow (by omega), habs]
  have hb53 : bl (hvZ n).natAbs ≤ 53 := by
    have ho := hvZ_mod hn0
    have hle : (hvZ n).natAbs ≤ 2 ^ 53 := by
      have := hvZ_natAbs_le (z := n)
      omega
    exact bl_le_of_lt (by omega)
  omega

theorem numB_lt {n e : Int} (hb : bl n.natAbs ≤ 53) (he : -1074 ≤ e) (hu : e + bl n.natAbs ≤ 1024) : numB n e < 18446744073709551616 := by
  unfold numB
  by_cases h0 : n = 0
  · rw [if_pos h0]; decide
  · rw [if_neg h0]; exact (rnd_fin h0 hb he hu).1

theorem sign_float (z : Int) (hz : z ≠ 0) : floatOfInt .f64 z.sign < 18446744073709551616 ∧ sgnB (floatOfInt .f64 z.sign) = decide (z < 0) := by
  rcases Int.lt_trichotomy z 0 with h | h | h
  · rw [Int.sign_eq_neg_one_of_neg h, decide_eq_true h]; decide
  · exact absurd h hz
  · rw [Int.sign_eq_one_of_pos h, decide_eq_false (by omega)]; decide

/-- The answer of the references' Round. -/
def rndX (z e mode : Int) : Nat := if z = 0 then 0 else rndB z e mode
def rndXS (z e mode : Int) : Nat := if z = 0 then 0 else rndS z e mode

set_option maxRecDepth 100000 in
set_option maxHeartbeats 800000 in
theorem rRound_zero (b : Nat) (e mode : Int) (w : World) (hx : RInt w b 0) :
    Calls Tryz.prog 33 #[ExV b e, .int .i64 mode] w (Gives (.float .f64 0) w) := by
  have HX := Lib.hid hx
  have HS0 : Hid ((0 : Int).sign = 0) := Lib.hid rfl
  clear hx
  unfold ExV
  go_enter Tryz.func33, Tryz.ntmps33
  go_wp2_with fail
  refine (rSign_any _ 0 0 _ (HX.out.below (below1 _ _))).mono ?_
  rintro e2 w2 ⟨rfl, rfl⟩
  rw [HS0.out]
  go_wp2
  go_ret
  exact ⟨rfl, below1 _ _⟩

set_option maxRecDepth 100000 in
set_option maxHeartbeats 1600000 in
theorem rRound_fit (b : Nat) (z e mode : Int) (w : World) (hx : RInt w b z) (hz : z ≠ 0) (hl : bl z.natAbs ≤ 10000000) (he1 : -10000000 ≤ e) (he2 : e ≤ 10000000) (hmode : mode = 0 ∨ mode = 1 ∨ mode = 2 ∨ mode = 3 ∨ mode = 4) (hT : Tab32 w) (hTs : 2 < w.heap.size)
    (hfit : lastE z e 53 (-1074) + bl (roundZ z e 53 (-1074) mode) ≤ 1024) :
    Calls Tryz.prog 33 #[ExV b e, .int .i64 mode] w (Gives (.float .f64 (rndB z e mode)) w) := by
  have HX := Lib.hid hx
  have HT := Lib.hid hT
  have HTs := Lib.hid hTs
  obtain ⟨hf1, hf2, hf3⟩ := fit_odd hfit
  have HRB := Lib.hid (rnd_back hz hfit)
  have HRD : Hid (∀ (W : World), RInt W b z → Tab32 W → 2 < W.heap.size → Calls Tryz.prog 109 #[ExV b e, .int .i64 53, .int .i64 (-1074), .int .i64 mode] W (RRounds (hvZ z) (nrE z e) 53 (-1074) mode W)) :=
    Lib.hid fun W h ht hts => rround_any b z e 53 (-1074) mode W h hl he1 he2 (by decide) (by decide) (by decide) (by decide) hmode ht hts
  unfold RRounds at HRD
  obtain ⟨r1, r2⟩ := rnd_odd (e := e) (digits := 53) (least := -1074) (mode := mode) hz
  rw [r2, r1] at HRD
  have hna := near_abs (z := z) (e := e) (digits := 53) (least := -1074) (mode := mode)
  have hmB := roundZ_le z e 53 (-1074) mode 53 rfl
  have hl1 : -1074 ≤ lastE z e 53 (-1074) := by unfold lastE; omega
  obtain ⟨s1, s2⟩ := sign_float z hz
  obtain ⟨sg, hsg, HSG⟩ : ∃ sg, (sg == 0) = false ∧ Hid (z.sign = sg) := ⟨z.sign, by have := sign_ne hz; simpa using this, Lib.hid rfl⟩
  rw [HSG.out] at s1 s2
  generalize nearZ z (lastE z e 53 (-1074) - e) mode = n at *
  generalize roundZ z e 53 (-1074) mode = m at *
  generalize lastE z e 53 (-1074) = last at *
  have HBM : Hid (bl n.natAbs = bl m) := Lib.hid (by rw [hna])
  have hblm : bl m ≤ 54 := Nat.le_trans (bl_mono hmB) (by rw [bl_two_pow]; omega)
  have hw1 : IntKind.i64.wrap ((bl m : Int) + last) = bl m + last := IntWalk.i64_in _ (by omega)
  have hcmp : decide ((1024 : Int) < (bl m : Int) + last) = false := by simp; omega
  have HNB := Lib.hid (numB_lt hf1 hf2 hf3)
  have HNU := Lib.hid fun p W h => rnumber_any p (hvZ n) (nrE n last) W h hf1 hf2 hf3
  have HOD := Lib.hid fun p W h ht hts => rOdd_any p n last W h (by rw [hna]; omega) (by omega) (by omega) ht hts
  rw [← s2] at HRB
  have HS1 := Lib.hid s1
  generalize rndB z e mode = R at *
  generalize hvZ n = n2 at *
  generalize nrE n last = e2 at *
  generalize numB n2 e2 = X at *
  generalize hS : floatOfInt .f64 sg = S at *
  generalize bl m = q at *
  clear hx hz hl hT hTs hfit hf1 hf2 hf3 r1 r2 s1 s2 hna hmB hl1 hblm hmode
  unfold ExV at *
  go_enter Tryz.func33, Tryz.ntmps33
  go_wp2_with fail
  refine (rSign_any _ 0 z _ (HX.out.below (below1 _ _))).mono ?_
  rintro e3 w3 ⟨rfl, rfl⟩
  rw [HSG.out]
  go_wp2_with fail
  refine (HRD.out _ (HX.out.below (below1 _ _)) (HT.out.below HTs.out (below1 _ _)) (Nat.lt_of_lt_of_le HTs.out (below1 _ _).size)).mono ?_
  rintro e4 w4 ⟨p, rfl, hi4, hb4⟩
  have HB4 := Lib.hid ((below1 w _).trans (hb4.mono (below1 w _).size))
  have HI4 := Lib.hid hi4
  clear hi4 hb4
  go_wp2_with fail
  refine (rBitLen_any p 0 n _ HI4.out).mono ?_
  rintro e5 w5 ⟨rfl, hb5⟩
  rw [HBM.out]
  have HB5 := Lib.hid (HB4.out.trans (hb5.mono HB4.out.size))
  have HI5 := Lib.hid (HI4.out.below hb5)
  clear hb5 HI4 HB4
  go_wp2_with fail
  refine (HOD.out p _ HI5.out (HT.out.below HTs.out HB5.out) (Nat.lt_of_lt_of_le HTs.out HB5.out.size)).mono ?_
  rintro e6 w6 ⟨p6, rfl, -, hi6, hb6⟩
  have HB6 := Lib.hid (HB5.out.trans (hb6.mono HB5.out.size))
  have HI6 := Lib.hid hi6
  clear hi6 hb6 HI5 HB5
  unfold ExV
  go_wp2_with fail
  refine (HNU.out p6 _ (HI6.out.below (below1 _ _))).mono ?_
  rintro e7 w7 ⟨rfl, hb7⟩
  have HB7 := Lib.hid ((HB6.out.alloc HB6.out.size _).trans (hb7.mono (HB6.out.alloc HB6.out.size _).size))
  clear hb7 HI6 HB6
  go_wp2_with fail
  refine (copysign_any X S _ HNB.out HS1.out).mono ?_
  rintro e8 w8 ⟨rfl, hb8⟩
  rw [HRB.out]
  have HB8 := Lib.hid (HB7.out.trans (hb8.mono HB7.out.size))
  clear hb8
  go_wp2
  go_ret
  exact ⟨rfl, HB8.out⟩

end Go.Proofs.YtjoajbbapfgaoaaGreatDoor
