/- Walks: the references' Round32. Printed by wip/gen/rrnd.py. -/
import Derived.Test.YtjoajbbapfgaoaaGreatDoorZRn6
namespace Go.Proofs.YtjoajbbapfgaoaaGreatDoor
open Go.RowKit

set_option maxRecDepth 100000 in
set_option maxHeartbeats 800000 in
theorem rRound32_zero (b : Nat) (e mode : Int) (w : World) (hx : RInt w b 0) :
    Calls Tryz.prog 34 #[ExV b e, .int .i64 mode] w (Gives (.float .f32 0) w) := by
  have HX := Lib.hid hx
  have HS0 : Hid ((0 : Int).sign = 0) := Lib.hid rfl
  clear hx
  unfold ExV
  go_enter Tryz.func34, Tryz.ntmps34
  go_wp2_with fail
  refine (rSign_any _ 0 0 _ (HX.out.below (below1 _ _))).mono ?_
  rintro e2 w2 ⟨rfl, rfl⟩
  rw [HS0.out]
  go_wp2
  go_ret
  exact ⟨rfl, below1 _ _⟩

set_option maxRecDepth 100000 in
set_option maxHeartbeats 1600000 in
theorem rRound32_fit (b : Nat) (z e mode : Int) (w : World) (hx : RInt w b z) (hz : z ≠ 0) (hl : bl z.natAbs ≤ 10000000) (he1 : -10000000 ≤ e) (he2 : e ≤ 10000000) (hmode : mode = 0 ∨ mode = 1 ∨ mode = 2 ∨ mode = 3 ∨ mode = 4) (hT : Tab32 w) (hTs : 2 < w.heap.size)
    (hfit : lastE z e 24 (-149) + bl (roundZ z e 24 (-149) mode) ≤ 128) :
    Calls Tryz.prog 34 #[ExV b e, .int .i64 mode] w (Gives (.float .f32 (rndS z e mode)) w) := by
  have HX := Lib.hid hx
  have HT := Lib.hid hT
  have HTs := Lib.hid hTs
  have HRB := Lib.hid (rndS_back hz hfit)
  have HRD : Hid (∀ (W : World), RInt W b z → Tab32 W → 2 < W.heap.size → Calls Tryz.prog 109 #[ExV b e, .int .i64 24, .int .i64 (-149), .int .i64 mode] W (RRounds (hvZ z) (nrE z e) 24 (-149) mode W)) :=
    Lib.hid fun W h ht hts => rround_any b z e 24 (-149) mode W h hl he1 he2 (by decide) (by decide) (by decide) (by decide) hmode ht hts
  unfold RRounds at HRD
  obtain ⟨r1, r2⟩ := rnd_odd (e := e) (digits := 24) (least := -149) (mode := mode) hz
  rw [r2, r1] at HRD
  have hna := near_abs (z := z) (e := e) (digits := 24) (least := -149) (mode := mode)
  have hmB := roundS_le z e mode
  have hl1 : -149 ≤ lastE z e 24 (-149) := by unfold lastE; omega
  obtain ⟨s1, s2⟩ := sign_float z hz
  obtain ⟨sg, hsg, HSG⟩ : ∃ sg, (sg == 0) = false ∧ Hid (z.sign = sg) := ⟨z.sign, by have := sign_ne hz; simpa using this, Lib.hid rfl⟩
  rw [HSG.out] at s1 s2
  generalize nearZ z (lastE z e 24 (-149) - e) mode = n at *
  generalize roundZ z e 24 (-149) mode = m at *
  generalize lastE z e 24 (-149) = last at *
  have HBM : Hid (bl n.natAbs = bl m) := Lib.hid (by rw [hna])
  have hblm : bl m ≤ 54 := Nat.le_trans (bl_mono hmB) (by rw [bl_two_pow]; omega)
  have hw1 : IntKind.i64.wrap ((bl m : Int) + last) = bl m + last := IntWalk.i64_in _ (by omega)
  have hcmp : decide ((128 : Int) < (bl m : Int) + last) = false := by simp; omega
  have hf1 : bl n.natAbs ≤ 53 := by rw [hna]; exact Nat.le_trans (bl_mono hmB) (by decide)
  have hf2 : -1074 ≤ last := by omega
  have hf3 : last + bl n.natAbs ≤ 1024 := by rw [hna]; omega
  have HNB := Lib.hid (numB_lt hf1 hf2 hf3)
  have HNU := Lib.hid fun p W h => rnumber_any p n last W h hf1 hf2 hf3
  rw [← s2] at HRB
  have HS1 := Lib.hid s1
  generalize rndS z e mode = R at *
  generalize numB n last = X at *
  generalize hS : floatOfInt .f64 sg = S at *
  generalize bl m = q at *
  clear hx hz hl hT hTs hfit hf1 hf2 hf3 r1 r2 s1 s2 hna hmB hl1 hblm hmode
  generalize hC : cpB (sgnB S) X = C at HRB
  have hcw : ∀ w, (convert 26 48 (.float .f64 C)).run Tryz.prog w = .ok (.float .f32 R) w := fun w => run_convert_float_float w _ _ .f64 .f32 _ _ (by rw [Tryz.underlying26]; rfl) Tryz.underlying48 HRB.out
  have HC := Lib.hid hC
  clear hC
  unfold ExV at *
  go_enter Tryz.func34, Tryz.ntmps34
  go_wp2_with fail
  refine (rSign_any _ 0 z _ (HX.out.below (below1 _ _))).mono ?_
  rintro e3 w3 ⟨rfl, rfl⟩
  rw [HSG.out]
  go_wp2_with fail
  refine (HRD.out _ (HX.out.below (below1 _ _)) (HT.out.below HTs.out (below1 _ _)) (Nat.lt_of_lt_of_le HTs.out (below1 _ _).size)).mono ?_
  rintro e4 w4 ⟨p, rfl, hi4, hb4⟩
  have HB4 := Lib.hid ((below1 w _).trans (hb4.mono (below1 w _).size))
  have HI4 := Lib.hid hi4
  clear hi4 hb4
  go_wp2_with fail
  refine (rBitLen_any p 0 n _ HI4.out).mono ?_
  rintro e5 w5 ⟨rfl, hb5⟩
  rw [HBM.out]
  have HB5 := Lib.hid (HB4.out.trans (hb5.mono HB4.out.size))
  have HI5 := Lib.hid (HI4.out.below hb5)
  clear hb5 HI4 HB4
  go_wp2_with fail
  refine (HNU.out p _ HI5.out).mono ?_
  rintro e7 w7 ⟨rfl, hb7⟩
  have HB7 := Lib.hid (HB5.out.trans (hb7.mono HB5.out.size))
  clear hb7 HI5 HB5
  go_wp2_with fail
  refine (copysign_any X S _ HNB.out HS1.out).mono ?_
  rintro e8 w8 ⟨rfl, hb8⟩
  rw [HC.out]
  have HB8 := Lib.hid (HB7.out.trans (hb8.mono HB7.out.size))
  clear hb8
  go_wp2
  go_ret
  exact ⟨rfl, HB8.out⟩

set_option maxRecDepth 100000 in
set_option maxHeartbeats 3200000 in
theorem rRound32_great (b : Nat) (z e mode : Int) (w : World) (hx : RInt w b z) (hz : z ≠ 0) (hl : bl z.natAbs ≤ 10000000) (he1 : -10000000 ≤ e) (he2 : e ≤ 10000000) (hmode : mode = 0 ∨ mode = 1 ∨ mode = 2 ∨ mode = 3 ∨ mode = 4) (hT : Tab32 w) (hTs : 2 < w.heap.size)
    (hfit : ¬ lastE z e 24 (-149) + bl (roundZ z e 24 (-149) mode) ≤ 128) :
    Calls Tryz.prog 34 #[ExV b e, .int .i64 mode] w (Gives (.float .f32 (rndS z e mode)) w) := by
  have HX := Lib.hid hx
  have HT := Lib.hid hT
  have HTs := Lib.hid hTs
  have HRD : Hid (∀ (W : World), RInt W b z → Tab32 W → 2 < W.heap.size → Calls Tryz.prog 109 #[ExV b e, .int .i64 24, .int .i64 (-149), .int .i64 mode] W (RRounds (hvZ z) (nrE z e) 24 (-149) mode W)) :=
    Lib.hid fun W h ht hts => rround_any b z e 24 (-149) mode W h hl he1 he2 (by decide) (by decide) (by decide) (by decide) hmode ht hts
  unfold RRounds at HRD
  obtain ⟨r1, r2⟩ := rnd_odd (e := e) (digits := 24) (least := -149) (mode := mode) hz
  rw [r2, r1] at HRD
  have hna := near_abs (z := z) (e := e) (digits := 24) (least := -149) (mode := mode)
  have hmB := roundS_le z e mode
  have hl1 : -149 ≤ lastE z e 24 (-149) := by unfold lastE; omega
  have hl2 : lastE z e 24 (-149) ≤ 30000000 := by unfold lastE; omega
  unfold rndS
  rw [if_neg hfit]
  generalize nearZ z (lastE z e 24 (-149) - e) mode = n at *
  generalize roundZ z e 24 (-149) mode = m at *
  generalize lastE z e 24 (-149) = last at *
  have HBM : Hid (bl n.natAbs = bl m) := Lib.hid (by rw [hna])
  have hblm : bl m ≤ 54 := Nat.le_trans (bl_mono hmB) (by rw [bl_two_pow]; omega)
  have hw1 : IntKind.i64.wrap ((bl m : Int) + last) = bl m + last := IntWalk.i64_in _ (by omega)
  have hcmp : decide ((128 : Int) < (bl m : Int) + last) = true := by simp; omega
  generalize bl m = q at *
  clear hx hl hT hTs hfit r1 r2 hna hmB hl1 hl2 hblm he1 he2
  unfold ExV at *
  rcases Int.lt_or_le z 0 with hneg | hneg
  · have HSG : Hid (z.sign = -1) := Lib.hid (Int.sign_eq_neg_one_of_neg hneg)
    have hS : floatOfInt .f64 (-1) = 13830554455654793216 := by decide
    have HCP : Hid (cpB (sgnB 13830554455654793216) 5183643170566569984 = 14407015207421345792) := Lib.hid (by decide)
    rw [decide_eq_true hneg]
    clear hneg hz
    have hcw1 : ∀ w, (convert 26 48 (.float .f64 14407015207421345792)).run Tryz.prog w = .ok (.float .f32 4286578687) w := fun w => run_convert_float_float w _ _ .f64 .f32 _ _ (by rw [Tryz.underlying26]; rfl) Tryz.underlying48 (by decide)
    have hcw2 : ∀ w, (convert 26 48 (.float .f64 18442240474082181120)).run Tryz.prog w = .ok (.float .f32 4286578688) w := fun w => run_convert_float_float w _ _ .f64 .f32 _ _ (by rw [Tryz.underlying26]; rfl) Tryz.underlying48 (by decide)
    rcases hmode with rfl | rfl | rfl | rfl | rfl
    · rw [show (if true = true then jSign else 0) + (if beyB true 0 = true then jInf - 1 else jInf) = 4286578688 by decide]
      go_enter Tryz.func34, Tryz.ntmps34
      go_wp2_with fail
      refine (rSign_any _ 0 z _ (HX.out.below (below1 _ _))).mono ?_
      rintro e3 w3 ⟨rfl, rfl⟩
      rw [HSG.out]
      go_wp2_with fail
      refine (HRD.out _ (HX.out.below (below1 _ _)) (HT.out.below HTs.out (below1 _ _)) (Nat.lt_of_lt_of_le HTs.out (below1 _ _).size)).mono ?_
      rintro e4 w4 ⟨p, rfl, hi4, hb4⟩
      have HB4 := Lib.hid ((below1 w _).trans (hb4.mono (below1 w _).size))
      have HI4 := Lib.hid hi4
      clear hi4 hb4
      go_wp2_with fail
      refine (rBitLen_any p 0 n _ HI4.out).mono ?_
      rintro e5 w5 ⟨rfl, hb5⟩
      rw [HBM.out]
      have HB5 := Lib.hid (HB4.out.trans (hb5.mono HB4.out.size))
      clear hb5 HI4 HB4
      go_wp2_with fail
      refine (infNeg_any _).mono ?_
      rintro e8 w8 ⟨rfl, hb8⟩
      have HB8 := Lib.hid (HB5.out.trans (hb8.mono HB5.out.size))
      clear hb8
      go_wp2
      go_ret
      exact ⟨rfl, HB8.out⟩
    · rw [show (if true = true then jSign else 0) + (if beyB true 1 = true then jInf - 1 else jInf) = 4286578688 by decide]
      go_enter Tryz.func34, Tryz.ntmps34
      go_wp2_with fail
      refine (rSign_any _ 0 z _ (HX.out.below (below1 _ _))).mono ?_
      rintro e3 w3 ⟨rfl, rfl⟩
      rw [HSG.out]
      go_wp2_with fail
      refine (HRD.out _ (HX.out.below (below1 _ _)) (HT.out.below HTs.out (below1 _ _)) (Nat.lt_of_lt_of_le HTs.out (below1 _ _).size)).mono ?_
      rintro e4 w4 ⟨p, rfl, hi4, hb4⟩
      have HB4 := Lib.hid ((below1 w _).trans (hb4.mono (below1 w _).size))
      have HI4 := Lib.hid hi4
      clear hi4 hb4
      go_wp2_with fail
      refine (rBitLen_any p 0 n _ HI4.out).mono ?_
      rintro e5 w5 ⟨rfl, hb5⟩
      rw [HBM.out]
      have HB5 := Lib.hid (HB4.out.trans (hb5.mono HB4.out.size))
      clear hb5 HI4 HB4
      go_wp2_with fail
      refine (infNeg_any _).mono ?_
      rintro e8 w8 ⟨rfl, hb8⟩
      have HB8 := Lib.hid (HB5.out.trans (hb8.mono HB5.out.size))
      clear hb8
      go_wp2
      go_ret
      exact ⟨rfl, HB8.out⟩
    · rw [show (if true = true then jSign else 0) + (if beyB true 2 = true then jInf - 1 else jInf) = 4286578687 by decide]
      go_enter Tryz.func34, Tryz.ntmps34
      go_wp2_with fail
      refine (rSign_any _ 0 z _ (HX.out.below (below1 _ _))).mono ?_
      rintro e3 w3 ⟨rfl, rfl⟩
      rw [HSG.out]
      go_wp2_with fail
      refine (HRD.out _ (HX.out.below (below1 _ _)) (HT.out.below HTs.out (below1 _ _)) (Nat.lt_of_lt_of_le HTs.out (below1 _ _).size)).mono ?_
      rintro e4 w4 ⟨p, rfl, hi4, hb4⟩
      have HB4 := Lib.hid ((below1 w _).trans (hb4.mono (below1 w _).size))
      have HI4 := Lib.hid hi4
      clear hi4 hb4
      go_wp2_with fail
      refine (rBitLen_any p 0 n _ HI4.out).mono ?_
      rintro e5 w5 ⟨rfl, hb5⟩
      rw [HBM.out]
      have HB5 := Lib.hid (HB4.out.trans (hb5.mono HB4.out.size))
      clear hb5 HI4 HB4
      go_wp2_with fail
      refine (copysign_any 5183643170566569984 13830554455654793216 _ (by decide) (by decide)).mono ?_
      rintro e8 w8 ⟨rfl, hb8⟩
      rw [HCP.out]
      have HB8 := Lib.hid (HB5.out.trans (hb8.mono HB5.out.size))
      clear hb8
      go_wp2
      go_ret
      exact ⟨rfl, HB8.out⟩
    · rw [show (if true = true then jSign else 0) + (if beyB true 3 = true then jInf - 1 else jInf) = 4286578687 by decide]
      go_enter Tryz.func34, Tryz.ntmps34
      go_wp2_with fail
      refine (rSign_any _ 0 z _ (HX.out.below (below1 _ _))).mono ?_
      rintro e3 w3 ⟨rfl, rfl⟩
      rw [HSG.out]
      go_wp2_with fail
      refine (HRD.out _ (HX.out.below (below1 _ _)) (HT.out.below HTs.out (below1 _ _)) (Nat.lt_of_lt_of_le HTs.out (below1 _ _).size)).mono ?_
      rintro e4 w4 ⟨p, rfl, hi4, hb4⟩
      have HB4 := Lib.hid ((below1 w _).trans (hb4.mono (below1 w _).size))
      have HI4 := Lib.hid hi4
      clear hi4 hb4
      go_wp2_with fail
      refine (rBitLen_any p 0 n _ HI4.out).mono ?_
      rintro e5 w5 ⟨rfl, hb5⟩
      rw [HBM.out]
      have HB5 := Lib.hid (HB4.out.trans (hb5.mono HB4.out.size))
      clear hb5 HI4 HB4
      go_wp2_with fail
      refine (copysign_any 5183643170566569984 13830554455654793216 _ (by decide) (by decide)).mono ?_
      rintro e8 w8 ⟨rfl, hb8⟩
      rw [HCP.out]
      have HB8 := Lib.hid (HB5.out.trans (hb8.mono HB5.out.size))
      clear hb8
      go_wp2
      go_ret
      exact ⟨rfl, HB8.out⟩
    · rw [show (if true = true then jSign else 0) + (if beyB true 4 = true then jInf - 1 else jInf) = 4286578688 by decide]
      go_enter Tryz.func34, Tryz.ntmps34
      go_wp2_with fail
      refine (rSign_any _ 0 z _ (HX.out.below (below1 _ _))).mono ?_
      rintro e3 w3 ⟨rfl, rfl⟩
      rw [HSG.out]
      go_wp2_with fail
      refine (HRD.out _ (HX.out.below (below1 _ _)) (HT.out.below HTs.out (below1 _ _)) (Nat.lt_of_lt_of_le HTs.out (below1 _ _).size)).mono ?_
      rintro e4 w4 ⟨p, rfl, hi4, hb4⟩
      have HB4 := Lib.hid ((below1 w _).trans (hb4.mono (below1 w _).size))
      have HI4 := Lib.hid hi4
      clear hi4 hb4
      go_wp2_with fail
      refine (rBitLen_any p 0 n _ HI4.out).mono ?_
      rintro e5 w5 ⟨rfl, hb5⟩
      rw [HBM.out]
      have HB5 := Lib.hid (HB4.out.trans (hb5.mono HB4.out.size))
      clear hb5 HI4 HB4
      go_wp2_with fail
      refine (infNeg_any _).mono ?_
      rintro e8 w8 ⟨rfl, hb8⟩
      have HB8 := Lib.hid (HB5.out.trans (hb8.mono HB5.out.size))
      clear hb8
      go_wp2
      go_ret
      exact ⟨rfl, HB8.out⟩
  · have HSG : Hid (z.sign = 1) := Lib.hid (Int.sign_eq_one_of_pos (by omega))
    have hS : floatOfInt .f64 (1) = 4607182418800017408 := by decide
    have HCP : Hid (cpB (sgnB 4607182418800017408) 5183643170566569984 = 5183643170566569984) := Lib.hid (by decide)
    rw [decide_eq_false (by omega : ¬ z < 0)]
    clear hneg hz
    have hcw1 : ∀ w, (convert 26 48 (.float .f64 5183643170566569984)).run Tryz.prog w = .ok (.float .f32 2139095039) w := fun w => run_convert_float_float w _ _ .f64 .f32 _ _ (by rw [Tryz.underlying26]; rfl) Tryz.underlying48 (by decide)
    have hcw2 : ∀ w, (convert 26 48 (.float .f64 9218868437227405312)).run Tryz.prog w = .ok (.float .f32 2139095040) w := fun w => run_convert_float_float w _ _ .f64 .f32 _ _ (by rw [Tryz.underlying26]; rfl) Tryz.underlying48 (by decide)
    rcases hmode with rfl | rfl | rfl | rfl | rfl
    · rw [show (if false = true then jSign else 0) + (if beyB false 0 = true then jInf - 1 else jInf) = 2139095040 by decide]
      go_enter Tryz.func34, Tryz.ntmps34
      go_wp2_with fail
      refine (rSign_any _ 0 z _ (HX.out.below (below1 _ _))).mono ?_
      rintro e3 w3 ⟨rfl, rfl⟩
      rw [HSG.out]
      go_wp2_with fail
      refine (HRD.out _ (HX.out.below (below1 _ _)) (HT.out.below HTs.out (below1 _ _)) (Nat.lt_of_lt_of_le HTs.out (below1 _ _).size)).mono ?_
      rintro e4 w4 ⟨p, rfl, hi4, hb4⟩
      have HB4 := Lib.hid ((below1 w _).trans (hb4.mono (below1 w _).size))
      have HI4 := Lib.hid hi4
      clear hi4 hb4
      go_wp2_with fail
      refine (rBitLen_any p 0 n _ HI4.out).mono ?_
      rintro e5 w5 ⟨rfl, hb5⟩
      rw [HBM.out]
      have HB5 := Lib.hid (HB4.out.trans (hb5.mono HB4.out.size))
      clear hb5 HI4 HB4
      go_wp2_with fail
      refine (inf_any _).mono ?_
      rintro e8 w8 ⟨rfl, hb8⟩
      have HB8 := Lib.hid (HB5.out.trans (hb8.mono HB5.out.size))
      clear hb8
      go_wp2
      go_ret
      exact ⟨rfl, HB8.out⟩
    · rw [show (if false = true then jSign else 0) + (if beyB false 1 = true then jInf - 1 else jInf) = 2139095040 by decide]
      go_enter Tryz.func34, Tryz.ntmps34
      go_wp2_with fail
      refine (rSign_any _ 0 z _ (HX.out.below (below1 _ _))).mono ?_
      rintro e3 w3 ⟨rfl, rfl⟩
      rw [HSG.out]
      go_wp2_with fail
      refine (HRD.out _ (HX.out.below (below1 _ _)) (HT.out.below HTs.out (below1 _ _)) (Nat.lt_of_lt_of_le HTs.out (below1 _ _).size)).mono ?_
      rintro e4 w4 ⟨p, rfl, hi4, hb4⟩
      have HB4 := Lib.hid ((below1 w _).trans (hb4.mono (below1 w _).size))
      have HI4 := Lib.hid hi4
      clear hi4 hb4
      go_wp2_with fail
      refine (rBitLen_any p 0 n _ HI4.out).mono ?_
      rintro e5 w5 ⟨rfl, hb5⟩
      rw [HBM.out]
      have HB5 := Lib.hid (HB4.out.trans (hb5.mono HB4.out.size))
      clear hb5 HI4 HB4
      go_wp2_with fail
      refine (inf_any _).mono ?_
      rintro e8 w8 ⟨rfl, hb8⟩
      have HB8 := Lib.hid (HB5.out.trans (hb8.mono HB5.out.size))
      clear hb8
      go_wp2
      go_ret
      exact ⟨rfl, HB8.out⟩
    · rw [show (if false = true then jSign else 0) + (if beyB false 2 = true then jInf - 1 else jInf) = 2139095039 by decide]
      go_enter Tryz.func34, Tryz.ntmps34
      go_wp2_with fail
      refine (rSign_any _ 0 z _ (HX.out.below (below1 _ _))).mono ?_
      rintro e3 w3 ⟨rfl, rfl⟩
      rw [HSG.out]
      go_wp2_with fail
      refine (HRD.out _ (HX.out.below (below1 _ _)) (HT.out.below HTs.out (below1 _ _)) (Nat.lt_of_lt_of_le HTs.out (below1 _ _).size)).mono ?_
      rintro e4 w4 ⟨p, rfl, hi4, hb4⟩
      have HB4 := Lib.hid ((below1 w _).trans (hb4.mono (below1 w _).size))
      have HI4 := Lib.hid hi4
      clear hi4 hb4
      go_wp2_with fail
      refine (rBitLen_any p 0 n _ HI4.out).mono ?_
      rintro e5 w5 ⟨rfl, hb5⟩
      rw [HBM.out]
      have HB5 := Lib.hid (HB4.out.trans (hb5.mono HB4.out.size))
      clear hb5 HI4 HB4
      go_wp2_with fail
      refine (copysign_any 5183643170566569984 4607182418800017408 _ (by decide) (by decide)).mono ?_
      rintro e8 w8 ⟨rfl, hb8⟩
      rw [HCP.out]
      have HB8 := Lib.hid (HB5.out.trans (hb8.mono HB5.out.size))
      clear hb8
      go_wp2
      go_ret
      exact ⟨rfl, HB8.out⟩
    · rw [show (if false = true then jSign else 0) + (if beyB false 3 = true then jInf - 1 else jInf) = 2139095040 by decide]
      go_enter Tryz.func34, Tryz.ntmps34
      go_wp2_with fail
      refine (rSign_any _ 0 z _ (HX.out.below (below1 _ _))).mono ?_
      rintro e3 w3 ⟨rfl, rfl⟩
      rw [HSG.out]
      go_wp2_with fail
      refine (HRD.out _ (HX.out.below (below1 _ _)) (HT.out.below HTs.out (below1 _ _)) (Nat.lt_of_lt_of_le HTs.out (below1 _ _).size)).mono ?_
      rintro e4 w4 ⟨p, rfl, hi4, hb4⟩
      have HB4 := Lib.hid ((below1 w _).trans (hb4.mono (below1 w _).size))
      have HI4 := Lib.hid hi4
      clear hi4 hb4
      go_wp2_with fail
      refine (rBitLen_any p 0 n _ HI4.out).mono ?_
      rintro e5 w5 ⟨rfl, hb5⟩
      rw [HBM.out]
      have HB5 := Lib.hid (HB4.out.trans (hb5.mono HB4.out.size))
      clear hb5 HI4 HB4
      go_wp2_with fail
      refine (inf_any _).mono ?_
      rintro e8 w8 ⟨rfl, hb8⟩
      have HB8 := Lib.hid (HB5.out.trans (hb8.mono HB5.out.size))
      clear hb8
      go_wp2
      go_ret
      exact ⟨rfl, HB8.out⟩
    · rw [show (if false = true then jSign else 0) + (if beyB false 4 = true then jInf - 1 else jInf) = 2139095039 by decide]
      go_enter Tryz.func34, Tryz.ntmps34
      go_wp2_with fail
      refine (rSign_any _ 0 z _ (HX.out.below (below1 _ _))).mono ?_
      rintro e3 w3 ⟨rfl, rfl⟩
      rw [HSG.out]
      go_wp2_with fail
      refine (HRD.out _ (HX.out.below (below1 _ _)) (HT.out.below HTs.out (below1 _ _)) (Nat.lt_of_lt_of_le HTs.out (below1 _ _).size)).mono ?_
      rintro e4 w4 ⟨p, rfl, hi4, hb4⟩
      have HB4 := Lib.hid ((below1 w _).trans (hb4.mono (below1 w _).size))
      have HI4 := Lib.hid hi4
      clear hi4 hb4
      go_wp2_with fail
      refine (rBitLen_any p 0 n _ HI4.out).mono ?_
      rintro e5 w5 ⟨rfl, hb5⟩
      rw [HBM.out]
      have HB5 := Lib.hid (HB4.out.trans (hb5.mono HB4.out.size))
      clear hb5 HI4 HB4
      go_wp2_with fail
      refine (copysign_any 5183643170566569984 4607182418800017408 _ (by decide) (by decide)).mono ?_
      rintro e8 w8 ⟨rfl, hb8⟩
      rw [HCP.out]
      have HB8 := Lib.hid (HB5.out.trans (hb8.mono HB5.out.size))
      clear hb8
      go_wp2
      go_ret
      exact ⟨rfl, HB8.out⟩

/-- Any number, any mode. -/
theorem rRound32_any (b : Nat) (z e mode : Int) (w : World) (hx : RInt w b z) (hl : bl z.natAbs ≤ 10000000) (he1 : -10000000 ≤ e) (he2 : e ≤ 10000000) (hm1 : 0 ≤ mode) (hm2 : mode ≤ 4) (hT : Tab32 w) (hTs : 2 < w.heap.size) :
    Calls Tryz.prog 34 #[ExV b e, .int .i64 mode] w (Gives (.float .f32 (rndXS z e mode)) w) := by
  have hmode : mode = 0 ∨ mode = 1 ∨ mode = 2 ∨ mode = 3 ∨ mode = 4 := by omega
  unfold rndXS
  by_cases h0 : z = 0
  · subst h0; rw [if_pos rfl]; exact rRound32_zero b e mode w hx
  · rw [if_neg h0]
    by_cases h : lastE z e 24 (-149) + bl (roundZ z e 24 (-149) mode) ≤ 128
    · exact rRound32_fit b z e mode w hx h0 hl he1 he2 hmode hT hTs h
    · exact rRound32_great b z e mode w hx h0 hl he1 he2 hmode hT hTs h

end Go.Proofs.YtjoajbbapfgaoaaGreatDoor
