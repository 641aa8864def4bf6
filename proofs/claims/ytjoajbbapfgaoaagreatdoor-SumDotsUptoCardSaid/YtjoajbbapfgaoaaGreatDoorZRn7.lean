/- Walks: the references' Round. Printed by wip/gen/rrnd.py. -/
import Derived.Test.YtjoajbbapfgaoaaGreatDoorZRn6
namespace Go.Proofs.YtjoajbbapfgaoaaGreatDoor
open Go.RowKit

set_option maxRecDepth 100000 in
set_option maxHeartbeats 3200000 in
theorem rRound_great (b : Nat) (z e mode : Int) (w : World) (hx : RInt w b z) (hz : z ≠ 0) (hl : bl z.natAbs ≤ 10000000) (he1 : -10000000 ≤ e) (he2 : e ≤ 10000000) (hmode : mode = 0 ∨ mode = 1 ∨ mode = 2 ∨ mode = 3 ∨ mode = 4) (hT : Tab32 w) (hTs : 2 < w.heap.size)
    (hfit : ¬ lastE z e 53 (-1074) + bl (roundZ z e 53 (-1074) mode) ≤ 1024) :
    Calls Tryz.prog 33 #[ExV b e, .int .i64 mode] w (Gives (.float .f64 (rndB z e mode)) w) := by
  have HX := Lib.hid hx
  have HT := Lib.hid hT
  have HTs := Lib.hid hTs
  have HRD : Hid (∀ (W : World), RInt W b z → Tab32 W → 2 < W.heap.size → Calls Tryz.prog 109 #[ExV b e, .int .i64 53, .int .i64 (-1074), .int .i64 mode] W (RRounds (hvZ z) (nrE z e) 53 (-1074) mode W)) :=
    Lib.hid fun W h ht hts => rround_any b z e 53 (-1074) mode W h hl he1 he2 (by decide) (by decide) (by decide) (by decide) hmode ht hts
  unfold RRounds at HRD
  obtain ⟨r1, r2⟩ := rnd_odd (e := e) (digits := 53) (least := -1074) (mode := mode) hz
  rw [r2, r1] at HRD
  have hna := near_abs (z := z) (e := e) (digits := 53) (least := -1074) (mode := mode)
  have hmB := roundZ_le z e 53 (-1074) mode 53 rfl
  have hl1 : -1074 ≤ lastE z e 53 (-1074) := by unfold lastE; omega
  have hl2 : lastE z e 53 (-1074) ≤ 30000000 := by unfold lastE; omega
  unfold rndB
  rw [if_neg hfit]
  generalize nearZ z (lastE z e 53 (-1074) - e) mode = n at *
  generalize roundZ z e 53 (-1074) mode = m at *
  generalize lastE z e 53 (-1074) = last at *
  have HBM : Hid (bl n.natAbs = bl m) := Lib.hid (by rw [hna])
  have hblm : bl m ≤ 54 := Nat.le_trans (bl_mono hmB) (by rw [bl_two_pow]; omega)
  have hw1 : IntKind.i64.wrap ((bl m : Int) + last) = bl m + last := IntWalk.i64_in _ (by omega)
  have hcmp : decide ((1024 : Int) < (bl m : Int) + last) = true := by simp; omega
  generalize bl m = q at *
  clear hx hl hT hTs hfit r1 r2 hna hmB hl1 hl2 hblm he1 he2
  unfold ExV at *
  rcases Int.lt_or_le z 0 with hneg | hneg
  · have HSG : Hid (z.sign = -1) := Lib.hid (Int.sign_eq_neg_one_of_neg hneg)
    have hS : floatOfInt .f64 (-1) = 13830554455654793216 := by decide
    have HCP : Hid (cpB (sgnB 13830554455654793216) 9218868437227405311 = 18442240474082181119) := Lib.hid (by decide)
    rw [decide_eq_true hneg]
    clear hneg hz
    rcases hmode with rfl | rfl | rfl | rfl | rfl
    · rw [show (if true = true then kSign else 0) + (if beyB true 0 = true then kInf - 1 else kInf) = 18442240474082181120 by decide]
      go_enter Tryz.func33, Tryz.ntmps33
      go_wp2_with fail
      refine (rSign_any _ 0 z _ (HX.out.below (below1 _ _))).mono ?_
      rintro e3 w3 ⟨rfl, rfl⟩
      rw [HSG.out]
      go_wp2_with fail
      refine (HRD.out _ (HX.out.below (below1 _ _)) (HT.out.below HTs.out (below1 _ _)) (Nat.lt_of_lt_of_le HTs.out (below1 _ _).size)).mono ?_
      rintro e4 w4 ⟨p, rfl, hi4, hb4⟩
      have HB4 := Lib.hid ((below1 w _).trans (hb4.mono (below1 w _).size))
      have HI4 := Lib.hid hi4
      clear hi4 hb4
      go_wp2_with fail
      refine (rBitLen_any p 0 n _ HI4.out).mono ?_
      rintro e5 w5 ⟨rfl, hb5⟩
      rw [HBM.out]
      have HB5 := Lib.hid (HB4.out.trans (hb5.mono HB4.out.size))
      clear hb5 HI4 HB4
      go_wp2_with fail
      refine (infNeg_any _).mono ?_
      rintro e8 w8 ⟨rfl, hb8⟩
      have HB8 := Lib.hid (HB5.out.trans (hb8.mono HB5.out.size))
      clear hb8
      go_wp2
      go_ret
      exact ⟨rfl, HB8.out⟩
    · rw [show (if true = true then kSign else 0) + (if beyB true 1 = true then kInf - 1 else kInf) = 18442240474082181120 by decide]
      go_enter Tryz.func33, Tryz.ntmps33
      go_wp2_with fail
      refine (rSign_any _ 0 z _ (HX.out.below (below1 _ _))).mono ?_
      rintro e3 w3 ⟨rfl, rfl⟩
      rw [HSG.out]
      go_wp2_with fail
      refine (HRD.out _ (HX.out.below (below1 _ _)) (HT.out.below HTs.out (below1 _ _)) (Nat.lt_of_lt_of_le HTs.out (below1 _ _).size)).mono ?_
      rintro e4 w4 ⟨p, rfl, hi4, hb4⟩
      have HB4 := Lib.hid ((below1 w _).trans (hb4.mono (below1 w _).size))
      have HI4 := Lib.hid hi4
      clear hi4 hb4
      go_wp2_with fail
      refine (rBitLen_any p 0 n _ HI4.out).mono ?_
      rintro e5 w5 ⟨rfl, hb5⟩
      rw [HBM.out]
      have HB5 := Lib.hid (HB4.out.trans (hb5.mono HB4.out.size))
      clear hb5 HI4 HB4
      go_wp2_with fail
      refine (infNeg_any _).mono ?_
      rintro e8 w8 ⟨rfl, hb8⟩
      have HB8 := Lib.hid (HB5.out.trans (hb8.mono HB5.out.size))
      clear hb8
      go_wp2
      go_ret
      exact ⟨rfl, HB8.out⟩
    · rw [show (if true = true then kSign else 0) + (if beyB true 2 = true then kInf - 1 else kInf) = 18442240474082181119 by decide]
      go_enter Tryz.func33, Tryz.ntmps33
      go_wp2_with fail
      refine (rSign_any _ 0 z _ (HX.out.below (below1 _ _))).mono ?_
      rintro e3 w3 ⟨rfl, rfl⟩
      rw [HSG.out]
      go_wp2_with fail
      refine (HRD.out _ (HX.out.below (below1 _ _)) (HT.out.below HTs.out (below1 _ _)) (Nat.lt_of_lt_of_le HTs.out (below1 _ _).size)).mono ?_
      rintro e4 w4 ⟨p, rfl, hi4, hb4⟩
      have HB4 := Lib.hid ((below1 w _).trans (hb4.mono (below1 w _).size))
      have HI4 := Lib.hid hi4
      clear hi4 hb4
      go_wp2_with fail
      refine (rBitLen_any p 0 n _ HI4.out).mono ?_
      rintro e5 w5 ⟨rfl, hb5⟩
      rw [HBM.out]
      have HB5 := Lib.hid (HB4.out.trans (hb5.mono HB4.out.size))
      clear hb5 HI4 HB4
      go_wp2_with fail
      refine (copysign_any 9218868437227405311 13830554455654793216 _ (by decide) (by decide)).mono ?_
      rintro e8 w8 ⟨rfl, hb8⟩
      rw [HCP.out]
      have HB8 := Lib.hid (HB5.out.trans (hb8.mono HB5.out.size))
      clear hb8
      go_wp2
      go_ret
      exact ⟨rfl, HB8.out⟩
    · rw [show (if true = true then kSign else 0) + (if beyB true 3 = true then kInf - 1 else kInf) = 18442240474082181119 by decide]
      go_enter Tryz.func33, Tryz.ntmps33
      go_wp2_with fail
      refine (rSign_any _ 0 z _ (HX.out.below (below1 _ _))).mono ?_
      rintro e3 w3 ⟨rfl, rfl⟩
      rw [HSG.out]
      go_wp2_with fail
      refine (HRD.out _ (HX.out.below (below1 _ _)) (HT.out.below HTs.out (below1 _ _)) (Nat.lt_of_lt_of_le HTs.out (below1 _ _).size)).mono ?_
      rintro e4 w4 ⟨p, rfl, hi4, hb4⟩
      have HB4 := Lib.hid ((below1 w _).trans (hb4.mono (below1 w _).size))
      have HI4 := Lib.hid hi4
      clear hi4 hb4
      go_wp2_with fail
      refine (rBitLen_any p 0 n _ HI4.out).mono ?_
      rintro e5 w5 ⟨rfl, hb5⟩
      rw [HBM.out]
      have HB5 := Lib.hid (HB4.out.trans (hb5.mono HB4.out.size))
      clear hb5 HI4 HB4
      go_wp2_with fail
      refine (copysign_any 9218868437227405311 13830554455654793216 _ (by decide) (by decide)).mono ?_
      rintro e8 w8 ⟨rfl, hb8⟩
      rw [HCP.out]
      have HB8 := Lib.hid (HB5.out.trans (hb8.mono HB5.out.size))
      clear hb8
      go_wp2
      go_ret
      exact ⟨rfl, HB8.out⟩
    · rw [show (if true = true then kSign else 0) + (if beyB true 4 = true then kInf - 1 else kInf) = 18442240474082181120 by decide]
      go_enter Tryz.func33, Tryz.ntmps33
      go_wp2_with fail
      refine (rSign_any _ 0 z _ (HX.out.below (below1 _ _))).mono ?_
      rintro e3 w3 ⟨rfl, rfl⟩
      rw [HSG.out]
      go_wp2_with fail
      refine (HRD.out _ (HX.out.below (below1 _ _)) (HT.out.below HTs.out (below1 _ _)) (Nat.lt_of_lt_of_le HTs.out (below1 _ _).size)).mono ?_
      rintro e4 w4 ⟨p, rfl, hi4, hb4⟩
      have HB4 := Lib.hid ((below1 w _).trans (hb4.mono (below1 w _).size))
      have HI4 := Lib.hid hi4
      clear hi4 hb4
      go_wp2_with fail
      refine (rBitLen_any p 0 n _ HI4.out).mono ?_
      rintro e5 w5 ⟨rfl, hb5⟩
      rw [HBM.out]
      have HB5 := Lib.hid (HB4.out.trans (hb5.mono HB4.out.size))
      clear hb5 HI4 HB4
      go_wp2_with fail
      refine (infNeg_any _).mono ?_
      rintro e8 w8 ⟨rfl, hb8⟩
      have HB8 := Lib.hid (HB5.out.trans (hb8.mono HB5.out.size))
      clear hb8
      go_wp2
      go_ret
      exact ⟨rfl, HB8.out⟩
  · have HSG : Hid (z.sign = 1) := Lib.hid (Int.sign_eq_one_of_pos (by omega))
    have hS : floatOfInt .f64 (1) = 4607182418800017408 := by decide
    have HCP : Hid (cpB (sgnB 4607182418800017408) 9218868437227405311 = 9218868437227405311) := Lib.hid (by decide)
    rw [decide_eq_false (by omega : ¬ z < 0)]
    clear hneg hz
    rcases hmode with rfl | rfl | rfl | rfl | rfl
    · rw [show (if false = true then kSign else 0) + (if beyB false 0 = true then kInf - 1 else kInf) = 9218868437227405312 by decide]
      go_enter Tryz.func33, Tryz.ntmps33
      go_wp2_with fail
      refine (rSign_any _ 0 z _ (HX.out.below (below1 _ _))).mono ?_
      rintro e3 w3 ⟨rfl, rfl⟩
      rw [HSG.out]
      go_wp2_with fail
      refine (HRD.out _ (HX.out.below (below1 _ _)) (HT.out.below HTs.out (below1 _ _)) (Nat.lt_of_lt_of_le HTs.out (below1 _ _).size)).mono ?_
      rintro e4 w4 ⟨p, rfl, hi4, hb4⟩
      have HB4 := Lib.hid ((below1 w _).trans (hb4.mono (below1 w _).size))
      have HI4 := Lib.hid hi4
      clear hi4 hb4
      go_wp2_with fail
      refine (rBitLen_any p 0 n _ HI4.out).mono ?_
      rintro e5 w5 ⟨rfl, hb5⟩
      rw [HBM.out]
      have HB5 := Lib.hid (HB4.out.trans (hb5.mono HB4.out.size))
      clear hb5 HI4 HB4
      go_wp2_with fail
      refine (inf_any _).mono ?_
      rintro e8 w8 ⟨rfl, hb8⟩
      have HB8 := Lib.hid (HB5.out.trans (hb8.mono HB5.out.size))
      clear hb8
      go_wp2
      go_ret
      exact ⟨rfl, HB8.out⟩
    · rw [show (if false = true then kSign else 0) + (if beyB false 1 = true then kInf - 1 else kInf) = 9218868437227405312 by decide]
      go_enter Tryz.func33, Tryz.ntmps33
      go_wp2_with fail
      refine (rSign_any _ 0 z _ (HX.out.below (below1 _ _))).mono ?_
      rintro e3 w3 ⟨rfl, rfl⟩
      rw [HSG.out]
      go_wp2_with fail
      refine (HRD.out _ (HX.out.below (below1 _ _)) (HT.out.below HTs.out (below1 _ _)) (Nat.lt_of_lt_of_le HTs.out (below1 _ _).size)).mono ?_
      rintro e4 w4 ⟨p, rfl, hi4, hb4⟩
      have HB4 := Lib.hid ((below1 w _).trans (hb4.mono (below1 w _).size))
      have HI4 := Lib.hid hi4
      clear hi4 hb4
      go_wp2_with fail
      refine (rBitLen_any p 0 n _ HI4.out).mono ?_
      rintro e5 w5 ⟨rfl, hb5⟩
      rw [HBM.out]
      have HB5 := Lib.hid (HB4.out.trans (hb5.mono HB4.out.size))
      clear hb5 HI4 HB4
      go_wp2_with fail
      refine (inf_any _).mono ?_
      rintro e8 w8 ⟨rfl, hb8⟩
      have HB8 := Lib.hid (HB5.out.trans (hb8.mono HB5.out.size))
      clear hb8
      go_wp2
      go_ret
      exact ⟨rfl, HB8.out⟩
    · rw [show (if false = true then kSign else 0) + (if beyB false 2 = true then kInf - 1 else kInf) = 9218868437227405311 by decide]
      go_enter Tryz.func33, Tryz.ntmps33
      go_wp2_with fail
      refine (rSign_any _ 0 z _ (HX.out.below (below1 _ _))).mono ?_
      rintro e3 w3 ⟨rfl, rfl⟩
      rw [HSG.out]
      go_wp2_with fail
      refine (HRD.out _ (HX.out.below (below1 _ _)) (HT.out.below HTs.out (below1 _ _)) (Nat.lt_of_lt_of_le HTs.out (below1 _ _).size)).mono ?_
      rintro e4 w4 ⟨p, rfl, hi4, hb4⟩
      have HB4 := Lib.hid ((below1 w _).trans (hb4.mono (below1 w _).size))
      have HI4 := Lib.hid hi4
      clear hi4 hb4
      go_wp2_with fail
      refine (rBitLen_any p 0 n _ HI4.out).mono ?_
      rintro e5 w5 ⟨rfl, hb5⟩
      rw [HBM.out]
      have HB5 := Lib.hid (HB4.out.trans (hb5.mono HB4.out.size))
      clear hb5 HI4 HB4
      go_wp2_with fail
      refine (copysign_any 9218868437227405311 4607182418800017408 _ (by decide) (by decide)).mono ?_
      rintro e8 w8 ⟨rfl, hb8⟩
      rw [HCP.out]
      have HB8 := Lib.hid (HB5.out.trans (hb8.mono HB5.out.size))
      clear hb8
      go_wp2
      go_ret
      exact ⟨rfl, HB8.out⟩
    · rw [show (if false = true then kSign else 0) + (if beyB false 3 = true then kInf - 1 else kInf) = 9218868437227405312 by decide]
      go_enter Tryz.func33, Tryz.ntmps33
      go_wp2_with fail
      refine (rSign_any _ 0 z _ (HX.out.below (below1 _ _))).mono ?_
      rintro e3 w3 ⟨rfl, rfl⟩
      rw [HSG.out]
      go_wp2_with fail
      refine (HRD.out _ (HX.out.below (below1 _ _)) (HT.out.below HTs.out (below1 _ _)) (Nat.lt_of_lt_of_le HTs.out (below1 _ _).size)).mono ?_
      rintro e4 w4 ⟨p, rfl, hi4, hb4⟩
      have HB4 := Lib.hid ((below1 w _).trans (hb4.mono (below1 w _).size))
      have HI4 := Lib.hid hi4
      clear hi4 hb4
      go_wp2_with fail
      refine (rBitLen_any p 0 n _ HI4.out).mono ?_
      rintro e5 w5 ⟨rfl, hb5⟩
      rw [HBM.out]
      have HB5 := Lib.hid (HB4.out.trans (hb5.mono HB4.out.size))
      clear hb5 HI4 HB4
      go_wp2_with fail
      refine (inf_any _).mono ?_
      rintro e8 w8 ⟨rfl, hb8⟩
      have HB8 := Lib.hid (HB5.out.trans (hb8.mono HB5.out.size))
      clear hb8
      go_wp2
      go_ret
      exact ⟨rfl, HB8.out⟩
    · rw [show (if false = true then kSign else 0) + (if beyB false 4 = true then kInf - 1 else kInf) = 9218868437227405311 by decide]
      go_enter Tryz.func33, Tryz.ntmps33
      go_wp2_with fail
      refine (rSign_any _ 0 z _ (HX.out.below (below1 _ _))).mono ?_
      rintro e3 w3 ⟨rfl, rfl⟩
      rw [HSG.out]
      go_wp2_with fail
      refine (HRD.out _ (HX.out.below (below1 _ _)) (HT.out.below HTs.out (below1 _ _)) (Nat.lt_of_lt_of_le HTs.out (below1 _ _).size)).mono ?_
      rintro e4 w4 ⟨p, rfl, hi4, hb4⟩
      have HB4 := Lib.hid ((below1 w _).trans (hb4.mono (below1 w _).size))
      have HI4 := Lib.hid hi4
      clear hi4 hb4
      go_wp2_with fail
      refine (rBitLen_any p 0 n _ HI4.out).mono ?_
      rintro e5 w5 ⟨rfl, hb5⟩
      rw [HBM.out]
      have HB5 := Lib.hid (HB4.out.trans (hb5.mono HB4.out.size))
      clear hb5 HI4 HB4
      go_wp2_with fail
      refine (copysign_any 9218868437227405311 4607182418800017408 _ (by decide) (by decide)).mono ?_
      rintro e8 w8 ⟨rfl, hb8⟩
      rw [HCP.out]
      have HB8 := Lib.hid (HB5.out.trans (hb8.mono HB5.out.size))
      clear hb8
      go_wp2
      go_ret
      exact ⟨rfl, HB8.out⟩

/-- Any number, any mode. -/
theorem rRound_any (b : Nat) (z e mode : Int) (w : World) (hx : RInt w b z) (hl : bl z.natAbs ≤ 10000000) (he1 : -10000000 ≤ e) (he2 : e ≤ 10000000) (hm1 : 0 ≤ mode) (hm2 : mode ≤ 4) (hT : Tab32 w) (hTs : 2 < w.heap.size) :
    Calls Tryz.prog 33 #[ExV b e, .int .i64 mode] w (Gives (.float .f64 (rndX z e mode)) w) := by
  have hmode : mode = 0 ∨ mode = 1 ∨ mode = 2 ∨ mode = 3 ∨ mode = 4 := by omega
  unfold rndX
  by_cases h0 : z = 0
  · subst h0; rw [if_pos rfl]; exact rRound_zero b e mode w hx
  · rw [if_neg h0]
    by_cases h : lastE z e 53 (-1074) + bl (roundZ z e 53 (-1074) mode) ≤ 1024
    · exact rRound_fit b z e mode w hx h0 hl he1 he2 hmode hT hTs h
    · exact rRound_great b z e mode w hx h0 hl he1 he2 hmode hT hTs h

end Go.Proofs.YtjoajbbapfgaoaaGreatDoor
