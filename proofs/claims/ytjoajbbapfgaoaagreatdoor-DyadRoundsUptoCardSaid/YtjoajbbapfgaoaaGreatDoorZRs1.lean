/- Walks: a dyad's single. Printed by wip/gen/r32.py. -/
import Derived.Test.YtjoajbbapfgaoaaGreatDoorZSnh
import Derived.Test.YtjoajbbapfgaoaaGreatDoorGM
namespace Go.Proofs.YtjoajbbapfgaoaaGreatDoor
open Go.RowKit

set_option maxRecDepth 100000 in
set_option maxHeartbeats 1600000 in
theorem dRound32_norm (va : Value) (z e mode : Int) (w : World) (ha : DyAt w va z e) (hga : GoodD z e) (hm1 : 0 ≤ mode) (hm2 : mode ≤ 4) (hT : Tab64 w) (hTs : 1 < w.heap.size)
    (hfit : lastE z e 24 (-149) + bl (roundZ z e 24 (-149) mode) ≤ 128) :
    Calls Tryz.prog 28 #[va, .int .i64 mode] w (Gives (.tuple #[.float .f32 (mkS (decide (z < 0)) (roundZ z e 24 (-149) mode) (lastE z e 24 (-149))), .int .i64 0]) w) := by
  have HA := Lib.hid ha
  obtain ⟨sa, rfl, hra⟩ := ha
  have HRa := Lib.hid hra
  obtain ⟨aa, ca, rfl, -⟩ := hra
  have HG := Lib.hid hga
  have HF := Lib.hid (set_fin z)
  have HT := Lib.hid (And.intro hT hTs)
  have HL : Hid (ln 32 z.natAbs ≤ 1073741824) := Lib.hid (Nat.le_trans (ln_le_bl 32 _ (by decide)) (Nat.le_trans hga.2.1 (by decide)))
  have HRD : Hid (∀ (b : Nat) (W : World), IntAt W b 0 z → Calls Tryz.prog 97 #[ExV b e, .int .i64 24, .int .i64 (-149), .int .i64 mode] W (Rounds z e 24 (-149) mode W)) :=
    Lib.hid fun b W h => rounded_any b z e 24 (-149) mode W h (Nat.le_trans hga.2.1 (by decide)) (by have := hga.2.2.1; omega) (by have := hga.2.2.2; omega) (by decide) (by decide) (by decide) (by decide) (by omega)
  have hl1 : -149 ≤ lastE z e 24 (-149) := by unfold lastE; omega
  have hl2 : lastE z e 24 (-149) ≤ 128 := by omega
  have hmB := roundS_le z e mode
  have HOF := Lib.hid fun W hW => aOfS_any (decide (z < 0)) (roundZ z e 24 (-149) mode) (lastE z e 24 (-149)) W (fits_roundS hfit (by omega)) hW
  unfold DyV Rounds at *
  generalize roundZ z e 24 (-149) mode = m at *
  generalize lastE z e 24 (-149) = last at *
  have hfit2 : decide ((128 : Int) < last + (bl m : Int)) = false := by simp; omega
  have HBM : Hid (bl ((m : Int)).natAbs = bl m) := Lib.hid (by rw [Int.natAbs_natCast])
  have hblm : bl m ≤ 54 := Nat.le_trans (bl_mono hmB) (by rw [bl_two_pow]; omega)
  have HM64 : Hid (dg 64 ((m : Int)).natAbs 0 = m) := Lib.hid (dg64_0 (by omega))
  generalize mkS (decide (z < 0)) m last = R at *
  generalize decide (z < 0) = na at *
  generalize z.natAbs = Na at *
  generalize ln 32 Na = la at *
  generalize bl m = q at *
  have HW0 := Lib.hid (BlkT.new w #[.bool na, .slice aa la ca, .int .i64 e] 24)
  clear hga hT hTs hmB
  go_enter Tryz.func28, Tryz.ntmps28
  go_wp2_with fail
  refine (may_true _ z e _ (HA.out.below (below1 _ _)) HG.out).mono ?_
  rintro e1 w1 ⟨rfl, hb1⟩
  have HW1 : Hid (BlkT w1 w.heap.size 24 #[.bool na, .slice aa la ca, .int .i64 e] ∧ Below w.heap.size w w1) := Lib.hid ⟨HW0.out.below hb1, (below1 _ _).trans (hb1.mono (below1 _ _).size)⟩
  obtain ⟨x0, x1, x2, x3, x4, x5⟩ := HW1.out.1.cells3
  clear hb1 HW0
  go_wp2_with fail
  refine (known_any mode _ hm1 hm2).mono ?_
  rintro e2 w2 ⟨rfl, rfl⟩
  go_wp2_with fail
  refine (take_any na e _ la Na _ (HRa.out.below HW1.out.2) HL.out).mono ?_
  rintro e3 w3 ⟨p, rfl, hp, hi3, hb3⟩
  rw [HF.out] at hi3
  have HW3 : Hid (BlkT w3 w.heap.size 24 #[.bool na, .slice aa la ca, .int .i64 e] ∧ Below w.heap.size w w3) := Lib.hid ⟨HW1.out.1.below hb3, HW1.out.2.trans (hb3.mono HW1.out.2.size)⟩
  have HI3 := Lib.hid hi3
  clear hp hi3 hb3 HW1 x0 x1 x2 x3 x4 x5
  unfold ExV at *
  go_wp2_with fail
  refine (HRD.out p _ (HI3.out.below (below1 _ _))).mono ?_
  rintro e4 w4 ⟨p2, rfl, hi4, hb4⟩
  have HW4 : Hid (BlkT w4 w.heap.size 24 #[.bool na, .slice aa la ca, .int .i64 e] ∧ Below w.heap.size w w4) := Lib.hid ⟨(HW3.out.1.alloc _).below hb4, (HW3.out.2.alloc HW3.out.2.size _).trans (hb4.mono (HW3.out.2.alloc HW3.out.2.size _).size)⟩
  have HI4 := Lib.hid hi4
  clear hi4 hb4 HW3 HI3
  go_wp2_with fail
  refine (BitLen_any p2 0 _ _ HI4.out).mono ?_
  rintro e5 w5 ⟨rfl, rfl⟩
  rw [HBM.out]
  go_wp2
  refine wp_region_pl (fun w' : World => w'.cell? ⟨w.heap.size, 0, none⟩ = some (.bool na)) 11 (.take 0 (.take 1 (.take 2 (.take 4 (.run 3 (.take 5 (.run 6 (.take 7 (.take 8 (.take 9 (.take 10 .nil))))))))))) (by kernel_rfl) (by kernel_rfl) ?_
  have HW5 : Hid (BlkT w4.drew w.heap.size 24 #[.bool na, .slice aa la ca, .int .i64 e] ∧ Below w.heap.size w w4.drew) := Lib.hid ⟨HW4.out.1.below (drew_below _), HW4.out.2.drew⟩
  have HI5 := Lib.hid (HI4.out.below (drew_below _))
  clear HW4 HI4
  generalize w4.drew = V at HW5 HI5 ⊢
  have hS : (fun w' : World => w'.cell? ⟨w.heap.size, 0, none⟩ = some (.bool na)) V := HW5.out.1.cell 0
  repeat (refine wpPl_take (v := ?_) rfl (fun _ _ _ h => h) rfl (fun w' hSw => ?_) hS ?_; rotate_left; focus (go_simp; with_reducible rfl); try simp only [Act.put, List.setIfInBounds_toArray, List.set_cons_zero, List.set_cons_succ])
  refine wpPl_run rfl fun K' hK => ?_
  go_simp
  refine (Uint64_any p2 0 _ _ HI5.out).mono ?_
  rintro e6 w6 ⟨rfl, rfl⟩
  rw [HM64.out]
  refine hK _ _ hS ?_
  clear hK K'
  repeat (refine wpPl_take (v := ?_) rfl (fun _ _ _ h => h) rfl (fun w' hSw => ?_) hS ?_; rotate_left; focus (go_simp; with_reducible rfl); try simp only [Act.put, List.setIfInBounds_toArray, List.set_cons_zero, List.set_cons_succ])
  clear hS
  refine wpPl_run rfl fun K' hK => ?_
  go_simp
  refine (HOF.out _ (HT.out.1.below HT.out.2 HW5.out.2) (Nat.lt_of_lt_of_le HT.out.2 HW5.out.2.size)).mono ?_
  rintro e7 w7 ⟨rfl, hb7⟩
  have HW7 : Hid (BlkT w7 w.heap.size 24 #[.bool na, .slice aa la ca, .int .i64 e] ∧ Below w.heap.size w w7) := Lib.hid ⟨HW5.out.1.below hb7, HW5.out.2.trans (hb7.mono HW5.out.2.size)⟩
  have hS : (fun w' : World => w'.cell? ⟨w.heap.size, 0, none⟩ = some (.bool na)) w7 := HW7.out.1.cell 0
  refine hK _ _ hS ?_
  clear hK K' hb7 HW5 HI5
  repeat (refine wpPl_take (v := ?_) rfl (fun _ _ _ h => h) rfl (fun w' hSw => ?_) hS ?_; rotate_left; focus (go_simp; with_reducible rfl); try simp only [Act.put, List.setIfInBounds_toArray, List.set_cons_zero, List.set_cons_succ])
  clear hS
  refine wpPl_nil ?_
  simp only [List.drop_succ_cons, List.drop_zero]
  go_wp2
  go_ret2
  exact ⟨rfl, HW7.out.2⟩


set_option maxRecDepth 100000 in
set_option maxHeartbeats 1600000 in
theorem dRound32_great (va : Value) (z e mode : Int) (w : World) (ha : DyAt w va z e) (hga : GoodD z e) (hm1 : 0 ≤ mode) (hm2 : mode ≤ 4) (hT : Tab64 w) (hTs : 1 < w.heap.size)
    (hfit : ¬ lastE z e 24 (-149) + bl (roundZ z e 24 (-149) mode) ≤ 128) :
    Calls Tryz.prog 28 #[va, .int .i64 mode] w (Gives (.tuple #[.float .f32 ((if decide (z < 0) then jSign else 0) + (if beyB (decide (z < 0)) mode then jInf - 1 else jInf)), .int .i64 0]) w) := by
  have HA := Lib.hid ha
  obtain ⟨sa, rfl, hra⟩ := ha
  have HRa := Lib.hid hra
  obtain ⟨aa, ca, rfl, -⟩ := hra
  have HG := Lib.hid hga
  have HF := Lib.hid (set_fin z)
  have HT := Lib.hid (And.intro hT hTs)
  have HL : Hid (ln 32 z.natAbs ≤ 1073741824) := Lib.hid (Nat.le_trans (ln_le_bl 32 _ (by decide)) (Nat.le_trans hga.2.1 (by decide)))
  have HRD : Hid (∀ (b : Nat) (W : World), IntAt W b 0 z → Calls Tryz.prog 97 #[ExV b e, .int .i64 24, .int .i64 (-149), .int .i64 mode] W (Rounds z e 24 (-149) mode W)) :=
    Lib.hid fun b W h => rounded_any b z e 24 (-149) mode W h (Nat.le_trans hga.2.1 (by decide)) (by have := hga.2.2.1; omega) (by have := hga.2.2.2; omega) (by decide) (by decide) (by decide) (by decide) (by omega)
  have hl1 : -149 ≤ lastE z e 24 (-149) := by unfold lastE; omega
  have hl2 : lastE z e 24 (-149) ≤ 200000 := by have := hga.2.1; have := hga.2.2.2; unfold lastE; omega
  have hmB := roundS_le z e mode
  have HBY := Lib.hid fun W => beyond_any (decide (z < 0)) mode W hm1 hm2
  have HSG1 := Lib.hid fun W => signed_any 5183643170566569984 (decide (z < 0)) W (by decide)
  have HSG2 := Lib.hid fun W => signed_any 9218868437227405312 (decide (z < 0)) W (by decide)
  unfold DyV Rounds at *
  generalize roundZ z e 24 (-149) mode = m at *
  generalize lastE z e 24 (-149) = last at *
  have hfit2 : decide ((128 : Int) < last + (bl m : Int)) = true := by simp; omega
  have HBM : Hid (bl ((m : Int)).natAbs = bl m) := Lib.hid (by rw [Int.natAbs_natCast])
  have hblm : bl m ≤ 54 := Nat.le_trans (bl_mono hmB) (by rw [bl_two_pow]; omega)
  generalize beyB (decide (z < 0)) mode = by1 at *
  generalize hR : (if decide (z < 0) then jSign else 0) + (if by1 then jInf - 1 else jInf) = R
  have HRA : Hid ((by1 = true → floatToFloatBits .f64 ((if decide (z < 0) then kSign else 0) + 5183643170566569984) .f32 = some R) ∧ (by1 = false → floatToFloatBits .f64 ((if decide (z < 0) then kSign else 0) + 9218868437227405312) .f32 = some R)) := Lib.hid ⟨fun h => by rw [← hR, h]; cases decide (z < 0) <;> decide, fun h => by rw [← hR, h]; cases decide (z < 0) <;> decide⟩
  clear hR
  generalize (if decide (z < 0) then kSign else 0) + 5183643170566569984 = B1 at HSG1 HRA
  generalize (if decide (z < 0) then kSign else 0) + 9218868437227405312 = B2 at HSG2 HRA
  generalize decide (z < 0) = na at *
  generalize z.natAbs = Na at *
  generalize ln 32 Na = la at *
  generalize bl m = q at *
  have HW0 := Lib.hid (BlkT.new w #[.bool na, .slice aa la ca, .int .i64 e] 24)
  clear hga hT hTs hmB
  go_enter Tryz.func28, Tryz.ntmps28
  go_wp2_with fail
  refine (may_true _ z e _ (HA.out.below (below1 _ _)) HG.out).mono ?_
  rintro e1 w1 ⟨rfl, hb1⟩
  have HW1 : Hid (BlkT w1 w.heap.size 24 #[.bool na, .slice aa la ca, .int .i64 e] ∧ Below w.heap.size w w1) := Lib.hid ⟨HW0.out.below hb1, (below1 _ _).trans (hb1.mono (below1 _ _).size)⟩
  obtain ⟨x0, x1, x2, x3, x4, x5⟩ := HW1.out.1.cells3
  clear hb1 HW0
  go_wp2_with fail
  refine (known_any mode _ hm1 hm2).mono ?_
  rintro e2 w2 ⟨rfl, rfl⟩
  go_wp2_with fail
  refine (take_any na e _ la Na _ (HRa.out.below HW1.out.2) HL.out).mono ?_
  rintro e3 w3 ⟨p, rfl, hp, hi3, hb3⟩
  rw [HF.out] at hi3
  have HW3 : Hid (BlkT w3 w.heap.size 24 #[.bool na, .slice aa la ca, .int .i64 e] ∧ Below w.heap.size w w3) := Lib.hid ⟨HW1.out.1.below hb3, HW1.out.2.trans (hb3.mono HW1.out.2.size)⟩
  have HI3 := Lib.hid hi3
  clear hp hi3 hb3 HW1 x0 x1 x2 x3 x4 x5
  unfold ExV at *
  go_wp2_with fail
  refine (HRD.out p _ (HI3.out.below (below1 _ _))).mono ?_
  rintro e4 w4 ⟨p2, rfl, hi4, hb4⟩
  have HW4 : Hid (BlkT w4 w.heap.size 24 #[.bool na, .slice aa la ca, .int .i64 e] ∧ Below w.heap.size w w4) := Lib.hid ⟨(HW3.out.1.alloc _).below hb4, (HW3.out.2.alloc HW3.out.2.size _).trans (hb4.mono (HW3.out.2.alloc HW3.out.2.size _).size)⟩
  have HI4 := Lib.hid hi4
  clear hi4 hb4 HW3 HI3
  go_wp2_with fail
  refine (BitLen_any p2 0 _ _ HI4.out).mono ?_
  rintro e5 w5 ⟨rfl, rfl⟩
  rw [HBM.out]
  obtain ⟨x0, x1, x2, x3, x4, x5⟩ := HW4.out.1.cells3
  go_wp2_with fail
  refine (HBY.out _).mono ?_
  rintro e6 w6 ⟨rfl, hb6⟩
  have HW6 : Hid (BlkT w6 w.heap.size 24 #[.bool na, .slice aa la ca, .int .i64 e] ∧ Below w.heap.size w w6) := Lib.hid ⟨HW4.out.1.below hb6, HW4.out.2.trans (hb6.mono HW4.out.2.size)⟩
  clear hb6 x0 x1 x2 x3 x4 x5 HW4
  cases by1
  · have hcv := HRA.out.2 rfl
    have hcw : ∀ w, (convert 26 48 (.float .f64 B2)).run Tryz.prog w = .ok (.float .f32 R) w := fun w => run_convert_float_float w _ _ .f64 .f32 _ R (by rw [Tryz.underlying26]; rfl) Tryz.underlying48 hcv
    clear HRA hcv
    go_wp2
    refine wp_region_pl (fun w' : World => w'.cell? ⟨w.heap.size, 0, none⟩ = some (.bool na)) 3 (.take 1 (.take 2 (.run 0 .nil))) (by kernel_rfl) (by kernel_rfl) ?_
    have HW7 : Hid (BlkT w6.drew w.heap.size 24 #[.bool na, .slice aa la ca, .int .i64 e] ∧ Below w.heap.size w w6.drew) := Lib.hid ⟨HW6.out.1.below (drew_below _), HW6.out.2.drew⟩
    clear HW6
    generalize w6.drew = V at HW7 ⊢
    have hS : (fun w' : World => w'.cell? ⟨w.heap.size, 0, none⟩ = some (.bool na)) V := HW7.out.1.cell 0
    repeat (refine wpPl_take (v := ?_) rfl (fun _ _ _ h => h) rfl (fun w' hSw => ?_) hS ?_; rotate_left; focus (go_simp; with_reducible rfl); try simp only [Act.put, List.setIfInBounds_toArray, List.set_cons_zero, List.set_cons_succ])
    refine wpPl_run rfl fun K' hK => ?_
    go_simp
    refine (inf_any _).mono ?_
    rintro e8 w8 ⟨rfl, hb8⟩
    have HW8 : Hid (BlkT w8 w.heap.size 24 #[.bool na, .slice aa la ca, .int .i64 e] ∧ Below w.heap.size w w8) := Lib.hid ⟨HW7.out.1.below hb8, HW7.out.2.trans (hb8.mono HW7.out.2.size)⟩
    have hS : (fun w' : World => w'.cell? ⟨w.heap.size, 0, none⟩ = some (.bool na)) w8 := HW8.out.1.cell 0
    refine hK _ _ hS ?_
    clear hK K' hb8 HW7
    clear hS
    refine wpPl_nil ?_
    simp only [List.drop_succ_cons, List.drop_zero]
    go_wp2_with fail
    refine (HSG2.out _).mono ?_
    rintro e9 w9 ⟨rfl, hb9⟩
    have HB9 := Lib.hid (HW8.out.2.trans (hb9.mono HW8.out.2.size))
    clear hb9
    go_wp2
    go_ret2
    exact ⟨rfl, HB9.out⟩
  · have hcv := HRA.out.1 rfl
    have hcw : ∀ w, (convert 26 48 (.float .f64 B1)).run Tryz.prog w = .ok (.float .f32 R) w := fun w => run_convert_float_float w _ _ .f64 .f32 _ R (by rw [Tryz.underlying26]; rfl) Tryz.underlying48 hcv
    clear HRA hcv
    obtain ⟨x0, x1, x2, x3, x4, x5⟩ := HW6.out.1.cells3
    go_wp2_with fail
    refine (HSG1.out _).mono ?_
    rintro e9 w9 ⟨rfl, hb9⟩
    have HB9 := Lib.hid (HW6.out.2.trans (hb9.mono HW6.out.2.size))
    clear hb9
    go_wp2
    go_ret2
    exact ⟨rfl, HB9.out⟩


/-- Any dyad, any mode: its single. -/
theorem dRound32_any (va : Value) (z e mode : Int) (w : World) (ha : DyAt w va z e) (hga : GoodD z e) (hm1 : 0 ≤ mode) (hm2 : mode ≤ 4) (hT : Tab64 w) (hTs : 1 < w.heap.size) :
    Calls Tryz.prog 28 #[va, .int .i64 mode] w (Gives (.tuple #[.float .f32 (rndS z e mode), .int .i64 0]) w) := by
  unfold rndS
  by_cases h : lastE z e 24 (-149) + bl (roundZ z e 24 (-149) mode) ≤ 128
  · rw [if_pos h]; exact dRound32_norm va z e mode w ha hga hm1 hm2 hT hTs h
  · rw [if_neg h]; exact dRound32_great va z e mode w ha hga hm1 hm2 hT hTs h

end Go.Proofs.YtjoajbbapfgaoaaGreatDoor
