/- Walks: a dyad's number, where it is not too great; that the package is awake. -/
import Derived.Test.YtfcddnccmdjhfaaDoorDyf
namespace Go.Proofs.YtfcddnccmdjhfaaDoor
open Go.RowKit

theorem dg64_0 {m : Nat} (h : m < 18446744073709551616) : dg 64 ((m : Int)).natAbs 0 = m := by
  rw [Int.natAbs_natCast]; unfold dg; simp [Nat.mod_eq_of_lt h]

set_option maxRecDepth 100000 in
set_option maxHeartbeats 1600000 in
theorem dRound_norm (va : Value) (z e mode : Int) (w : World) (ha : DyAt w va z e) (hga : GoodD z e) (hm1 : 0 ≤ mode) (hm2 : mode ≤ 4) (hT : Tab64 w) (hTs : 1 < w.heap.size)
    (hfit : lastE z e 53 (-1074) + bl (roundZ z e 53 (-1074) mode) ≤ 1024) :
    Calls Tryd.prog 18 #[va, .int .i64 mode] w (Gives (.tuple #[.float .f64 (mkB (decide (z < 0)) (roundZ z e 53 (-1074) mode) (lastE z e 53 (-1074))), .int .i64 0]) w) := by
  have HA := Lib.hid ha
  obtain ⟨sa, rfl, hra⟩ := ha
  have HRa := Lib.hid hra
  obtain ⟨aa, ca, rfl, -⟩ := hra
  have HG := Lib.hid hga
  have HF := Lib.hid (set_fin z)
  have HT := Lib.hid (And.intro hT hTs)
  have HL : Hid (ln 32 z.natAbs ≤ 1073741824) := Lib.hid (Nat.le_trans (ln_le_bl 32 _ (by decide)) (Nat.le_trans hga.2.1 (by decide)))
  have HRD : Hid (∀ (b : Nat) (W : World), IntAt W b 0 z → Calls Tryd.prog 32 #[ExV b e, .int .i64 53, .int .i64 (-1074), .int .i64 mode] W (Rounds z e 53 (-1074) mode W)) :=
    Lib.hid fun b W h => rounded_any b z e 53 (-1074) mode W h (Nat.le_trans hga.2.1 (by decide)) (by have := hga.2.2.1; omega) (by have := hga.2.2.2; omega) (by decide) (by decide) (by decide) (by decide) (by omega)
  have hl1 : -1074 ≤ lastE z e 53 (-1074) := by unfold lastE; omega
  have hl2 : lastE z e 53 (-1074) ≤ 1024 := by omega
  have hmB := roundZ_le z e 53 (-1074) mode 53 rfl
  have HOF := Lib.hid fun W hW => aOf_any (decide (z < 0)) (roundZ z e 53 (-1074) mode) (lastE z e 53 (-1074)) W (fits_round hfit (by omega)) hW
  unfold DyV Rounds at *
  generalize roundZ z e 53 (-1074) mode = m at *
  generalize lastE z e 53 (-1074) = last at *
  have hfit2 : decide ((1024 : Int) < last + (bl m : Int)) = false := by simp; omega
  have HBM : Hid (bl ((m : Int)).natAbs = bl m) := Lib.hid (by rw [Int.natAbs_natCast])
  have hblm : bl m ≤ 54 := Nat.le_trans (bl_mono hmB) (by rw [bl_two_pow]; omega)
  have HM64 : Hid (dg 64 ((m : Int)).natAbs 0 = m) := Lib.hid (dg64_0 (by omega))
  generalize mkB (decide (z < 0)) m last = R at *
  generalize decide (z < 0) = na at *
  generalize z.natAbs = Na at *
  generalize ln 32 Na = la at *
  generalize bl m = q at *
  have HW0 := Lib.hid (BlkT.new w #[.bool na, .slice aa la ca, .int .i64 e] 25)
  clear hga hT hTs hmB
  go_enter Tryd.func18, Tryd.ntmps18
  go_wp2_with fail
  refine (may_true _ z e _ (HA.out.below (below1 _ _)) HG.out).mono ?_
  rintro e1 w1 ⟨rfl, hb1⟩
  have HW1 : Hid (BlkT w1 w.heap.size 25 #[.bool na, .slice aa la ca, .int .i64 e] ∧ Below w.heap.size w w1) := Lib.hid ⟨HW0.out.below hb1, (below1 _ _).trans (hb1.mono (below1 _ _).size)⟩
  obtain ⟨x0, x1, x2, x3, x4, x5⟩ := HW1.out.1.cells3
  clear hb1 HW0
  go_wp2_with fail
  refine (known_any mode _ hm1 hm2).mono ?_
  rintro e2 w2 ⟨rfl, rfl⟩
  go_wp2_with fail
  refine (take_any na e _ la Na _ (HRa.out.below HW1.out.2) HL.out).mono ?_
  rintro e3 w3 ⟨p, rfl, hp, hi3, hb3⟩
  rw [HF.out] at hi3
  have HW3 : Hid (BlkT w3 w.heap.size 25 #[.bool na, .slice aa la ca, .int .i64 e] ∧ Below w.heap.size w w3) := Lib.hid ⟨HW1.out.1.below hb3, HW1.out.2.trans (hb3.mono HW1.out.2.size)⟩
  have HI3 := Lib.hid hi3
  clear hp hi3 hb3 HW1 x0 x1 x2 x3 x4 x5
  unfold ExV at *
  go_wp2_with fail
  refine (HRD.out p _ (HI3.out.below (below1 _ _))).mono ?_
  rintro e4 w4 ⟨p2, rfl, hi4, hb4⟩
  have HW4 : Hid (BlkT w4 w.heap.size 25 #[.bool na, .slice aa la ca, .int .i64 e] ∧ Below w.heap.size w w4) := Lib.hid ⟨(HW3.out.1.alloc _).below hb4, (HW3.out.2.alloc HW3.out.2.size _).trans (hb4.mono (HW3.out.2.alloc HW3.out.2.size _).size)⟩
  have HI4 := Lib.hid hi4
  clear hi4 hb4 HW3 HI3
  go_wp2_with fail
  refine (BitLen_any p2 0 _ _ HI4.out).mono ?_
  rintro e5 w5 ⟨rfl, rfl⟩
  rw [HBM.out]
  go_wp2
  refine wp_region_pl (fun w' : World => w'.cell? ⟨w.heap.size, 0, none⟩ = some (.bool na)) 11 (.take 0 (.take 1 (.take 2 (.take 4 (.run 3 (.take 5 (.run 6 (.take 7 (.take 8 (.take 9 (.take 10 .nil))))))))))) (by kernel_rfl) (by kernel_rfl) ?_
  have HW5 : Hid (BlkT w4.drew w.heap.size 25 #[.bool na, .slice aa la ca, .int .i64 e] ∧ Below w.heap.size w w4.drew) := Lib.hid ⟨HW4.out.1.below (drew_below _), HW4.out.2.drew⟩
  have HI5 := Lib.hid (HI4.out.below (drew_below _))
  clear HW4 HI4
  generalize w4.drew = V at HW5 HI5 ⊢
  have hS : (fun w' : World => w'.cell? ⟨w.heap.size, 0, none⟩ = some (.bool na)) V := HW5.out.1.cell 0
  repeat (refine wpPl_take (v := ?_) rfl (fun _ _ _ h => h) rfl (fun w' hSw => ?_) hS ?_; rotate_left; focus (go_simp; with_reducible rfl); try simp only [Act.put, List.setIfInBounds_toArray, List.set_cons_zero, List.set_cons_succ])
  refine wpPl_run rfl fun K' hK => ?_
  go_simp
  refine (Uint64_any p2 0 _ _ HI5.out).mono ?_
  rintro e6 w6 ⟨rfl, rfl⟩
  rw [HM64.out]
  refine hK _ _ hS ?_
  clear hK K'
  repeat (refine wpPl_take (v := ?_) rfl (fun _ _ _ h => h) rfl (fun w' hSw => ?_) hS ?_; rotate_left; focus (go_simp; with_reducible rfl); try simp only [Act.put, List.setIfInBounds_toArray, List.set_cons_zero, List.set_cons_succ])
  clear hS
  refine wpPl_run rfl fun K' hK => ?_
  go_simp
  refine (HOF.out _ (HT.out.1.below HT.out.2 HW5.out.2) (Nat.lt_of_lt_of_le HT.out.2 HW5.out.2.size)).mono ?_
  rintro e7 w7 ⟨rfl, hb7⟩
  have HW7 : Hid (BlkT w7 w.heap.size 25 #[.bool na, .slice aa la ca, .int .i64 e] ∧ Below w.heap.size w w7) := Lib.hid ⟨HW5.out.1.below hb7, HW5.out.2.trans (hb7.mono HW5.out.2.size)⟩
  have hS : (fun w' : World => w'.cell? ⟨w.heap.size, 0, none⟩ = some (.bool na)) w7 := HW7.out.1.cell 0
  refine hK _ _ hS ?_
  clear hK K' hb7 HW5 HI5
  repeat (refine wpPl_take (v := ?_) rfl (fun _ _ _ h => h) rfl (fun w' hSw => ?_) hS ?_; rotate_left; focus (go_simp; with_reducible rfl); try simp only [Act.put, List.setIfInBounds_toArray, List.set_cons_zero, List.set_cons_succ])
  clear hS
  refine wpPl_nil ?_
  simp only [List.drop_succ_cons, List.drop_zero]
  go_wp2
  go_ret2
  exact ⟨rfl, HW7.out.2⟩

end Go.Proofs.YtfcddnccmdjhfaaDoor
