/- Walk: DyadFresh at two numbers. Printed by wip/gen/fr.py. -/
import Derived.Test.YtfcddnccmdjhfaaDoorFr
namespace Go.Proofs.YtfcddnccmdjhfaaDoor
open Go.RowKit

set_option maxRecDepth 100000 in
set_option maxHeartbeats 4000000 in
theorem fresh_good (x y : Nat) (w : World) (hx : x < 18446744073709551616) (hy : y < 18446744073709551616) (hT : Tab64 w) (hTs : 1 < w.heap.size) (fx : finB x = true) (fy : finB y = true) :
    Calls Tryd.prog 3 #[.int .u64 x, .int .u64 y] w (Gives (.bool true) w) := by
  have HT := Lib.hid (And.intro hT hTs)
  have hf1 := ffrom_eq x
  have hf2 := ffrom_eq y
  have HX := Lib.hid fun W hW => dOf_any x W hx fx hW
  have HY := Lib.hid fun W hW => dOf_any y W hy fy hW
  have hga := good_of fx
  have hgb := good_of fy
  have hnum := num_add fx fy
  clear hx hy fx fy hT hTs
  generalize valZ x = z at *
  generalize pE x = e at *
  generalize valZ y = u at *
  generalize pE y = f at *
  have HAZ : Hid (∀ va W, DyAt W va z e → Tab64 W → 1 < W.heap.size → Calls Tryd.prog 10 #[va, .agg #[.bool false, .slice none 0 0, .int .i64 0]] W (DyNew z e W)) := by
    refine Lib.hid fun va W h1 h2 h3 => ?_
    have := dAdd_any va (DyV false (.slice none 0 0) 0) z e 0 0 W h1 (DyAt.zero W) hga good_zero h2 h3 (by rw [(pl_zero_right hga.1).1, (pl_zero_right hga.1).2]; exact lng_of_good hga)
    rw [(pl_zero_right hga.1).1, (pl_zero_right hga.1).2, (tzb_of_nrm hga.1).1, (tzb_of_nrm hga.1).2.1] at this
    exact this
  have HNG : Hid (∀ va W, DyAt W va z e → Tab64 W → 1 < W.heap.size → Calls Tryd.prog 11 #[va] W (DyNew (-z) e W)) := Lib.hid fun va W h1 h2 h3 => dNeg_any va z e W h1 hga h2 h3
  obtain ⟨R, RE, HRL, HAB⟩ : ∃ R RE, Hid (ln 32 R.natAbs ≤ 1073741824) ∧ Hid (∀ va vb W, DyAt W va z e → DyAt W vb u f → Tab64 W → 1 < W.heap.size → Calls Tryd.prog 10 #[va, vb] W (DyNew R RE W)) := ⟨_, _, Lib.hid (Nat.le_trans (ln_le_bl 32 _ (by decide)) (Nat.le_trans (bl_mono hvZ_natAbs_le) (Nat.le_trans bl_plZ (by have := hga.2; have := hgb.2; omega)))), Lib.hid fun va vb W h1 h2 h3 h4 => dAdd_any va vb z e u f W h1 h2 hga hgb h3 h4 hnum⟩
  have HLa : Hid (ln 32 z.natAbs ≤ 1073741824) := Lib.hid (Nat.le_trans (ln_le_bl 32 _ (by decide)) (Nat.le_trans hga.2.1 (by decide)))
  have HB := Lib.hid (Below.refl w.heap.size w)
  clear hga hgb hnum
  go_enter Tryd.func3, Tryd.ntmps3
  go_wp2_with fail
  refine (HX.out _ HT.out.1 HT.out.2).mono ?_
  intro e1 w1 hd
  obtain ⟨ao1, c1, rfl, hr1, ho1, hb1, ha1⟩ := hd.at'
  have hs1 := hb1.size
  have hbd1 := hr1.len
  have HIa := Lib.hid ho1.inR
  have HIao := Lib.hid (GOr.of hr1 ho1)
  have HBn := Lib.hid (HB.out.trans (hb1.mono HB.out.size))
  clear HB
  have HB := HBn
  clear HBn
  have HDa := Lib.hid ha1
  have HRa := Lib.hid hr1
  clear hd hr1 ho1 hb1 ha1
  clear HIao
  generalize hna : decide (z < 0) = na at *
  generalize hla : ln 32 z.natAbs = la at *
  generalize hNa : z.natAbs = Na at *
  clear hna hla hNa
  have HBa := Lib.hid (BlkT.new w1 #[.bool na, .slice ao1 la c1, .int .i64 e] 25)
  replace HDa := Lib.hid (HDa.out.below (below1 w1 (.cells #[.bool na, .slice ao1 la c1, .int .i64 e] 25)))
  replace HRa := Lib.hid (HRa.out.below (below1 w1 (.cells #[.bool na, .slice ao1 la c1, .int .i64 e] 25)))
  have HBn := Lib.hid (HB.out.alloc HB.out.size (.cells #[.bool na, .slice ao1 la c1, .int .i64 e] 25))
  clear HB
  have HB := HBn
  clear HBn
  go_wp2_with fail
  refine (HY.out _ (HT.out.1.below HT.out.2 HB.out) (Nat.lt_of_lt_of_le HT.out.2 HB.out.size)).mono ?_
  intro e2 w2 hd
  obtain ⟨ao2, c2, rfl, hr2, ho2, hb2, ha2⟩ := hd.at'
  have hs2 := hb2.size
  have hbd2 := hr2.len
  have HIb := Lib.hid ho2.inR
  have HIbo := Lib.hid (GOr.of hr2 ho2)
  replace HDa := Lib.hid (HDa.out.below hb2)
  replace HRa := Lib.hid (HRa.out.below hb2)
  replace HBa := Lib.hid (HBa.out.below hb2)
  have HBn := Lib.hid (HB.out.trans (hb2.mono HB.out.size))
  clear HB
  have HB := HBn
  clear HBn
  have HDb := Lib.hid ha2
  have HRb := Lib.hid hr2
  clear hd hr2 ho2 hb2 ha2
  clear HRb HIb HIbo
  generalize hnb : decide (u < 0) = nb at *
  generalize hlb : ln 32 u.natAbs = lb at *
  clear hnb hlb
  have HBb := Lib.hid (BlkT.new w2 #[.bool nb, .slice ao2 lb c2, .int .i64 f] 25)
  replace HDa := Lib.hid (HDa.out.below (below1 w2 (.cells #[.bool nb, .slice ao2 lb c2, .int .i64 f] 25)))
  replace HRa := Lib.hid (HRa.out.below (below1 w2 (.cells #[.bool nb, .slice ao2 lb c2, .int .i64 f] 25)))
  replace HBa := Lib.hid (HBa.out.below (below1 w2 (.cells #[.bool nb, .slice ao2 lb c2, .int .i64 f] 25)))
  replace HDb := Lib.hid (HDb.out.below (below1 w2 (.cells #[.bool nb, .slice ao2 lb c2, .int .i64 f] 25)))
  have HBn := Lib.hid (HB.out.alloc HB.out.size (.cells #[.bool nb, .slice ao2 lb c2, .int .i64 f] 25))
  clear HB
  have HB := HBn
  clear HBn
  go_wp2_with fail
  refine (awake_any _ (HT.out.1.below HT.out.2 HB.out) (Nat.lt_of_lt_of_le HT.out.2 HB.out.size)).mono ?_
  rintro e3 w3 ⟨rfl, hb3⟩
  have hs3 := hb3.size
  replace HDa := Lib.hid (HDa.out.below hb3)
  replace HRa := Lib.hid (HRa.out.below hb3)
  replace HBa := Lib.hid (HBa.out.below hb3)
  replace HDb := Lib.hid (HDb.out.below hb3)
  replace HBb := Lib.hid (HBb.out.below hb3)
  have HBn := Lib.hid (HB.out.trans (hb3.mono HB.out.size))
  clear HB
  have HB := HBn
  clear HBn
  clear hb3
  obtain ⟨x0, x1, x2, x3, x4, x5⟩ := HBa.out.cells3
  obtain ⟨y0, y1, y2, y3, y4, y5⟩ := HBb.out.cells3
  go_wp2_with fail
  refine (twin_any na e _ la Na _ HRa.out HLa.out).mono ?_
  intro e4 w4 hd
  obtain ⟨ao4, c4, rfl, hr4, ho4, hb4⟩ := hd.at
  have hs4 := hb4.size
  have HIk := Lib.hid ho4.inR
  replace HDa := Lib.hid (HDa.out.below hb4)
  replace HRa := Lib.hid (HRa.out.below hb4)
  replace HBa := Lib.hid (HBa.out.below hb4)
  replace HDb := Lib.hid (HDb.out.below hb4)
  replace HBb := Lib.hid (HBb.out.below hb4)
  have HBn := Lib.hid (HB.out.trans (hb4.mono HB.out.size))
  clear HB
  have HB := HBn
  clear HBn
  have HRk := Lib.hid hr4
  clear hd hr4 ho4 hb4 x0 x1 x2 x3 x4 x5 y0 y1 y2 y3 y4 y5
  have HBk := Lib.hid (BlkT.new w4 #[.bool na, .slice ao4 la c4, .int .i64 e] 25)
  replace HDa := Lib.hid (HDa.out.below (below1 w4 (.cells #[.bool na, .slice ao4 la c4, .int .i64 e] 25)))
  replace HRa := Lib.hid (HRa.out.below (below1 w4 (.cells #[.bool na, .slice ao4 la c4, .int .i64 e] 25)))
  replace HBa := Lib.hid (HBa.out.below (below1 w4 (.cells #[.bool na, .slice ao4 la c4, .int .i64 e] 25)))
  replace HDb := Lib.hid (HDb.out.below (below1 w4 (.cells #[.bool na, .slice ao4 la c4, .int .i64 e] 25)))
  replace HBb := Lib.hid (HBb.out.below (below1 w4 (.cells #[.bool na, .slice ao4 la c4, .int .i64 e] 25)))
  replace HRk := Lib.hid (HRk.out.below (below1 w4 (.cells #[.bool na, .slice ao4 la c4, .int .i64 e] 25)))
  have HBn := Lib.hid (HB.out.alloc HB.out.size (.cells #[.bool na, .slice ao4 la c4, .int .i64 e] 25))
  clear HB
  have HB := HBn
  clear HBn
  have HBz := Lib.hid (BlkT.new1 w4 (.cells #[.bool na, .slice ao4 la c4, .int .i64 e] 25) #[.bool false, .slice none 0 0, .int .i64 0] 25)
  replace HDa := Lib.hid (HDa.out.below (below1 (w4.alloc (.cells #[.bool na, .slice ao4 la c4, .int .i64 e] 25)) (.cells #[.bool false, .slice none 0 0, .int .i64 0] 25)))
  replace HRa := Lib.hid (HRa.out.below (below1 (w4.alloc (.cells #[.bool na, .slice ao4 la c4, .int .i64 e] 25)) (.cells #[.bool false, .slice none 0 0, .int .i64 0] 25)))
  replace HBa := Lib.hid (HBa.out.below (below1 (w4.alloc (.cells #[.bool na, .slice ao4 la c4, .int .i64 e] 25)) (.cells #[.bool false, .slice none 0 0, .int .i64 0] 25)))
  replace HDb := Lib.hid (HDb.out.below (below1 (w4.alloc (.cells #[.bool na, .slice ao4 la c4, .int .i64 e] 25)) (.cells #[.bool false, .slice none 0 0, .int .i64 0] 25)))
  replace HBb := Lib.hid (HBb.out.below (below1 (w4.alloc (.cells #[.bool na, .slice ao4 la c4, .int .i64 e] 25)) (.cells #[.bool false, .slice none 0 0, .int .i64 0] 25)))
  replace HRk := Lib.hid (HRk.out.below (below1 (w4.alloc (.cells #[.bool na, .slice ao4 la c4, .int .i64 e] 25)) (.cells #[.bool false, .slice none 0 0, .int .i64 0] 25)))
  replace HBk := Lib.hid (HBk.out.below (below1 (w4.alloc (.cells #[.bool na, .slice ao4 la c4, .int .i64 e] 25)) (.cells #[.bool false, .slice none 0 0, .int .i64 0] 25)))
  have HBn := Lib.hid (HB.out.alloc HB.out.size (.cells #[.bool false, .slice none 0 0, .int .i64 0] 25))
  clear HB
  have HB := HBn
  clear HBn
  obtain ⟨hBa0, hBa1, hBa2, hBa3, hBa4, hBa5⟩ := HBa.out.cells3
  obtain ⟨hBz0, hBz1, hBz2, hBz3, hBz4, hBz5⟩ := HBz.out.cells3
  go_wp2_with fail
  refine (HAZ.out _ _ HDa.out (HT.out.1.below HT.out.2 HB.out) (Nat.lt_of_lt_of_le HT.out.2 HB.out.size)).mono ?_
  intro e5 w5 hd
  obtain ⟨ao5, c5, rfl, hr5, ho5, hb5, ha5⟩ := hd.at'
  have hs5 := hb5.size
  have hbd5 := hr5.len
  have HIs := Lib.hid ho5.inR
  have HIso := Lib.hid (GOr.of hr5 ho5)
  replace HDa := Lib.hid (HDa.out.below hb5)
  replace HRa := Lib.hid (HRa.out.below hb5)
  replace HBa := Lib.hid (HBa.out.below hb5)
  replace HDb := Lib.hid (HDb.out.below hb5)
  replace HBb := Lib.hid (HBb.out.below hb5)
  replace HRk := Lib.hid (HRk.out.below hb5)
  replace HBk := Lib.hid (HBk.out.below hb5)
  replace HBz := Lib.hid (HBz.out.below hb5)
  have HBn := Lib.hid (HB.out.trans (hb5.mono HB.out.size))
  clear HB
  have HB := HBn
  clear HBn
  have HRs := Lib.hid hr5
  clear hd hr5 ho5 hb5 ha5
  clear hBa0 hBa1 hBa2 hBa3 hBa4 hBa5 hBz0 hBz1 hBz2 hBz3 hBz4 hBz5
  generalize hn5 : decide (z < 0) = n5 at *
  generalize hl5 : ln 32 z.natAbs = l5 at *
  clear hn5 hl5 HRs
  have HBs := Lib.hid (BlkT.new w5 #[.bool n5, .slice ao5 l5 c5, .int .i64 e] 25)
  replace HDa := Lib.hid (HDa.out.below (below1 w5 (.cells #[.bool n5, .slice ao5 l5 c5, .int .i64 e] 25)))
  replace HRa := Lib.hid (HRa.out.below (below1 w5 (.cells #[.bool n5, .slice ao5 l5 c5, .int .i64 e] 25)))
  replace HBa := Lib.hid (HBa.out.below (below1 w5 (.cells #[.bool n5, .slice ao5 l5 c5, .int .i64 e] 25)))
  replace HDb := Lib.hid (HDb.out.below (below1 w5 (.cells #[.bool n5, .slice ao5 l5 c5, .int .i64 e] 25)))
  replace HBb := Lib.hid (HBb.out.below (below1 w5 (.cells #[.bool n5, .slice ao5 l5 c5, .int .i64 e] 25)))
  replace HRk := Lib.hid (HRk.out.below (below1 w5 (.cells #[.bool n5, .slice ao5 l5 c5, .int .i64 e] 25)))
  replace HBk := Lib.hid (HBk.out.below (below1 w5 (.cells #[.bool n5, .slice ao5 l5 c5, .int .i64 e] 25)))
  replace HBz := Lib.hid (HBz.out.below (below1 w5 (.cells #[.bool n5, .slice ao5 l5 c5, .int .i64 e] 25)))
  replace HIso := Lib.hid (HIso.out.below (below1 w5 (.cells #[.bool n5, .slice ao5 l5 c5, .int .i64 e] 25)))
  have HBn := Lib.hid (HB.out.alloc HB.out.size (.cells #[.bool n5, .slice ao5 l5 c5, .int .i64 e] 25))
  clear HB
  have HB := HBn
  clear HBn
  obtain ⟨hBa0, hBa1, hBa2, hBa3, hBa4, hBa5⟩ := HBa.out.cells3
  go_wp2_with fail
  refine (HNG.out _ _ HDa.out (HT.out.1.below HT.out.2 HB.out) (Nat.lt_of_lt_of_le HT.out.2 HB.out.size)).mono ?_
  intro e6 w6 hd
  obtain ⟨ao6, c6, rfl, hr6, ho6, hb6, ha6⟩ := hd.at'
  have hs6 := hb6.size
  have hbd6 := hr6.len
  have HIn := Lib.hid ho6.inR
  have HIno := Lib.hid (GOr.of hr6 ho6)
  replace HDa := Lib.hid (HDa.out.below hb6)
  replace HRa := Lib.hid (HRa.out.below hb6)
  replace HBa := Lib.hid (HBa.out.below hb6)
  replace HDb := Lib.hid (HDb.out.below hb6)
  replace HBb := Lib.hid (HBb.out.below hb6)
  replace HRk := Lib.hid (HRk.out.below hb6)
  replace HBk := Lib.hid (HBk.out.below hb6)
  replace HBz := Lib.hid (HBz.out.below hb6)
  replace HIso := Lib.hid (HIso.out.below hb6)
  replace HBs := Lib.hid (HBs.out.below hb6)
  have HBn := Lib.hid (HB.out.trans (hb6.mono HB.out.size))
  clear HB
  have HB := HBn
  clear HBn
  have HRn := Lib.hid hr6
  clear hd hr6 ho6 hb6 ha6
  clear hBa0 hBa1 hBa2 hBa3 hBa4 hBa5
  generalize hn6 : decide (-z < 0) = n6 at *
  generalize hl6 : ln 32 (-z).natAbs = l6 at *
  clear hn6 hl6 HRn
  have HBn := Lib.hid (BlkT.new w6 #[.bool n6, .slice ao6 l6 c6, .int .i64 e] 25)
  replace HDa := Lib.hid (HDa.out.below (below1 w6 (.cells #[.bool n6, .slice ao6 l6 c6, .int .i64 e] 25)))
  replace HRa := Lib.hid (HRa.out.below (below1 w6 (.cells #[.bool n6, .slice ao6 l6 c6, .int .i64 e] 25)))
  replace HBa := Lib.hid (HBa.out.below (below1 w6 (.cells #[.bool n6, .slice ao6 l6 c6, .int .i64 e] 25)))
  replace HDb := Lib.hid (HDb.out.below (below1 w6 (.cells #[.bool n6, .slice ao6 l6 c6, .int .i64 e] 25)))
  replace HBb := Lib.hid (HBb.out.below (below1 w6 (.cells #[.bool n6, .slice ao6 l6 c6, .int .i64 e] 25)))
  replace HRk := Lib.hid (HRk.out.below (below1 w6 (.cells #[.bool n6, .slice ao6 l6 c6, .int .i64 e] 25)))
  replace HBk := Lib.hid (HBk.out.below (below1 w6 (.cells #[.bool n6, .slice ao6 l6 c6, .int .i64 e] 25)))
  replace HBz := Lib.hid (HBz.out.below (below1 w6 (.cells #[.bool n6, .slice ao6 l6 c6, .int .i64 e] 25)))
  replace HIso := Lib.hid (HIso.out.below (below1 w6 (.cells #[.bool n6, .slice ao6 l6 c6, .int .i64 e] 25)))
  replace HBs := Lib.hid (HBs.out.below (below1 w6 (.cells #[.bool n6, .slice ao6 l6 c6, .int .i64 e] 25)))
  replace HIno := Lib.hid (HIno.out.below (below1 w6 (.cells #[.bool n6, .slice ao6 l6 c6, .int .i64 e] 25)))
  have HBn := Lib.hid (HB.out.alloc HB.out.size (.cells #[.bool n6, .slice ao6 l6 c6, .int .i64 e] 25))
  clear HB
  have HB := HBn
  clear HBn
  obtain ⟨hBa0, hBa1, hBa2, hBa3, hBa4, hBa5⟩ := HBa.out.cells3
  obtain ⟨hBb0, hBb1, hBb2, hBb3, hBb4, hBb5⟩ := HBb.out.cells3
  go_wp2_with fail
  refine (HAB.out _ _ _ HDa.out HDb.out (HT.out.1.below HT.out.2 HB.out) (Nat.lt_of_lt_of_le HT.out.2 HB.out.size)).mono ?_
  intro e7 w7 hd
  obtain ⟨ao7, c7, rfl, hr7, ho7, hb7, ha7⟩ := hd.at'
  have hs7 := hb7.size
  have hbd7 := hr7.len
  have HIm := Lib.hid ho7.inR
  have HImo := Lib.hid (GOr.of hr7 ho7)
  replace HDa := Lib.hid (HDa.out.below hb7)
  replace HRa := Lib.hid (HRa.out.below hb7)
  replace HBa := Lib.hid (HBa.out.below hb7)
  replace HDb := Lib.hid (HDb.out.below hb7)
  replace HBb := Lib.hid (HBb.out.below hb7)
  replace HRk := Lib.hid (HRk.out.below hb7)
  replace HBk := Lib.hid (HBk.out.below hb7)
  replace HBz := Lib.hid (HBz.out.below hb7)
  replace HIso := Lib.hid (HIso.out.below hb7)
  replace HBs := Lib.hid (HBs.out.below hb7)
  replace HIno := Lib.hid (HIno.out.below hb7)
  replace HBn := Lib.hid (HBn.out.below hb7)
  have HBn := Lib.hid (HB.out.trans (hb7.mono HB.out.size))
  clear HB
  have HB := HBn
  clear HBn
  have HRm := Lib.hid hr7
  clear hd hr7 ho7 hb7 ha7
  clear hBa0 hBa1 hBa2 hBa3 hBa4 hBa5 hBb0 hBb1 hBb2 hBb3 hBb4 hBb5
  have HLm := HRL
  clear HRL
  generalize hnm : decide (R < 0) = nm at *
  generalize hlm : ln 32 R.natAbs = lm at *
  generalize hNm : R.natAbs = Nm at *
  clear hnm hlm hNm HImo HDa HDb HBb HBz
  have HBm := Lib.hid (BlkT.new w7 #[.bool nm, .slice ao7 lm c7, .int .i64 RE] 25)
  replace HRa := Lib.hid (HRa.out.below (below1 w7 (.cells #[.bool nm, .slice ao7 lm c7, .int .i64 RE] 25)))
  replace HBa := Lib.hid (HBa.out.below (below1 w7 (.cells #[.bool nm, .slice ao7 lm c7, .int .i64 RE] 25)))
  replace HRk := Lib.hid (HRk.out.below (below1 w7 (.cells #[.bool nm, .slice ao7 lm c7, .int .i64 RE] 25)))
  replace HBk := Lib.hid (HBk.out.below (below1 w7 (.cells #[.bool nm, .slice ao7 lm c7, .int .i64 RE] 25)))
  replace HIso := Lib.hid (HIso.out.below (below1 w7 (.cells #[.bool nm, .slice ao7 lm c7, .int .i64 RE] 25)))
  replace HBs := Lib.hid (HBs.out.below (below1 w7 (.cells #[.bool nm, .slice ao7 lm c7, .int .i64 RE] 25)))
  replace HIno := Lib.hid (HIno.out.below (below1 w7 (.cells #[.bool nm, .slice ao7 lm c7, .int .i64 RE] 25)))
  replace HBn := Lib.hid (HBn.out.below (below1 w7 (.cells #[.bool nm, .slice ao7 lm c7, .int .i64 RE] 25)))
  replace HRm := Lib.hid (HRm.out.below (below1 w7 (.cells #[.bool nm, .slice ao7 lm c7, .int .i64 RE] 25)))
  have HBn := Lib.hid (HB.out.alloc HB.out.size (.cells #[.bool nm, .slice ao7 lm c7, .int .i64 RE] 25))
  clear HB
  have HB := HBn
  clear HBn
  obtain ⟨hBm0, hBm1, hBm2, hBm3, hBm4, hBm5⟩ := HBm.out.cells3
  go_wp2_with fail
  refine (twin_any nm RE _ lm Nm _ HRm.out HLm.out).mono ?_
  intro e8 w8 hd
  obtain ⟨ao8, c8, rfl, hr8, ho8, hb8⟩ := hd.at
  have hs8 := hb8.size
  have HIw := Lib.hid ho8.inR
  replace HRa := Lib.hid (HRa.out.below hb8)
  replace HBa := Lib.hid (HBa.out.below hb8)
  replace HRk := Lib.hid (HRk.out.below hb8)
  replace HBk := Lib.hid (HBk.out.below hb8)
  replace HIso := Lib.hid (HIso.out.below hb8)
  replace HBs := Lib.hid (HBs.out.below hb8)
  replace HIno := Lib.hid (HIno.out.below hb8)
  replace HBn := Lib.hid (HBn.out.below hb8)
  replace HRm := Lib.hid (HRm.out.below hb8)
  replace HBm := Lib.hid (HBm.out.below hb8)
  have HBn := Lib.hid (HB.out.trans (hb8.mono HB.out.size))
  clear HB
  have HB := HBn
  clear HBn
  have HRw := Lib.hid hr8
  clear hd hr8 ho8 hb8
  clear hBm0 hBm1 hBm2 hBm3 hBm4 hBm5
  have HBw := Lib.hid (BlkT.new w8 #[.bool nm, .slice ao8 lm c8, .int .i64 RE] 25)
  replace HRa := Lib.hid (HRa.out.below (below1 w8 (.cells #[.bool nm, .slice ao8 lm c8, .int .i64 RE] 25)))
  replace HBa := Lib.hid (HBa.out.below (below1 w8 (.cells #[.bool nm, .slice ao8 lm c8, .int .i64 RE] 25)))
  replace HRk := Lib.hid (HRk.out.below (below1 w8 (.cells #[.bool nm, .slice ao8 lm c8, .int .i64 RE] 25)))
  replace HBk := Lib.hid (HBk.out.below (below1 w8 (.cells #[.bool nm, .slice ao8 lm c8, .int .i64 RE] 25)))
  replace HIso := Lib.hid (HIso.out.below (below1 w8 (.cells #[.bool nm, .slice ao8 lm c8, .int .i64 RE] 25)))
  replace HBs := Lib.hid (HBs.out.below (below1 w8 (.cells #[.bool nm, .slice ao8 lm c8, .int .i64 RE] 25)))
  replace HIno := Lib.hid (HIno.out.below (below1 w8 (.cells #[.bool nm, .slice ao8 lm c8, .int .i64 RE] 25)))
  replace HBn := Lib.hid (HBn.out.below (below1 w8 (.cells #[.bool nm, .slice ao8 lm c8, .int .i64 RE] 25)))
  replace HRm := Lib.hid (HRm.out.below (below1 w8 (.cells #[.bool nm, .slice ao8 lm c8, .int .i64 RE] 25)))
  replace HBm := Lib.hid (HBm.out.below (below1 w8 (.cells #[.bool nm, .slice ao8 lm c8, .int .i64 RE] 25)))
  replace HRw := Lib.hid (HRw.out.below (below1 w8 (.cells #[.bool nm, .slice ao8 lm c8, .int .i64 RE] 25)))
  have HBn := Lib.hid (HB.out.alloc HB.out.size (.cells #[.bool nm, .slice ao8 lm c8, .int .i64 RE] 25))
  clear HB
  have HB := HBn
  clear HBn
  obtain ⟨hBs0, hBs1, hBs2, hBs3, hBs4, hBs5⟩ := HBs.out.cells3
  obtain ⟨hBn0, hBn1, hBn2, hBn3, hBn4, hBn5⟩ := HBn.out.cells3
  go_wp2
  clear hBs0 hBs1 hBs2 hBs3 hBs4 hBs5 hBn0 hBn1 hBn2 hBn3 hBn4 hBn5
  have HLl := Lib.hid (BlkT.new1 w8 (.cells #[.bool nm, .slice ao8 lm c8, .int .i64 RE] 25) #[.slice ao5 l5 c5, .slice ao6 l6 c6] 23)
  replace HRa := Lib.hid (HRa.out.below (below1 (w8.alloc (.cells #[.bool nm, .slice ao8 lm c8, .int .i64 RE] 25)) (.cells #[.slice ao5 l5 c5, .slice ao6 l6 c6] 23)))
  replace HBa := Lib.hid (HBa.out.below (below1 (w8.alloc (.cells #[.bool nm, .slice ao8 lm c8, .int .i64 RE] 25)) (.cells #[.slice ao5 l5 c5, .slice ao6 l6 c6] 23)))
  replace HRk := Lib.hid (HRk.out.below (below1 (w8.alloc (.cells #[.bool nm, .slice ao8 lm c8, .int .i64 RE] 25)) (.cells #[.slice ao5 l5 c5, .slice ao6 l6 c6] 23)))
  replace HBk := Lib.hid (HBk.out.below (below1 (w8.alloc (.cells #[.bool nm, .slice ao8 lm c8, .int .i64 RE] 25)) (.cells #[.slice ao5 l5 c5, .slice ao6 l6 c6] 23)))
  replace HIso := Lib.hid (HIso.out.below (below1 (w8.alloc (.cells #[.bool nm, .slice ao8 lm c8, .int .i64 RE] 25)) (.cells #[.slice ao5 l5 c5, .slice ao6 l6 c6] 23)))
  replace HBs := Lib.hid (HBs.out.below (below1 (w8.alloc (.cells #[.bool nm, .slice ao8 lm c8, .int .i64 RE] 25)) (.cells #[.slice ao5 l5 c5, .slice ao6 l6 c6] 23)))
  replace HIno := Lib.hid (HIno.out.below (below1 (w8.alloc (.cells #[.bool nm, .slice ao8 lm c8, .int .i64 RE] 25)) (.cells #[.slice ao5 l5 c5, .slice ao6 l6 c6] 23)))
  replace HBn := Lib.hid (HBn.out.below (below1 (w8.alloc (.cells #[.bool nm, .slice ao8 lm c8, .int .i64 RE] 25)) (.cells #[.slice ao5 l5 c5, .slice ao6 l6 c6] 23)))
  replace HRm := Lib.hid (HRm.out.below (below1 (w8.alloc (.cells #[.bool nm, .slice ao8 lm c8, .int .i64 RE] 25)) (.cells #[.slice ao5 l5 c5, .slice ao6 l6 c6] 23)))
  replace HBm := Lib.hid (HBm.out.below (below1 (w8.alloc (.cells #[.bool nm, .slice ao8 lm c8, .int .i64 RE] 25)) (.cells #[.slice ao5 l5 c5, .slice ao6 l6 c6] 23)))
  replace HRw := Lib.hid (HRw.out.below (below1 (w8.alloc (.cells #[.bool nm, .slice ao8 lm c8, .int .i64 RE] 25)) (.cells #[.slice ao5 l5 c5, .slice ao6 l6 c6] 23)))
  replace HBw := Lib.hid (HBw.out.below (below1 (w8.alloc (.cells #[.bool nm, .slice ao8 lm c8, .int .i64 RE] 25)) (.cells #[.slice ao5 l5 c5, .slice ao6 l6 c6] 23)))
  have HBn := Lib.hid (HB.out.alloc HB.out.size (.cells #[.slice ao5 l5 c5, .slice ao6 l6 c6] 23))
  clear HB
  have HB := HBn
  clear HBn
  have q2 : w1.heap.size + 1 ≤ w2.heap.size := by simpa using hs2
  have q3 : w2.heap.size + 1 ≤ w3.heap.size := by simpa using hs3
  have q5 : w4.heap.size + 1 + 1 ≤ w5.heap.size := by simpa using hs5
  have q6 : w5.heap.size + 1 ≤ w6.heap.size := by simpa using hs6
  have q7 : w6.heap.size + 1 ≤ w7.heap.size := by simpa using hs7
  have q8 : w7.heap.size + 1 ≤ w8.heap.size := by simpa using hs8
  clear hs2 hs3 hs5 hs6 hs7 hs8
  generalize hPP : (fun g : Nat => (w4.heap.size + 1 + 1 ≤ g ∧ g < w5.heap.size) ∨ (w5.heap.size + 1 ≤ g ∧ g < w6.heap.size)) = PP
  have HF0 : Hid (Fr PP w ((w8.alloc (.cells #[.bool nm, .slice ao8 lm c8, .int .i64 RE] 25)).alloc (.cells #[.slice ao5 l5 c5, .slice ao6 l6 c6] 23)) w1.heap.size w4.heap.size w7.heap.size w8.heap.size (w8.heap.size + 1) na nm e RE (.slice ao1 la c1) (.slice ao4 la c4) (.slice ao7 lm c7) (.slice ao8 lm c8) (.slice ao5 l5 c5) (.slice ao6 l6 c6) la Na lm Nm l5 l6) := by
    subst hPP
    refine Lib.hid ⟨HBa.out, HBk.out, HBm.out, HBw.out, ⟨_, HLl.out⟩, HRa.out, HRk.out, HRm.out, HRw.out, HIso.out.ok (fun g h1 h2 => .inl ⟨by simpa using h1, h2⟩), HIno.out.ok (fun g h1 h2 => .inr ⟨by simpa using h1, h2⟩), HB.out, fun g hg => ?_⟩
    have hg' : w4.heap.size + 1 + 1 ≤ g ∧ g < w6.heap.size := by
      rcases hg with ⟨h1, h2⟩ | ⟨h1, h2⟩ <;> omega
    have hg2 : g ≠ w5.heap.size := by rcases hg with ⟨h1, h2⟩ | ⟨h1, h2⟩ <;> omega
    refine ⟨by omega, by omega, by omega, by omega, by omega, by omega, ⟨_, _, HIa.out, .inr (by omega)⟩, ⟨_, _, HIk.out, .inr (by omega)⟩, ⟨_, _, HIm.out, .inl (by simp; omega)⟩, ⟨_, _, HIw.out, .inl (by simp; omega)⟩⟩
  clear HBa HBk HBm HBw HLl HRa HRk HRm HRw HIso HIno HIa HIk HIm HIw HIs HIn HB HBs HBn hPP q2 q3 q5 q6 q7 q8 hs1 hs4 HX HY HAZ HNG HAB hf1 hf2 HT
  generalize ((w8.alloc (.cells #[.bool nm, .slice ao8 lm c8, .int .i64 RE] 25)).alloc (.cells #[.slice ao5 l5 c5, .slice ao6 l6 c6] 23)) = W9 at HF0 ⊢
  generalize w1.heap.size = ab at *
  generalize w4.heap.size = kb at *
  generalize w7.heap.size = mb at *
  generalize w8.heap.size + 1 = lb at *
  generalize w8.heap.size = wb at *
  go_loopw [82] (fun i wr => ∃ k : Nat, k ≤ 2 ∧ i = .int .i64 k ∧ Hid (Fr PP w wr ab kb mb wb lb na nm e RE (.slice ao1 la c1) (.slice ao4 la c4) (.slice ao7 lm c7) (.slice ao8 lm c8) (.slice ao5 l5 c5) (.slice ao6 l6 c6) la Na lm Nm l5 l6)) (fun i _ => 2 - (intOf i).toNat)
  case atStart => exact ⟨0, by omega, rfl, HF0⟩
  case round =>
    obtain ⟨k, hk, rfl, HF⟩ := hrel
    obtain ⟨wo, rfl⟩ : ∃ wo : World, wo = wr := ⟨_, rfl⟩
    have hcase : k = 0 ∨ k = 1 ∨ k = 2 := by omega
    rcases hcase with rfl | rfl | rfl
    · obtain ⟨t, hl⟩ := HF.out.l
      obtain ⟨l0, l1, l2, l3⟩ := hl.cells2
      clear hl
      go_wp2
      go_loopw [88] (fun i wr => ∃ j : Nat, j ≤ l5 ∧ i = .int .i64 j ∧ Hid (Fr PP w wr ab kb mb wb lb na nm e RE (.slice ao1 la c1) (.slice ao4 la c4) (.slice ao7 lm c7) (.slice ao8 lm c8) (.slice ao5 l5 c5) (.slice ao6 l6 c6) la Na lm Nm l5 l6)) (fun i _ => l5 - (intOf i).toNat)
      case atStart => exact ⟨0, Nat.zero_le _, rfl, HF⟩
      case round =>
        obtain ⟨j, hj, rfl, HF2⟩ := hrel
        by_cases hlt : j < l5
        · obtain ⟨g, c', hv, hg, hrw⟩ := HF2.out.gs (by omega)
          simp only [Value.slice.injEq] at hv
          obtain ⟨rfl, -, rfl⟩ := hv
          obtain ⟨⟨d, hd⟩, hfz⟩ := hrw.cell hlt
          have HG := Lib.hid hg
          clear hrw hg
          go_wp2
          go_roundw
          case rel => exact ⟨j + 1, by omega, by go_num, Lib.hid (HF2.out.set HG.out _ _)⟩
          case measure => simp [intOf]; omega
        · obtain rfl : j = l5 := by omega
          go_wp2
          go_roundw
          case rel => exact ⟨1, by omega, rfl, HF2⟩
          case measure => simp [intOf]
    · obtain ⟨t, hl⟩ := HF.out.l
      obtain ⟨l0, l1, l2, l3⟩ := hl.cells2
      clear hl
      go_wp2
      go_loopw [88] (fun i wr => ∃ j : Nat, j ≤ l6 ∧ i = .int .i64 j ∧ Hid (Fr PP w wr ab kb mb wb lb na nm e RE (.slice ao1 la c1) (.slice ao4 la c4) (.slice ao7 lm c7) (.slice ao8 lm c8) (.slice ao5 l5 c5) (.slice ao6 l6 c6) la Na lm Nm l5 l6)) (fun i _ => l6 - (intOf i).toNat)
      case atStart => exact ⟨0, Nat.zero_le _, rfl, HF⟩
      case round =>
        obtain ⟨j, hj, rfl, HF2⟩ := hrel
        by_cases hlt : j < l6
        · obtain ⟨g, c', hv, hg, hrw⟩ := HF2.out.gn (by omega)
          simp only [Value.slice.injEq] at hv
          obtain ⟨rfl, -, rfl⟩ := hv
          obtain ⟨⟨d, hd⟩, hfz⟩ := hrw.cell hlt
          have HG := Lib.hid hg
          clear hrw hg
          go_wp2
          go_roundw
          case rel => exact ⟨j + 1, by omega, by go_num, Lib.hid (HF2.out.set HG.out _ _)⟩
          case measure => simp [intOf]; omega
        · obtain rfl : j = l6 := by omega
          go_wp2
          go_roundw
          case rel => exact ⟨2, by omega, rfl, HF2⟩
          case measure => simp [intOf]
    · obtain ⟨x0, x1, x2, x3, x4, x5⟩ := HF.out.a.cells3
      obtain ⟨y0, y1, y2, y3, y4, y5⟩ := HF.out.k.cells3
      go_wp2_with fail
      refine (same_true _ _ na la Na e (.slice ao1 la c1) (.slice ao4 la c4) _ rfl rfl HF.out.ra HF.out.rk HLa.out).mono ?_
      rintro e9 w10 ⟨rfl, hb9⟩
      have HM := Lib.hid (HF.out.m.below hb9)
      have HWt := Lib.hid (HF.out.wt.below hb9)
      have HRm := Lib.hid (HF.out.rm.below hb9)
      have HRw := Lib.hid (HF.out.rw.below hb9)
      have HB10 := Lib.hid (HF.out.below.trans (hb9.mono HF.out.below.size))
      clear hb9 x0 x1 x2 x3 x4 x5 y0 y1 y2 y3 y4 y5
      obtain ⟨x0, x1, x2, x3, x4, x5⟩ := HM.out.cells3
      obtain ⟨y0, y1, y2, y3, y4, y5⟩ := HWt.out.cells3
      go_wp2_with fail
      refine (same_true _ _ nm lm Nm RE (.slice ao7 lm c7) (.slice ao8 lm c8) _ rfl rfl HRm.out HRw.out HLm.out).mono ?_
      rintro e10 w11 ⟨rfl, hb10⟩
      have HB11 := Lib.hid (HB10.out.trans (hb10.mono HB10.out.size))
      clear hb10
      go_wp2
      go_ret
      exact ⟨rfl, HB11.out⟩

end Go.Proofs.YtfcddnccmdjhfaaDoor
