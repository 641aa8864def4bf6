/- Walk: DyadRing at three numbers. Printed by wip/gen/ring.py. -/
import Derived.Test.YtfcddnccmdjhfaaDoorRgp
namespace Go.Proofs.YtfcddnccmdjhfaaDoor
open Go.RowKit

theorem same_dy (va vb : Value) (z e : Int) (w : World) (ha : DyAt w va z e) (hb : DyAt w vb z e) (hg : GoodD z e) : Calls Tryd.prog 12 #[va, vb] w (Gives (.bool true) w) := by
  obtain ⟨sa, rfl, ra⟩ := ha
  obtain ⟨sb, rfl, rb⟩ := hb
  exact same_true _ _ (decide (z < 0)) _ _ e sa sb w rfl rfl ra rb (Nat.le_trans (ln_le_bl 32 _ (by decide)) (Nat.le_trans hg.2.1 (by decide)))

theorem zeros11 : ∀ k, k < 11 → (#[.int .i64 0, .int .i64 0, .int .i64 0, .int .i64 0, .int .i64 0, .int .i64 0, .int .i64 0, .int .i64 0, .int .i64 0, .int .i64 0, .int .i64 0] : Array Value)[k]? = some (.int .i64 0) := by
  intro k hk
  match k, hk with
  | 0, _ | 1, _ | 2, _ | 3, _ | 4, _ | 5, _ | 6, _ | 7, _ | 8, _ | 9, _ | 10, _ => rfl

/-- An operation of the face on two dyads, of which the answer is known. -/
def Op2 (f : Nat) (z e y g R RE : Int) : Prop :=
  ∀ (va vb : Value) (W : World), DyAt W va z e → DyAt W vb y g → Tab64 W → 1 < W.heap.size → Calls Tryd.prog f #[va, vb] W (DyNew R RE W)

theorem op_add {z e y g R RE : Int} (hz : GoodD z e) (hy : GoodD y g) (h : (hvZ (plZ z e y g) = R ∧ nrE (plZ z e y g) (plE z e y g) = RE) ∧ (plZ z e y g = 0 ∨ lngB (plZ z e y g) (plE z e y g) = false)) : Op2 10 z e y g R RE := by
  obtain ⟨⟨rfl, rfl⟩, h3⟩ := h
  exact fun va vb W h1 h2 hT hTs => dAdd_any va vb z e y g W h1 h2 hz hy hT hTs h3
theorem op_sub {z e y g R RE : Int} (hz : GoodD z e) (hy : GoodD y g) (h : (hvZ (plZ z e (-y) g) = R ∧ nrE (plZ z e (-y) g) (plE z e (-y) g) = RE) ∧ (plZ z e (-y) g = 0 ∨ lngB (plZ z e (-y) g) (plE z e (-y) g) = false)) : Op2 14 z e y g R RE := by
  obtain ⟨⟨rfl, rfl⟩, h3⟩ := h
  exact fun va vb W h1 h2 hT hTs => dSub_any va vb z e y g W h1 h2 hz hy hT hTs h3
theorem op_mul {z e y g R RE : Int} (hz : GoodD z e) (hy : GoodD y g) (h : (hvZ (z * y) = R ∧ nrE (z * y) (e + g) = RE) ∧ (z * y = 0 ∨ lngB (z * y) (e + g) = false)) : Op2 13 z e y g R RE := by
  obtain ⟨⟨rfl, rfl⟩, h3⟩ := h
  exact fun va vb W h1 h2 hT hTs => dMul_any va vb z e y g W h1 h2 hz hy hT hTs h3

set_option maxRecDepth 100000 in
set_option maxHeartbeats 8000000 in
theorem ring_good (x y u : Nat) (w : World) (hx : x < 18446744073709551616) (hy : y < 18446744073709551616) (hu : u < 18446744073709551616) (hT : Tab64 w) (hTs : 1 < w.heap.size) (fx : finB x = true) (fy : finB y = true) (fu : finB u = true) :
    Calls Tryd.prog 4 #[.int .u64 x, .int .u64 y, .int .u64 u] w (Gives (.bool true) w) := by
  have HT := Lib.hid (And.intro hT hTs)
  have hf1 := ffrom_eq x
  have hf2 := ffrom_eq y
  have hf3 := ffrom_eq u
  have HX := Lib.hid fun W hW => dOf_any x W hx fx hW
  have HY := Lib.hid fun W hW => dOf_any y W hy fy hW
  have HU := Lib.hid fun W hW => dOf_any u W hu fu hW
  have da := Dz.of fx
  have db := Dz.of fy
  have dc := Dz.of fu
  clear hx hy hu fx fy fu hT hTs
  generalize valZ x = za at *
  generalize pE x = ea at *
  generalize valZ y = zb at *
  generalize pE y = eb at *
  generalize valZ u = zc at *
  generalize pE u = ec at *
  obtain ⟨ab, eab, bc, ebc, l, el, p, ep, r, er, o, eo, q1, q2, q3, q4, q5, q6, q7, q8, q9, q10, q11, gab, gbc, gp, gr, gl, go⟩ := ring_plain da db dc
  have ga := da.good (by decide) (by decide) (by decide)
  have gb := db.good (by decide) (by decide) (by decide)
  have gc := dc.good (by decide) (by decide) (by decide)
  have O1 := Lib.hid (op_add ga gb q1)
  have O2 := Lib.hid (op_add gb ga q2)
  have O3 := Lib.hid (op_add gb gc q3)
  have O4 := Lib.hid (op_add gab gc q4)
  have O5 := Lib.hid (op_add ga gbc q5)
  have O6 := Lib.hid (op_mul ga gb q6)
  have O7 := Lib.hid (op_mul gb ga q7)
  have O8 := Lib.hid (op_mul ga gbc q8)
  have O9 := Lib.hid (op_mul ga gc q9)
  have O10 := Lib.hid (op_add gp gr q10)
  have O11 := Lib.hid (op_sub gab gb q11)
  have HG := Lib.hid (And.intro gab (And.intro gl (And.intro gp (And.intro go ga))))
  clear da db dc q1 q2 q3 q4 q5 q6 q7 q8 q9 q10 q11 gab gbc gp gr gl go ga gb gc
  unfold Op2 at O1 O2 O3 O4 O5 O6 O7 O8 O9 O10 O11
  have HB := Lib.hid (Below.refl w.heap.size w)
  go_enter Tryd.func4, Tryd.ntmps4
  go_wp2_with fail
  refine (HX.out _ HT.out.1 HT.out.2).mono ?_
  intro e1 w1 hd
  obtain ⟨ao1, c1, rfl, hr1, ho1, hb1, ha1⟩ := hd.at'
  have HBn := Lib.hid (HB.out.trans (hb1.mono HB.out.size))
  clear HB
  have HB := HBn
  clear HBn
  have HDa := Lib.hid ha1
  clear hd hr1 ho1 hb1 ha1
  generalize hn1 : decide (za < 0) = n1 at *
  generalize hl1 : ln 32 za.natAbs = l1 at *
  clear hn1 hl1
  have HBa := Lib.hid (BlkT.new w1 #[.bool n1, .slice ao1 l1 c1, .int .i64 ea] 25)
  replace HDa := Lib.hid (HDa.out.below (below1 w1 (.cells #[.bool n1, .slice ao1 l1 c1, .int .i64 ea] 25)))
  have HBn := Lib.hid (HB.out.alloc HB.out.size (.cells #[.bool n1, .slice ao1 l1 c1, .int .i64 ea] 25))
  clear HB
  have HB := HBn
  clear HBn
  go_wp2_with fail
  refine (HY.out _ (HT.out.1.below HT.out.2 HB.out) (Nat.lt_of_lt_of_le HT.out.2 HB.out.size)).mono ?_
  intro e2 w2 hd
  obtain ⟨ao2, c2, rfl, hr2, ho2, hb2, ha2⟩ := hd.at'
  replace HDa := Lib.hid (HDa.out.below hb2)
  replace HBa := Lib.hid (HBa.out.below hb2)
  have HBn := Lib.hid (HB.out.trans (hb2.mono HB.out.size))
  clear HB
  have HB := HBn
  clear HBn
  have HDb := Lib.hid ha2
  clear hd hr2 ho2 hb2 ha2
  generalize hn2 : decide (zb < 0) = n2 at *
  generalize hl2 : ln 32 zb.natAbs = l2 at *
  clear hn2 hl2
  have HBb := Lib.hid (BlkT.new w2 #[.bool n2, .slice ao2 l2 c2, .int .i64 eb] 25)
  replace HDa := Lib.hid (HDa.out.below (below1 w2 (.cells #[.bool n2, .slice ao2 l2 c2, .int .i64 eb] 25)))
  replace HBa := Lib.hid (HBa.out.below (below1 w2 (.cells #[.bool n2, .slice ao2 l2 c2, .int .i64 eb] 25)))
  replace HDb := Lib.hid (HDb.out.below (below1 w2 (.cells #[.bool n2, .slice ao2 l2 c2, .int .i64 eb] 25)))
  have HBn := Lib.hid (HB.out.alloc HB.out.size (.cells #[.bool n2, .slice ao2 l2 c2, .int .i64 eb] 25))
  clear HB
  have HB := HBn
  clear HBn
  go_wp2_with fail
  refine (HU.out _ (HT.out.1.below HT.out.2 HB.out) (Nat.lt_of_lt_of_le HT.out.2 HB.out.size)).mono ?_
  intro e3 w3 hd
  obtain ⟨ao3, c3, rfl, hr3, ho3, hb3, ha3⟩ := hd.at'
  replace HDa := Lib.hid (HDa.out.below hb3)
  replace HBa := Lib.hid (HBa.out.below hb3)
  replace HDb := Lib.hid (HDb.out.below hb3)
  replace HBb := Lib.hid (HBb.out.below hb3)
  have HBn := Lib.hid (HB.out.trans (hb3.mono HB.out.size))
  clear HB
  have HB := HBn
  clear HBn
  have HDc := Lib.hid ha3
  clear hd hr3 ho3 hb3 ha3
  generalize hn3 : decide (zc < 0) = n3 at *
  generalize hl3 : ln 32 zc.natAbs = l3 at *
  clear hn3 hl3
  have HBc := Lib.hid (BlkT.new w3 #[.bool n3, .slice ao3 l3 c3, .int .i64 ec] 25)
  replace HDa := Lib.hid (HDa.out.below (below1 w3 (.cells #[.bool n3, .slice ao3 l3 c3, .int .i64 ec] 25)))
  replace HBa := Lib.hid (HBa.out.below (below1 w3 (.cells #[.bool n3, .slice ao3 l3 c3, .int .i64 ec] 25)))
  replace HDb := Lib.hid (HDb.out.below (below1 w3 (.cells #[.bool n3, .slice ao3 l3 c3, .int .i64 ec] 25)))
  replace HBb := Lib.hid (HBb.out.below (below1 w3 (.cells #[.bool n3, .slice ao3 l3 c3, .int .i64 ec] 25)))
  replace HDc := Lib.hid (HDc.out.below (below1 w3 (.cells #[.bool n3, .slice ao3 l3 c3, .int .i64 ec] 25)))
  have HBn := Lib.hid (HB.out.alloc HB.out.size (.cells #[.bool n3, .slice ao3 l3 c3, .int .i64 ec] 25))
  clear HB
  have HB := HBn
  clear HBn
  obtain ⟨ha0, ha1, ha2, ha3, ha4, ha5⟩ := HBa.out.cells3
  obtain ⟨hb0, hb1, hb2, hb3, hb4, hb5⟩ := HBb.out.cells3
  go_wp2_with fail
  refine (O1.out _ _ _ HDa.out HDb.out (HT.out.1.below HT.out.2 HB.out) (Nat.lt_of_lt_of_le HT.out.2 HB.out.size)).mono ?_
  intro e4 w4 hd
  obtain ⟨ao4, c4, rfl, hr4, ho4, hb4, ha4⟩ := hd.at'
  replace HDa := Lib.hid (HDa.out.below hb4)
  replace HBa := Lib.hid (HBa.out.below hb4)
  replace HDb := Lib.hid (HDb.out.below hb4)
  replace HBb := Lib.hid (HBb.out.below hb4)
  replace HDc := Lib.hid (HDc.out.below hb4)
  replace HBc := Lib.hid (HBc.out.below hb4)
  have HBn := Lib.hid (HB.out.trans (hb4.mono HB.out.size))
  clear HB
  have HB := HBn
  clear HBn
  have HDab := Lib.hid ha4
  clear hd hr4 ho4 hb4 ha4
  clear ha0 ha1 ha2 ha3 ha4 ha5 hb0 hb1 hb2 hb3 hb4 hb5
  generalize hn4 : decide (ab < 0) = n4 at *
  generalize hl4 : ln 32 ab.natAbs = l4 at *
  clear hn4 hl4
  have HBab := Lib.hid (BlkT.new w4 #[.bool n4, .slice ao4 l4 c4, .int .i64 eab] 25)
  replace HDa := Lib.hid (HDa.out.below (below1 w4 (.cells #[.bool n4, .slice ao4 l4 c4, .int .i64 eab] 25)))
  replace HBa := Lib.hid (HBa.out.below (below1 w4 (.cells #[.bool n4, .slice ao4 l4 c4, .int .i64 eab] 25)))
  replace HDb := Lib.hid (HDb.out.below (below1 w4 (.cells #[.bool n4, .slice ao4 l4 c4, .int .i64 eab] 25)))
  replace HBb := Lib.hid (HBb.out.below (below1 w4 (.cells #[.bool n4, .slice ao4 l4 c4, .int .i64 eab] 25)))
  replace HDc := Lib.hid (HDc.out.below (below1 w4 (.cells #[.bool n4, .slice ao4 l4 c4, .int .i64 eab] 25)))
  replace HBc := Lib.hid (HBc.out.below (below1 w4 (.cells #[.bool n4, .slice ao4 l4 c4, .int .i64 eab] 25)))
  replace HDab := Lib.hid (HDab.out.below (below1 w4 (.cells #[.bool n4, .slice ao4 l4 c4, .int .i64 eab] 25)))
  have HBn := Lib.hid (HB.out.alloc HB.out.size (.cells #[.bool n4, .slice ao4 l4 c4, .int .i64 eab] 25))
  clear HB
  have HB := HBn
  clear HBn
  obtain ⟨hb0, hb1, hb2, hb3, hb4, hb5⟩ := HBb.out.cells3
  obtain ⟨ha0, ha1, ha2, ha3, ha4, ha5⟩ := HBa.out.cells3
  go_wp2_with fail
  refine (O2.out _ _ _ HDb.out HDa.out (HT.out.1.below HT.out.2 HB.out) (Nat.lt_of_lt_of_le HT.out.2 HB.out.size)).mono ?_
  intro e5 w5 hd
  obtain ⟨ao5, c5, rfl, hr5, ho5, hb5, ha5⟩ := hd.at'
  replace HDa := Lib.hid (HDa.out.below hb5)
  replace HBa := Lib.hid (HBa.out.below hb5)
  replace HDb := Lib.hid (HDb.out.below hb5)
  replace HBb := Lib.hid (HBb.out.below hb5)
  replace HDc := Lib.hid (HDc.out.below hb5)
  replace HBc := Lib.hid (HBc.out.below hb5)
  replace HDab := Lib.hid (HDab.out.below hb5)
  replace HBab := Lib.hid (HBab.out.below hb5)
  have HBn := Lib.hid (HB.out.trans (hb5.mono HB.out.size))
  clear HB
  have HB := HBn
  clear HBn
  have HDba := Lib.hid ha5
  clear hd hr5 ho5 hb5 ha5
  clear hb0 hb1 hb2 hb3 hb4 hb5 ha0 ha1 ha2 ha3 ha4 ha5
  generalize hn5 : decide (ab < 0) = n5 at *
  generalize hl5 : ln 32 ab.natAbs = l5 at *
  clear hn5 hl5
  have HBba := Lib.hid (BlkT.new w5 #[.bool n5, .slice ao5 l5 c5, .int .i64 eab] 25)
  replace HDa := Lib.hid (HDa.out.below (below1 w5 (.cells #[.bool n5, .slice ao5 l5 c5, .int .i64 eab] 25)))
  replace HBa := Lib.hid (HBa.out.below (below1 w5 (.cells #[.bool n5, .slice ao5 l5 c5, .int .i64 eab] 25)))
  replace HDb := Lib.hid (HDb.out.below (below1 w5 (.cells #[.bool n5, .slice ao5 l5 c5, .int .i64 eab] 25)))
  replace HBb := Lib.hid (HBb.out.below (below1 w5 (.cells #[.bool n5, .slice ao5 l5 c5, .int .i64 eab] 25)))
  replace HDc := Lib.hid (HDc.out.below (below1 w5 (.cells #[.bool n5, .slice ao5 l5 c5, .int .i64 eab] 25)))
  replace HBc := Lib.hid (HBc.out.below (below1 w5 (.cells #[.bool n5, .slice ao5 l5 c5, .int .i64 eab] 25)))
  replace HDab := Lib.hid (HDab.out.below (below1 w5 (.cells #[.bool n5, .slice ao5 l5 c5, .int .i64 eab] 25)))
  replace HBab := Lib.hid (HBab.out.below (below1 w5 (.cells #[.bool n5, .slice ao5 l5 c5, .int .i64 eab] 25)))
  replace HDba := Lib.hid (HDba.out.below (below1 w5 (.cells #[.bool n5, .slice ao5 l5 c5, .int .i64 eab] 25)))
  have HBn := Lib.hid (HB.out.alloc HB.out.size (.cells #[.bool n5, .slice ao5 l5 c5, .int .i64 eab] 25))
  clear HB
  have HB := HBn
  clear HBn
  obtain ⟨hb0, hb1, hb2, hb3, hb4, hb5⟩ := HBb.out.cells3
  obtain ⟨hc0, hc1, hc2, hc3, hc4, hc5⟩ := HBc.out.cells3
  go_wp2_with fail
  refine (O3.out _ _ _ HDb.out HDc.out (HT.out.1.below HT.out.2 HB.out) (Nat.lt_of_lt_of_le HT.out.2 HB.out.size)).mono ?_
  intro e6 w6 hd
  obtain ⟨ao6, c6, rfl, hr6, ho6, hb6, ha6⟩ := hd.at'
  replace HDa := Lib.hid (HDa.out.below hb6)
  replace HBa := Lib.hid (HBa.out.below hb6)
  replace HDb := Lib.hid (HDb.out.below hb6)
  replace HBb := Lib.hid (HBb.out.below hb6)
  replace HDc := Lib.hid (HDc.out.below hb6)
  replace HBc := Lib.hid (HBc.out.below hb6)
  replace HDab := Lib.hid (HDab.out.below hb6)
  replace HBab := Lib.hid (HBab.out.below hb6)
  replace HDba := Lib.hid (HDba.out.below hb6)
  replace HBba := Lib.hid (HBba.out.below hb6)
  have HBn := Lib.hid (HB.out.trans (hb6.mono HB.out.size))
  clear HB
  have HB := HBn
  clear HBn
  have HDbc := Lib.hid ha6
  clear hd hr6 ho6 hb6 ha6
  clear hb0 hb1 hb2 hb3 hb4 hb5 hc0 hc1 hc2 hc3 hc4 hc5
  generalize hn6 : decide (bc < 0) = n6 at *
  generalize hl6 : ln 32 bc.natAbs = l6 at *
  clear hn6 hl6
  have HBbc := Lib.hid (BlkT.new w6 #[.bool n6, .slice ao6 l6 c6, .int .i64 ebc] 25)
  replace HDa := Lib.hid (HDa.out.below (below1 w6 (.cells #[.bool n6, .slice ao6 l6 c6, .int .i64 ebc] 25)))
  replace HBa := Lib.hid (HBa.out.below (below1 w6 (.cells #[.bool n6, .slice ao6 l6 c6, .int .i64 ebc] 25)))
  replace HDb := Lib.hid (HDb.out.below (below1 w6 (.cells #[.bool n6, .slice ao6 l6 c6, .int .i64 ebc] 25)))
  replace HBb := Lib.hid (HBb.out.below (below1 w6 (.cells #[.bool n6, .slice ao6 l6 c6, .int .i64 ebc] 25)))
  replace HDc := Lib.hid (HDc.out.below (below1 w6 (.cells #[.bool n6, .slice ao6 l6 c6, .int .i64 ebc] 25)))
  replace HBc := Lib.hid (HBc.out.below (below1 w6 (.cells #[.bool n6, .slice ao6 l6 c6, .int .i64 ebc] 25)))
  replace HDab := Lib.hid (HDab.out.below (below1 w6 (.cells #[.bool n6, .slice ao6 l6 c6, .int .i64 ebc] 25)))
  replace HBab := Lib.hid (HBab.out.below (below1 w6 (.cells #[.bool n6, .slice ao6 l6 c6, .int .i64 ebc] 25)))
  replace HDba := Lib.hid (HDba.out.below (below1 w6 (.cells #[.bool n6, .slice ao6 l6 c6, .int .i64 ebc] 25)))
  replace HBba := Lib.hid (HBba.out.below (below1 w6 (.cells #[.bool n6, .slice ao6 l6 c6, .int .i64 ebc] 25)))
  replace HDbc := Lib.hid (HDbc.out.below (below1 w6 (.cells #[.bool n6, .slice ao6 l6 c6, .int .i64 ebc] 25)))
  have HBn := Lib.hid (HB.out.alloc HB.out.size (.cells #[.bool n6, .slice ao6 l6 c6, .int .i64 ebc] 25))
  clear HB
  have HB := HBn
  clear HBn
  obtain ⟨hab0, hab1, hab2, hab3, hab4, hab5⟩ := HBab.out.cells3
  obtain ⟨hc0, hc1, hc2, hc3, hc4, hc5⟩ := HBc.out.cells3
  go_wp2_with fail
  refine (O4.out _ _ _ HDab.out HDc.out (HT.out.1.below HT.out.2 HB.out) (Nat.lt_of_lt_of_le HT.out.2 HB.out.size)).mono ?_
  intro e7 w7 hd
  obtain ⟨ao7, c7, rfl, hr7, ho7, hb7, ha7⟩ := hd.at'
  replace HDa := Lib.hid (HDa.out.below hb7)
  replace HBa := Lib.hid (HBa.out.below hb7)
  replace HDb := Lib.hid (HDb.out.below hb7)
  replace HBb := Lib.hid (HBb.out.below hb7)
  replace HDc := Lib.hid (HDc.out.below hb7)
  replace HBc := Lib.hid (HBc.out.below hb7)
  replace HDab := Lib.hid (HDab.out.below hb7)
  replace HBab := Lib.hid (HBab.out.below hb7)
  replace HDba := Lib.hid (HDba.out.below hb7)
  replace HBba := Lib.hid (HBba.out.below hb7)
  replace HDbc := Lib.hid (HDbc.out.below hb7)
  replace HBbc := Lib.hid (HBbc.out.below hb7)
  have HBn := Lib.hid (HB.out.trans (hb7.mono HB.out.size))
  clear HB
  have HB := HBn
  clear HBn
  have HDl := Lib.hid ha7
  clear hd hr7 ho7 hb7 ha7
  clear hab0 hab1 hab2 hab3 hab4 hab5 hc0 hc1 hc2 hc3 hc4 hc5
  generalize hn7 : decide (l < 0) = n7 at *
  generalize hl7 : ln 32 l.natAbs = l7 at *
  clear hn7 hl7
  have HBl := Lib.hid (BlkT.new w7 #[.bool n7, .slice ao7 l7 c7, .int .i64 el] 25)
  replace HDa := Lib.hid (HDa.out.below (below1 w7 (.cells #[.bool n7, .slice ao7 l7 c7, .int .i64 el] 25)))
  replace HBa := Lib.hid (HBa.out.below (below1 w7 (.cells #[.bool n7, .slice ao7 l7 c7, .int .i64 el] 25)))
  replace HDb := Lib.hid (HDb.out.below (below1 w7 (.cells #[.bool n7, .slice ao7 l7 c7, .int .i64 el] 25)))
  replace HBb := Lib.hid (HBb.out.below (below1 w7 (.cells #[.bool n7, .slice ao7 l7 c7, .int .i64 el] 25)))
  replace HDc := Lib.hid (HDc.out.below (below1 w7 (.cells #[.bool n7, .slice ao7 l7 c7, .int .i64 el] 25)))
  replace HBc := Lib.hid (HBc.out.below (below1 w7 (.cells #[.bool n7, .slice ao7 l7 c7, .int .i64 el] 25)))
  replace HDab := Lib.hid (HDab.out.below (below1 w7 (.cells #[.bool n7, .slice ao7 l7 c7, .int .i64 el] 25)))
  replace HBab := Lib.hid (HBab.out.below (below1 w7 (.cells #[.bool n7, .slice ao7 l7 c7, .int .i64 el] 25)))
  replace HDba := Lib.hid (HDba.out.below (below1 w7 (.cells #[.bool n7, .slice ao7 l7 c7, .int .i64 el] 25)))
  replace HBba := Lib.hid (HBba.out.below (below1 w7 (.cells #[.bool n7, .slice ao7 l7 c7, .int .i64 el] 25)))
  replace HDbc := Lib.hid (HDbc.out.below (below1 w7 (.cells #[.bool n7, .slice ao7 l7 c7, .int .i64 el] 25)))
  replace HBbc := Lib.hid (HBbc.out.below (below1 w7 (.cells #[.bool n7, .slice ao7 l7 c7, .int .i64 el] 25)))
  replace HDl := Lib.hid (HDl.out.below (below1 w7 (.cells #[.bool n7, .slice ao7 l7 c7, .int .i64 el] 25)))
  have HBn := Lib.hid (HB.out.alloc HB.out.size (.cells #[.bool n7, .slice ao7 l7 c7, .int .i64 el] 25))
  clear HB
  have HB := HBn
  clear HBn
  obtain ⟨ha0, ha1, ha2, ha3, ha4, ha5⟩ := HBa.out.cells3
  obtain ⟨hbc0, hbc1, hbc2, hbc3, hbc4, hbc5⟩ := HBbc.out.cells3
  go_wp2_with fail
  refine (O5.out _ _ _ HDa.out HDbc.out (HT.out.1.below HT.out.2 HB.out) (Nat.lt_of_lt_of_le HT.out.2 HB.out.size)).mono ?_
  intro e8 w8 hd
  obtain ⟨ao8, c8, rfl, hr8, ho8, hb8, ha8⟩ := hd.at'
  replace HDa := Lib.hid (HDa.out.below hb8)
  replace HBa := Lib.hid (HBa.out.below hb8)
  replace HDb := Lib.hid (HDb.out.below hb8)
  replace HBb := Lib.hid (HBb.out.below hb8)
  replace HDc := Lib.hid (HDc.out.below hb8)
  replace HBc := Lib.hid (HBc.out.below hb8)
  replace HDab := Lib.hid (HDab.out.below hb8)
  replace HBab := Lib.hid (HBab.out.below hb8)
  replace HDba := Lib.hid (HDba.out.below hb8)
  replace HBba := Lib.hid (HBba.out.below hb8)
  replace HDbc := Lib.hid (HDbc.out.below hb8)
  replace HBbc := Lib.hid (HBbc.out.below hb8)
  replace HDl := Lib.hid (HDl.out.below hb8)
  replace HBl := Lib.hid (HBl.out.below hb8)
  have HBn := Lib.hid (HB.out.trans (hb8.mono HB.out.size))
  clear HB
  have HB := HBn
  clear HBn
  have HDr := Lib.hid ha8
  clear hd hr8 ho8 hb8 ha8
  clear ha0 ha1 ha2 ha3 ha4 ha5 hbc0 hbc1 hbc2 hbc3 hbc4 hbc5
  generalize hn8 : decide (l < 0) = n8 at *
  generalize hl8 : ln 32 l.natAbs = l8 at *
  clear hn8 hl8
  have HBr := Lib.hid (BlkT.new w8 #[.bool n8, .slice ao8 l8 c8, .int .i64 el] 25)
  replace HDa := Lib.hid (HDa.out.below (below1 w8 (.cells #[.bool n8, .slice ao8 l8 c8, .int .i64 el] 25)))
  replace HBa := Lib.hid (HBa.out.below (below1 w8 (.cells #[.bool n8, .slice ao8 l8 c8, .int .i64 el] 25)))
  replace HDb := Lib.hid (HDb.out.below (below1 w8 (.cells #[.bool n8, .slice ao8 l8 c8, .int .i64 el] 25)))
  replace HBb := Lib.hid (HBb.out.below (below1 w8 (.cells #[.bool n8, .slice ao8 l8 c8, .int .i64 el] 25)))
  replace HDc := Lib.hid (HDc.out.below (below1 w8 (.cells #[.bool n8, .slice ao8 l8 c8, .int .i64 el] 25)))
  replace HBc := Lib.hid (HBc.out.below (below1 w8 (.cells #[.bool n8, .slice ao8 l8 c8, .int .i64 el] 25)))
  replace HDab := Lib.hid (HDab.out.below (below1 w8 (.cells #[.bool n8, .slice ao8 l8 c8, .int .i64 el] 25)))
  replace HBab := Lib.hid (HBab.out.below (below1 w8 (.cells #[.bool n8, .slice ao8 l8 c8, .int .i64 el] 25)))
  replace HDba := Lib.hid (HDba.out.below (below1 w8 (.cells #[.bool n8, .slice ao8 l8 c8, .int .i64 el] 25)))
  replace HBba := Lib.hid (HBba.out.below (below1 w8 (.cells #[.bool n8, .slice ao8 l8 c8, .int .i64 el] 25)))
  replace HDbc := Lib.hid (HDbc.out.below (below1 w8 (.cells #[.bool n8, .slice ao8 l8 c8, .int .i64 el] 25)))
  replace HBbc := Lib.hid (HBbc.out.below (below1 w8 (.cells #[.bool n8, .slice ao8 l8 c8, .int .i64 el] 25)))
  replace HDl := Lib.hid (HDl.out.below (below1 w8 (.cells #[.bool n8, .slice ao8 l8 c8, .int .i64 el] 25)))
  replace HBl := Lib.hid (HBl.out.below (below1 w8 (.cells #[.bool n8, .slice ao8 l8 c8, .int .i64 el] 25)))
  replace HDr := Lib.hid (HDr.out.below (below1 w8 (.cells #[.bool n8, .slice ao8 l8 c8, .int .i64 el] 25)))
  have HBn := Lib.hid (HB.out.alloc HB.out.size (.cells #[.bool n8, .slice ao8 l8 c8, .int .i64 el] 25))
  clear HB
  have HB := HBn
  clear HBn
  obtain ⟨ha0, ha1, ha2, ha3, ha4, ha5⟩ := HBa.out.cells3
  obtain ⟨hb0, hb1, hb2, hb3, hb4, hb5⟩ := HBb.out.cells3
  go_wp2_with fail
  refine (O6.out _ _ _ HDa.out HDb.out (HT.out.1.below HT.out.2 HB.out) (Nat.lt_of_lt_of_le HT.out.2 HB.out.size)).mono ?_
  intro e9 w9 hd
  obtain ⟨ao9, c9, rfl, hr9, ho9, hb9, ha9⟩ := hd.at'
  replace HDa := Lib.hid (HDa.out.below hb9)
  replace HBa := Lib.hid (HBa.out.below hb9)
  replace HDb := Lib.hid (HDb.out.below hb9)
  replace HBb := Lib.hid (HBb.out.below hb9)
  replace HDc := Lib.hid (HDc.out.below hb9)
  replace HBc := Lib.hid (HBc.out.below hb9)
  replace HDab := Lib.hid (HDab.out.below hb9)
  replace HBab := Lib.hid (HBab.out.below hb9)
  replace HDba := Lib.hid (HDba.out.below hb9)
  replace HBba := Lib.hid (HBba.out.below hb9)
  replace HDbc := Lib.hid (HDbc.out.below hb9)
  replace HBbc := Lib.hid (HBbc.out.below hb9)
  replace HDl := Lib.hid (HDl.out.below hb9)
  replace HBl := Lib.hid (HBl.out.below hb9)
  replace HDr := Lib.hid (HDr.out.below hb9)
  replace HBr := Lib.hid (HBr.out.below hb9)
  have HBn := Lib.hid (HB.out.trans (hb9.mono HB.out.size))
  clear HB
  have HB := HBn
  clear HBn
  have HDp := Lib.hid ha9
  clear hd hr9 ho9 hb9 ha9
  clear ha0 ha1 ha2 ha3 ha4 ha5 hb0 hb1 hb2 hb3 hb4 hb5
  generalize hn9 : decide (p < 0) = n9 at *
  generalize hl9 : ln 32 p.natAbs = l9 at *
  clear hn9 hl9
  have HBp := Lib.hid (BlkT.new w9 #[.bool n9, .slice ao9 l9 c9, .int .i64 ep] 25)
  replace HDa := Lib.hid (HDa.out.below (below1 w9 (.cells #[.bool n9, .slice ao9 l9 c9, .int .i64 ep] 25)))
  replace HBa := Lib.hid (HBa.out.below (below1 w9 (.cells #[.bool n9, .slice ao9 l9 c9, .int .i64 ep] 25)))
  replace HDb := Lib.hid (HDb.out.below (below1 w9 (.cells #[.bool n9, .slice ao9 l9 c9, .int .i64 ep] 25)))
  replace HBb := Lib.hid (HBb.out.below (below1 w9 (.cells #[.bool n9, .slice ao9 l9 c9, .int .i64 ep] 25)))
  replace HDc := Lib.hid (HDc.out.below (below1 w9 (.cells #[.bool n9, .slice ao9 l9 c9, .int .i64 ep] 25)))
  replace HBc := Lib.hid (HBc.out.below (below1 w9 (.cells #[.bool n9, .slice ao9 l9 c9, .int .i64 ep] 25)))
  replace HDab := Lib.hid (HDab.out.below (below1 w9 (.cells #[.bool n9, .slice ao9 l9 c9, .int .i64 ep] 25)))
  replace HBab := Lib.hid (HBab.out.below (below1 w9 (.cells #[.bool n9, .slice ao9 l9 c9, .int .i64 ep] 25)))
  replace HDba := Lib.hid (HDba.out.below (below1 w9 (.cells #[.bool n9, .slice ao9 l9 c9, .int .i64 ep] 25)))
  replace HBba := Lib.hid (HBba.out.below (below1 w9 (.cells #[.bool n9, .slice ao9 l9 c9, .int .i64 ep] 25)))
  replace HDbc := Lib.hid (HDbc.out.below (below1 w9 (.cells #[.bool n9, .slice ao9 l9 c9, .int .i64 ep] 25)))
  replace HBbc := Lib.hid (HBbc.out.below (below1 w9 (.cells #[.bool n9, .slice ao9 l9 c9, .int .i64 ep] 25)))
  replace HDl := Lib.hid (HDl.out.below (below1 w9 (.cells #[.bool n9, .slice ao9 l9 c9, .int .i64 ep] 25)))
  replace HBl := Lib.hid (HBl.out.below (below1 w9 (.cells #[.bool n9, .slice ao9 l9 c9, .int .i64 ep] 25)))
  replace HDr := Lib.hid (HDr.out.below (below1 w9 (.cells #[.bool n9, .slice ao9 l9 c9, .int .i64 ep] 25)))
  replace HBr := Lib.hid (HBr.out.below (below1 w9 (.cells #[.bool n9, .slice ao9 l9 c9, .int .i64 ep] 25)))
  replace HDp := Lib.hid (HDp.out.below (below1 w9 (.cells #[.bool n9, .slice ao9 l9 c9, .int .i64 ep] 25)))
  have HBn := Lib.hid (HB.out.alloc HB.out.size (.cells #[.bool n9, .slice ao9 l9 c9, .int .i64 ep] 25))
  clear HB
  have HB := HBn
  clear HBn
  obtain ⟨hb0, hb1, hb2, hb3, hb4, hb5⟩ := HBb.out.cells3
  obtain ⟨ha0, ha1, ha2, ha3, ha4, ha5⟩ := HBa.out.cells3
  go_wp2_with fail
  refine (O7.out _ _ _ HDb.out HDa.out (HT.out.1.below HT.out.2 HB.out) (Nat.lt_of_lt_of_le HT.out.2 HB.out.size)).mono ?_
  intro e10 w10 hd
  obtain ⟨ao10, c10, rfl, hr10, ho10, hb10, ha10⟩ := hd.at'
  replace HDa := Lib.hid (HDa.out.below hb10)
  replace HBa := Lib.hid (HBa.out.below hb10)
  replace HDb := Lib.hid (HDb.out.below hb10)
  replace HBb := Lib.hid (HBb.out.below hb10)
  replace HDc := Lib.hid (HDc.out.below hb10)
  replace HBc := Lib.hid (HBc.out.below hb10)
  replace HDab := Lib.hid (HDab.out.below hb10)
  replace HBab := Lib.hid (HBab.out.below hb10)
  replace HDba := Lib.hid (HDba.out.below hb10)
  replace HBba := Lib.hid (HBba.out.below hb10)
  replace HDbc := Lib.hid (HDbc.out.below hb10)
  replace HBbc := Lib.hid (HBbc.out.below hb10)
  replace HDl := Lib.hid (HDl.out.below hb10)
  replace HBl := Lib.hid (HBl.out.below hb10)
  replace HDr := Lib.hid (HDr.out.below hb10)
  replace HBr := Lib.hid (HBr.out.below hb10)
  replace HDp := Lib.hid (HDp.out.below hb10)
  replace HBp := Lib.hid (HBp.out.below hb10)
  have HBn := Lib.hid (HB.out.trans (hb10.mono HB.out.size))
  clear HB
  have HB := HBn
  clear HBn
  have HDq := Lib.hid ha10
  clear hd hr10 ho10 hb10 ha10
  clear hb0 hb1 hb2 hb3 hb4 hb5 ha0 ha1 ha2 ha3 ha4 ha5
  generalize hn10 : decide (p < 0) = n10 at *
  generalize hl10 : ln 32 p.natAbs = l10 at *
  clear hn10 hl10
  have HBq := Lib.hid (BlkT.new w10 #[.bool n10, .slice ao10 l10 c10, .int .i64 ep] 25)
  replace HDa := Lib.hid (HDa.out.below (below1 w10 (.cells #[.bool n10, .slice ao10 l10 c10, .int .i64 ep] 25)))
  replace HBa := Lib.hid (HBa.out.below (below1 w10 (.cells #[.bool n10, .slice ao10 l10 c10, .int .i64 ep] 25)))
  replace HDb := Lib.hid (HDb.out.below (below1 w10 (.cells #[.bool n10, .slice ao10 l10 c10, .int .i64 ep] 25)))
  replace HBb := Lib.hid (HBb.out.below (below1 w10 (.cells #[.bool n10, .slice ao10 l10 c10, .int .i64 ep] 25)))
  replace HDc := Lib.hid (HDc.out.below (below1 w10 (.cells #[.bool n10, .slice ao10 l10 c10, .int .i64 ep] 25)))
  replace HBc := Lib.hid (HBc.out.below (below1 w10 (.cells #[.bool n10, .slice ao10 l10 c10, .int .i64 ep] 25)))
  replace HDab := Lib.hid (HDab.out.below (below1 w10 (.cells #[.bool n10, .slice ao10 l10 c10, .int .i64 ep] 25)))
  replace HBab := Lib.hid (HBab.out.below (below1 w10 (.cells #[.bool n10, .slice ao10 l10 c10, .int .i64 ep] 25)))
  replace HDba := Lib.hid (HDba.out.below (below1 w10 (.cells #[.bool n10, .slice ao10 l10 c10, .int .i64 ep] 25)))
  replace HBba := Lib.hid (HBba.out.below (below1 w10 (.cells #[.bool n10, .slice ao10 l10 c10, .int .i64 ep] 25)))
  replace HDbc := Lib.hid (HDbc.out.below (below1 w10 (.cells #[.bool n10, .slice ao10 l10 c10, .int .i64 ep] 25)))
  replace HBbc := Lib.hid (HBbc.out.below (below1 w10 (.cells #[.bool n10, .slice ao10 l10 c10, .int .i64 ep] 25)))
  replace HDl := Lib.hid (HDl.out.below (below1 w10 (.cells #[.bool n10, .slice ao10 l10 c10, .int .i64 ep] 25)))
  replace HBl := Lib.hid (HBl.out.below (below1 w10 (.cells #[.bool n10, .slice ao10 l10 c10, .int .i64 ep] 25)))
  replace HDr := Lib.hid (HDr.out.below (below1 w10 (.cells #[.bool n10, .slice ao10 l10 c10, .int .i64 ep] 25)))
  replace HBr := Lib.hid (HBr.out.below (below1 w10 (.cells #[.bool n10, .slice ao10 l10 c10, .int .i64 ep] 25)))
  replace HDp := Lib.hid (HDp.out.below (below1 w10 (.cells #[.bool n10, .slice ao10 l10 c10, .int .i64 ep] 25)))
  replace HBp := Lib.hid (HBp.out.below (below1 w10 (.cells #[.bool n10, .slice ao10 l10 c10, .int .i64 ep] 25)))
  replace HDq := Lib.hid (HDq.out.below (below1 w10 (.cells #[.bool n10, .slice ao10 l10 c10, .int .i64 ep] 25)))
  have HBn := Lib.hid (HB.out.alloc HB.out.size (.cells #[.bool n10, .slice ao10 l10 c10, .int .i64 ep] 25))
  clear HB
  have HB := HBn
  clear HBn
  obtain ⟨ha0, ha1, ha2, ha3, ha4, ha5⟩ := HBa.out.cells3
  obtain ⟨hbc0, hbc1, hbc2, hbc3, hbc4, hbc5⟩ := HBbc.out.cells3
  go_wp2_with fail
  refine (O8.out _ _ _ HDa.out HDbc.out (HT.out.1.below HT.out.2 HB.out) (Nat.lt_of_lt_of_le HT.out.2 HB.out.size)).mono ?_
  intro e11 w11 hd
  obtain ⟨ao11, c11, rfl, hr11, ho11, hb11, ha11⟩ := hd.at'
  replace HDa := Lib.hid (HDa.out.below hb11)
  replace HBa := Lib.hid (HBa.out.below hb11)
  replace HDb := Lib.hid (HDb.out.below hb11)
  replace HBb := Lib.hid (HBb.out.below hb11)
  replace HDc := Lib.hid (HDc.out.below hb11)
  replace HBc := Lib.hid (HBc.out.below hb11)
  replace HDab := Lib.hid (HDab.out.below hb11)
  replace HBab := Lib.hid (HBab.out.below hb11)
  replace HDba := Lib.hid (HDba.out.below hb11)
  replace HBba := Lib.hid (HBba.out.below hb11)
  replace HDbc := Lib.hid (HDbc.out.below hb11)
  replace HBbc := Lib.hid (HBbc.out.below hb11)
  replace HDl := Lib.hid (HDl.out.below hb11)
  replace HBl := Lib.hid (HBl.out.below hb11)
  replace HDr := Lib.hid (HDr.out.below hb11)
  replace HBr := Lib.hid (HBr.out.below hb11)
  replace HDp := Lib.hid (HDp.out.below hb11)
  replace HBp := Lib.hid (HBp.out.below hb11)
  replace HDq := Lib.hid (HDq.out.below hb11)
  replace HBq := Lib.hid (HBq.out.below hb11)
  have HBn := Lib.hid (HB.out.trans (hb11.mono HB.out.size))
  clear HB
  have HB := HBn
  clear HBn
  have HDv := Lib.hid ha11
  clear hd hr11 ho11 hb11 ha11
  clear ha0 ha1 ha2 ha3 ha4 ha5 hbc0 hbc1 hbc2 hbc3 hbc4 hbc5
  generalize hn11 : decide (o < 0) = n11 at *
  generalize hl11 : ln 32 o.natAbs = l11 at *
  clear hn11 hl11
  have HBv := Lib.hid (BlkT.new w11 #[.bool n11, .slice ao11 l11 c11, .int .i64 eo] 25)
  replace HDa := Lib.hid (HDa.out.below (below1 w11 (.cells #[.bool n11, .slice ao11 l11 c11, .int .i64 eo] 25)))
  replace HBa := Lib.hid (HBa.out.below (below1 w11 (.cells #[.bool n11, .slice ao11 l11 c11, .int .i64 eo] 25)))
  replace HDb := Lib.hid (HDb.out.below (below1 w11 (.cells #[.bool n11, .slice ao11 l11 c11, .int .i64 eo] 25)))
  replace HBb := Lib.hid (HBb.out.below (below1 w11 (.cells #[.bool n11, .slice ao11 l11 c11, .int .i64 eo] 25)))
  replace HDc := Lib.hid (HDc.out.below (below1 w11 (.cells #[.bool n11, .slice ao11 l11 c11, .int .i64 eo] 25)))
  replace HBc := Lib.hid (HBc.out.below (below1 w11 (.cells #[.bool n11, .slice ao11 l11 c11, .int .i64 eo] 25)))
  replace HDab := Lib.hid (HDab.out.below (below1 w11 (.cells #[.bool n11, .slice ao11 l11 c11, .int .i64 eo] 25)))
  replace HBab := Lib.hid (HBab.out.below (below1 w11 (.cells #[.bool n11, .slice ao11 l11 c11, .int .i64 eo] 25)))
  replace HDba := Lib.hid (HDba.out.below (below1 w11 (.cells #[.bool n11, .slice ao11 l11 c11, .int .i64 eo] 25)))
  replace HBba := Lib.hid (HBba.out.below (below1 w11 (.cells #[.bool n11, .slice ao11 l11 c11, .int .i64 eo] 25)))
  replace HDbc := Lib.hid (HDbc.out.below (below1 w11 (.cells #[.bool n11, .slice ao11 l11 c11, .int .i64 eo] 25)))
  replace HBbc := Lib.hid (HBbc.out.below (below1 w11 (.cells #[.bool n11, .slice ao11 l11 c11, .int .i64 eo] 25)))
  replace HDl := Lib.hid (HDl.out.below (below1 w11 (.cells #[.bool n11, .slice ao11 l11 c11, .int .i64 eo] 25)))
  replace HBl := Lib.hid (HBl.out.below (below1 w11 (.cells #[.bool n11, .slice ao11 l11 c11, .int .i64 eo] 25)))
  replace HDr := Lib.hid (HDr.out.below (below1 w11 (.cells #[.bool n11, .slice ao11 l11 c11, .int .i64 eo] 25)))
  replace HBr := Lib.hid (HBr.out.below (below1 w11 (.cells #[.bool n11, .slice ao11 l11 c11, .int .i64 eo] 25)))
  replace HDp := Lib.hid (HDp.out.below (below1 w11 (.cells #[.bool n11, .slice ao11 l11 c11, .int .i64 eo] 25)))
  replace HBp := Lib.hid (HBp.out.below (below1 w11 (.cells #[.bool n11, .slice ao11 l11 c11, .int .i64 eo] 25)))
  replace HDq := Lib.hid (HDq.out.below (below1 w11 (.cells #[.bool n11, .slice ao11 l11 c11, .int .i64 eo] 25)))
  replace HBq := Lib.hid (HBq.out.below (below1 w11 (.cells #[.bool n11, .slice ao11 l11 c11, .int .i64 eo] 25)))
  replace HDv := Lib.hid (HDv.out.below (below1 w11 (.cells #[.bool n11, .slice ao11 l11 c11, .int .i64 eo] 25)))
  have HBn := Lib.hid (HB.out.alloc HB.out.size (.cells #[.bool n11, .slice ao11 l11 c11, .int .i64 eo] 25))
  clear HB
  have HB := HBn
  clear HBn
  obtain ⟨ha0, ha1, ha2, ha3, ha4, ha5⟩ := HBa.out.cells3
  obtain ⟨hc0, hc1, hc2, hc3, hc4, hc5⟩ := HBc.out.cells3
  go_wp2_with fail
  refine (O9.out _ _ _ HDa.out HDc.out (HT.out.1.below HT.out.2 HB.out) (Nat.lt_of_lt_of_le HT.out.2 HB.out.size)).mono ?_
  intro e12 w12 hd
  obtain ⟨ao12, c12, rfl, hr12, ho12, hb12, ha12⟩ := hd.at'
  replace HDa := Lib.hid (HDa.out.below hb12)
  replace HBa := Lib.hid (HBa.out.below hb12)
  replace HDb := Lib.hid (HDb.out.below hb12)
  replace HBb := Lib.hid (HBb.out.below hb12)
  replace HDc := Lib.hid (HDc.out.below hb12)
  replace HBc := Lib.hid (HBc.out.below hb12)
  replace HDab := Lib.hid (HDab.out.below hb12)
  replace HBab := Lib.hid (HBab.out.below hb12)
  replace HDba := Lib.hid (HDba.out.below hb12)
  replace HBba := Lib.hid (HBba.out.below hb12)
  replace HDbc := Lib.hid (HDbc.out.below hb12)
  replace HBbc := Lib.hid (HBbc.out.below hb12)
  replace HDl := Lib.hid (HDl.out.below hb12)
  replace HBl := Lib.hid (HBl.out.below hb12)
  replace HDr := Lib.hid (HDr.out.below hb12)
  replace HBr := Lib.hid (HBr.out.below hb12)
  replace HDp := Lib.hid (HDp.out.below hb12)
  replace HBp := Lib.hid (HBp.out.below hb12)
  replace HDq := Lib.hid (HDq.out.below hb12)
  replace HBq := Lib.hid (HBq.out.below hb12)
  replace HDv := Lib.hid (HDv.out.below hb12)
  replace HBv := Lib.hid (HBv.out.below hb12)
  have HBn := Lib.hid (HB.out.trans (hb12.mono HB.out.size))
  clear HB
  have HB := HBn
  clear HBn
  have HDs := Lib.hid ha12
  clear hd hr12 ho12 hb12 ha12
  clear ha0 ha1 ha2 ha3 ha4 ha5 hc0 hc1 hc2 hc3 hc4 hc5
  generalize hn12 : decide (r < 0) = n12 at *
  generalize hl12 : ln 32 r.natAbs = l12 at *
  clear hn12 hl12
  have HBs := Lib.hid (BlkT.new w12 #[.bool n12, .slice ao12 l12 c12, .int .i64 er] 25)
  replace HDa := Lib.hid (HDa.out.below (below1 w12 (.cells #[.bool n12, .slice ao12 l12 c12, .int .i64 er] 25)))
  replace HBa := Lib.hid (HBa.out.below (below1 w12 (.cells #[.bool n12, .slice ao12 l12 c12, .int .i64 er] 25)))
  replace HDb := Lib.hid (HDb.out.below (below1 w12 (.cells #[.bool n12, .slice ao12 l12 c12, .int .i64 er] 25)))
  replace HBb := Lib.hid (HBb.out.below (below1 w12 (.cells #[.bool n12, .slice ao12 l12 c12, .int .i64 er] 25)))
  replace HDc := Lib.hid (HDc.out.below (below1 w12 (.cells #[.bool n12, .slice ao12 l12 c12, .int .i64 er] 25)))
  replace HBc := Lib.hid (HBc.out.below (below1 w12 (.cells #[.bool n12, .slice ao12 l12 c12, .int .i64 er] 25)))
  replace HDab := Lib.hid (HDab.out.below (below1 w12 (.cells #[.bool n12, .slice ao12 l12 c12, .int .i64 er] 25)))
  replace HBab := Lib.hid (HBab.out.below (below1 w12 (.cells #[.bool n12, .slice ao12 l12 c12, .int .i64 er] 25)))
  replace HDba := Lib.hid (HDba.out.below (below1 w12 (.cells #[.bool n12, .slice ao12 l12 c12, .int .i64 er] 25)))
  replace HBba := Lib.hid (HBba.out.below (below1 w12 (.cells #[.bool n12, .slice ao12 l12 c12, .int .i64 er] 25)))
  replace HDbc := Lib.hid (HDbc.out.below (below1 w12 (.cells #[.bool n12, .slice ao12 l12 c12, .int .i64 er] 25)))
  replace HBbc := Lib.hid (HBbc.out.below (below1 w12 (.cells #[.bool n12, .slice ao12 l12 c12, .int .i64 er] 25)))
  replace HDl := Lib.hid (HDl.out.below (below1 w12 (.cells #[.bool n12, .slice ao12 l12 c12, .int .i64 er] 25)))
  replace HBl := Lib.hid (HBl.out.below (below1 w12 (.cells #[.bool n12, .slice ao12 l12 c12, .int .i64 er] 25)))
  replace HDr := Lib.hid (HDr.out.below (below1 w12 (.cells #[.bool n12, .slice ao12 l12 c12, .int .i64 er] 25)))
  replace HBr := Lib.hid (HBr.out.below (below1 w12 (.cells #[.bool n12, .slice ao12 l12 c12, .int .i64 er] 25)))
  replace HDp := Lib.hid (HDp.out.below (below1 w12 (.cells #[.bool n12, .slice ao12 l12 c12, .int .i64 er] 25)))
  replace HBp := Lib.hid (HBp.out.below (below1 w12 (.cells #[.bool n12, .slice ao12 l12 c12, .int .i64 er] 25)))
  replace HDq := Lib.hid (HDq.out.below (below1 w12 (.cells #[.bool n12, .slice ao12 l12 c12, .int .i64 er] 25)))
  replace HBq := Lib.hid (HBq.out.below (below1 w12 (.cells #[.bool n12, .slice ao12 l12 c12, .int .i64 er] 25)))
  replace HDv := Lib.hid (HDv.out.below (below1 w12 (.cells #[.bool n12, .slice ao12 l12 c12, .int .i64 er] 25)))
  replace HBv := Lib.hid (HBv.out.below (below1 w12 (.cells #[.bool n12, .slice ao12 l12 c12, .int .i64 er] 25)))
  replace HDs := Lib.hid (HDs.out.below (below1 w12 (.cells #[.bool n12, .slice ao12 l12 c12, .int .i64 er] 25)))
  have HBn := Lib.hid (HB.out.alloc HB.out.size (.cells #[.bool n12, .slice ao12 l12 c12, .int .i64 er] 25))
  clear HB
  have HB := HBn
  clear HBn
  obtain ⟨hp0, hp1, hp2, hp3, hp4, hp5⟩ := HBp.out.cells3
  obtain ⟨hs0, hs1, hs2, hs3, hs4, hs5⟩ := HBs.out.cells3
  go_wp2_with fail
  refine (O10.out _ _ _ HDp.out HDs.out (HT.out.1.below HT.out.2 HB.out) (Nat.lt_of_lt_of_le HT.out.2 HB.out.size)).mono ?_
  intro e13 w13 hd
  obtain ⟨ao13, c13, rfl, hr13, ho13, hb13, ha13⟩ := hd.at'
  replace HDa := Lib.hid (HDa.out.below hb13)
  replace HBa := Lib.hid (HBa.out.below hb13)
  replace HDb := Lib.hid (HDb.out.below hb13)
  replace HBb := Lib.hid (HBb.out.below hb13)
  replace HDc := Lib.hid (HDc.out.below hb13)
  replace HBc := Lib.hid (HBc.out.below hb13)
  replace HDab := Lib.hid (HDab.out.below hb13)
  replace HBab := Lib.hid (HBab.out.below hb13)
  replace HDba := Lib.hid (HDba.out.below hb13)
  replace HBba := Lib.hid (HBba.out.below hb13)
  replace HDbc := Lib.hid (HDbc.out.below hb13)
  replace HBbc := Lib.hid (HBbc.out.below hb13)
  replace HDl := Lib.hid (HDl.out.below hb13)
  replace HBl := Lib.hid (HBl.out.below hb13)
  replace HDr := Lib.hid (HDr.out.below hb13)
  replace HBr := Lib.hid (HBr.out.below hb13)
  replace HDp := Lib.hid (HDp.out.below hb13)
  replace HBp := Lib.hid (HBp.out.below hb13)
  replace HDq := Lib.hid (HDq.out.below hb13)
  replace HBq := Lib.hid (HBq.out.below hb13)
  replace HDv := Lib.hid (HDv.out.below hb13)
  replace HBv := Lib.hid (HBv.out.below hb13)
  replace HDs := Lib.hid (HDs.out.below hb13)
  replace HBs := Lib.hid (HBs.out.below hb13)
  have HBn := Lib.hid (HB.out.trans (hb13.mono HB.out.size))
  clear HB
  have HB := HBn
  clear HBn
  have HDt := Lib.hid ha13
  clear hd hr13 ho13 hb13 ha13
  clear hp0 hp1 hp2 hp3 hp4 hp5 hs0 hs1 hs2 hs3 hs4 hs5
  generalize hn13 : decide (o < 0) = n13 at *
  generalize hl13 : ln 32 o.natAbs = l13 at *
  clear hn13 hl13
  have HBt := Lib.hid (BlkT.new w13 #[.bool n13, .slice ao13 l13 c13, .int .i64 eo] 25)
  replace HDa := Lib.hid (HDa.out.below (below1 w13 (.cells #[.bool n13, .slice ao13 l13 c13, .int .i64 eo] 25)))
  replace HBa := Lib.hid (HBa.out.below (below1 w13 (.cells #[.bool n13, .slice ao13 l13 c13, .int .i64 eo] 25)))
  replace HDb := Lib.hid (HDb.out.below (below1 w13 (.cells #[.bool n13, .slice ao13 l13 c13, .int .i64 eo] 25)))
  replace HBb := Lib.hid (HBb.out.below (below1 w13 (.cells #[.bool n13, .slice ao13 l13 c13, .int .i64 eo] 25)))
  replace HDc := Lib.hid (HDc.out.below (below1 w13 (.cells #[.bool n13, .slice ao13 l13 c13, .int .i64 eo] 25)))
  replace HBc := Lib.hid (HBc.out.below (below1 w13 (.cells #[.bool n13, .slice ao13 l13 c13, .int .i64 eo] 25)))
  replace HDab := Lib.hid (HDab.out.below (below1 w13 (.cells #[.bool n13, .slice ao13 l13 c13, .int .i64 eo] 25)))
  replace HBab := Lib.hid (HBab.out.below (below1 w13 (.cells #[.bool n13, .slice ao13 l13 c13, .int .i64 eo] 25)))
  replace HDba := Lib.hid (HDba.out.below (below1 w13 (.cells #[.bool n13, .slice ao13 l13 c13, .int .i64 eo] 25)))
  replace HBba := Lib.hid (HBba.out.below (below1 w13 (.cells #[.bool n13, .slice ao13 l13 c13, .int .i64 eo] 25)))
  replace HDbc := Lib.hid (HDbc.out.below (below1 w13 (.cells #[.bool n13, .slice ao13 l13 c13, .int .i64 eo] 25)))
  replace HBbc := Lib.hid (HBbc.out.below (below1 w13 (.cells #[.bool n13, .slice ao13 l13 c13, .int .i64 eo] 25)))
  replace HDl := Lib.hid (HDl.out.below (below1 w13 (.cells #[.bool n13, .slice ao13 l13 c13, .int .i64 eo] 25)))
  replace HBl := Lib.hid (HBl.out.below (below1 w13 (.cells #[.bool n13, .slice ao13 l13 c13, .int .i64 eo] 25)))
  replace HDr := Lib.hid (HDr.out.below (below1 w13 (.cells #[.bool n13, .slice ao13 l13 c13, .int .i64 eo] 25)))
  replace HBr := Lib.hid (HBr.out.below (below1 w13 (.cells #[.bool n13, .slice ao13 l13 c13, .int .i64 eo] 25)))
  replace HDp := Lib.hid (HDp.out.below (below1 w13 (.cells #[.bool n13, .slice ao13 l13 c13, .int .i64 eo] 25)))
  replace HBp := Lib.hid (HBp.out.below (below1 w13 (.cells #[.bool n13, .slice ao13 l13 c13, .int .i64 eo] 25)))
  replace HDq := Lib.hid (HDq.out.below (below1 w13 (.cells #[.bool n13, .slice ao13 l13 c13, .int .i64 eo] 25)))
  replace HBq := Lib.hid (HBq.out.below (below1 w13 (.cells #[.bool n13, .slice ao13 l13 c13, .int .i64 eo] 25)))
  replace HDv := Lib.hid (HDv.out.below (below1 w13 (.cells #[.bool n13, .slice ao13 l13 c13, .int .i64 eo] 25)))
  replace HBv := Lib.hid (HBv.out.below (below1 w13 (.cells #[.bool n13, .slice ao13 l13 c13, .int .i64 eo] 25)))
  replace HDs := Lib.hid (HDs.out.below (below1 w13 (.cells #[.bool n13, .slice ao13 l13 c13, .int .i64 eo] 25)))
  replace HBs := Lib.hid (HBs.out.below (below1 w13 (.cells #[.bool n13, .slice ao13 l13 c13, .int .i64 eo] 25)))
  replace HDt := Lib.hid (HDt.out.below (below1 w13 (.cells #[.bool n13, .slice ao13 l13 c13, .int .i64 eo] 25)))
  have HBn := Lib.hid (HB.out.alloc HB.out.size (.cells #[.bool n13, .slice ao13 l13 c13, .int .i64 eo] 25))
  clear HB
  have HB := HBn
  clear HBn
  obtain ⟨hab0, hab1, hab2, hab3, hab4, hab5⟩ := HBab.out.cells3
  obtain ⟨hb0, hb1, hb2, hb3, hb4, hb5⟩ := HBb.out.cells3
  go_wp2_with fail
  refine (O11.out _ _ _ HDab.out HDb.out (HT.out.1.below HT.out.2 HB.out) (Nat.lt_of_lt_of_le HT.out.2 HB.out.size)).mono ?_
  intro e14 w14 hd
  obtain ⟨ao14, c14, rfl, hr14, ho14, hb14, ha14⟩ := hd.at'
  replace HDa := Lib.hid (HDa.out.below hb14)
  replace HBa := Lib.hid (HBa.out.below hb14)
  replace HDb := Lib.hid (HDb.out.below hb14)
  replace HBb := Lib.hid (HBb.out.below hb14)
  replace HDc := Lib.hid (HDc.out.below hb14)
  replace HBc := Lib.hid (HBc.out.below hb14)
  replace HDab := Lib.hid (HDab.out.below hb14)
  replace HBab := Lib.hid (HBab.out.below hb14)
  replace HDba := Lib.hid (HDba.out.below hb14)
  replace HBba := Lib.hid (HBba.out.below hb14)
  replace HDbc := Lib.hid (HDbc.out.below hb14)
  replace HBbc := Lib.hid (HBbc.out.below hb14)
  replace HDl := Lib.hid (HDl.out.below hb14)
  replace HBl := Lib.hid (HBl.out.below hb14)
  replace HDr := Lib.hid (HDr.out.below hb14)
  replace HBr := Lib.hid (HBr.out.below hb14)
  replace HDp := Lib.hid (HDp.out.below hb14)
  replace HBp := Lib.hid (HBp.out.below hb14)
  replace HDq := Lib.hid (HDq.out.below hb14)
  replace HBq := Lib.hid (HBq.out.below hb14)
  replace HDv := Lib.hid (HDv.out.below hb14)
  replace HBv := Lib.hid (HBv.out.below hb14)
  replace HDs := Lib.hid (HDs.out.below hb14)
  replace HBs := Lib.hid (HBs.out.below hb14)
  replace HDt := Lib.hid (HDt.out.below hb14)
  replace HBt := Lib.hid (HBt.out.below hb14)
  have HBn := Lib.hid (HB.out.trans (hb14.mono HB.out.size))
  clear HB
  have HB := HBn
  clear HBn
  have HDk := Lib.hid ha14
  clear hd hr14 ho14 hb14 ha14
  clear hab0 hab1 hab2 hab3 hab4 hab5 hb0 hb1 hb2 hb3 hb4 hb5
  generalize hn14 : decide (za < 0) = n14 at *
  generalize hl14 : ln 32 za.natAbs = l14 at *
  clear hn14 hl14
  have HBk := Lib.hid (BlkT.new w14 #[.bool n14, .slice ao14 l14 c14, .int .i64 ea] 25)
  replace HDa := Lib.hid (HDa.out.below (below1 w14 (.cells #[.bool n14, .slice ao14 l14 c14, .int .i64 ea] 25)))
  replace HBa := Lib.hid (HBa.out.below (below1 w14 (.cells #[.bool n14, .slice ao14 l14 c14, .int .i64 ea] 25)))
  replace HDb := Lib.hid (HDb.out.below (below1 w14 (.cells #[.bool n14, .slice ao14 l14 c14, .int .i64 ea] 25)))
  replace HBb := Lib.hid (HBb.out.below (below1 w14 (.cells #[.bool n14, .slice ao14 l14 c14, .int .i64 ea] 25)))
  replace HDc := Lib.hid (HDc.out.below (below1 w14 (.cells #[.bool n14, .slice ao14 l14 c14, .int .i64 ea] 25)))
  replace HBc := Lib.hid (HBc.out.below (below1 w14 (.cells #[.bool n14, .slice ao14 l14 c14, .int .i64 ea] 25)))
  replace HDab := Lib.hid (HDab.out.below (below1 w14 (.cells #[.bool n14, .slice ao14 l14 c14, .int .i64 ea] 25)))
  replace HBab := Lib.hid (HBab.out.below (below1 w14 (.cells #[.bool n14, .slice ao14 l14 c14, .int .i64 ea] 25)))
  replace HDba := Lib.hid (HDba.out.below (below1 w14 (.cells #[.bool n14, .slice ao14 l14 c14, .int .i64 ea] 25)))
  replace HBba := Lib.hid (HBba.out.below (below1 w14 (.cells #[.bool n14, .slice ao14 l14 c14, .int .i64 ea] 25)))
  replace HDbc := Lib.hid (HDbc.out.below (below1 w14 (.cells #[.bool n14, .slice ao14 l14 c14, .int .i64 ea] 25)))
  replace HBbc := Lib.hid (HBbc.out.below (below1 w14 (.cells #[.bool n14, .slice ao14 l14 c14, .int .i64 ea] 25)))
  replace HDl := Lib.hid (HDl.out.below (below1 w14 (.cells #[.bool n14, .slice ao14 l14 c14, .int .i64 ea] 25)))
  replace HBl := Lib.hid (HBl.out.below (below1 w14 (.cells #[.bool n14, .slice ao14 l14 c14, .int .i64 ea] 25)))
  replace HDr := Lib.hid (HDr.out.below (below1 w14 (.cells #[.bool n14, .slice ao14 l14 c14, .int .i64 ea] 25)))
  replace HBr := Lib.hid (HBr.out.below (below1 w14 (.cells #[.bool n14, .slice ao14 l14 c14, .int .i64 ea] 25)))
  replace HDp := Lib.hid (HDp.out.below (below1 w14 (.cells #[.bool n14, .slice ao14 l14 c14, .int .i64 ea] 25)))
  replace HBp := Lib.hid (HBp.out.below (below1 w14 (.cells #[.bool n14, .slice ao14 l14 c14, .int .i64 ea] 25)))
  replace HDq := Lib.hid (HDq.out.below (below1 w14 (.cells #[.bool n14, .slice ao14 l14 c14, .int .i64 ea] 25)))
  replace HBq := Lib.hid (HBq.out.below (below1 w14 (.cells #[.bool n14, .slice ao14 l14 c14, .int .i64 ea] 25)))
  replace HDv := Lib.hid (HDv.out.below (below1 w14 (.cells #[.bool n14, .slice ao14 l14 c14, .int .i64 ea] 25)))
  replace HBv := Lib.hid (HBv.out.below (below1 w14 (.cells #[.bool n14, .slice ao14 l14 c14, .int .i64 ea] 25)))
  replace HDs := Lib.hid (HDs.out.below (below1 w14 (.cells #[.bool n14, .slice ao14 l14 c14, .int .i64 ea] 25)))
  replace HBs := Lib.hid (HBs.out.below (below1 w14 (.cells #[.bool n14, .slice ao14 l14 c14, .int .i64 ea] 25)))
  replace HDt := Lib.hid (HDt.out.below (below1 w14 (.cells #[.bool n14, .slice ao14 l14 c14, .int .i64 ea] 25)))
  replace HBt := Lib.hid (HBt.out.below (below1 w14 (.cells #[.bool n14, .slice ao14 l14 c14, .int .i64 ea] 25)))
  replace HDk := Lib.hid (HDk.out.below (below1 w14 (.cells #[.bool n14, .slice ao14 l14 c14, .int .i64 ea] 25)))
  have HBn := Lib.hid (HB.out.alloc HB.out.size (.cells #[.bool n14, .slice ao14 l14 c14, .int .i64 ea] 25))
  clear HB
  have HB := HBn
  clear HBn
  go_wp2
  have HE := Lib.hid (BlkT.new1 w14 (.cells #[.bool n14, .slice ao14 l14 c14, .int .i64 ea] 25) #[.int .i64 0, .int .i64 0, .int .i64 0, .int .i64 0, .int .i64 0, .int .i64 0, .int .i64 0, .int .i64 0, .int .i64 0, .int .i64 0, .int .i64 0] 26)
  replace HDa := Lib.hid (HDa.out.below (below1 (w14.alloc (.cells #[.bool n14, .slice ao14 l14 c14, .int .i64 ea] 25)) (.cells #[.int .i64 0, .int .i64 0, .int .i64 0, .int .i64 0, .int .i64 0, .int .i64 0, .int .i64 0, .int .i64 0, .int .i64 0, .int .i64 0, .int .i64 0] 26)))
  replace HBa := Lib.hid (HBa.out.below (below1 (w14.alloc (.cells #[.bool n14, .slice ao14 l14 c14, .int .i64 ea] 25)) (.cells #[.int .i64 0, .int .i64 0, .int .i64 0, .int .i64 0, .int .i64 0, .int .i64 0, .int .i64 0, .int .i64 0, .int .i64 0, .int .i64 0, .int .i64 0] 26)))
  replace HDb := Lib.hid (HDb.out.below (below1 (w14.alloc (.cells #[.bool n14, .slice ao14 l14 c14, .int .i64 ea] 25)) (.cells #[.int .i64 0, .int .i64 0, .int .i64 0, .int .i64 0, .int .i64 0, .int .i64 0, .int .i64 0, .int .i64 0, .int .i64 0, .int .i64 0, .int .i64 0] 26)))
  replace HBb := Lib.hid (HBb.out.below (below1 (w14.alloc (.cells #[.bool n14, .slice ao14 l14 c14, .int .i64 ea] 25)) (.cells #[.int .i64 0, .int .i64 0, .int .i64 0, .int .i64 0, .int .i64 0, .int .i64 0, .int .i64 0, .int .i64 0, .int .i64 0, .int .i64 0, .int .i64 0] 26)))
  replace HDc := Lib.hid (HDc.out.below (below1 (w14.alloc (.cells #[.bool n14, .slice ao14 l14 c14, .int .i64 ea] 25)) (.cells #[.int .i64 0, .int .i64 0, .int .i64 0, .int .i64 0, .int .i64 0, .int .i64 0, .int .i64 0, .int .i64 0, .int .i64 0, .int .i64 0, .int .i64 0] 26)))
  replace HBc := Lib.hid (HBc.out.below (below1 (w14.alloc (.cells #[.bool n14, .slice ao14 l14 c14, .int .i64 ea] 25)) (.cells #[.int .i64 0, .int .i64 0, .int .i64 0, .int .i64 0, .int .i64 0, .int .i64 0, .int .i64 0, .int .i64 0, .int .i64 0, .int .i64 0, .int .i64 0] 26)))
  replace HDab := Lib.hid (HDab.out.below (below1 (w14.alloc (.cells #[.bool n14, .slice ao14 l14 c14, .int .i64 ea] 25)) (.cells #[.int .i64 0, .int .i64 0, .int .i64 0, .int .i64 0, .int .i64 0, .int .i64 0, .int .i64 0, .int .i64 0, .int .i64 0, .int .i64 0, .int .i64 0] 26)))
  replace HBab := Lib.hid (HBab.out.below (below1 (w14.alloc (.cells #[.bool n14, .slice ao14 l14 c14, .int .i64 ea] 25)) (.cells #[.int .i64 0, .int .i64 0, .int .i64 0, .int .i64 0, .int .i64 0, .int .i64 0, .int .i64 0, .int .i64 0, .int .i64 0, .int .i64 0, .int .i64 0] 26)))
  replace HDba := Lib.hid (HDba.out.below (below1 (w14.alloc (.cells #[.bool n14, .slice ao14 l14 c14, .int .i64 ea] 25)) (.cells #[.int .i64 0, .int .i64 0, .int .i64 0, .int .i64 0, .int .i64 0, .int .i64 0, .int .i64 0, .int .i64 0, .int .i64 0, .int .i64 0, .int .i64 0] 26)))
  replace HBba := Lib.hid (HBba.out.below (below1 (w14.alloc (.cells #[.bool n14, .slice ao14 l14 c14, .int .i64 ea] 25)) (.cells #[.int .i64 0, .int .i64 0, .int .i64 0, .int .i64 0, .int .i64 0, .int .i64 0, .int .i64 0, .int .i64 0, .int .i64 0, .int .i64 0, .int .i64 0] 26)))
  replace HDbc := Lib.hid (HDbc.out.below (below1 (w14.alloc (.cells #[.bool n14, .slice ao14 l14 c14, .int .i64 ea] 25)) (.cells #[.int .i64 0, .int .i64 0, .int .i64 0, .int .i64 0, .int .i64 0, .int .i64 0, .int .i64 0, .int .i64 0, .int .i64 0, .int .i64 0, .int .i64 0] 26)))
  replace HBbc := Lib.hid (HBbc.out.below (below1 (w14.alloc (.cells #[.bool n14, .slice ao14 l14 c14, .int .i64 ea] 25)) (.cells #[.int .i64 0, .int .i64 0, .int .i64 0, .int .i64 0, .int .i64 0, .int .i64 0, .int .i64 0, .int .i64 0, .int .i64 0, .int .i64 0, .int .i64 0] 26)))
  replace HDl := Lib.hid (HDl.out.below (below1 (w14.alloc (.cells #[.bool n14, .slice ao14 l14 c14, .int .i64 ea] 25)) (.cells #[.int .i64 0, .int .i64 0, .int .i64 0, .int .i64 0, .int .i64 0, .int .i64 0, .int .i64 0, .int .i64 0, .int .i64 0, .int .i64 0, .int .i64 0] 26)))
  replace HBl := Lib.hid (HBl.out.below (below1 (w14.alloc (.cells #[.bool n14, .slice ao14 l14 c14, .int .i64 ea] 25)) (.cells #[.int .i64 0, .int .i64 0, .int .i64 0, .int .i64 0, .int .i64 0, .int .i64 0, .int .i64 0, .int .i64 0, .int .i64 0, .int .i64 0, .int .i64 0] 26)))
  replace HDr := Lib.hid (HDr.out.below (below1 (w14.alloc (.cells #[.bool n14, .slice ao14 l14 c14, .int .i64 ea] 25)) (.cells #[.int .i64 0, .int .i64 0, .int .i64 0, .int .i64 0, .int .i64 0, .int .i64 0, .int .i64 0, .int .i64 0, .int .i64 0, .int .i64 0, .int .i64 0] 26)))
  replace HBr := Lib.hid (HBr.out.below (below1 (w14.alloc (.cells #[.bool n14, .slice ao14 l14 c14, .int .i64 ea] 25)) (.cells #[.int .i64 0, .int .i64 0, .int .i64 0, .int .i64 0, .int .i64 0, .int .i64 0, .int .i64 0, .int .i64 0, .int .i64 0, .int .i64 0, .int .i64 0] 26)))
  replace HDp := Lib.hid (HDp.out.below (below1 (w14.alloc (.cells #[.bool n14, .slice ao14 l14 c14, .int .i64 ea] 25)) (.cells #[.int .i64 0, .int .i64 0, .int .i64 0, .int .i64 0, .int .i64 0, .int .i64 0, .int .i64 0, .int .i64 0, .int .i64 0, .int .i64 0, .int .i64 0] 26)))
  replace HBp := Lib.hid (HBp.out.below (below1 (w14.alloc (.cells #[.bool n14, .slice ao14 l14 c14, .int .i64 ea] 25)) (.cells #[.int .i64 0, .int .i64 0, .int .i64 0, .int .i64 0, .int .i64 0, .int .i64 0, .int .i64 0, .int .i64 0, .int .i64 0, .int .i64 0, .int .i64 0] 26)))
  replace HDq := Lib.hid (HDq.out.below (below1 (w14.alloc (.cells #[.bool n14, .slice ao14 l14 c14, .int .i64 ea] 25)) (.cells #[.int .i64 0, .int .i64 0, .int .i64 0, .int .i64 0, .int .i64 0, .int .i64 0, .int .i64 0, .int .i64 0, .int .i64 0, .int .i64 0, .int .i64 0] 26)))
  replace HBq := Lib.hid (HBq.out.below (below1 (w14.alloc (.cells #[.bool n14, .slice ao14 l14 c14, .int .i64 ea] 25)) (.cells #[.int .i64 0, .int .i64 0, .int .i64 0, .int .i64 0, .int .i64 0, .int .i64 0, .int .i64 0, .int .i64 0, .int .i64 0, .int .i64 0, .int .i64 0] 26)))
  replace HDv := Lib.hid (HDv.out.below (below1 (w14.alloc (.cells #[.bool n14, .slice ao14 l14 c14, .int .i64 ea] 25)) (.cells #[.int .i64 0, .int .i64 0, .int .i64 0, .int .i64 0, .int .i64 0, .int .i64 0, .int .i64 0, .int .i64 0, .int .i64 0, .int .i64 0, .int .i64 0] 26)))
  replace HBv := Lib.hid (HBv.out.below (below1 (w14.alloc (.cells #[.bool n14, .slice ao14 l14 c14, .int .i64 ea] 25)) (.cells #[.int .i64 0, .int .i64 0, .int .i64 0, .int .i64 0, .int .i64 0, .int .i64 0, .int .i64 0, .int .i64 0, .int .i64 0, .int .i64 0, .int .i64 0] 26)))
  replace HDs := Lib.hid (HDs.out.below (below1 (w14.alloc (.cells #[.bool n14, .slice ao14 l14 c14, .int .i64 ea] 25)) (.cells #[.int .i64 0, .int .i64 0, .int .i64 0, .int .i64 0, .int .i64 0, .int .i64 0, .int .i64 0, .int .i64 0, .int .i64 0, .int .i64 0, .int .i64 0] 26)))
  replace HBs := Lib.hid (HBs.out.below (below1 (w14.alloc (.cells #[.bool n14, .slice ao14 l14 c14, .int .i64 ea] 25)) (.cells #[.int .i64 0, .int .i64 0, .int .i64 0, .int .i64 0, .int .i64 0, .int .i64 0, .int .i64 0, .int .i64 0, .int .i64 0, .int .i64 0, .int .i64 0] 26)))
  replace HDt := Lib.hid (HDt.out.below (below1 (w14.alloc (.cells #[.bool n14, .slice ao14 l14 c14, .int .i64 ea] 25)) (.cells #[.int .i64 0, .int .i64 0, .int .i64 0, .int .i64 0, .int .i64 0, .int .i64 0, .int .i64 0, .int .i64 0, .int .i64 0, .int .i64 0, .int .i64 0] 26)))
  replace HBt := Lib.hid (HBt.out.below (below1 (w14.alloc (.cells #[.bool n14, .slice ao14 l14 c14, .int .i64 ea] 25)) (.cells #[.int .i64 0, .int .i64 0, .int .i64 0, .int .i64 0, .int .i64 0, .int .i64 0, .int .i64 0, .int .i64 0, .int .i64 0, .int .i64 0, .int .i64 0] 26)))
  replace HDk := Lib.hid (HDk.out.below (below1 (w14.alloc (.cells #[.bool n14, .slice ao14 l14 c14, .int .i64 ea] 25)) (.cells #[.int .i64 0, .int .i64 0, .int .i64 0, .int .i64 0, .int .i64 0, .int .i64 0, .int .i64 0, .int .i64 0, .int .i64 0, .int .i64 0, .int .i64 0] 26)))
  replace HBk := Lib.hid (HBk.out.below (below1 (w14.alloc (.cells #[.bool n14, .slice ao14 l14 c14, .int .i64 ea] 25)) (.cells #[.int .i64 0, .int .i64 0, .int .i64 0, .int .i64 0, .int .i64 0, .int .i64 0, .int .i64 0, .int .i64 0, .int .i64 0, .int .i64 0, .int .i64 0] 26)))
  have HBn := Lib.hid (HB.out.alloc HB.out.size (.cells #[.int .i64 0, .int .i64 0, .int .i64 0, .int .i64 0, .int .i64 0, .int .i64 0, .int .i64 0, .int .i64 0, .int .i64 0, .int .i64 0, .int .i64 0] 26))
  clear HB
  have HB := HBn
  clear HBn
  generalize ((w14.alloc (.cells #[.bool n14, .slice ao14 l14 c14, .int .i64 ea] 25)).alloc (.cells #[.int .i64 0, .int .i64 0, .int .i64 0, .int .i64 0, .int .i64 0, .int .i64 0, .int .i64 0, .int .i64 0, .int .i64 0, .int .i64 0, .int .i64 0] 26)) = W at *
  generalize w1.heap.size = b1 at *
  generalize w2.heap.size = b2 at *
  generalize w3.heap.size = b3 at *
  generalize w4.heap.size = b4 at *
  generalize w5.heap.size = b5 at *
  generalize w6.heap.size = b6 at *
  generalize w7.heap.size = b7 at *
  generalize w8.heap.size = b8 at *
  generalize w9.heap.size = b9 at *
  generalize w10.heap.size = b10 at *
  generalize w11.heap.size = b11 at *
  generalize w12.heap.size = b12 at *
  generalize w13.heap.size = b13 at *
  generalize w14.heap.size = b14 at *
  go_loop [145] (fun i => ∃ k : Nat, k ≤ 11 ∧ i = .int .i64 k) (fun i => 11 - (intOf i).toNat)
  case atStart => exact ⟨0, by omega, rfl⟩
  case round =>
    obtain ⟨k, hk, rfl⟩ := hrel
    by_cases hlt : k < 11
    · have hck := (HE.out.cell k).trans (zeros11 k hlt)
      go_wp2
      go_round
      case rel => exact ⟨k + 1, by omega, by go_num⟩
      case measure => simp [intOf]; omega
    · obtain rfl : k = 11 := by omega
      obtain ⟨hab0, hab1, hab2, hab3, hab4, hab5⟩ := HBab.out.cells3
      obtain ⟨hba0, hba1, hba2, hba3, hba4, hba5⟩ := HBba.out.cells3
      go_wp2_with fail
      refine (same_dy _ _ ab eab _ HDab.out HDba.out HG.out.1).mono ?_
      rintro e15 w15 ⟨rfl, hb15⟩
      replace HDa := Lib.hid (HDa.out.below hb15)
      replace HBa := Lib.hid (HBa.out.below hb15)
      replace HDb := Lib.hid (HDb.out.below hb15)
      replace HBb := Lib.hid (HBb.out.below hb15)
      replace HDc := Lib.hid (HDc.out.below hb15)
      replace HBc := Lib.hid (HBc.out.below hb15)
      replace HDab := Lib.hid (HDab.out.below hb15)
      replace HBab := Lib.hid (HBab.out.below hb15)
      replace HDba := Lib.hid (HDba.out.below hb15)
      replace HBba := Lib.hid (HBba.out.below hb15)
      replace HDbc := Lib.hid (HDbc.out.below hb15)
      replace HBbc := Lib.hid (HBbc.out.below hb15)
      replace HDl := Lib.hid (HDl.out.below hb15)
      replace HBl := Lib.hid (HBl.out.below hb15)
      replace HDr := Lib.hid (HDr.out.below hb15)
      replace HBr := Lib.hid (HBr.out.below hb15)
      replace HDp := Lib.hid (HDp.out.below hb15)
      replace HBp := Lib.hid (HBp.out.below hb15)
      replace HDq := Lib.hid (HDq.out.below hb15)
      replace HBq := Lib.hid (HBq.out.below hb15)
      replace HDv := Lib.hid (HDv.out.below hb15)
      replace HBv := Lib.hid (HBv.out.below hb15)
      replace HDs := Lib.hid (HDs.out.below hb15)
      replace HBs := Lib.hid (HBs.out.below hb15)
      replace HDt := Lib.hid (HDt.out.below hb15)
      replace HBt := Lib.hid (HBt.out.below hb15)
      replace HDk := Lib.hid (HDk.out.below hb15)
      replace HBk := Lib.hid (HBk.out.below hb15)
      replace HE := Lib.hid (HE.out.below hb15)
      have HBn := Lib.hid (HB.out.trans (hb15.mono HB.out.size))
      clear HB
      have HB := HBn
      clear HBn
      clear hb15
      clear hab0 hab1 hab2 hab3 hab4 hab5 hba0 hba1 hba2 hba3 hba4 hba5
      obtain ⟨hl0, hl1, hl2, hl3, hl4, hl5⟩ := HBl.out.cells3
      obtain ⟨hr0, hr1, hr2, hr3, hr4, hr5⟩ := HBr.out.cells3
      go_wp2_with fail
      refine (same_dy _ _ l el _ HDl.out HDr.out HG.out.2.1).mono ?_
      rintro e16 w16 ⟨rfl, hb16⟩
      replace HDa := Lib.hid (HDa.out.below hb16)
      replace HBa := Lib.hid (HBa.out.below hb16)
      replace HDb := Lib.hid (HDb.out.below hb16)
      replace HBb := Lib.hid (HBb.out.below hb16)
      replace HDc := Lib.hid (HDc.out.below hb16)
      replace HBc := Lib.hid (HBc.out.below hb16)
      replace HDab := Lib.hid (HDab.out.below hb16)
      replace HBab := Lib.hid (HBab.out.below hb16)
      replace HDba := Lib.hid (HDba.out.below hb16)
      replace HBba := Lib.hid (HBba.out.below hb16)
      replace HDbc := Lib.hid (HDbc.out.below hb16)
      replace HBbc := Lib.hid (HBbc.out.below hb16)
      replace HDl := Lib.hid (HDl.out.below hb16)
      replace HBl := Lib.hid (HBl.out.below hb16)
      replace HDr := Lib.hid (HDr.out.below hb16)
      replace HBr := Lib.hid (HBr.out.below hb16)
      replace HDp := Lib.hid (HDp.out.below hb16)
      replace HBp := Lib.hid (HBp.out.below hb16)
      replace HDq := Lib.hid (HDq.out.below hb16)
      replace HBq := Lib.hid (HBq.out.below hb16)
      replace HDv := Lib.hid (HDv.out.below hb16)
      replace HBv := Lib.hid (HBv.out.below hb16)
      replace HDs := Lib.hid (HDs.out.below hb16)
      replace HBs := Lib.hid (HBs.out.below hb16)
      replace HDt := Lib.hid (HDt.out.below hb16)
      replace HBt := Lib.hid (HBt.out.below hb16)
      replace HDk := Lib.hid (HDk.out.below hb16)
      replace HBk := Lib.hid (HBk.out.below hb16)
      replace HE := Lib.hid (HE.out.below hb16)
      have HBn := Lib.hid (HB.out.trans (hb16.mono HB.out.size))
      clear HB
      have HB := HBn
      clear HBn
      clear hb16
      clear hl0 hl1 hl2 hl3 hl4 hl5 hr0 hr1 hr2 hr3 hr4 hr5
      obtain ⟨hp0, hp1, hp2, hp3, hp4, hp5⟩ := HBp.out.cells3
      obtain ⟨hq0, hq1, hq2, hq3, hq4, hq5⟩ := HBq.out.cells3
      go_wp2_with fail
      refine (same_dy _ _ p ep _ HDp.out HDq.out HG.out.2.2.1).mono ?_
      rintro e17 w17 ⟨rfl, hb17⟩
      replace HDa := Lib.hid (HDa.out.below hb17)
      replace HBa := Lib.hid (HBa.out.below hb17)
      replace HDb := Lib.hid (HDb.out.below hb17)
      replace HBb := Lib.hid (HBb.out.below hb17)
      replace HDc := Lib.hid (HDc.out.below hb17)
      replace HBc := Lib.hid (HBc.out.below hb17)
      replace HDab := Lib.hid (HDab.out.below hb17)
      replace HBab := Lib.hid (HBab.out.below hb17)
      replace HDba := Lib.hid (HDba.out.below hb17)
      replace HBba := Lib.hid (HBba.out.below hb17)
      replace HDbc := Lib.hid (HDbc.out.below hb17)
      replace HBbc := Lib.hid (HBbc.out.below hb17)
      replace HDl := Lib.hid (HDl.out.below hb17)
      replace HBl := Lib.hid (HBl.out.below hb17)
      replace HDr := Lib.hid (HDr.out.below hb17)
      replace HBr := Lib.hid (HBr.out.below hb17)
      replace HDp := Lib.hid (HDp.out.below hb17)
      replace HBp := Lib.hid (HBp.out.below hb17)
      replace HDq := Lib.hid (HDq.out.below hb17)
      replace HBq := Lib.hid (HBq.out.below hb17)
      replace HDv := Lib.hid (HDv.out.below hb17)
      replace HBv := Lib.hid (HBv.out.below hb17)
      replace HDs := Lib.hid (HDs.out.below hb17)
      replace HBs := Lib.hid (HBs.out.below hb17)
      replace HDt := Lib.hid (HDt.out.below hb17)
      replace HBt := Lib.hid (HBt.out.below hb17)
      replace HDk := Lib.hid (HDk.out.below hb17)
      replace HBk := Lib.hid (HBk.out.below hb17)
      replace HE := Lib.hid (HE.out.below hb17)
      have HBn := Lib.hid (HB.out.trans (hb17.mono HB.out.size))
      clear HB
      have HB := HBn
      clear HBn
      clear hb17
      clear hp0 hp1 hp2 hp3 hp4 hp5 hq0 hq1 hq2 hq3 hq4 hq5
      obtain ⟨hv0, hv1, hv2, hv3, hv4, hv5⟩ := HBv.out.cells3
      obtain ⟨ht0, ht1, ht2, ht3, ht4, ht5⟩ := HBt.out.cells3
      go_wp2_with fail
      refine (same_dy _ _ o eo _ HDv.out HDt.out HG.out.2.2.2.1).mono ?_
      rintro e18 w18 ⟨rfl, hb18⟩
      replace HDa := Lib.hid (HDa.out.below hb18)
      replace HBa := Lib.hid (HBa.out.below hb18)
      replace HDb := Lib.hid (HDb.out.below hb18)
      replace HBb := Lib.hid (HBb.out.below hb18)
      replace HDc := Lib.hid (HDc.out.below hb18)
      replace HBc := Lib.hid (HBc.out.below hb18)
      replace HDab := Lib.hid (HDab.out.below hb18)
      replace HBab := Lib.hid (HBab.out.below hb18)
      replace HDba := Lib.hid (HDba.out.below hb18)
      replace HBba := Lib.hid (HBba.out.below hb18)
      replace HDbc := Lib.hid (HDbc.out.below hb18)
      replace HBbc := Lib.hid (HBbc.out.below hb18)
      replace HDl := Lib.hid (HDl.out.below hb18)
      replace HBl := Lib.hid (HBl.out.below hb18)
      replace HDr := Lib.hid (HDr.out.below hb18)
      replace HBr := Lib.hid (HBr.out.below hb18)
      replace HDp := Lib.hid (HDp.out.below hb18)
      replace HBp := Lib.hid (HBp.out.below hb18)
      replace HDq := Lib.hid (HDq.out.below hb18)
      replace HBq := Lib.hid (HBq.out.below hb18)
      replace HDv := Lib.hid (HDv.out.below hb18)
      replace HBv := Lib.hid (HBv.out.below hb18)
      replace HDs := Lib.hid (HDs.out.below hb18)
      replace HBs := Lib.hid (HBs.out.below hb18)
      replace HDt := Lib.hid (HDt.out.below hb18)
      replace HBt := Lib.hid (HBt.out.below hb18)
      replace HDk := Lib.hid (HDk.out.below hb18)
      replace HBk := Lib.hid (HBk.out.below hb18)
      replace HE := Lib.hid (HE.out.below hb18)
      have HBn := Lib.hid (HB.out.trans (hb18.mono HB.out.size))
      clear HB
      have HB := HBn
      clear HBn
      clear hb18
      clear hv0 hv1 hv2 hv3 hv4 hv5 ht0 ht1 ht2 ht3 ht4 ht5
      obtain ⟨hk0, hk1, hk2, hk3, hk4, hk5⟩ := HBk.out.cells3
      obtain ⟨ha0, ha1, ha2, ha3, ha4, ha5⟩ := HBa.out.cells3
      go_wp2_with fail
      refine (same_dy _ _ za ea _ HDk.out HDa.out HG.out.2.2.2.2).mono ?_
      rintro e19 w19 ⟨rfl, hb19⟩
      replace HDa := Lib.hid (HDa.out.below hb19)
      replace HBa := Lib.hid (HBa.out.below hb19)
      replace HDb := Lib.hid (HDb.out.below hb19)
      replace HBb := Lib.hid (HBb.out.below hb19)
      replace HDc := Lib.hid (HDc.out.below hb19)
      replace HBc := Lib.hid (HBc.out.below hb19)
      replace HDab := Lib.hid (HDab.out.below hb19)
      replace HBab := Lib.hid (HBab.out.below hb19)
      replace HDba := Lib.hid (HDba.out.below hb19)
      replace HBba := Lib.hid (HBba.out.below hb19)
      replace HDbc := Lib.hid (HDbc.out.below hb19)
      replace HBbc := Lib.hid (HBbc.out.below hb19)
      replace HDl := Lib.hid (HDl.out.below hb19)
      replace HBl := Lib.hid (HBl.out.below hb19)
      replace HDr := Lib.hid (HDr.out.below hb19)
      replace HBr := Lib.hid (HBr.out.below hb19)
      replace HDp := Lib.hid (HDp.out.below hb19)
      replace HBp := Lib.hid (HBp.out.below hb19)
      replace HDq := Lib.hid (HDq.out.below hb19)
      replace HBq := Lib.hid (HBq.out.below hb19)
      replace HDv := Lib.hid (HDv.out.below hb19)
      replace HBv := Lib.hid (HBv.out.below hb19)
      replace HDs := Lib.hid (HDs.out.below hb19)
      replace HBs := Lib.hid (HBs.out.below hb19)
      replace HDt := Lib.hid (HDt.out.below hb19)
      replace HBt := Lib.hid (HBt.out.below hb19)
      replace HDk := Lib.hid (HDk.out.below hb19)
      replace HBk := Lib.hid (HBk.out.below hb19)
      replace HE := Lib.hid (HE.out.below hb19)
      have HBn := Lib.hid (HB.out.trans (hb19.mono HB.out.size))
      clear HB
      have HB := HBn
      clear HBn
      clear hb19
      clear hk0 hk1 hk2 hk3 hk4 hk5 ha0 ha1 ha2 ha3 ha4 ha5
      go_wp2_with fail
      refine (awake_any _ (HT.out.1.below HT.out.2 HB.out) (Nat.lt_of_lt_of_le HT.out.2 HB.out.size)).mono ?_
      rintro e9 w9 ⟨rfl, hb9⟩
      have HBn := Lib.hid (HB.out.trans (hb9.mono HB.out.size))
      clear HB
      have HB := HBn
      clear HBn
      clear hb9
      go_wp2
      go_ret
      exact ⟨rfl, HB.out⟩

end Go.Proofs.YtfcddnccmdjhfaaDoor
