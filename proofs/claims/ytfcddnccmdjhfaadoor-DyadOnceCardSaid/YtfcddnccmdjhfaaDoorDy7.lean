/- Walks: sums, differences, products of dyads, the other sign. Printed by wip/gen/dy7.py. -/
import Derived.Test.YtfcddnccmdjhfaaDoorDy6
namespace Go.Proofs.YtfcddnccmdjhfaaDoor
open Go.RowKit

theorem plE_bd {z e y f : Int} (h1 : -100000 ≤ e) (h2 : e ≤ 100000) (h3 : -100000 ≤ f) (h4 : f ≤ 100000) : -100000 ≤ plE z e y f ∧ plE z e y f ≤ 100000 := by
  unfold plE; split
  · exact ⟨h3, h4⟩
  · split
    · exact ⟨h1, h2⟩
    · omega

set_option maxRecDepth 100000 in
set_option maxHeartbeats 800000 in
theorem dAdd_any (va vb : Value) (z e y f : Int) (w : World) (ha : DyAt w va z e) (hb : DyAt w vb y f) (hga : GoodD z e) (hgb : GoodD y f) (hT : Tab64 w) (hTs : 1 < w.heap.size)
    (hg : plZ z e y f = 0 ∨ lngB (plZ z e y f) (plE z e y f) = false) : Calls Tryd.prog 10 #[va, vb] w (DyNew (hvZ (plZ z e y f)) (nrE (plZ z e y f) (plE z e y f)) w) := by
  have HA := Lib.hid ha
  have HB := Lib.hid hb
  obtain ⟨sa, rfl, hra⟩ := ha
  obtain ⟨sb, rfl, hrb⟩ := hb
  obtain ⟨aa, ca, rfl, -⟩ := hra
  obtain ⟨ab, cb, rfl, -⟩ := hrb
  obtain ⟨hnz, hbz, he1, he2⟩ := hga
  obtain ⟨hny, hby, hf1, hf2⟩ := hgb
  have HGa : Hid (GoodD z e) := Lib.hid ⟨hnz, hbz, he1, he2⟩
  have HGb : Hid (GoodD y f) := Lib.hid ⟨hny, hby, hf1, hf2⟩
  have HD : Hid (DoesIt 24 z e y f (plZ z e y f) (plE z e y f)) := by
    refine Lib.hid fun b c W h1 h2 => ?_
    exact dyplus_any b c z e y f W h1 h2 (Nat.le_trans hbz (by decide)) (Nat.le_trans hby (by decide)) (by omega) (by omega) (by omega) (by omega)
  have HL : Hid (bl (plZ z e y f).natAbs ≤ 68719476736 ∧ -1099511627776 ≤ plE z e y f ∧ plE z e y f ≤ 1099511627776) := by
    have h1 := bl_plZ (z := z) (e := e) (y := y) (f := f)
    have h2 := plE_bd (z := z) (e := e) (y := y) (f := f) he1 he2 hf1 hf2
    refine Lib.hid ⟨?_, by omega, by omega⟩
    
    omega
  have HP := Lib.hid (And.intro hT (And.intro hTs hg))
  clear hnz hbz he1 he2 hny hby hf1 hf2 hT hTs hg
  generalize plZ z e y f = R at *
  generalize plE z e y f = RE at *
  unfold DyV at *
  generalize decide (z < 0) = na at *
  generalize decide (y < 0) = nb at *
  generalize ln 32 z.natAbs = la at *
  generalize ln 32 y.natAbs = lb at *
  have HW0 := Lib.hid (Box3.start w na nb (.slice aa la ca) (.slice ab lb cb) e f)
  go_enter Tryd.func10, Tryd.ntmps10
  go_wp2_with fail
  refine (both_plus _ _ z e y f R RE _ (HA.out.below (below3 _ _ _ _)) (HB.out.below (below3 _ _ _ _)) HGa.out HGb.out HD.out HL.out.1 HL.out.2.1 HL.out.2.2 (HP.out.1.below HP.out.2.1 (below3 _ _ _ _)) (Nat.lt_of_lt_of_le HP.out.2.1 (below3 _ _ _ _).size) HP.out.2.2).mono ?_
  rintro e1 W7 ⟨sl, rfl, hr7, ho7, hb7⟩
  have HW7 := Lib.hid (HW0.out.later hb7)
  have HF7 := Lib.hid (fun x0 x1 x2 => dy_store HW0.out.2.2.2 hr7 ho7 hb7 HW7.out.2.2.1 objT_dyad HW0.out.2.2.1.lt (by omega) x0 x1 x2)
  obtain ⟨ao7, cs7, hsl, -⟩ := hr7
  unfold DyV at *
  rw [hsl] at HF7 ⊢
  clear ho7 hb7 hsl
  obtain ⟨q0, q1, q2, q3, q4, q5⟩ := HW7.out.2.2.1.cells3
  have HN : Hid (DyNew (hvZ R) (nrE R RE) w (.returned (.tuple #[DyV (decide (hvZ R < 0)) (.slice ao7 (ln 32 (hvZ R).natAbs) cs7) (nrE R RE), .int .i64 0])) (((W7.setCell ⟨w.heap.size + 1 + 1, 0, none⟩ (.bool (decide (hvZ R < 0)))).setCell ⟨w.heap.size + 1 + 1, 1, none⟩ (.slice ao7 (ln 32 (hvZ R).natAbs) cs7)).setCell ⟨w.heap.size + 1 + 1, 2, none⟩ (.int .i64 (nrE R RE)))) :=
    Lib.hid ⟨_, rfl, HF7.out _ _ _⟩
  clear HF7 HW7 HW0
  generalize hP : DyNew (hvZ R) (nrE R RE) w = P at *
  clear hP
  unfold DyV at *
  generalize decide (hvZ R < 0) = nr at *
  generalize nrE R RE = er at *
  generalize ln 32 (hvZ R).natAbs = lr at *
  go_wp2
  refine bodyPost_ret (v := .tuple #[.agg #[.bool nr, .slice ao7 lr cs7, .int .i64 er], .int .i64 0]) (by simp [results, Tryd.results10, go_sem, q0, q1, q2]) rfl HN.out

set_option maxRecDepth 100000 in
set_option maxHeartbeats 800000 in
theorem dSub_any (va vb : Value) (z e y f : Int) (w : World) (ha : DyAt w va z e) (hb : DyAt w vb y f) (hga : GoodD z e) (hgb : GoodD y f) (hT : Tab64 w) (hTs : 1 < w.heap.size)
    (hg : plZ z e (-y) f = 0 ∨ lngB (plZ z e (-y) f) (plE z e (-y) f) = false) : Calls Tryd.prog 14 #[va, vb] w (DyNew (hvZ (plZ z e (-y) f)) (nrE (plZ z e (-y) f) (plE z e (-y) f)) w) := by
  have HA := Lib.hid ha
  have HB := Lib.hid hb
  obtain ⟨sa, rfl, hra⟩ := ha
  obtain ⟨sb, rfl, hrb⟩ := hb
  obtain ⟨aa, ca, rfl, -⟩ := hra
  obtain ⟨ab, cb, rfl, -⟩ := hrb
  obtain ⟨hnz, hbz, he1, he2⟩ := hga
  obtain ⟨hny, hby, hf1, hf2⟩ := hgb
  have HGa : Hid (GoodD z e) := Lib.hid ⟨hnz, hbz, he1, he2⟩
  have HGb : Hid (GoodD y f) := Lib.hid ⟨hny, hby, hf1, hf2⟩
  have HD : Hid (DoesIt 26 z e y f (plZ z e (-y) f) (plE z e (-y) f)) := by
    refine Lib.hid fun b c W h1 h2 => ?_
    exact dyless_any b c z e y f W h1 h2 (Nat.le_trans hbz (by decide)) (Nat.le_trans hby (by decide)) (by omega) (by omega) (by omega) (by omega)
  have HL : Hid (bl (plZ z e (-y) f).natAbs ≤ 68719476736 ∧ -1099511627776 ≤ plE z e (-y) f ∧ plE z e (-y) f ≤ 1099511627776) := by
    have h1 := bl_plZ (z := z) (e := e) (y := -y) (f := f)
    have h2 := plE_bd (z := z) (e := e) (y := -y) (f := f) he1 he2 hf1 hf2
    refine Lib.hid ⟨?_, by omega, by omega⟩
    rw [Int.natAbs_neg] at h1
    omega
  have HP := Lib.hid (And.intro hT (And.intro hTs hg))
  clear hnz hbz he1 he2 hny hby hf1 hf2 hT hTs hg
  generalize plZ z e (-y) f = R at *
  generalize plE z e (-y) f = RE at *
  unfold DyV at *
  generalize decide (z < 0) = na at *
  generalize decide (y < 0) = nb at *
  generalize ln 32 z.natAbs = la at *
  generalize ln 32 y.natAbs = lb at *
  have HW0 := Lib.hid (Box3.start w na nb (.slice aa la ca) (.slice ab lb cb) e f)
  go_enter Tryd.func14, Tryd.ntmps14
  go_wp2_with fail
  refine (both_less _ _ z e y f R RE _ (HA.out.below (below3 _ _ _ _)) (HB.out.below (below3 _ _ _ _)) HGa.out HGb.out HD.out HL.out.1 HL.out.2.1 HL.out.2.2 (HP.out.1.below HP.out.2.1 (below3 _ _ _ _)) (Nat.lt_of_lt_of_le HP.out.2.1 (below3 _ _ _ _).size) HP.out.2.2).mono ?_
  rintro e1 W7 ⟨sl, rfl, hr7, ho7, hb7⟩
  have HW7 := Lib.hid (HW0.out.later hb7)
  have HF7 := Lib.hid (fun x0 x1 x2 => dy_store HW0.out.2.2.2 hr7 ho7 hb7 HW7.out.2.2.1 objT_dyad HW0.out.2.2.1.lt (by omega) x0 x1 x2)
  obtain ⟨ao7, cs7, hsl, -⟩ := hr7
  unfold DyV at *
  rw [hsl] at HF7 ⊢
  clear ho7 hb7 hsl
  obtain ⟨q0, q1, q2, q3, q4, q5⟩ := HW7.out.2.2.1.cells3
  have HN : Hid (DyNew (hvZ R) (nrE R RE) w (.returned (.tuple #[DyV (decide (hvZ R < 0)) (.slice ao7 (ln 32 (hvZ R).natAbs) cs7) (nrE R RE), .int .i64 0])) (((W7.setCell ⟨w.heap.size + 1 + 1, 0, none⟩ (.bool (decide (hvZ R < 0)))).setCell ⟨w.heap.size + 1 + 1, 1, none⟩ (.slice ao7 (ln 32 (hvZ R).natAbs) cs7)).setCell ⟨w.heap.size + 1 + 1, 2, none⟩ (.int .i64 (nrE R RE)))) :=
    Lib.hid ⟨_, rfl, HF7.out _ _ _⟩
  clear HF7 HW7 HW0
  generalize hP : DyNew (hvZ R) (nrE R RE) w = P at *
  clear hP
  unfold DyV at *
  generalize decide (hvZ R < 0) = nr at *
  generalize nrE R RE = er at *
  generalize ln 32 (hvZ R).natAbs = lr at *
  go_wp2
  refine bodyPost_ret (v := .tuple #[.agg #[.bool nr, .slice ao7 lr cs7, .int .i64 er], .int .i64 0]) (by simp [results, Tryd.results14, go_sem, q0, q1, q2]) rfl HN.out

set_option maxRecDepth 100000 in
set_option maxHeartbeats 800000 in
theorem dMul_any (va vb : Value) (z e y f : Int) (w : World) (ha : DyAt w va z e) (hb : DyAt w vb y f) (hga : GoodD z e) (hgb : GoodD y f) (hT : Tab64 w) (hTs : 1 < w.heap.size)
    (hg : z * y = 0 ∨ lngB (z * y) (e + f) = false) : Calls Tryd.prog 13 #[va, vb] w (DyNew (hvZ (z * y)) (nrE (z * y) (e + f)) w) := by
  have HA := Lib.hid ha
  have HB := Lib.hid hb
  obtain ⟨sa, rfl, hra⟩ := ha
  obtain ⟨sb, rfl, hrb⟩ := hb
  obtain ⟨aa, ca, rfl, -⟩ := hra
  obtain ⟨ab, cb, rfl, -⟩ := hrb
  obtain ⟨hnz, hbz, he1, he2⟩ := hga
  obtain ⟨hny, hby, hf1, hf2⟩ := hgb
  have HGa : Hid (GoodD z e) := Lib.hid ⟨hnz, hbz, he1, he2⟩
  have HGb : Hid (GoodD y f) := Lib.hid ⟨hny, hby, hf1, hf2⟩
  have HD : Hid (DoesIt 25 z e y f (z * y) (e + f)) := by
    refine Lib.hid fun b c W h1 h2 => ?_
    refine (dytimes_any b c z e y f W h1 h2 (Nat.le_trans hbz (by decide)) (Nat.le_trans hby (by decide)) (by omega) (by omega) (by omega) (by omega)).mono ?_
    rintro e1 w1 ⟨d, h3, -, h4, h5⟩
    exact ⟨d, h3, h4, h5⟩
  have HL : Hid (bl (z * y).natAbs ≤ 68719476736 ∧ -1099511627776 ≤ e + f ∧ e + f ≤ 1099511627776) := by
    have h1 := bl_mul z.natAbs y.natAbs
    rw [← Int.natAbs_mul] at h1
    exact Lib.hid ⟨by omega, by omega, by omega⟩
  have HP := Lib.hid (And.intro hT (And.intro hTs hg))
  clear hnz hbz he1 he2 hny hby hf1 hf2 hT hTs hg
  generalize z * y = R at *
  generalize e + f = RE at *
  unfold DyV at *
  generalize decide (z < 0) = na at *
  generalize decide (y < 0) = nb at *
  generalize ln 32 z.natAbs = la at *
  generalize ln 32 y.natAbs = lb at *
  have HW0 := Lib.hid (Box3.start w na nb (.slice aa la ca) (.slice ab lb cb) e f)
  go_enter Tryd.func13, Tryd.ntmps13
  go_wp2_with fail
  refine (both_times _ _ z e y f R RE _ (HA.out.below (below3 _ _ _ _)) (HB.out.below (below3 _ _ _ _)) HGa.out HGb.out HD.out HL.out.1 HL.out.2.1 HL.out.2.2 (HP.out.1.below HP.out.2.1 (below3 _ _ _ _)) (Nat.lt_of_lt_of_le HP.out.2.1 (below3 _ _ _ _).size) HP.out.2.2).mono ?_
  rintro e1 W7 ⟨sl, rfl, hr7, ho7, hb7⟩
  have HW7 := Lib.hid (HW0.out.later hb7)
  have HF7 := Lib.hid (fun x0 x1 x2 => dy_store HW0.out.2.2.2 hr7 ho7 hb7 HW7.out.2.2.1 objT_dyad HW0.out.2.2.1.lt (by omega) x0 x1 x2)
  obtain ⟨ao7, cs7, hsl, -⟩ := hr7
  unfold DyV at *
  rw [hsl] at HF7 ⊢
  clear ho7 hb7 hsl
  obtain ⟨q0, q1, q2, q3, q4, q5⟩ := HW7.out.2.2.1.cells3
  have HN : Hid (DyNew (hvZ R) (nrE R RE) w (.returned (.tuple #[DyV (decide (hvZ R < 0)) (.slice ao7 (ln 32 (hvZ R).natAbs) cs7) (nrE R RE), .int .i64 0])) (((W7.setCell ⟨w.heap.size + 1 + 1, 0, none⟩ (.bool (decide (hvZ R < 0)))).setCell ⟨w.heap.size + 1 + 1, 1, none⟩ (.slice ao7 (ln 32 (hvZ R).natAbs) cs7)).setCell ⟨w.heap.size + 1 + 1, 2, none⟩ (.int .i64 (nrE R RE)))) :=
    Lib.hid ⟨_, rfl, HF7.out _ _ _⟩
  clear HF7 HW7 HW0
  generalize hP : DyNew (hvZ R) (nrE R RE) w = P at *
  clear hP
  unfold DyV at *
  generalize decide (hvZ R < 0) = nr at *
  generalize nrE R RE = er at *
  generalize ln 32 (hvZ R).natAbs = lr at *
  go_wp2
  refine bodyPost_ret (v := .tuple #[.agg #[.bool nr, .slice ao7 lr cs7, .int .i64 er], .int .i64 0]) (by simp [results, Tryd.results13, go_sem, q0, q1, q2]) rfl HN.out

theorem plZ_zero (e y f : Int) : plZ 0 e y f = y := by unfold plZ; rw [if_pos rfl]
theorem plE_zero (e y f : Int) : plE 0 e y f = f := by unfold plE; rw [if_pos rfl]
theorem good_zero : GoodD 0 0 := ⟨.inl ⟨rfl, rfl⟩, by decide, by decide, by decide⟩

theorem tzb_of_nrm {y f : Int} (h : Nrm y f) : hvZ y = y ∧ nrE y f = f ∧ hvZ (-y) = -y ∧ nrE (-y) f = f := by
  rcases h with ⟨rfl, rfl⟩ | h
  · decide
  · have h2 : (-y) % 2 = 1 := by omega
    have h3 : y ≠ 0 := by omega
    have h4 : -y ≠ 0 := by omega
    exact ⟨hvZ_of_odd h, by unfold nrE; rw [if_neg h3]; exact hvE_of_odd h, hvZ_of_odd h2, by unfold nrE; rw [if_neg h4]; exact hvE_of_odd h2⟩

theorem lng_of_good {y f : Int} (h : GoodD y f) : y = 0 ∨ lngB y f = false := by
  obtain ⟨h1, h2, h3, h4⟩ := h
  rcases h1 with ⟨rfl, rfl⟩ | h1
  · exact .inl rfl
  · refine .inr ?_
    unfold lngB
    rw [hvZ_of_odd h1, hvE_of_odd h1]
    simp only [Bool.or_eq_false_iff, decide_eq_false_iff_not]
    omega

theorem GoodD.neg {y f : Int} (h : GoodD y f) : GoodD (-y) f := by
  obtain ⟨h1, h2, h3, h4⟩ := h
  refine ⟨?_, by rw [Int.natAbs_neg]; exact h2, h3, h4⟩
  rcases h1 with ⟨rfl, rfl⟩ | h1
  · exact .inl ⟨rfl, rfl⟩
  · exact .inr (by omega)

set_option maxRecDepth 100000 in
set_option maxHeartbeats 800000 in
theorem dNeg_any (va : Value) (y f : Int) (w : World) (ha : DyAt w va y f) (hga : GoodD y f) (hT : Tab64 w) (hTs : 1 < w.heap.size) :
    Calls Tryd.prog 11 #[va] w (DyNew (-y) f w) := by
  have HA := Lib.hid ha
  obtain ⟨sa, rfl, hra⟩ := ha
  obtain ⟨aa, ca, rfl, -⟩ := hra
  have HG := Lib.hid hga
  have HP := Lib.hid (And.intro hT hTs)
  clear hga hT hTs
  unfold DyV at *
  generalize decide (y < 0) = na at *
  generalize ln 32 y.natAbs = la at *
  have HC : Hid (∀ W : World, Below w.heap.size w W → Calls Tryd.prog 14 #[.agg #[.bool false, .slice none 0 0, .int .i64 0], .agg #[.bool na, .slice aa la ca, .int .i64 f]] W (DyNew (-y) f W)) := by
    refine Lib.hid fun W hb => ?_
    have := dSub_any (DyV false (.slice none 0 0) 0) (.agg #[.bool na, .slice aa la ca, .int .i64 f]) 0 0 y f W (DyAt.zero W) (HA.out.below hb) good_zero HG.out (HP.out.1.below HP.out.2 hb) (Nat.lt_of_lt_of_le HP.out.2 hb.size) (by rw [plZ_zero, plE_zero]; exact lng_of_good HG.out.neg)
    rw [plZ_zero, plE_zero, (tzb_of_nrm HG.out.1).2.2.1, (tzb_of_nrm HG.out.1).2.2.2] at this
    exact this
  have HW0 : Hid (BlkT ((w.alloc (.cells #[.bool na, .slice aa la ca, .int .i64 f] 25)).alloc (.cells #[.bool false, .slice none 0 0, .int .i64 0] 25)) (w.heap.size + 1) 25 #[.bool false, .slice none 0 0, .int .i64 0]) := Lib.hid (BlkT.new1 w _ _ _)
  go_enter Tryd.func11, Tryd.ntmps11
  go_wp2_with fail
  refine (HC.out _ (below2 _ _ _)).mono ?_
  rintro e1 W7 ⟨sl, rfl, hr7, ho7, hb7⟩
  have HW7 := Lib.hid (HW0.out.below hb7)
  have HF7 := Lib.hid (fun x0 x1 x2 => dy_store (below2 _ _ _) hr7 ho7 hb7 HW7.out objT_dyad HW0.out.lt (by omega) x0 x1 x2)
  obtain ⟨ao7, cs7, hsl, -⟩ := hr7
  unfold DyV at *
  rw [hsl] at HF7 ⊢
  clear ho7 hb7 hsl
  obtain ⟨q0, q1, q2, q3, q4, q5⟩ := HW7.out.cells3
  have HN : Hid (DyNew (-y) f w (.returned (.tuple #[DyV (decide (-y < 0)) (.slice ao7 (ln 32 (-y).natAbs) cs7) f, .int .i64 0])) (((W7.setCell ⟨w.heap.size + 1, 0, none⟩ (.bool (decide (-y < 0)))).setCell ⟨w.heap.size + 1, 1, none⟩ (.slice ao7 (ln 32 (-y).natAbs) cs7)).setCell ⟨w.heap.size + 1, 2, none⟩ (.int .i64 f))) :=
    Lib.hid ⟨_, rfl, HF7.out _ _ _⟩
  clear HF7 HW7 HW0 HC
  generalize hP : DyNew (-y) f w = P at *
  clear hP
  unfold DyV at *
  generalize decide (-y < 0) = nr at *
  generalize ln 32 (-y).natAbs = lr at *
  go_wp2
  refine bodyPost_ret (v := .tuple #[.agg #[.bool nr, .slice ao7 lr cs7, .int .i64 f], .int .i64 0]) (by simp [results, Tryd.results11, go_sem, q0, q1, q2]) rfl HN.out

end Go.Proofs.YtfcddnccmdjhfaaDoor
