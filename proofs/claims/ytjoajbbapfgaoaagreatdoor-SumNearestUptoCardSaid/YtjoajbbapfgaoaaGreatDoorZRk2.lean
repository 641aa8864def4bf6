/- Walks: both, Add, Sub, Mul of any two dyads: the dyad, that it is too long, or that one may not be. Printed by wip/gen/rk2.py. -/
import Derived.Test.YtjoajbbapfgaoaaGreatDoorZRk1
namespace Go.Proofs.YtjoajbbapfgaoaaGreatDoor
open Go.RowKit

/-- An answer written into the result's block. -/
theorem res_store {bad R RE : Int} {w W : World} {na nb : Bool} {sa sb : Value} {e f x k : Int} {n : Bool} {a : Option Addr} {l c : Nat} (h : Box3 w W na nb sa sb e f) (hr : ResIs bad R RE W (.agg #[.bool n, .slice a l c, .int .i64 x]) k) :
    ResOf bad R RE w (.returned (.tuple #[.agg #[.bool n, .slice a l c, .int .i64 x], .int .i64 k])) (((W.setCell ⟨w.heap.size + 1 + 1, 0, none⟩ (.bool n)).setCell ⟨w.heap.size + 1 + 1, 1, none⟩ (.slice a l c)).setCell ⟨w.heap.size + 1 + 1, 2, none⟩ (.int .i64 x)) :=
  ⟨n, a, l, c, x, k, rfl, ((hr.setOther h.2.2.1 objT_dyad _).setOther (h.2.2.1.set (i := 0) _) objT_dyad _).setOther ((h.2.2.1.set (i := 0) _).set (i := 1) _) objT_dyad _,
    ((h.2.2.2.setCell (by show w.heap.size ≤ w.heap.size + 1 + 1; omega) _).setCell (by show w.heap.size ≤ w.heap.size + 1 + 1; omega) _).setCell (by show w.heap.size ≤ w.heap.size + 1 + 1; omega) _⟩

set_option maxRecDepth 100000 in
set_option maxHeartbeats 1600000 in
theorem both_plus_all (va vb : Value) (z e y f R RE : Int) (w : World) (ha : DyAt w va z e) (hb : DyAt w vb y f) (hga : GoodD z e) (hgb : GoodD y f) (hdo : DoesIt 121 z e y f R RE)
    (hl : bl R.natAbs ≤ 68719476736) (h1 : -1099511627776 ≤ RE) (h2 : RE ≤ 1099511627776) (hT : Tab64 w) (hTs : 1 < w.heap.size) :
    Calls Tryz.prog 123 #[va, vb, .func (.func 121) #[] #[]] w (ResOf 0 R RE w) := by
  have HA := Lib.hid ha
  have HB := Lib.hid hb
  obtain ⟨sa, rfl, hra⟩ := ha
  obtain ⟨sb, rfl, hrb⟩ := hb
  have HRa := Lib.hid hra
  have HRb := Lib.hid hrb
  have HGa := Lib.hid hga
  have HGb := Lib.hid hgb
  have HFa := Lib.hid (set_fin z)
  have HFb := Lib.hid (set_fin y)
  have HLa : Hid (ln 32 z.natAbs ≤ 1073741824) := Lib.hid (Nat.le_trans (ln_le_bl 32 _ (by decide)) (Nat.le_trans hga.2.1 (by decide)))
  have HLb : Hid (ln 32 y.natAbs ≤ 1073741824) := Lib.hid (Nat.le_trans (ln_le_bl 32 _ (by decide)) (Nat.le_trans hgb.2.1 (by decide)))
  have HDO := Lib.hid hdo
  have HP := Lib.hid (And.intro hl (And.intro hT hTs))
  obtain ⟨aa, ca, rfl, -⟩ := hra
  obtain ⟨ab, cb, rfl, -⟩ := hrb
  clear hga hgb hdo hl hT hTs
  unfold DyV at *
  generalize decide (z < 0) = na at *
  generalize decide (y < 0) = nb at *
  generalize z.natAbs = Na at *
  generalize y.natAbs = Nb at *
  generalize ln 32 Na = la at *
  generalize ln 32 Nb = lb at *
  have HW0 := Lib.hid (Box3.start w na nb (.slice aa la ca) (.slice ab lb cb) e f)
  go_enter Tryz.func123, Tryz.ntmps123
  go_wp2_with fail
  refine (may_true _ z e _ (HA.out.below (below3 _ _ _ _)) HGa.out).mono ?_
  rintro e1 w1 ⟨rfl, hb1⟩
  have HW1 := Lib.hid (HW0.out.later hb1)
  obtain ⟨⟨⟨x0, x1⟩, x2⟩, ⟨x3, x4⟩, x5⟩ := HW1.out.cells
  clear HW0 hb1
  go_wp2_with fail
  refine (may_true _ y f _ (HB.out.below HW1.out.2.2.2) HGb.out).mono ?_
  rintro e1 w2 ⟨rfl, hb2⟩
  have HW2 := Lib.hid (HW1.out.later hb2)
  clear HW1 hb2 x0 x1 x2 x3 x4 x5
  go_wp2
  refine wp_region_pl (fun w' : World => ((w'.cell? ⟨w.heap.size, 0, none⟩ = some (.bool na) ∧ w'.cell? ⟨w.heap.size, 1, none⟩ = some (.slice aa la ca)) ∧ w'.cell? ⟨w.heap.size, 2, none⟩ = some (.int .i64 e)) ∧ (w'.cell? ⟨w.heap.size + 1, 0, none⟩ = some (.bool nb) ∧ w'.cell? ⟨w.heap.size + 1, 1, none⟩ = some (.slice ab lb cb)) ∧ w'.cell? ⟨w.heap.size + 1, 2, none⟩ = some (.int .i64 f)) 9 (.take 0 (.take 1 (.take 3 (.run 2 (.run 4 (.run 5 (.run 6 (.take 7 (.take 8 .nil))))))))) (by kernel_rfl) (by kernel_rfl) ?_
  have HW3 := Lib.hid (HW2.out.later (drew_below w2))
  generalize w2.drew = W3 at HW3 ⊢
  clear HW2
  have hS : (fun w' : World => ((w'.cell? ⟨w.heap.size, 0, none⟩ = some (.bool na) ∧ w'.cell? ⟨w.heap.size, 1, none⟩ = some (.slice aa la ca)) ∧ w'.cell? ⟨w.heap.size, 2, none⟩ = some (.int .i64 e)) ∧ (w'.cell? ⟨w.heap.size + 1, 0, none⟩ = some (.bool nb) ∧ w'.cell? ⟨w.heap.size + 1, 1, none⟩ = some (.slice ab lb cb)) ∧ w'.cell? ⟨w.heap.size + 1, 2, none⟩ = some (.int .i64 f)) W3 := HW3.out.cells
  repeat (refine wpPl_take (v := ?_) rfl (fun _ _ _ h => h) rfl (fun w' hSw => ?_) hS ?_; rotate_left; focus (go_simp; with_reducible rfl); try simp only [Act.put, List.setIfInBounds_toArray, List.set_cons_zero, List.set_cons_succ])
  clear hS
  refine wpPl_run rfl fun K' hK => ?_
  go_simp
  refine (take_any na e _ la Na _ (HRa.out.below HW3.out.2.2.2) HLa.out).mono ?_
  rintro e1 W4 ⟨p1, rfl, hp1, hi1, hb1⟩
  rw [HFa.out] at hi1
  have HW4 := Lib.hid (HW3.out.later hb1)
  have HI1 := Lib.hid hi1
  refine hK _ _ HW4.out.cells ?_
  clear hK K' hp1 hi1 hb1 HW3
  refine wpPl_run rfl fun K' hK => ?_
  go_simp
  refine (take_any nb f _ lb Nb _ (HRb.out.below HW4.out.2.2.2) HLb.out).mono ?_
  rintro e1 W5 ⟨p2, rfl, hp2, hi2, hb2⟩
  rw [HFb.out] at hi2
  have HW5 := Lib.hid (HW4.out.later hb2)
  have HI2 := Lib.hid hi2
  have HI3 := Lib.hid (HI1.out.below hb2)
  refine hK _ _ HW5.out.cells ?_
  clear hK K' hp2 hi2 hb2 HW4 HI1
  refine wpPl_run rfl fun K' hK => ?_
  go_simp
  refine (HDO.out p1 p2 _ HI3.out HI2.out).mono ?_
  rintro e1 W6 ⟨d, rfl, hi4, hb4⟩
  have HW6 := Lib.hid (HW5.out.later hb4)
  have HI4 := Lib.hid hi4
  refine hK _ _ HW6.out.cells ?_
  clear hK K' hi4 hb4 HW5 HI2 HI3
  refine wpPl_run rfl fun K' hK => ?_
  go_simp
  refine (put_all d R RE _ HI4.out HP.out.1 (by omega) h2 (HP.out.2.1.below HP.out.2.2 HW6.out.2.2.2) (Nat.lt_of_lt_of_le HP.out.2.2 HW6.out.2.2.2.size)).mono ?_
  intro e1 W7 h7
  obtain ⟨n7, ao7, l7, c7, x7, k7, rfl, hr7, hb7⟩ := ResOf.of_dy h7
  clear h7
  have HW7 := Lib.hid (HW6.out.later hb7)
  have HN : Hid (ResOf 0 R RE w (.returned (.tuple #[.agg #[.bool n7, .slice ao7 l7 c7, .int .i64 x7], .int .i64 k7])) (((W7.setCell ⟨w.heap.size + 1 + 1, 0, none⟩ (.bool n7)).setCell ⟨w.heap.size + 1 + 1, 1, none⟩ (.slice ao7 l7 c7)).setCell ⟨w.heap.size + 1 + 1, 2, none⟩ (.int .i64 x7))) :=
    Lib.hid (res_store HW7.out hr7)
  have hS : (fun w' : World => ((w'.cell? ⟨w.heap.size, 0, none⟩ = some (.bool na) ∧ w'.cell? ⟨w.heap.size, 1, none⟩ = some (.slice aa la ca)) ∧ w'.cell? ⟨w.heap.size, 2, none⟩ = some (.int .i64 e)) ∧ (w'.cell? ⟨w.heap.size + 1, 0, none⟩ = some (.bool nb) ∧ w'.cell? ⟨w.heap.size + 1, 1, none⟩ = some (.slice ab lb cb)) ∧ w'.cell? ⟨w.heap.size + 1, 2, none⟩ = some (.int .i64 f)) W7 := HW7.out.cells
  refine hK _ _ hS ?_
  clear hK K' hb7 hr7
  repeat (refine wpPl_take (v := ?_) rfl (fun _ _ _ h => h) rfl (fun w' hSw => ?_) hS ?_; rotate_left; (focus (go_simp; with_reducible rfl)); try simp only [Act.put, List.setIfInBounds_toArray, List.set_cons_zero, List.set_cons_succ])
  clear hS
  refine wpPl_nil ?_
  simp only [List.drop_succ_cons, List.drop_zero]
  obtain ⟨q0, q1, q2, q3, q4, q5⟩ := HW7.out.2.2.1.cells3
  clear HW7 HW6
  generalize hP : ResOf 0 R RE w = P at *
  clear hP
  go_wp2
  refine bodyPost_ret (v := .tuple #[.agg #[.bool n7, .slice ao7 l7 c7, .int .i64 x7], .int .i64 k7]) (by simp [results, Tryz.results123, go_sem, q0, q1, q2]) rfl HN.out


set_option maxRecDepth 100000 in
set_option maxHeartbeats 1600000 in
theorem both_less_all (va vb : Value) (z e y f R RE : Int) (w : World) (ha : DyAt w va z e) (hb : DyAt w vb y f) (hga : GoodD z e) (hgb : GoodD y f) (hdo : DoesIt 124 z e y f R RE)
    (hl : bl R.natAbs ≤ 68719476736) (h1 : -1099511627776 ≤ RE) (h2 : RE ≤ 1099511627776) (hT : Tab64 w) (hTs : 1 < w.heap.size) :
    Calls Tryz.prog 123 #[va, vb, .func (.func 124) #[] #[]] w (ResOf 0 R RE w) := by
  have HA := Lib.hid ha
  have HB := Lib.hid hb
  obtain ⟨sa, rfl, hra⟩ := ha
  obtain ⟨sb, rfl, hrb⟩ := hb
  have HRa := Lib.hid hra
  have HRb := Lib.hid hrb
  have HGa := Lib.hid hga
  have HGb := Lib.hid hgb
  have HFa := Lib.hid (set_fin z)
  have HFb := Lib.hid (set_fin y)
  have HLa : Hid (ln 32 z.natAbs ≤ 1073741824) := Lib.hid (Nat.le_trans (ln_le_bl 32 _ (by decide)) (Nat.le_trans hga.2.1 (by decide)))
  have HLb : Hid (ln 32 y.natAbs ≤ 1073741824) := Lib.hid (Nat.le_trans (ln_le_bl 32 _ (by decide)) (Nat.le_trans hgb.2.1 (by decide)))
  have HDO := Lib.hid hdo
  have HP := Lib.hid (And.intro hl (And.intro hT hTs))
  obtain ⟨aa, ca, rfl, -⟩ := hra
  obtain ⟨ab, cb, rfl, -⟩ := hrb
  clear hga hgb hdo hl hT hTs
  unfold DyV at *
  generalize decide (z < 0) = na at *
  generalize decide (y < 0) = nb at *
  generalize z.natAbs = Na at *
  generalize y.natAbs = Nb at *
  generalize ln 32 Na = la at *
  generalize ln 32 Nb = lb at *
  have HW0 := Lib.hid (Box3.start w na nb (.slice aa la ca) (.slice ab lb cb) e f)
  go_enter Tryz.func123, Tryz.ntmps123
  go_wp2_with fail
  refine (may_true _ z e _ (HA.out.below (below3 _ _ _ _)) HGa.out).mono ?_
  rintro e1 w1 ⟨rfl, hb1⟩
  have HW1 := Lib.hid (HW0.out.later hb1)
  obtain ⟨⟨⟨x0, x1⟩, x2⟩, ⟨x3, x4⟩, x5⟩ := HW1.out.cells
  clear HW0 hb1
  go_wp2_with fail
  refine (may_true _ y f _ (HB.out.below HW1.out.2.2.2) HGb.out).mono ?_
  rintro e1 w2 ⟨rfl, hb2⟩
  have HW2 := Lib.hid (HW1.out.later hb2)
  clear HW1 hb2 x0 x1 x2 x3 x4 x5
  go_wp2
  refine wp_region_pl (fun w' : World => ((w'.cell? ⟨w.heap.size, 0, none⟩ = some (.bool na) ∧ w'.cell? ⟨w.heap.size, 1, none⟩ = some (.slice aa la ca)) ∧ w'.cell? ⟨w.heap.size, 2, none⟩ = some (.int .i64 e)) ∧ (w'.cell? ⟨w.heap.size + 1, 0, none⟩ = some (.bool nb) ∧ w'.cell? ⟨w.heap.size + 1, 1, none⟩ = some (.slice ab lb cb)) ∧ w'.cell? ⟨w.heap.size + 1, 2, none⟩ = some (.int .i64 f)) 9 (.take 0 (.take 1 (.take 3 (.run 2 (.run 4 (.run 5 (.run 6 (.take 7 (.take 8 .nil))))))))) (by kernel_rfl) (by kernel_rfl) ?_
  have HW3 := Lib.hid (HW2.out.later (drew_below w2))
  generalize w2.drew = W3 at HW3 ⊢
  clear HW2
  have hS : (fun w' : World => ((w'.cell? ⟨w.heap.size, 0, none⟩ = some (.bool na) ∧ w'.cell? ⟨w.heap.size, 1, none⟩ = some (.slice aa la ca)) ∧ w'.cell? ⟨w.heap.size, 2, none⟩ = some (.int .i64 e)) ∧ (w'.cell? ⟨w.heap.size + 1, 0, none⟩ = some (.bool nb) ∧ w'.cell? ⟨w.heap.size + 1, 1, none⟩ = some (.slice ab lb cb)) ∧ w'.cell? ⟨w.heap.size + 1, 2, none⟩ = some (.int .i64 f)) W3 := HW3.out.cells
  repeat (refine wpPl_take (v := ?_) rfl (fun _ _ _ h => h) rfl (fun w' hSw => ?_) hS ?_; rotate_left; focus (go_simp; with_reducible rfl); try simp only [Act.put, List.setIfInBounds_toArray, List.set_cons_zero, List.set_cons_succ])
  clear hS
  refine wpPl_run rfl fun K' hK => ?_
  go_simp
  refine (take_any na e _ la Na _ (HRa.out.below HW3.out.2.2.2) HLa.out).mono ?_
  rintro e1 W4 ⟨p1, rfl, hp1, hi1, hb1⟩
  rw [HFa.out] at hi1
  have HW4 := Lib.hid (HW3.out.later hb1)
  have HI1 := Lib.hid hi1
  refine hK _ _ HW4.out.cells ?_
  clear hK K' hp1 hi1 hb1 HW3
  refine wpPl_run rfl fun K' hK => ?_
  go_simp
  refine (take_any nb f _ lb Nb _ (HRb.out.below HW4.out.2.2.2) HLb.out).mono ?_
  rintro e1 W5 ⟨p2, rfl, hp2, hi2, hb2⟩
  rw [HFb.out] at hi2
  have HW5 := Lib.hid (HW4.out.later hb2)
  have HI2 := Lib.hid hi2
  have HI3 := Lib.hid (HI1.out.below hb2)
  refine hK _ _ HW5.out.cells ?_
  clear hK K' hp2 hi2 hb2 HW4 HI1
  refine wpPl_run rfl fun K' hK => ?_
  go_simp
  refine (HDO.out p1 p2 _ HI3.out HI2.out).mono ?_
  rintro e1 W6 ⟨d, rfl, hi4, hb4⟩
  have HW6 := Lib.hid (HW5.out.later hb4)
  have HI4 := Lib.hid hi4
  refine hK _ _ HW6.out.cells ?_
  clear hK K' hi4 hb4 HW5 HI2 HI3
  refine wpPl_run rfl fun K' hK => ?_
  go_simp
  refine (put_all d R RE _ HI4.out HP.out.1 (by omega) h2 (HP.out.2.1.below HP.out.2.2 HW6.out.2.2.2) (Nat.lt_of_lt_of_le HP.out.2.2 HW6.out.2.2.2.size)).mono ?_
  intro e1 W7 h7
  obtain ⟨n7, ao7, l7, c7, x7, k7, rfl, hr7, hb7⟩ := ResOf.of_dy h7
  clear h7
  have HW7 := Lib.hid (HW6.out.later hb7)
  have HN : Hid (ResOf 0 R RE w (.returned (.tuple #[.agg #[.bool n7, .slice ao7 l7 c7, .int .i64 x7], .int .i64 k7])) (((W7.setCell ⟨w.heap.size + 1 + 1, 0, none⟩ (.bool n7)).setCell ⟨w.heap.size + 1 + 1, 1, none⟩ (.slice ao7 l7 c7)).setCell ⟨w.heap.size + 1 + 1, 2, none⟩ (.int .i64 x7))) :=
    Lib.hid (res_store HW7.out hr7)
  have hS : (fun w' : World => ((w'.cell? ⟨w.heap.size, 0, none⟩ = some (.bool na) ∧ w'.cell? ⟨w.heap.size, 1, none⟩ = some (.slice aa la ca)) ∧ w'.cell? ⟨w.heap.size, 2, none⟩ = some (.int .i64 e)) ∧ (w'.cell? ⟨w.heap.size + 1, 0, none⟩ = some (.bool nb) ∧ w'.cell? ⟨w.heap.size + 1, 1, none⟩ = some (.slice ab lb cb)) ∧ w'.cell? ⟨w.heap.size + 1, 2, none⟩ = some (.int .i64 f)) W7 := HW7.out.cells
  refine hK _ _ hS ?_
  clear hK K' hb7 hr7
  repeat (refine wpPl_take (v := ?_) rfl (fun _ _ _ h => h) rfl (fun w' hSw => ?_) hS ?_; rotate_left; (focus (go_simp; with_reducible rfl)); try simp only [Act.put, List.setIfInBounds_toArray, List.set_cons_zero, List.set_cons_succ])
  clear hS
  refine wpPl_nil ?_
  simp only [List.drop_succ_cons, List.drop_zero]
  obtain ⟨q0, q1, q2, q3, q4, q5⟩ := HW7.out.2.2.1.cells3
  clear HW7 HW6
  generalize hP : ResOf 0 R RE w = P at *
  clear hP
  go_wp2
  refine bodyPost_ret (v := .tuple #[.agg #[.bool n7, .slice ao7 l7 c7, .int .i64 x7], .int .i64 k7]) (by simp [results, Tryz.results123, go_sem, q0, q1, q2]) rfl HN.out


set_option maxRecDepth 100000 in
set_option maxHeartbeats 1600000 in
theorem both_times_all (va vb : Value) (z e y f R RE : Int) (w : World) (ha : DyAt w va z e) (hb : DyAt w vb y f) (hga : GoodD z e) (hgb : GoodD y f) (hdo : DoesIt 122 z e y f R RE)
    (hl : bl R.natAbs ≤ 68719476736) (h1 : -1099511627776 ≤ RE) (h2 : RE ≤ 1099511627776) (hT : Tab64 w) (hTs : 1 < w.heap.size) :
    Calls Tryz.prog 123 #[va, vb, .func (.func 122) #[] #[]] w (ResOf 0 R RE w) := by
  have HA := Lib.hid ha
  have HB := Lib.hid hb
  obtain ⟨sa, rfl, hra⟩ := ha
  obtain ⟨sb, rfl, hrb⟩ := hb
  have HRa := Lib.hid hra
  have HRb := Lib.hid hrb
  have HGa := Lib.hid hga
  have HGb := Lib.hid hgb
  have HFa := Lib.hid (set_fin z)
  have HFb := Lib.hid (set_fin y)
  have HLa : Hid (ln 32 z.natAbs ≤ 1073741824) := Lib.hid (Nat.le_trans (ln_le_bl 32 _ (by decide)) (Nat.le_trans hga.2.1 (by decide)))
  have HLb : Hid (ln 32 y.natAbs ≤ 1073741824) := Lib.hid (Nat.le_trans (ln_le_bl 32 _ (by decide)) (Nat.le_trans hgb.2.1 (by decide)))
  have HDO := Lib.hid hdo
  have HP := Lib.hid (And.intro hl (And.intro hT hTs))
  obtain ⟨aa, ca, rfl, -⟩ := hra
  obtain ⟨ab, cb, rfl, -⟩ := hrb
  clear hga hgb hdo hl hT hTs
  unfold DyV at *
  generalize decide (z < 0) = na at *
  generalize decide (y < 0) = nb at *
  generalize z.natAbs = Na at *
  generalize y.natAbs = Nb at *
  generalize ln 32 Na = la at *
  generalize ln 32 Nb = lb at *
  have HW0 := Lib.hid (Box3.start w na nb (.slice aa la ca) (.slice ab lb cb) e f)
  go_enter Tryz.func123, Tryz.ntmps123
  go_wp2_with fail
  refine (may_true _ z e _ (HA.out.below (below3 _ _ _ _)) HGa.out).mono ?_
  rintro e1 w1 ⟨rfl, hb1⟩
  have HW1 := Lib.hid (HW0.out.later hb1)
  obtain ⟨⟨⟨x0, x1⟩, x2⟩, ⟨x3, x4⟩, x5⟩ := HW1.out.cells
  clear HW0 hb1
  go_wp2_with fail
  refine (may_true _ y f _ (HB.out.below HW1.out.2.2.2) HGb.out).mono ?_
  rintro e1 w2 ⟨rfl, hb2⟩
  have HW2 := Lib.hid (HW1.out.later hb2)
  clear HW1 hb2 x0 x1 x2 x3 x4 x5
  go_wp2
  refine wp_region_pl (fun w' : World => ((w'.cell? ⟨w.heap.size, 0, none⟩ = some (.bool na) ∧ w'.cell? ⟨w.heap.size, 1, none⟩ = some (.slice aa la ca)) ∧ w'.cell? ⟨w.heap.size, 2, none⟩ = some (.int .i64 e)) ∧ (w'.cell? ⟨w.heap.size + 1, 0, none⟩ = some (.bool nb) ∧ w'.cell? ⟨w.heap.size + 1, 1, none⟩ = some (.slice ab lb cb)) ∧ w'.cell? ⟨w.heap.size + 1, 2, none⟩ = some (.int .i64 f)) 9 (.take 0 (.take 1 (.take 3 (.run 2 (.run 4 (.run 5 (.run 6 (.take 7 (.take 8 .nil))))))))) (by kernel_rfl) (by kernel_rfl) ?_
  have HW3 := Lib.hid (HW2.out.later (drew_below w2))
  generalize w2.drew = W3 at HW3 ⊢
  clear HW2
  have hS : (fun w' : World => ((w'.cell? ⟨w.heap.size, 0, none⟩ = some (.bool na) ∧ w'.cell? ⟨w.heap.size, 1, none⟩ = some (.slice aa la ca)) ∧ w'.cell? ⟨w.heap.size, 2, none⟩ = some (.int .i64 e)) ∧ (w'.cell? ⟨w.heap.size + 1, 0, none⟩ = some (.bool nb) ∧ w'.cell? ⟨w.heap.size + 1, 1, none⟩ = some (.slice ab lb cb)) ∧ w'.cell? ⟨w.heap.size + 1, 2, none⟩ = some (.int .i64 f)) W3 := HW3.out.cells
  repeat (refine wpPl_take (v := ?_) rfl (fun _ _ _ h => h) rfl (fun w' hSw => ?_) hS ?_; rotate_left; focus (go_simp; with_reducible rfl); try simp only [Act.put, List.setIfInBounds_toArray, List.set_cons_zero, List.set_cons_succ])
  clear hS
  refine wpPl_run rfl fun K' hK => ?_
  go_simp
  refine (take_any na e _ la Na _ (HRa.out.below HW3.out.2.2.2) HLa.out).mono ?_
  rintro e1 W4 ⟨p1, rfl, hp1, hi1, hb1⟩
  rw [HFa.out] at hi1
  have HW4 := Lib.hid (HW3.out.later hb1)
  have HI1 := Lib.hid hi1
  refine hK _ _ HW4.out.cells ?_
  clear hK K' hp1 hi1 hb1 HW3
  refine wpPl_run rfl fun K' hK => ?_
  go_simp
  refine (take_any nb f _ lb Nb _ (HRb.out.below HW4.out.2.2.2) HLb.out).mono ?_
  rintro e1 W5 ⟨p2, rfl, hp2, hi2, hb2⟩
  rw [HFb.out] at hi2
  have HW5 := Lib.hid (HW4.out.later hb2)
  have HI2 := Lib.hid hi2
  have HI3 := Lib.hid (HI1.out.below hb2)
  refine hK _ _ HW5.out.cells ?_
  clear hK K' hp2 hi2 hb2 HW4 HI1
  refine wpPl_run rfl fun K' hK => ?_
  go_simp
  refine (HDO.out p1 p2 _ HI3.out HI2.out).mono ?_
  rintro e1 W6 ⟨d, rfl, hi4, hb4⟩
  have HW6 := Lib.hid (HW5.out.later hb4)
  have HI4 := Lib.hid hi4
  refine hK _ _ HW6.out.cells ?_
  clear hK K' hi4 hb4 HW5 HI2 HI3
  refine wpPl_run rfl fun K' hK => ?_
  go_simp
  refine (put_all d R RE _ HI4.out HP.out.1 (by omega) h2 (HP.out.2.1.below HP.out.2.2 HW6.out.2.2.2) (Nat.lt_of_lt_of_le HP.out.2.2 HW6.out.2.2.2.size)).mono ?_
  intro e1 W7 h7
  obtain ⟨n7, ao7, l7, c7, x7, k7, rfl, hr7, hb7⟩ := ResOf.of_dy h7
  clear h7
  have HW7 := Lib.hid (HW6.out.later hb7)
  have HN : Hid (ResOf 0 R RE w (.returned (.tuple #[.agg #[.bool n7, .slice ao7 l7 c7, .int .i64 x7], .int .i64 k7])) (((W7.setCell ⟨w.heap.size + 1 + 1, 0, none⟩ (.bool n7)).setCell ⟨w.heap.size + 1 + 1, 1, none⟩ (.slice ao7 l7 c7)).setCell ⟨w.heap.size + 1 + 1, 2, none⟩ (.int .i64 x7))) :=
    Lib.hid (res_store HW7.out hr7)
  have hS : (fun w' : World => ((w'.cell? ⟨w.heap.size, 0, none⟩ = some (.bool na) ∧ w'.cell? ⟨w.heap.size, 1, none⟩ = some (.slice aa la ca)) ∧ w'.cell? ⟨w.heap.size, 2, none⟩ = some (.int .i64 e)) ∧ (w'.cell? ⟨w.heap.size + 1, 0, none⟩ = some (.bool nb) ∧ w'.cell? ⟨w.heap.size + 1, 1, none⟩ = some (.slice ab lb cb)) ∧ w'.cell? ⟨w.heap.size + 1, 2, none⟩ = some (.int .i64 f)) W7 := HW7.out.cells
  refine hK _ _ hS ?_
  clear hK K' hb7 hr7
  repeat (refine wpPl_take (v := ?_) rfl (fun _ _ _ h => h) rfl (fun w' hSw => ?_) hS ?_; rotate_left; (focus (go_simp; with_reducible rfl)); try simp only [Act.put, List.setIfInBounds_toArray, List.set_cons_zero, List.set_cons_succ])
  clear hS
  refine wpPl_nil ?_
  simp only [List.drop_succ_cons, List.drop_zero]
  obtain ⟨q0, q1, q2, q3, q4, q5⟩ := HW7.out.2.2.1.cells3
  clear HW7 HW6
  generalize hP : ResOf 0 R RE w = P at *
  clear hP
  go_wp2
  refine bodyPost_ret (v := .tuple #[.agg #[.bool n7, .slice ao7 l7 c7, .int .i64 x7], .int .i64 k7]) (by simp [results, Tryz.results123, go_sem, q0, q1, q2]) rfl HN.out


set_option maxRecDepth 100000 in
set_option maxHeartbeats 1600000 in
theorem both_bad (va vb : Value) (na nb : Bool) (n m Na Nb F : Nat) (e f : Int) (w : World) (ha : DyRaw w va na n Na e) (hb : DyRaw w vb nb m Nb f) (hm : (mayB na n Na e && mayB nb m Nb f) = false) :
    Calls Tryz.prog 123 #[va, vb, .func (.func F) #[] #[]] w (DyErr 30 w) := by
  have HA := Lib.hid ha
  have HB := Lib.hid hb
  obtain ⟨sa, rfl, ⟨aa, ca, rfl, -⟩, -⟩ := ha
  obtain ⟨sb, rfl, ⟨ab, cb, rfl, -⟩, -⟩ := hb
  unfold DyV at *
  have HW0 := Lib.hid (Box3.start w na nb (.slice aa n ca) (.slice ab m cb) e f)
  have HE : Hid (∀ W, Below w.heap.size w W → w.heap.size + 1 + 1 < W.heap.size → DyErr 30 w (.returned (.tuple #[.agg #[.bool false, .slice none 0 0, .int .i64 0], .int .i64 30])) (((W.setCell ⟨w.heap.size + 1 + 1, 0, none⟩ (.bool false)).setCell ⟨w.heap.size + 1 + 1, 1, none⟩ (.slice none 0 0)).setCell ⟨w.heap.size + 1 + 1, 2, none⟩ (.int .i64 0))) :=
    Lib.hid fun W h _ => ⟨rfl, ((h.setCell (by show w.heap.size ≤ w.heap.size + 1 + 1; omega) _).setCell (by show w.heap.size ≤ w.heap.size + 1 + 1; omega) _).setCell (by show w.heap.size ≤ w.heap.size + 1 + 1; omega) _⟩
  generalize hP : DyErr 30 w = P at *
  clear hP
  cases h1 : mayB na n Na e
  · clear hm
    have H1 := Lib.hid h1
    clear h1
    go_enter Tryz.func123, Tryz.ntmps123
    go_wp2_with fail
    refine (dMay_any _ na n Na e _ (HA.out.below (below3 _ _ _ _))).mono ?_
    rintro e1 w1 ⟨rfl, hb1⟩
    rw [H1.out]
    have HW1 := Lib.hid (HW0.out.later hb1)
    obtain ⟨q0, q1, q2, q3, q4, q5⟩ := HW1.out.2.2.1.cells3
    replace HE := Lib.hid (HE.out w1 HW1.out.2.2.2 HW1.out.2.2.1.lt)
    clear HW0 HW1 hb1 HA HB
    go_wp2
    refine bodyPost_ret (v := .tuple #[.agg #[.bool false, .slice none 0 0, .int .i64 0], .int .i64 30]) (by simp [results, Tryz.results123, go_sem, q0, q1, q2]) rfl HE.out
  · have H1 := Lib.hid h1
    have H2 : Hid (mayB nb m Nb f = false) := Lib.hid (by simpa [h1] using hm)
    clear h1 hm
    go_enter Tryz.func123, Tryz.ntmps123
    go_wp2_with fail
    refine (dMay_any _ na n Na e _ (HA.out.below (below3 _ _ _ _))).mono ?_
    rintro e1 w1 ⟨rfl, hb1⟩
    rw [H1.out]
    have HW1 := Lib.hid (HW0.out.later hb1)
    obtain ⟨⟨⟨x0, x1⟩, x2⟩, ⟨x3, x4⟩, x5⟩ := HW1.out.cells
    clear HW0 hb1
    go_wp2_with fail
    refine (dMay_any _ nb m Nb f _ (HB.out.below HW1.out.2.2.2)).mono ?_
    rintro e1 w2 ⟨rfl, hb2⟩
    rw [H2.out]
    have HW2 := Lib.hid (HW1.out.later hb2)
    clear HW1 hb2 x0 x1 x2 x3 x4 x5
    obtain ⟨q0, q1, q2, q3, q4, q5⟩ := HW2.out.2.2.1.cells3
    replace HE := Lib.hid (HE.out w2 HW2.out.2.2.2 HW2.out.2.2.1.lt)
    clear HW2 HA HB
    go_wp2
    refine bodyPost_ret (v := .tuple #[.agg #[.bool false, .slice none 0 0, .int .i64 0], .int .i64 30]) (by simp [results, Tryz.results123, go_sem, q0, q1, q2]) rfl HE.out

/-- What is wrong with two dyads. -/
def twoE (na : Bool) (n Na : Nat) (e : Int) (nb : Bool) (m Nb : Nat) (f : Int) : Int := if (mayB na n Na e && mayB nb m Nb f) = true then 0 else 30

set_option maxRecDepth 100000 in
set_option maxHeartbeats 1600000 in
theorem dAdd_res (va vb : Value) (na nb : Bool) (n m Na Nb : Nat) (e f : Int) (w : World) (ha : DyRaw w va na n Na e) (hb : DyRaw w vb nb m Nb f) (hT : Tab64 w) (hTs : 1 < w.heap.size) :
    Calls Tryz.prog 42 #[va, vb] w (ResOf (twoE na n Na e nb m Nb f) (plZ (sgZ na Na) e (sgZ nb Nb) f) (plE (sgZ na Na) e (sgZ nb Nb) f) w) := by
  have HBO : Hid (∀ W, Below w.heap.size w W → Calls Tryz.prog 123 #[va, vb, .func (.func 121) #[] #[]] W (ResOf (twoE na n Na e nb m Nb f) (plZ (sgZ na Na) e (sgZ nb Nb) f) (plE (sgZ na Na) e (sgZ nb Nb) f) W)) := by
    refine Lib.hid fun W hW => ?_
    by_cases hm : (mayB na n Na e && mayB nb m Nb f) = true
    · rw [twoE, if_pos hm]
      simp only [Bool.and_eq_true] at hm
      obtain ⟨h1, h2⟩ := (ha.below hW).good hm.1
      obtain ⟨h3, h4⟩ := (hb.below hW).good hm.2
      generalize sgZ na Na = z at *
      generalize sgZ nb Nb = y at *
      have G1 := h2
      have G2 := h4
      have g1 := h2.2.1
      have g2 := h4.2.1
      obtain ⟨-, -, he1, he2⟩ := h2
      obtain ⟨-, -, hf1, hf2⟩ := h4
      have hB : bl (plZ z e y f).natAbs ≤ 68719476736 ∧ -1099511627776 ≤ plE z e y f ∧ plE z e y f ≤ 1099511627776 := by
        have h1 := bl_plZ (z := z) (e := e) (y := y) (f := f)
        have h2 := plE_bd (z := z) (e := e) (y := y) (f := f) he1 he2 hf1 hf2
        refine ⟨?_, by omega, by omega⟩
        omega
      exact both_plus_all va vb z e y f _ _ W h1 h3 G1 G2 (fun b c W' h5 h6 => by
          exact dyplus_any b c z e y f W' h5 h6 (Nat.le_trans g1 (by decide)) (Nat.le_trans g2 (by decide)) (by omega) (by omega) (by omega) (by omega)) hB.1 hB.2.1 hB.2.2 (hT.below hTs hW) (Nat.lt_of_lt_of_le hTs hW.size)
    · rw [twoE, if_neg hm]
      exact (both_bad va vb na nb n m Na Nb _ e f W (ha.below hW) (hb.below hW) (by simpa using hm)).mono fun _ _ h => .of_err (by decide) h
  obtain ⟨sa, rfl, ⟨aa, ca, rfl, -⟩, -⟩ := ha
  obtain ⟨sb, rfl, ⟨ab, cb, rfl, -⟩, -⟩ := hb
  clear hT hTs
  unfold DyV at *
  generalize twoE na n Na e nb m Nb f = two at *
  generalize plZ (sgZ na Na) e (sgZ nb Nb) f = R at *
  generalize plE (sgZ na Na) e (sgZ nb Nb) f = RE at *
  have HW0 := Lib.hid (Box3.start w na nb (.slice aa n ca) (.slice ab m cb) e f)
  go_enter Tryz.func42, Tryz.ntmps42
  go_wp2_with fail
  refine (HBO.out _ (below3 _ _ _ _)).mono ?_
  rintro e1 W7 ⟨n7, ao7, l7, c7, x7, k7, rfl, hr7, hb7⟩
  have HW7 := Lib.hid (HW0.out.later hb7)
  have HN : Hid (ResOf two R RE w (.returned (.tuple #[.agg #[.bool n7, .slice ao7 l7 c7, .int .i64 x7], .int .i64 k7])) (((W7.setCell ⟨w.heap.size + 1 + 1, 0, none⟩ (.bool n7)).setCell ⟨w.heap.size + 1 + 1, 1, none⟩ (.slice ao7 l7 c7)).setCell ⟨w.heap.size + 1 + 1, 2, none⟩ (.int .i64 x7))) :=
    Lib.hid (res_store HW7.out hr7)
  clear hr7 hb7 HBO
  obtain ⟨q0, q1, q2, q3, q4, q5⟩ := HW7.out.2.2.1.cells3
  clear HW7 HW0
  generalize hP : ResOf two R RE w = P at *
  clear hP
  go_wp2
  refine bodyPost_ret (v := .tuple #[.agg #[.bool n7, .slice ao7 l7 c7, .int .i64 x7], .int .i64 k7]) (by simp [results, Tryz.results42, go_sem, q0, q1, q2]) rfl HN.out

set_option maxRecDepth 100000 in
set_option maxHeartbeats 1600000 in
theorem dSub_res (va vb : Value) (na nb : Bool) (n m Na Nb : Nat) (e f : Int) (w : World) (ha : DyRaw w va na n Na e) (hb : DyRaw w vb nb m Nb f) (hT : Tab64 w) (hTs : 1 < w.heap.size) :
    Calls Tryz.prog 43 #[va, vb] w (ResOf (twoE na n Na e nb m Nb f) (plZ (sgZ na Na) e (-sgZ nb Nb) f) (plE (sgZ na Na) e (-sgZ nb Nb) f) w) := by
  have HBO : Hid (∀ W, Below w.heap.size w W → Calls Tryz.prog 123 #[va, vb, .func (.func 124) #[] #[]] W (ResOf (twoE na n Na e nb m Nb f) (plZ (sgZ na Na) e (-sgZ nb Nb) f) (plE (sgZ na Na) e (-sgZ nb Nb) f) W)) := by
    refine Lib.hid fun W hW => ?_
    by_cases hm : (mayB na n Na e && mayB nb m Nb f) = true
    · rw [twoE, if_pos hm]
      simp only [Bool.and_eq_true] at hm
      obtain ⟨h1, h2⟩ := (ha.below hW).good hm.1
      obtain ⟨h3, h4⟩ := (hb.below hW).good hm.2
      generalize sgZ na Na = z at *
      generalize sgZ nb Nb = y at *
      have G1 := h2
      have G2 := h4
      have g1 := h2.2.1
      have g2 := h4.2.1
      obtain ⟨-, -, he1, he2⟩ := h2
      obtain ⟨-, -, hf1, hf2⟩ := h4
      have hB : bl (plZ z e (-y) f).natAbs ≤ 68719476736 ∧ -1099511627776 ≤ plE z e (-y) f ∧ plE z e (-y) f ≤ 1099511627776 := by
        have h1 := bl_plZ (z := z) (e := e) (y := -y) (f := f)
        have h2 := plE_bd (z := z) (e := e) (y := -y) (f := f) he1 he2 hf1 hf2
        refine ⟨?_, by omega, by omega⟩
        rw [Int.natAbs_neg] at h1
        omega
      exact both_less_all va vb z e y f _ _ W h1 h3 G1 G2 (fun b c W' h5 h6 => by
          exact dyless_any b c z e y f W' h5 h6 (Nat.le_trans g1 (by decide)) (Nat.le_trans g2 (by decide)) (by omega) (by omega) (by omega) (by omega)) hB.1 hB.2.1 hB.2.2 (hT.below hTs hW) (Nat.lt_of_lt_of_le hTs hW.size)
    · rw [twoE, if_neg hm]
      exact (both_bad va vb na nb n m Na Nb _ e f W (ha.below hW) (hb.below hW) (by simpa using hm)).mono fun _ _ h => .of_err (by decide) h
  obtain ⟨sa, rfl, ⟨aa, ca, rfl, -⟩, -⟩ := ha
  obtain ⟨sb, rfl, ⟨ab, cb, rfl, -⟩, -⟩ := hb
  clear hT hTs
  unfold DyV at *
  generalize twoE na n Na e nb m Nb f = two at *
  generalize plZ (sgZ na Na) e (-sgZ nb Nb) f = R at *
  generalize plE (sgZ na Na) e (-sgZ nb Nb) f = RE at *
  have HW0 := Lib.hid (Box3.start w na nb (.slice aa n ca) (.slice ab m cb) e f)
  go_enter Tryz.func43, Tryz.ntmps43
  go_wp2_with fail
  refine (HBO.out _ (below3 _ _ _ _)).mono ?_
  rintro e1 W7 ⟨n7, ao7, l7, c7, x7, k7, rfl, hr7, hb7⟩
  have HW7 := Lib.hid (HW0.out.later hb7)
  have HN : Hid (ResOf two R RE w (.returned (.tuple #[.agg #[.bool n7, .slice ao7 l7 c7, .int .i64 x7], .int .i64 k7])) (((W7.setCell ⟨w.heap.size + 1 + 1, 0, none⟩ (.bool n7)).setCell ⟨w.heap.size + 1 + 1, 1, none⟩ (.slice ao7 l7 c7)).setCell ⟨w.heap.size + 1 + 1, 2, none⟩ (.int .i64 x7))) :=
    Lib.hid (res_store HW7.out hr7)
  clear hr7 hb7 HBO
  obtain ⟨q0, q1, q2, q3, q4, q5⟩ := HW7.out.2.2.1.cells3
  clear HW7 HW0
  generalize hP : ResOf two R RE w = P at *
  clear hP
  go_wp2
  refine bodyPost_ret (v := .tuple #[.agg #[.bool n7, .slice ao7 l7 c7, .int .i64 x7], .int .i64 k7]) (by simp [results, Tryz.results43, go_sem, q0, q1, q2]) rfl HN.out

set_option maxRecDepth 100000 in
set_option maxHeartbeats 1600000 in
theorem dMul_res (va vb : Value) (na nb : Bool) (n m Na Nb : Nat) (e f : Int) (w : World) (ha : DyRaw w va na n Na e) (hb : DyRaw w vb nb m Nb f) (hT : Tab64 w) (hTs : 1 < w.heap.size) :
    Calls Tryz.prog 44 #[va, vb] w (ResOf (twoE na n Na e nb m Nb f) (sgZ na Na * sgZ nb Nb) (e + f) w) := by
  have HBO : Hid (∀ W, Below w.heap.size w W → Calls Tryz.prog 123 #[va, vb, .func (.func 122) #[] #[]] W (ResOf (twoE na n Na e nb m Nb f) (sgZ na Na * sgZ nb Nb) (e + f) W)) := by
    refine Lib.hid fun W hW => ?_
    by_cases hm : (mayB na n Na e && mayB nb m Nb f) = true
    · rw [twoE, if_pos hm]
      simp only [Bool.and_eq_true] at hm
      obtain ⟨h1, h2⟩ := (ha.below hW).good hm.1
      obtain ⟨h3, h4⟩ := (hb.below hW).good hm.2
      generalize sgZ na Na = z at *
      generalize sgZ nb Nb = y at *
      have G1 := h2
      have G2 := h4
      have g1 := h2.2.1
      have g2 := h4.2.1
      obtain ⟨-, -, he1, he2⟩ := h2
      obtain ⟨-, -, hf1, hf2⟩ := h4
      have hB : bl (z * y).natAbs ≤ 68719476736 ∧ -1099511627776 ≤ e + f ∧ e + f ≤ 1099511627776 := by
        have h1 := bl_mul z.natAbs y.natAbs
        rw [← Int.natAbs_mul] at h1
        exact ⟨by omega, by omega, by omega⟩
      exact both_times_all va vb z e y f _ _ W h1 h3 G1 G2 (fun b c W' h5 h6 => by
          refine (dytimes_any b c z e y f W' h5 h6 (Nat.le_trans g1 (by decide)) (Nat.le_trans g2 (by decide)) (by omega) (by omega) (by omega) (by omega)).mono ?_
          rintro e1 w1 ⟨d, k3, -, k4, k5⟩
          exact ⟨d, k3, k4, k5⟩) hB.1 hB.2.1 hB.2.2 (hT.below hTs hW) (Nat.lt_of_lt_of_le hTs hW.size)
    · rw [twoE, if_neg hm]
      exact (both_bad va vb na nb n m Na Nb _ e f W (ha.below hW) (hb.below hW) (by simpa using hm)).mono fun _ _ h => .of_err (by decide) h
  obtain ⟨sa, rfl, ⟨aa, ca, rfl, -⟩, -⟩ := ha
  obtain ⟨sb, rfl, ⟨ab, cb, rfl, -⟩, -⟩ := hb
  clear hT hTs
  unfold DyV at *
  generalize twoE na n Na e nb m Nb f = two at *
  generalize sgZ na Na * sgZ nb Nb = R at *
  generalize e + f = RE at *
  have HW0 := Lib.hid (Box3.start w na nb (.slice aa n ca) (.slice ab m cb) e f)
  go_enter Tryz.func44, Tryz.ntmps44
  go_wp2_with fail
  refine (HBO.out _ (below3 _ _ _ _)).mono ?_
  rintro e1 W7 ⟨n7, ao7, l7, c7, x7, k7, rfl, hr7, hb7⟩
  have HW7 := Lib.hid (HW0.out.later hb7)
  have HN : Hid (ResOf two R RE w (.returned (.tuple #[.agg #[.bool n7, .slice ao7 l7 c7, .int .i64 x7], .int .i64 k7])) (((W7.setCell ⟨w.heap.size + 1 + 1, 0, none⟩ (.bool n7)).setCell ⟨w.heap.size + 1 + 1, 1, none⟩ (.slice ao7 l7 c7)).setCell ⟨w.heap.size + 1 + 1, 2, none⟩ (.int .i64 x7))) :=
    Lib.hid (res_store HW7.out hr7)
  clear hr7 hb7 HBO
  obtain ⟨q0, q1, q2, q3, q4, q5⟩ := HW7.out.2.2.1.cells3
  clear HW7 HW0
  generalize hP : ResOf two R RE w = P at *
  clear hP
  go_wp2
  refine bodyPost_ret (v := .tuple #[.agg #[.bool n7, .slice ao7 l7 c7, .int .i64 x7], .int .i64 k7]) (by simp [results, Tryz.results44, go_sem, q0, q1, q2]) rfl HN.out

end Go.Proofs.YtjoajbbapfgaoaaGreatDoor
