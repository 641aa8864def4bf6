/- Walk: IntervalTurns. Printed by wip/gen/iv15.py. -/
import Derived.Test.YtlhebpoiakpkoaaGreatDoorZIvt
import Derived.Test.YtlhebpoiakpkoaaGreatDoorIH
namespace Go.Proofs.YtlhebpoiakpkoaaGreatDoor
open Go.RowKit
attribute [local go_sem] run_store_f

set_option maxRecDepth 100000 in
set_option maxHeartbeats 12800000 in
theorem intervalTurns_any (p0 p1 q0 q1 : Nat) (w : World) (hp0 : W64 p0) (hp1 : W64 p1) (hq0 : W64 q0) (hq1 : W64 q1) (hT : TabB w) :
    Calls Tryz.prog 4 #[.agg #[.int .u64 p0, .int .u64 p1], .agg #[.int .u64 q0, .int .u64 q1]] w (Gives (.bool true) w) := by
  have okA := ivK_ok hp0 hp1
  have okB := ivK_ok hq0 hq1
  have okS := addK_ok okA okB
  have okM := mulK_ok okA okB
  have okN := negK_ok okB
  have okNA := negK_ok okA
  have okD : Iok (subK (ivK p0 p1) (ivK q0 q1)) := addK_ok okA okN
  have okH := hullK_ok okA okA
  have okP := powK_two_ok okA
  have okQ := mulK_ok okA okA
  have HAW := Lib.hid fun W ht => awake6_any W ht
  have HOA := Lib.hid fun W => lof_any p0 p1 W
  have HOB := Lib.hid fun W => lof_any q0 q1 W
  have HT := Lib.hid hT
  have HPW := Lib.hid fun W (ht : TabB W) => pow_iv p0 p1 2 W hp0 hp1 (by decide) ht
  rw [show ((2 : Nat) : Int) = 2 from rfl] at HPW
  have HAB := Lib.hid fun W (ht : TabB W) => add_iv p0 p1 q0 q1 W hp0 hp1 hq0 hq1 ht
  have HBA := Lib.hid fun W (ht : TabB W) => add_iv q0 q1 p0 p1 W hq0 hq1 hp0 hp1 ht
  rw [addK_comm okB okA] at HBA
  have HMAB := Lib.hid fun W (ht : TabB W) => mul_iv p0 p1 q0 q1 W hp0 hp1 hq0 hq1 ht
  have HMBA := Lib.hid fun W (ht : TabB W) => mul_iv q0 q1 p0 p1 W hq0 hq1 hp0 hp1 ht
  rw [mulK_comm okB okA] at HMBA
  have HSB := Lib.hid fun W (ht : TabB W) => sub_iv p0 p1 q0 q1 W hp0 hp1 hq0 hq1 ht
  have HNB := Lib.hid fun W => neg_any q0 q1 W hq0 hq1
  have HAN := Lib.hid fun W (ht : TabB W) => add_iv p0 p1 (ivL (negK (ivK q0 q1))) (ivH (negK (ivK q0 q1))) W hp0 hp1 (ivL_lt okN) (ivH_lt okN) ht
  rw [ivK_back okN, show addK (ivK p0 p1) (negK (ivK q0 q1)) = subK (ivK p0 p1) (ivK q0 q1) from rfl] at HAN
  have HNA := Lib.hid fun W => neg_any p0 p1 W hp0 hp1
  have HNN := Lib.hid fun W => neg_any (ivL (negK (ivK p0 p1))) (ivH (negK (ivK p0 p1))) W (ivL_lt okNA) (ivH_lt okNA)
  rw [ivK_back okNA, negneg] at HNN
  have HHA := Lib.hid fun W => hull_any p0 p1 p0 p1 W hp0 hp1 hp0 hp1
  have HMAA := Lib.hid fun W (ht : TabB W) => mul_iv p0 p1 p0 p1 W hp0 hp1 hp0 hp1 ht
  have HIN := Lib.hid fun W => in_any (ivL (powK (ivK p0 p1) 2)) (ivH (powK (ivK p0 p1) 2)) (ivL (mulK (ivK p0 p1) (ivK p0 p1))) (ivH (mulK (ivK p0 p1) (ivK p0 p1))) W (ivL_lt okP) (ivH_lt okP) (ivL_lt okQ) (ivH_lt okQ)
  rw [ivK_back okP, ivK_back okQ, in_square okA] at HIN
  have HS1 := Lib.hid fun W => lsame_any (ivL (addK (ivK p0 p1) (ivK q0 q1))) (ivH (addK (ivK p0 p1) (ivK q0 q1))) (ivL (addK (ivK p0 p1) (ivK q0 q1))) (ivH (addK (ivK p0 p1) (ivK q0 q1))) W
  rw [saB_iv okS okS] at HS1
  rw [decide_eq_true rfl] at HS1
  have HS2 := Lib.hid fun W => lsame_any (ivL (mulK (ivK p0 p1) (ivK q0 q1))) (ivH (mulK (ivK p0 p1) (ivK q0 q1))) (ivL (mulK (ivK p0 p1) (ivK q0 q1))) (ivH (mulK (ivK p0 p1) (ivK q0 q1))) W
  rw [saB_iv okM okM] at HS2
  rw [decide_eq_true rfl] at HS2
  have HS3 := Lib.hid fun W => lsame_any (ivL (subK (ivK p0 p1) (ivK q0 q1))) (ivH (subK (ivK p0 p1) (ivK q0 q1))) (ivL (subK (ivK p0 p1) (ivK q0 q1))) (ivH (subK (ivK p0 p1) (ivK q0 q1))) W
  rw [saB_iv okD okD] at HS3
  rw [decide_eq_true rfl] at HS3
  have HS4 := Lib.hid fun W => lsame_any (ivL (hullK (ivK p0 p1) (ivK p0 p1))) (ivH (hullK (ivK p0 p1) (ivK p0 p1))) (ivL (hullK (ivK p0 p1) (ivK p0 p1))) (ivH (hullK (ivK p0 p1) (ivK p0 p1))) W
  rw [saB_iv okH okH] at HS4
  rw [decide_eq_true rfl] at HS4
  clear okA okB okS okM okN okNA okD okH okP okQ hp0 hp1 hq0 hq1 hT
  generalize ivL (addK (ivK p0 p1) (ivK q0 q1)) = s0 at *
  generalize ivH (addK (ivK p0 p1) (ivK q0 q1)) = s1 at *
  generalize ivL (mulK (ivK p0 p1) (ivK q0 q1)) = m0 at *
  generalize ivH (mulK (ivK p0 p1) (ivK q0 q1)) = m1 at *
  generalize ivL (subK (ivK p0 p1) (ivK q0 q1)) = d0 at *
  generalize ivH (subK (ivK p0 p1) (ivK q0 q1)) = d1 at *
  generalize ivL (negK (ivK q0 q1)) = n0 at *
  generalize ivH (negK (ivK q0 q1)) = n1 at *
  generalize ivL (negK (ivK p0 p1)) = v0 at *
  generalize ivH (negK (ivK p0 p1)) = v1 at *
  generalize ivL (hullK (ivK p0 p1) (ivK p0 p1)) = h0 at *
  generalize ivH (hullK (ivK p0 p1) (ivK p0 p1)) = h1 at *
  generalize ivL (powK (ivK p0 p1) 2) = z0 at *
  generalize ivH (powK (ivK p0 p1) 2) = z1 at *
  generalize ivL (mulK (ivK p0 p1) (ivK p0 p1)) = y0 at *
  generalize ivH (mulK (ivK p0 p1) (ivK p0 p1)) = y1 at *
  have HW0 := Lib.hid (EB2.new w p0 p1 q0 q1)
  go_enter Tryz.func4, Tryz.ntmps4
  go_wp2_with fail
  refine (HAW.out _ (HT.out.below HW0.out.2)).mono ?_
  rintro e1 w1 ⟨rfl, hb1⟩
  have HW := Lib.hid (HW0.out.later hb1)
  clear HW0 hb1 HAW
  go_wp2
  refine wp_region_q (fun w' : World => (w'.cell? ⟨w.heap.size, 0, none⟩ = some (.int .u64 p0) ∧ w'.cell? ⟨w.heap.size, 1, none⟩ = some (.int .u64 p1)) ∧ w'.cell? ⟨w.heap.size + 1, 0, none⟩ = some (.int .u64 q0) ∧ w'.cell? ⟨w.heap.size + 1, 1, none⟩ = some (.int .u64 q1)) 6 (.take 0 (.take 2 (.bag [(1, 12, []), (3, 14, []), (4, 5, []), (5, 6, [])] .nil))) (by kernel_rfl) (by kernel_rfl) ?_
  replace HW := Lib.hid (HW.out.later (drew_below _))
  generalize World.drew _ = W3 at HW ⊢
  have hS : (fun w' : World => (w'.cell? ⟨w.heap.size, 0, none⟩ = some (.int .u64 p0) ∧ w'.cell? ⟨w.heap.size, 1, none⟩ = some (.int .u64 p1)) ∧ w'.cell? ⟨w.heap.size + 1, 0, none⟩ = some (.int .u64 q0) ∧ w'.cell? ⟨w.heap.size + 1, 1, none⟩ = some (.int .u64 q1)) W3 := HW.out.cells
  repeat (refine wpPq_takeL (v := ?_) rfl rfl (fun _ _ _ h => h) rfl (fun w' hSw => ?_) hS ?_; rotate_left; (focus (go_simp; with_reducible rfl)); simp only [List.setIfInBounds_toArray, List.set_cons_zero, List.set_cons_succ])
  clear hS
  have hAp : ∀ j ∈ ([4, 5] : List Nat), ∀ s w', (pick [(1, fun v w' => v = .agg #[.float .f64 p0, .float .f64 p1]), (3, fun v w' => v = .agg #[.float .f64 q0, .float .f64 q1]), (4, fun v w' => ∃ r, v = .pointer (some ⟨r, 0, none⟩) ∧ w.heap.size ≤ r ∧ BlkT w' r 27 #[.float .f64 0, .float .f64 0]), (5, fun v w' => ∃ r, v = .pointer (some ⟨r, 0, none⟩) ∧ w.heap.size ≤ r ∧ BlkT w' r 27 #[.float .f64 0, .float .f64 0])]) j (.pointer (some ⟨s, 0, none⟩)) w' → s < w'.heap.size := (bag_cons (fun s w' h => by obtain ⟨r, hr, -, hB⟩ := (h : (fun (v : Value) (w' : World) => ∃ r, v = .pointer (some ⟨r, 0, none⟩) ∧ w.heap.size ≤ r ∧ BlkT w' r 27 #[.float .f64 0, .float .f64 0]) (.pointer (some ⟨s, 0, none⟩)) w'); simp only [Value.pointer.injEq, Option.some.injEq, Addr.mk.injEq, and_true] at hr; subst hr; exact hB.lt) (bag_cons (fun s w' h => by obtain ⟨r, hr, -, hB⟩ := (h : (fun (v : Value) (w' : World) => ∃ r, v = .pointer (some ⟨r, 0, none⟩) ∧ w.heap.size ≤ r ∧ BlkT w' r 27 #[.float .f64 0, .float .f64 0]) (.pointer (some ⟨s, 0, none⟩)) w'); simp only [Value.pointer.injEq, Option.some.injEq, Addr.mk.injEq, and_true] at hr; subst hr; exact hB.lt) bag_nil))
  refine wpPq_bagD [4, 5] (pick [(1, fun v w' => v = .agg #[.float .f64 p0, .float .f64 p1]), (3, fun v w' => v = .agg #[.float .f64 q0, .float .f64 q1]), (4, fun v w' => ∃ r, v = .pointer (some ⟨r, 0, none⟩) ∧ w.heap.size ≤ r ∧ BlkT w' r 27 #[.float .f64 0, .float .f64 0]), (5, fun v w' => ∃ r, v = .pointer (some ⟨r, 0, none⟩) ∧ w.heap.size ≤ r ∧ BlkT w' r 27 #[.float .f64 0, .float .f64 0])]) (pick_mono (bag_cons (fun v w1 w2 hv1 hb => hv1) (bag_cons (fun v w1 w2 hv3 hb => hv3) (bag_cons (fun v w1 w2 ⟨r4, hv4, hl4, hB4⟩ hb => ⟨r4, hv4, hl4, hB4.below hb⟩) (bag_cons (fun v w1 w2 ⟨r5, hv5, hl5, hB5⟩ hb => ⟨r5, hv5, hl5, hB5.below hb⟩) bag_nil))))) (fun w' hb => (HW.out.later hb).cells) (by simp [prE]) (fun _ _ _ _ _ h => h) (by decide) (bag_cons (bagD_one rfl (BagStep.other (by decide) ?_)) (bag_cons (bagD_one rfl (BagStep.other (by decide) ?_)) (bag_cons (bagD_one rfl (BagStep.fresh hAp ?_)) (bag_cons (bagD_one rfl (BagStep.fresh hAp ?_)) bag_nil)))) bag_nil ?_
  · intro a' V hdf hin hdep hb1 K hK
    have i11 : a'.tmps[11]?.getD undef = .agg #[.int .u64 p0, .int .u64 p1] := evT (hin 11 (by decide))
    clear hin hdep hdf
    have HW := Lib.hid (HW.out.later hb1)
    go_simp
    refine (HOA.out _).mono ?_
    rintro e1 V2 ⟨rfl, hb2⟩
    exact hK _ _ rfl hb2
  · intro a' V hdf hin hdep hb1 K hK
    have i13 : a'.tmps[13]?.getD undef = .agg #[.int .u64 q0, .int .u64 q1] := evT (hin 13 (by decide))
    clear hin hdep hdf
    have HW := Lib.hid (HW.out.later hb1)
    go_simp
    refine (HOB.out _).mono ?_
    rintro e1 V2 ⟨rfl, hb2⟩
    exact hK _ _ rfl hb2
  · intro a' V hdf hin hdep hb1 K hK
    clear hin hdep hdf
    have HW := Lib.hid (HW.out.later hb1)
    go_simp
    exact hK _ ⟨_, rfl, HW.out.size, BlkT.new V _ _⟩ (Below.alloc_self _ _)
  · intro a' V hdf hin hdep hb1 K hK
    clear hin hdep hdf
    have HW := Lib.hid (HW.out.later hb1)
    go_simp
    exact hK _ ⟨_, rfl, HW.out.size, BlkT.new V _ _⟩ (Below.alloc_self _ _)
  intro vals B1 hb1 hR hNE
  replace HW := Lib.hid (HW.out.later hb1)
  obtain hv1 : (fun (v : Value) (w' : World) => v = .agg #[.float .f64 p0, .float .f64 p1]) (vals 1) B1 := hR (1, 12) (by decide)
  dsimp only at hv1
  obtain hv3 : (fun (v : Value) (w' : World) => v = .agg #[.float .f64 q0, .float .f64 q1]) (vals 3) B1 := hR (3, 14) (by decide)
  dsimp only at hv3
  obtain ⟨r4, hv4, hl4, hB4⟩ : (fun (v : Value) (w' : World) => ∃ r, v = .pointer (some ⟨r, 0, none⟩) ∧ w.heap.size ≤ r ∧ BlkT w' r 27 #[.float .f64 0, .float .f64 0]) (vals 4) B1 := hR (4, 5) (by decide)
  obtain ⟨r5, hv5, hl5, hB5⟩ : (fun (v : Value) (w' : World) => ∃ r, v = .pointer (some ⟨r, 0, none⟩) ∧ w.heap.size ≤ r ∧ BlkT w' r 27 #[.float .f64 0, .float .f64 0]) (vals 5) B1 := hR (5, 6) (by decide)
  have hne4_5 := hNE (4, 5) (by decide) (5, 6) (by decide) (by decide) (by decide) (by decide) r4 r5 hv4 hv5
  clear hNE hAp
  clear hb1 hR
  simp only [prE, List.flatMap_cons, List.flatMap_nil, List.cons_append, List.nil_append, List.append_nil, setD, List.setIfInBounds_toArray, List.set_cons_zero, List.set_cons_succ, hv1, hv3, hv4, hv5]
  clear vals hv1 hv3 hv4 hv5
  refine wpPq_nil ?_
  simp only [List.drop_succ_cons, List.drop_zero]
  have HS := Lib.hid (S2b.make p0 p1 q0 q1 HW.out.2 hB4 hB5 hl4 hl5 hne4_5)
  obtain ⟨f60, f61, f62, f63⟩ := hB4.cells2
  obtain ⟨f70, f71, f72, f73⟩ := hB5.cells2
  have hne5_4 : r5 ≠ r4 := hne4_5.symm
  clear HW hB4 hB5 hl4 hl5
  go_upto_region 4 with fail
  clear f60 f61 f62 f63 f70 f71 f72 f73 hne4_5 hne5_4
  generalize World.setCell (World.setCell (World.setCell (World.setCell _ _ _) _ _) _ _) _ _ = W4 at HS ⊢
  obtain ⟨⟨g0, g1⟩, g2, g3⟩ := HS.out.cells
  go_wp2_with fail
  refine (HPW.out _ (HT.out.below HS.out.1.2)).mono ?_
  rintro e5 w5 ⟨rfl, hb5⟩
  replace HS := Lib.hid (HS.out.later hb5)
  clear hb5
  clear g0 g1 g2 g3
  obtain ⟨⟨g0, g1⟩, g2, g3⟩ := HS.out.cells
  go_upto_region 5 with fail
  replace HS := Lib.hid (T3b.make z0 z1 HS.out)
  clear g0 g1 g2 g3
  generalize World.alloc w5 _ = W6 at HS ⊢
  generalize w5.heap.size = r9 at HS ⊢
  refine wp_region_pl (fun w' : World => ((w'.cell? ⟨r4, 0, none⟩ = some (.float .f64 p0) ∧ w'.cell? ⟨r4, 1, none⟩ = some (.float .f64 p1)) ∧ w'.cell? ⟨r5, 0, none⟩ = some (.float .f64 q0) ∧ w'.cell? ⟨r5, 1, none⟩ = some (.float .f64 q1)) ∧ w'.cell? ⟨r9, 0, none⟩ = some (.float .f64 z0) ∧ w'.cell? ⟨r9, 1, none⟩ = some (.float .f64 z1)) 44 (.take 0 (.take 1 (.take 3 (.take 4 (.run 2 (.run 5 (.run 6 (.take 7 (.take 8 (.take 9 (.take 11 (.take 12 (.run 10 (.run 13 (.run 14 (.take 15 (.take 16 (.take 17 (.take 18 (.take 20 (.take 21 (.run 19 (.run 22 (.run 23 (.run 24 (.take 25 (.take 26 (.take 27 (.take 30 (.take 31 (.run 28 (.run 29 (.run 32 (.run 33 (.take 34 (.take 35 (.take 36 (.take 37 (.take 38 (.take 39 (.take 40 (.take 41 (.take 42 (.run 43 (.nil))))))))))))))))))))))))))))))))))))))))))))) (by kernel_rfl) (by kernel_rfl) ?_
  replace HS := Lib.hid (HS.out.later (drew_below _))
  generalize World.drew _ = W25 at HS ⊢
  have hS : (fun w' : World => ((w'.cell? ⟨r4, 0, none⟩ = some (.float .f64 p0) ∧ w'.cell? ⟨r4, 1, none⟩ = some (.float .f64 p1)) ∧ w'.cell? ⟨r5, 0, none⟩ = some (.float .f64 q0) ∧ w'.cell? ⟨r5, 1, none⟩ = some (.float .f64 q1)) ∧ w'.cell? ⟨r9, 0, none⟩ = some (.float .f64 z0) ∧ w'.cell? ⟨r9, 1, none⟩ = some (.float .f64 z1)) W25 := (And.intro HS.out.1.cells HS.out.2.1.cells)
  repeat (first | (refine wpPl_takeL (v := ?_) rfl rfl (fun _ _ _ h => h) rfl (fun w' hSw => ?_) hS ?_; rotate_left; (focus (go_simp; with_reducible rfl)); simp only [List.setIfInBounds_toArray, List.set_cons_zero, List.set_cons_succ]) | (refine wpPl_skipL rfl rfl (fun _ _ _ h => h) rfl hS ?_; simp only [List.setIfInBounds_toArray, List.set_cons_zero, List.set_cons_succ]))
  clear hS
  refine wpPl_goL rfl rfl fun K' hK => ?_
  go_simp
  refine (HAB.out _ (HT.out.below HS.out.2.1.2)).mono ?_
  rintro e1 W25v1 ⟨rfl, hb1⟩
  replace HS := Lib.hid (HS.out.later hb1)
  refine hK _ _ (And.intro HS.out.1.cells HS.out.2.1.cells) ?_
  clear hK K' hb1
  try simp only [Act.put, List.setIfInBounds_toArray, List.set_cons_zero, List.set_cons_succ]
  have hS : (fun w' : World => ((w'.cell? ⟨r4, 0, none⟩ = some (.float .f64 p0) ∧ w'.cell? ⟨r4, 1, none⟩ = some (.float .f64 p1)) ∧ w'.cell? ⟨r5, 0, none⟩ = some (.float .f64 q0) ∧ w'.cell? ⟨r5, 1, none⟩ = some (.float .f64 q1)) ∧ w'.cell? ⟨r9, 0, none⟩ = some (.float .f64 z0) ∧ w'.cell? ⟨r9, 1, none⟩ = some (.float .f64 z1)) W25v1 := (And.intro HS.out.1.cells HS.out.2.1.cells)
  repeat (first | (refine wpPl_takeL (v := ?_) rfl rfl (fun _ _ _ h => h) rfl (fun w' hSw => ?_) hS ?_; rotate_left; (focus (go_simp; with_reducible rfl)); simp only [List.setIfInBounds_toArray, List.set_cons_zero, List.set_cons_succ]) | (refine wpPl_skipL rfl rfl (fun _ _ _ h => h) rfl hS ?_; simp only [List.setIfInBounds_toArray, List.set_cons_zero, List.set_cons_succ]))
  clear hS
  refine wpPl_goL rfl rfl fun K' hK => ?_
  go_simp
  refine (HBA.out _ (HT.out.below HS.out.2.1.2)).mono ?_
  rintro e1 W25v2 ⟨rfl, hb1⟩
  replace HS := Lib.hid (HS.out.later hb1)
  refine hK _ _ (And.intro HS.out.1.cells HS.out.2.1.cells) ?_
  clear hK K' hb1
  try simp only [Act.put, List.setIfInBounds_toArray, List.set_cons_zero, List.set_cons_succ]
  have hS : (fun w' : World => ((w'.cell? ⟨r4, 0, none⟩ = some (.float .f64 p0) ∧ w'.cell? ⟨r4, 1, none⟩ = some (.float .f64 p1)) ∧ w'.cell? ⟨r5, 0, none⟩ = some (.float .f64 q0) ∧ w'.cell? ⟨r5, 1, none⟩ = some (.float .f64 q1)) ∧ w'.cell? ⟨r9, 0, none⟩ = some (.float .f64 z0) ∧ w'.cell? ⟨r9, 1, none⟩ = some (.float .f64 z1)) W25v2 := (And.intro HS.out.1.cells HS.out.2.1.cells)
  repeat (first | (refine wpPl_takeL (v := ?_) rfl rfl (fun _ _ _ h => h) rfl (fun w' hSw => ?_) hS ?_; rotate_left; (focus (go_simp; with_reducible rfl)); simp only [List.setIfInBounds_toArray, List.set_cons_zero, List.set_cons_succ]) | (refine wpPl_skipL rfl rfl (fun _ _ _ h => h) rfl hS ?_; simp only [List.setIfInBounds_toArray, List.set_cons_zero, List.set_cons_succ]))
  clear hS
  refine wpPl_goL rfl rfl fun K' hK => ?_
  go_simp
  refine (HS1.out _).mono ?_
  rintro e1 W25v3 ⟨rfl, hb1⟩
  replace HS := Lib.hid (HS.out.later hb1)
  refine hK _ _ (And.intro HS.out.1.cells HS.out.2.1.cells) ?_
  clear hK K' hb1
  try simp only [Act.put, List.setIfInBounds_toArray, List.set_cons_zero, List.set_cons_succ]
  have hS : (fun w' : World => ((w'.cell? ⟨r4, 0, none⟩ = some (.float .f64 p0) ∧ w'.cell? ⟨r4, 1, none⟩ = some (.float .f64 p1)) ∧ w'.cell? ⟨r5, 0, none⟩ = some (.float .f64 q0) ∧ w'.cell? ⟨r5, 1, none⟩ = some (.float .f64 q1)) ∧ w'.cell? ⟨r9, 0, none⟩ = some (.float .f64 z0) ∧ w'.cell? ⟨r9, 1, none⟩ = some (.float .f64 z1)) W25v3 := (And.intro HS.out.1.cells HS.out.2.1.cells)
  repeat (first | (refine wpPl_takeL (v := ?_) rfl rfl (fun _ _ _ h => h) rfl (fun w' hSw => ?_) hS ?_; rotate_left; (focus (go_simp; with_reducible rfl)); simp only [List.setIfInBounds_toArray, List.set_cons_zero, List.set_cons_succ]) | (refine wpPl_skipL rfl rfl (fun _ _ _ h => h) rfl hS ?_; simp only [List.setIfInBounds_toArray, List.set_cons_zero, List.set_cons_succ]))
  clear hS
  refine wpPl_goL rfl rfl fun K' hK => ?_
  go_simp
  refine (HMAB.out _ (HT.out.below HS.out.2.1.2)).mono ?_
  rintro e1 W25v4 ⟨rfl, hb1⟩
  replace HS := Lib.hid (HS.out.later hb1)
  refine hK _ _ (And.intro HS.out.1.cells HS.out.2.1.cells) ?_
  clear hK K' hb1
  try simp only [Act.put, List.setIfInBounds_toArray, List.set_cons_zero, List.set_cons_succ]
  have hS : (fun w' : World => ((w'.cell? ⟨r4, 0, none⟩ = some (.float .f64 p0) ∧ w'.cell? ⟨r4, 1, none⟩ = some (.float .f64 p1)) ∧ w'.cell? ⟨r5, 0, none⟩ = some (.float .f64 q0) ∧ w'.cell? ⟨r5, 1, none⟩ = some (.float .f64 q1)) ∧ w'.cell? ⟨r9, 0, none⟩ = some (.float .f64 z0) ∧ w'.cell? ⟨r9, 1, none⟩ = some (.float .f64 z1)) W25v4 := (And.intro HS.out.1.cells HS.out.2.1.cells)
  repeat (first | (refine wpPl_takeL (v := ?_) rfl rfl (fun _ _ _ h => h) rfl (fun w' hSw => ?_) hS ?_; rotate_left; (focus (go_simp; with_reducible rfl)); simp only [List.setIfInBounds_toArray, List.set_cons_zero, List.set_cons_succ]) | (refine wpPl_skipL rfl rfl (fun _ _ _ h => h) rfl hS ?_; simp only [List.setIfInBounds_toArray, List.set_cons_zero, List.set_cons_succ]))
  clear hS
  refine wpPl_goL rfl rfl fun K' hK => ?_
  go_simp
  refine (HMBA.out _ (HT.out.below HS.out.2.1.2)).mono ?_
  rintro e1 W25v5 ⟨rfl, hb1⟩
  replace HS := Lib.hid (HS.out.later hb1)
  refine hK _ _ (And.intro HS.out.1.cells HS.out.2.1.cells) ?_
  clear hK K' hb1
  try simp only [Act.put, List.setIfInBounds_toArray, List.set_cons_zero, List.set_cons_succ]
  have hS : (fun w' : World => ((w'.cell? ⟨r4, 0, none⟩ = some (.float .f64 p0) ∧ w'.cell? ⟨r4, 1, none⟩ = some (.float .f64 p1)) ∧ w'.cell? ⟨r5, 0, none⟩ = some (.float .f64 q0) ∧ w'.cell? ⟨r5, 1, none⟩ = some (.float .f64 q1)) ∧ w'.cell? ⟨r9, 0, none⟩ = some (.float .f64 z0) ∧ w'.cell? ⟨r9, 1, none⟩ = some (.float .f64 z1)) W25v5 := (And.intro HS.out.1.cells HS.out.2.1.cells)
  repeat (first | (refine wpPl_takeL (v := ?_) rfl rfl (fun _ _ _ h => h) rfl (fun w' hSw => ?_) hS ?_; rotate_left; (focus (go_simp; with_reducible rfl)); simp only [List.setIfInBounds_toArray, List.set_cons_zero, List.set_cons_succ]) | (refine wpPl_skipL rfl rfl (fun _ _ _ h => h) rfl hS ?_; simp only [List.setIfInBounds_toArray, List.set_cons_zero, List.set_cons_succ]))
  clear hS
  refine wpPl_goL rfl rfl fun K' hK => ?_
  go_simp
  refine (HS2.out _).mono ?_
  rintro e1 W25v6 ⟨rfl, hb1⟩
  replace HS := Lib.hid (HS.out.later hb1)
  refine hK _ _ (And.intro HS.out.1.cells HS.out.2.1.cells) ?_
  clear hK K' hb1
  try simp only [Act.put, List.setIfInBounds_toArray, List.set_cons_zero, List.set_cons_succ]
  have hS : (fun w' : World => ((w'.cell? ⟨r4, 0, none⟩ = some (.float .f64 p0) ∧ w'.cell? ⟨r4, 1, none⟩ = some (.float .f64 p1)) ∧ w'.cell? ⟨r5, 0, none⟩ = some (.float .f64 q0) ∧ w'.cell? ⟨r5, 1, none⟩ = some (.float .f64 q1)) ∧ w'.cell? ⟨r9, 0, none⟩ = some (.float .f64 z0) ∧ w'.cell? ⟨r9, 1, none⟩ = some (.float .f64 z1)) W25v6 := (And.intro HS.out.1.cells HS.out.2.1.cells)
  repeat (first | (refine wpPl_takeL (v := ?_) rfl rfl (fun _ _ _ h => h) rfl (fun w' hSw => ?_) hS ?_; rotate_left; (focus (go_simp; with_reducible rfl)); simp only [List.setIfInBounds_toArray, List.set_cons_zero, List.set_cons_succ]) | (refine wpPl_skipL rfl rfl (fun _ _ _ h => h) rfl hS ?_; simp only [List.setIfInBounds_toArray, List.set_cons_zero, List.set_cons_succ]))
  clear hS
  refine wpPl_goL rfl rfl fun K' hK => ?_
  go_simp
  refine (HSB.out _ (HT.out.below HS.out.2.1.2)).mono ?_
  rintro e1 W25v7 ⟨rfl, hb1⟩
  replace HS := Lib.hid (HS.out.later hb1)
  refine hK _ _ (And.intro HS.out.1.cells HS.out.2.1.cells) ?_
  clear hK K' hb1
  try simp only [Act.put, List.setIfInBounds_toArray, List.set_cons_zero, List.set_cons_succ]
  have hS : (fun w' : World => ((w'.cell? ⟨r4, 0, none⟩ = some (.float .f64 p0) ∧ w'.cell? ⟨r4, 1, none⟩ = some (.float .f64 p1)) ∧ w'.cell? ⟨r5, 0, none⟩ = some (.float .f64 q0) ∧ w'.cell? ⟨r5, 1, none⟩ = some (.float .f64 q1)) ∧ w'.cell? ⟨r9, 0, none⟩ = some (.float .f64 z0) ∧ w'.cell? ⟨r9, 1, none⟩ = some (.float .f64 z1)) W25v7 := (And.intro HS.out.1.cells HS.out.2.1.cells)
  repeat (first | (refine wpPl_takeL (v := ?_) rfl rfl (fun _ _ _ h => h) rfl (fun w' hSw => ?_) hS ?_; rotate_left; (focus (go_simp; with_reducible rfl)); simp only [List.setIfInBounds_toArray, List.set_cons_zero, List.set_cons_succ]) | (refine wpPl_skipL rfl rfl (fun _ _ _ h => h) rfl hS ?_; simp only [List.setIfInBounds_toArray, List.set_cons_zero, List.set_cons_succ]))
  clear hS
  refine wpPl_goL rfl rfl fun K' hK => ?_
  go_simp
  refine (HNB.out _).mono ?_
  rintro e1 W25v8 ⟨rfl, hb1⟩
  replace HS := Lib.hid (HS.out.later hb1)
  refine hK _ _ (And.intro HS.out.1.cells HS.out.2.1.cells) ?_
  clear hK K' hb1
  try simp only [Act.put, List.setIfInBounds_toArray, List.set_cons_zero, List.set_cons_succ]
  have hS : (fun w' : World => ((w'.cell? ⟨r4, 0, none⟩ = some (.float .f64 p0) ∧ w'.cell? ⟨r4, 1, none⟩ = some (.float .f64 p1)) ∧ w'.cell? ⟨r5, 0, none⟩ = some (.float .f64 q0) ∧ w'.cell? ⟨r5, 1, none⟩ = some (.float .f64 q1)) ∧ w'.cell? ⟨r9, 0, none⟩ = some (.float .f64 z0) ∧ w'.cell? ⟨r9, 1, none⟩ = some (.float .f64 z1)) W25v8 := (And.intro HS.out.1.cells HS.out.2.1.cells)
  repeat (first | (refine wpPl_takeL (v := ?_) rfl rfl (fun _ _ _ h => h) rfl (fun w' hSw => ?_) hS ?_; rotate_left; (focus (go_simp; with_reducible rfl)); simp only [List.setIfInBounds_toArray, List.set_cons_zero, List.set_cons_succ]) | (refine wpPl_skipL rfl rfl (fun _ _ _ h => h) rfl hS ?_; simp only [List.setIfInBounds_toArray, List.set_cons_zero, List.set_cons_succ]))
  clear hS
  refine wpPl_goL rfl rfl fun K' hK => ?_
  go_simp
  refine (HAN.out _ (HT.out.below HS.out.2.1.2)).mono ?_
  rintro e1 W25v9 ⟨rfl, hb1⟩
  replace HS := Lib.hid (HS.out.later hb1)
  refine hK _ _ (And.intro HS.out.1.cells HS.out.2.1.cells) ?_
  clear hK K' hb1
  try simp only [Act.put, List.setIfInBounds_toArray, List.set_cons_zero, List.set_cons_succ]
  have hS : (fun w' : World => ((w'.cell? ⟨r4, 0, none⟩ = some (.float .f64 p0) ∧ w'.cell? ⟨r4, 1, none⟩ = some (.float .f64 p1)) ∧ w'.cell? ⟨r5, 0, none⟩ = some (.float .f64 q0) ∧ w'.cell? ⟨r5, 1, none⟩ = some (.float .f64 q1)) ∧ w'.cell? ⟨r9, 0, none⟩ = some (.float .f64 z0) ∧ w'.cell? ⟨r9, 1, none⟩ = some (.float .f64 z1)) W25v9 := (And.intro HS.out.1.cells HS.out.2.1.cells)
  repeat (first | (refine wpPl_takeL (v := ?_) rfl rfl (fun _ _ _ h => h) rfl (fun w' hSw => ?_) hS ?_; rotate_left; (focus (go_simp; with_reducible rfl)); simp only [List.setIfInBounds_toArray, List.set_cons_zero, List.set_cons_succ]) | (refine wpPl_skipL rfl rfl (fun _ _ _ h => h) rfl hS ?_; simp only [List.setIfInBounds_toArray, List.set_cons_zero, List.set_cons_succ]))
  clear hS
  refine wpPl_goL rfl rfl fun K' hK => ?_
  go_simp
  refine (HS3.out _).mono ?_
  rintro e1 W25v10 ⟨rfl, hb1⟩
  replace HS := Lib.hid (HS.out.later hb1)
  refine hK _ _ (And.intro HS.out.1.cells HS.out.2.1.cells) ?_
  clear hK K' hb1
  try simp only [Act.put, List.setIfInBounds_toArray, List.set_cons_zero, List.set_cons_succ]
  have hS : (fun w' : World => ((w'.cell? ⟨r4, 0, none⟩ = some (.float .f64 p0) ∧ w'.cell? ⟨r4, 1, none⟩ = some (.float .f64 p1)) ∧ w'.cell? ⟨r5, 0, none⟩ = some (.float .f64 q0) ∧ w'.cell? ⟨r5, 1, none⟩ = some (.float .f64 q1)) ∧ w'.cell? ⟨r9, 0, none⟩ = some (.float .f64 z0) ∧ w'.cell? ⟨r9, 1, none⟩ = some (.float .f64 z1)) W25v10 := (And.intro HS.out.1.cells HS.out.2.1.cells)
  repeat (first | (refine wpPl_takeL (v := ?_) rfl rfl (fun _ _ _ h => h) rfl (fun w' hSw => ?_) hS ?_; rotate_left; (focus (go_simp; with_reducible rfl)); simp only [List.setIfInBounds_toArray, List.set_cons_zero, List.set_cons_succ]) | (refine wpPl_skipL rfl rfl (fun _ _ _ h => h) rfl hS ?_; simp only [List.setIfInBounds_toArray, List.set_cons_zero, List.set_cons_succ]))
  clear hS
  refine wpPl_goL rfl rfl fun K' hK => ?_
  go_simp
  refine (HNA.out _).mono ?_
  rintro e1 W25v11 ⟨rfl, hb1⟩
  replace HS := Lib.hid (HS.out.later hb1)
  refine hK _ _ (And.intro HS.out.1.cells HS.out.2.1.cells) ?_
  clear hK K' hb1
  try simp only [Act.put, List.setIfInBounds_toArray, List.set_cons_zero, List.set_cons_succ]
  have hS : (fun w' : World => ((w'.cell? ⟨r4, 0, none⟩ = some (.float .f64 p0) ∧ w'.cell? ⟨r4, 1, none⟩ = some (.float .f64 p1)) ∧ w'.cell? ⟨r5, 0, none⟩ = some (.float .f64 q0) ∧ w'.cell? ⟨r5, 1, none⟩ = some (.float .f64 q1)) ∧ w'.cell? ⟨r9, 0, none⟩ = some (.float .f64 z0) ∧ w'.cell? ⟨r9, 1, none⟩ = some (.float .f64 z1)) W25v11 := (And.intro HS.out.1.cells HS.out.2.1.cells)
  repeat (first | (refine wpPl_takeL (v := ?_) rfl rfl (fun _ _ _ h => h) rfl (fun w' hSw => ?_) hS ?_; rotate_left; (focus (go_simp; with_reducible rfl)); simp only [List.setIfInBounds_toArray, List.set_cons_zero, List.set_cons_succ]) | (refine wpPl_skipL rfl rfl (fun _ _ _ h => h) rfl hS ?_; simp only [List.setIfInBounds_toArray, List.set_cons_zero, List.set_cons_succ]))
  clear hS
  refine wpPl_goL rfl rfl fun K' hK => ?_
  go_simp
  refine (HNN.out _).mono ?_
  rintro e1 W25v12 ⟨rfl, hb1⟩
  replace HS := Lib.hid (HS.out.later hb1)
  refine hK _ _ (And.intro HS.out.1.cells HS.out.2.1.cells) ?_
  clear hK K' hb1
  try simp only [Act.put, List.setIfInBounds_toArray, List.set_cons_zero, List.set_cons_succ]
  have hS : (fun w' : World => ((w'.cell? ⟨r4, 0, none⟩ = some (.float .f64 p0) ∧ w'.cell? ⟨r4, 1, none⟩ = some (.float .f64 p1)) ∧ w'.cell? ⟨r5, 0, none⟩ = some (.float .f64 q0) ∧ w'.cell? ⟨r5, 1, none⟩ = some (.float .f64 q1)) ∧ w'.cell? ⟨r9, 0, none⟩ = some (.float .f64 z0) ∧ w'.cell? ⟨r9, 1, none⟩ = some (.float .f64 z1)) W25v12 := (And.intro HS.out.1.cells HS.out.2.1.cells)
  repeat (first | (refine wpPl_takeL (v := ?_) rfl rfl (fun _ _ _ h => h) rfl (fun w' hSw => ?_) hS ?_; rotate_left; (focus (go_simp; with_reducible rfl)); simp only [List.setIfInBounds_toArray, List.set_cons_zero, List.set_cons_succ]) | (refine wpPl_skipL rfl rfl (fun _ _ _ h => h) rfl hS ?_; simp only [List.setIfInBounds_toArray, List.set_cons_zero, List.set_cons_succ]))
  clear hS
  refine wpPl_goL rfl rfl fun K' hK => ?_
  go_simp
  refine (HHA.out _).mono ?_
  rintro e1 W25v13 ⟨rfl, hb1⟩
  replace HS := Lib.hid (HS.out.later hb1)
  refine hK _ _ (And.intro HS.out.1.cells HS.out.2.1.cells) ?_
  clear hK K' hb1
  try simp only [Act.put, List.setIfInBounds_toArray, List.set_cons_zero, List.set_cons_succ]
  have hS : (fun w' : World => ((w'.cell? ⟨r4, 0, none⟩ = some (.float .f64 p0) ∧ w'.cell? ⟨r4, 1, none⟩ = some (.float .f64 p1)) ∧ w'.cell? ⟨r5, 0, none⟩ = some (.float .f64 q0) ∧ w'.cell? ⟨r5, 1, none⟩ = some (.float .f64 q1)) ∧ w'.cell? ⟨r9, 0, none⟩ = some (.float .f64 z0) ∧ w'.cell? ⟨r9, 1, none⟩ = some (.float .f64 z1)) W25v13 := (And.intro HS.out.1.cells HS.out.2.1.cells)
  repeat (first | (refine wpPl_takeL (v := ?_) rfl rfl (fun _ _ _ h => h) rfl (fun w' hSw => ?_) hS ?_; rotate_left; (focus (go_simp; with_reducible rfl)); simp only [List.setIfInBounds_toArray, List.set_cons_zero, List.set_cons_succ]) | (refine wpPl_skipL rfl rfl (fun _ _ _ h => h) rfl hS ?_; simp only [List.setIfInBounds_toArray, List.set_cons_zero, List.set_cons_succ]))
  clear hS
  refine wpPl_goL rfl rfl fun K' hK => ?_
  go_simp
  refine (HS4.out _).mono ?_
  rintro e1 W25v14 ⟨rfl, hb1⟩
  replace HS := Lib.hid (HS.out.later hb1)
  refine hK _ _ (And.intro HS.out.1.cells HS.out.2.1.cells) ?_
  clear hK K' hb1
  try simp only [Act.put, List.setIfInBounds_toArray, List.set_cons_zero, List.set_cons_succ]
  have hS : (fun w' : World => ((w'.cell? ⟨r4, 0, none⟩ = some (.float .f64 p0) ∧ w'.cell? ⟨r4, 1, none⟩ = some (.float .f64 p1)) ∧ w'.cell? ⟨r5, 0, none⟩ = some (.float .f64 q0) ∧ w'.cell? ⟨r5, 1, none⟩ = some (.float .f64 q1)) ∧ w'.cell? ⟨r9, 0, none⟩ = some (.float .f64 z0) ∧ w'.cell? ⟨r9, 1, none⟩ = some (.float .f64 z1)) W25v14 := (And.intro HS.out.1.cells HS.out.2.1.cells)
  repeat (first | (refine wpPl_takeL (v := ?_) rfl rfl (fun _ _ _ h => h) rfl (fun w' hSw => ?_) hS ?_; rotate_left; (focus (go_simp; with_reducible rfl)); simp only [List.setIfInBounds_toArray, List.set_cons_zero, List.set_cons_succ]) | (refine wpPl_skipL rfl rfl (fun _ _ _ h => h) rfl hS ?_; simp only [List.setIfInBounds_toArray, List.set_cons_zero, List.set_cons_succ]))
  clear hS
  refine wpPl_goL rfl rfl fun K' hK => ?_
  go_simp
  refine (HMAA.out _ (HT.out.below HS.out.2.1.2)).mono ?_
  rintro e1 W25v15 ⟨rfl, hb1⟩
  replace HS := Lib.hid (HS.out.later hb1)
  refine hK _ _ (And.intro HS.out.1.cells HS.out.2.1.cells) ?_
  clear hK K' hb1
  try simp only [Act.put, List.setIfInBounds_toArray, List.set_cons_zero, List.set_cons_succ]
  have hS : (fun w' : World => ((w'.cell? ⟨r4, 0, none⟩ = some (.float .f64 p0) ∧ w'.cell? ⟨r4, 1, none⟩ = some (.float .f64 p1)) ∧ w'.cell? ⟨r5, 0, none⟩ = some (.float .f64 q0) ∧ w'.cell? ⟨r5, 1, none⟩ = some (.float .f64 q1)) ∧ w'.cell? ⟨r9, 0, none⟩ = some (.float .f64 z0) ∧ w'.cell? ⟨r9, 1, none⟩ = some (.float .f64 z1)) W25v15 := (And.intro HS.out.1.cells HS.out.2.1.cells)
  repeat (first | (refine wpPl_takeL (v := ?_) rfl rfl (fun _ _ _ h => h) rfl (fun w' hSw => ?_) hS ?_; rotate_left; (focus (go_simp; with_reducible rfl)); simp only [List.setIfInBounds_toArray, List.set_cons_zero, List.set_cons_succ]) | (refine wpPl_skipL rfl rfl (fun _ _ _ h => h) rfl hS ?_; simp only [List.setIfInBounds_toArray, List.set_cons_zero, List.set_cons_succ]))
  clear hS
  refine wpPl_nil ?_
  simp only [List.drop_succ_cons, List.drop_zero]
  obtain ⟨⟨⟨g0, g1⟩, g2, g3⟩, g4, g5, g6, g7⟩ := HS.out.cells
  go_wp2_with fail
  refine (HIN.out _).mono ?_
  rintro e58 w58 ⟨rfl, hb58⟩
  replace HS := Lib.hid (HS.out.later hb58)
  clear hb58
  clear g0 g1 g2 g3 g4 g5 g6 g7
  obtain ⟨⟨⟨g0, g1⟩, g2, g3⟩, g4, g5, g6, g7⟩ := HS.out.cells
  go_wp2
  go_ret
  exact ⟨rfl, HS.out.2.1.2⟩

end Go.Proofs.YtlhebpoiakpkoaaGreatDoor
