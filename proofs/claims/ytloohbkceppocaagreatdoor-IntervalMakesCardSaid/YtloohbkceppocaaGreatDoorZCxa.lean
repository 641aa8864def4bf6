/- Walk: IntervalMakes. Printed by wip/gen/cxa.py. -/
import Derived.Test.YtloohbkceppocaaGreatDoorKI
import Derived.Test.YtloohbkceppocaaGreatDoorZIvt
import Derived.Test.YtloohbkceppocaaGreatDoorIH
namespace Go.Proofs.YtloohbkceppocaaGreatDoor
open Go.RowKit
attribute [local go_sem] run_store_f
set_option maxRecDepth 100000 in
set_option maxHeartbeats 12800000 in
theorem intervalMakes_any (p0 p1 q0 q1 : Nat) (w : World) (hp0 : W64 p0) (hp1 : W64 p1) (hq0 : W64 q0) (hq1 : W64 q1) (hT : TabB w) :
  Calls Tryz.prog 4 #[.agg #[.int .u64 p0, .int .u64 p1], .agg #[.int .u64 q0, .int .u64 q1]] w (Gives (.bool true) w) := by
 have okA := ivK_ok hp0 hp1
 have okB := ivK_ok hq0 hq1
 have HAW := Lib.hid fun W ht => awake6_any W ht
 have HOA := Lib.hid fun W => lof_any p0 p1 W
 have HOB := Lib.hid fun W => lof_any q0 q1 W
 have HT := Lib.hid hT
 have okN : Iok (negK (ivK p0 p1)) := negK_ok okA
 have HPN := Lib.hid fun W => neg_any p0 p1 W hp0 hp1
 have HRN := Lib.hid fun W => rNeg_iv p0 p1 W hp0 hp1
 have HSN := Lib.hid fun W => lsame_any (ivL (negK (ivK p0 p1))) (ivH (negK (ivK p0 p1))) (ivL (negK (ivK p0 p1))) (ivH (negK (ivK p0 p1))) W
 rw [saB_iv okN okN] at HSN
 rw [decide_eq_true rfl] at HSN
 have okU : Iok (absK (ivK p0 p1)) := absK_ok okA
 have HPU := Lib.hid fun W => absI_any p0 p1 W hp0 hp1
 have HRU := Lib.hid fun W => rAbs_iv p0 p1 W hp0 hp1
 have HSU := Lib.hid fun W => lsame_any (ivL (absK (ivK p0 p1))) (ivH (absK (ivK p0 p1))) (ivL (absK (ivK p0 p1))) (ivH (absK (ivK p0 p1))) W
 rw [saB_iv okU okU] at HSU
 rw [decide_eq_true rfl] at HSU
 have okS : Iok (addK (ivK p0 p1) (ivK q0 q1)) := addK_ok okA okB
 have HPS := Lib.hid fun W (ht : TabB W) => add_iv p0 p1 q0 q1 W hp0 hp1 hq0 hq1 ht
 have HRS := Lib.hid fun W => rAdd_iv p0 p1 q0 q1 W hp0 hp1 hq0 hq1
 have HSS := Lib.hid fun W => lsame_any (ivL (addK (ivK p0 p1) (ivK q0 q1))) (ivH (addK (ivK p0 p1) (ivK q0 q1))) (ivL (addK (ivK p0 p1) (ivK q0 q1))) (ivH (addK (ivK p0 p1) (ivK q0 q1))) W
 rw [saB_iv okS okS] at HSS
 rw [decide_eq_true rfl] at HSS
 have okD : Iok (subK (ivK p0 p1) (ivK q0 q1)) := addK_ok okA (negK_ok okB)
 have HPD := Lib.hid fun W (ht : TabB W) => sub_iv p0 p1 q0 q1 W hp0 hp1 hq0 hq1 ht
 have HRD := Lib.hid fun W => rSub_iv p0 p1 q0 q1 W hp0 hp1 hq0 hq1
 have HSD := Lib.hid fun W => lsame_any (ivL (subK (ivK p0 p1) (ivK q0 q1))) (ivH (subK (ivK p0 p1) (ivK q0 q1))) (ivL (subK (ivK p0 p1) (ivK q0 q1))) (ivH (subK (ivK p0 p1) (ivK q0 q1))) W
 rw [saB_iv okD okD] at HSD
 rw [decide_eq_true rfl] at HSD
 have okM : Iok (mulK (ivK p0 p1) (ivK q0 q1)) := mulK_ok okA okB
 have HPM := Lib.hid fun W (ht : TabB W) => mul_iv p0 p1 q0 q1 W hp0 hp1 hq0 hq1 ht
 have HRM := Lib.hid fun W => rMul_iv p0 p1 q0 q1 W hp0 hp1 hq0 hq1
 have HSM := Lib.hid fun W => lsame_any (ivL (mulK (ivK p0 p1) (ivK q0 q1))) (ivH (mulK (ivK p0 p1) (ivK q0 q1))) (ivL (mulK (ivK p0 p1) (ivK q0 q1))) (ivH (mulK (ivK p0 p1) (ivK q0 q1))) W
 rw [saB_iv okM okM] at HSM
 rw [decide_eq_true rfl] at HSM
 have okQ : Iok (divK (ivK p0 p1) (ivK q0 q1)) := divK_ok okA okB
 have HPQ := Lib.hid fun W (ht : TabB W) => div_iv p0 p1 q0 q1 W hp0 hp1 hq0 hq1 ht
 have HRQ := Lib.hid fun W => rDiv_iv p0 p1 q0 q1 W hp0 hp1 hq0 hq1
 have HSQ := Lib.hid fun W => lsame_any (ivL (divK (ivK p0 p1) (ivK q0 q1))) (ivH (divK (ivK p0 p1) (ivK q0 q1))) (ivL (divK (ivK p0 p1) (ivK q0 q1))) (ivH (divK (ivK p0 p1) (ivK q0 q1))) W
 rw [saB_iv okQ okQ] at HSQ
 rw [decide_eq_true rfl] at HSQ
 have okR : Iok (sqK (ivK p0 p1)) := sqK_ok okA
 have HPR := Lib.hid fun W (ht : TabB W) => sqrt_iv p0 p1 W hp0 hp1 ht
 have HRR := Lib.hid fun W => rSqrt_iv p0 p1 W hp0 hp1
 have HSR := Lib.hid fun W => lsame_any (ivL (sqK (ivK p0 p1))) (ivH (sqK (ivK p0 p1))) (ivL (sqK (ivK p0 p1))) (ivH (sqK (ivK p0 p1))) W
 rw [saB_iv okR okR] at HSR
 rw [decide_eq_true rfl] at HSR
 clear okA okB hp0 hp1 hq0 hq1 hT okN okU okS okD okM okQ okR
 generalize ivL (negK (ivK p0 p1)) = lN at *
 generalize ivH (negK (ivK p0 p1)) = hN at *
 generalize ivL (absK (ivK p0 p1)) = lU at *
 generalize ivH (absK (ivK p0 p1)) = hU at *
 generalize ivL (addK (ivK p0 p1) (ivK q0 q1)) = lS at *
 generalize ivH (addK (ivK p0 p1) (ivK q0 q1)) = hS at *
 generalize ivL (subK (ivK p0 p1) (ivK q0 q1)) = lD at *
 generalize ivH (subK (ivK p0 p1) (ivK q0 q1)) = hD at *
 generalize ivL (mulK (ivK p0 p1) (ivK q0 q1)) = lM at *
 generalize ivH (mulK (ivK p0 p1) (ivK q0 q1)) = hM at *
 generalize ivL (divK (ivK p0 p1) (ivK q0 q1)) = lQ at *
 generalize ivH (divK (ivK p0 p1) (ivK q0 q1)) = hQ at *
 generalize ivL (sqK (ivK p0 p1)) = lR at *
 generalize ivH (sqK (ivK p0 p1)) = hR at *
 have HW := Lib.hid (EB2.new w p0 p1 q0 q1)
 go_enter Tryz.func4, Tryz.ntmps4
 go_wp2
 refine wp_region_q (fun w' : World => (w'.cell? ⟨w.heap.size, 0, none⟩ = some (.int .u64 p0) ∧ w'.cell? ⟨w.heap.size, 1, none⟩ = some (.int .u64 p1)) ∧ w'.cell? ⟨w.heap.size + 1, 0, none⟩ = some (.int .u64 q0) ∧ w'.cell? ⟨w.heap.size + 1, 1, none⟩ = some (.int .u64 q1)) 6 (.take 0 (.take 2 (.bag [(1, 8, []), (3, 10, []), (4, 5, []), (5, 6, [])] .nil))) (by kernel_rfl) (by kernel_rfl) ?_
 replace HW := Lib.hid (HW.out.later (drew_below _))
 generalize World.drew _ = W3 at HW ⊢
 have hS : (fun w' : World => (w'.cell? ⟨w.heap.size, 0, none⟩ = some (.int .u64 p0) ∧ w'.cell? ⟨w.heap.size, 1, none⟩ = some (.int .u64 p1)) ∧ w'.cell? ⟨w.heap.size + 1, 0, none⟩ = some (.int .u64 q0) ∧ w'.cell? ⟨w.heap.size + 1, 1, none⟩ = some (.int .u64 q1)) W3 := HW.out.cells
 repeat (refine wpPq_takeL (v := ?_) rfl rfl (fun _ _ _ h => h) rfl (fun w' hSw => ?_) hS ?_; rotate_left; (focus (go_simp; with_reducible rfl)); simp only [setL])
 clear hS
 have hAp : ∀ j ∈ ([4, 5] : List Nat), ∀ s w', (pick [(1, fun v w' => v = .agg #[.float .f64 p0, .float .f64 p1]), (3, fun v w' => v = .agg #[.float .f64 q0, .float .f64 q1]), (4, fun v w' => ∃ r, v = .pointer (some ⟨r, 0, none⟩) ∧ w.heap.size ≤ r ∧ BlkT w' r 34 #[.float .f64 0, .float .f64 0]), (5, fun v w' => ∃ r, v = .pointer (some ⟨r, 0, none⟩) ∧ w.heap.size ≤ r ∧ BlkT w' r 34 #[.float .f64 0, .float .f64 0])]) j (.pointer (some ⟨s, 0, none⟩)) w' → s < w'.heap.size := (bag_cons (fun s w' h => by obtain ⟨r, hr, -, hB⟩ := (h : (fun (v : Value) (w' : World) => ∃ r, v = .pointer (some ⟨r, 0, none⟩) ∧ w.heap.size ≤ r ∧ BlkT w' r 34 #[.float .f64 0, .float .f64 0]) (.pointer (some ⟨s, 0, none⟩)) w'); simp only [Value.pointer.injEq, Option.some.injEq, Addr.mk.injEq, and_true] at hr; subst hr; exact hB.lt) (bag_cons (fun s w' h => by obtain ⟨r, hr, -, hB⟩ := (h : (fun (v : Value) (w' : World) => ∃ r, v = .pointer (some ⟨r, 0, none⟩) ∧ w.heap.size ≤ r ∧ BlkT w' r 34 #[.float .f64 0, .float .f64 0]) (.pointer (some ⟨s, 0, none⟩)) w'); simp only [Value.pointer.injEq, Option.some.injEq, Addr.mk.injEq, and_true] at hr; subst hr; exact hB.lt) bag_nil))
 refine wpPq_bagD [4, 5] (pick [(1, fun v w' => v = .agg #[.float .f64 p0, .float .f64 p1]), (3, fun v w' => v = .agg #[.float .f64 q0, .float .f64 q1]), (4, fun v w' => ∃ r, v = .pointer (some ⟨r, 0, none⟩) ∧ w.heap.size ≤ r ∧ BlkT w' r 34 #[.float .f64 0, .float .f64 0]), (5, fun v w' => ∃ r, v = .pointer (some ⟨r, 0, none⟩) ∧ w.heap.size ≤ r ∧ BlkT w' r 34 #[.float .f64 0, .float .f64 0])]) (pick_mono (bag_cons (fun v w1 w2 hv1 hb => hv1) (bag_cons (fun v w1 w2 hv3 hb => hv3) (bag_cons (fun v w1 w2 ⟨r4, hv4, hl4, hB4⟩ hb => ⟨r4, hv4, hl4, hB4.below hb⟩) (bag_cons (fun v w1 w2 ⟨r5, hv5, hl5, hB5⟩ hb => ⟨r5, hv5, hl5, hB5.below hb⟩) bag_nil))))) (fun w' hb => (HW.out.later hb).cells) (by simp [prE]) (fun _ _ _ _ _ h => h) (by decide) (bag_cons (bagD_one rfl (BagStep.other (by decide) ?_)) (bag_cons (bagD_one rfl (BagStep.other (by decide) ?_)) (bag_cons (bagD_one rfl (BagStep.fresh hAp ?_)) (bag_cons (bagD_one rfl (BagStep.fresh hAp ?_)) bag_nil)))) bag_nil ?_
 ·intro a' V hdf hin hdep hb1 K hK
  have i7 : a'.tmps[7]?.getD undef = .agg #[.int .u64 p0, .int .u64 p1] := evT (hin 7 (by decide))
  clear hin hdep hdf
  have HW := Lib.hid (HW.out.later hb1)
  go_simp
  refine (HOA.out _).mono ?_
  rintro e1 V2 ⟨rfl, hb2⟩
  exact hK _ _ rfl hb2
 ·intro a' V hdf hin hdep hb1 K hK
  have i9 : a'.tmps[9]?.getD undef = .agg #[.int .u64 q0, .int .u64 q1] := evT (hin 9 (by decide))
  clear hin hdep hdf
  have HW := Lib.hid (HW.out.later hb1)
  go_simp
  refine (HOB.out _).mono ?_
  rintro e1 V2 ⟨rfl, hb2⟩
  exact hK _ _ rfl hb2
 ·intro a' V hdf hin hdep hb1 K hK
  clear hin hdep hdf
  have HW := Lib.hid (HW.out.later hb1)
  go_simp
  exact hK _ ⟨_, rfl, HW.out.size, BlkT.new V _ _⟩ (Below.alloc_self _ _)
 ·intro a' V hdf hin hdep hb1 K hK
  clear hin hdep hdf
  have HW := Lib.hid (HW.out.later hb1)
  go_simp
  exact hK _ ⟨_, rfl, HW.out.size, BlkT.new V _ _⟩ (Below.alloc_self _ _)
 intro vals B1 hb1 hR hNE
 replace HW := Lib.hid (HW.out.later hb1)
 obtain hv1 : (fun (v : Value) (w' : World) => v = .agg #[.float .f64 p0, .float .f64 p1]) (vals 1) B1 := hR (1, 8) (by decide)
 dsimp only at hv1
 obtain hv3 : (fun (v : Value) (w' : World) => v = .agg #[.float .f64 q0, .float .f64 q1]) (vals 3) B1 := hR (3, 10) (by decide)
 dsimp only at hv3
 obtain ⟨r4, hv4, hl4, hB4⟩ : (fun (v : Value) (w' : World) => ∃ r, v = .pointer (some ⟨r, 0, none⟩) ∧ w.heap.size ≤ r ∧ BlkT w' r 34 #[.float .f64 0, .float .f64 0]) (vals 4) B1 := hR (4, 5) (by decide)
 obtain ⟨r5, hv5, hl5, hB5⟩ : (fun (v : Value) (w' : World) => ∃ r, v = .pointer (some ⟨r, 0, none⟩) ∧ w.heap.size ≤ r ∧ BlkT w' r 34 #[.float .f64 0, .float .f64 0]) (vals 5) B1 := hR (5, 6) (by decide)
 have hne4_5 := hNE (4, 5) (by decide) (5, 6) (by decide) (by decide) (by decide) (by decide) r4 r5 hv4 hv5
 clear hNE hAp
 clear hb1 hR
 simp only [prE, List.flatMap_cons, List.flatMap_nil, List.cons_append, List.nil_append, List.append_nil, setD, List.setIfInBounds_toArray, List.set_cons_zero, List.set_cons_succ, hv1, hv3, hv4, hv5]
 clear vals hv1 hv3 hv4 hv5
 refine wpPq_nil ?_
 simp only [drL]
 have HS := Lib.hid (S2b.make p0 p1 q0 q1 HW.out.2 hB4 hB5 hl4 hl5 hne4_5)
 obtain ⟨f60, f61, f62, f63⟩ := hB4.cells2
 obtain ⟨f70, f71, f72, f73⟩ := hB5.cells2
 have hne5_4 : r5 ≠ r4 := hne4_5.symm
 clear HW hB4 hB5 hl4 hl5
 go_upto_region 2 with fail
 clear f60 f61 f62 f63 f70 f71 f72 f73 hne4_5 hne5_4
 generalize World.setCell (World.setCell (World.setCell (World.setCell _ _ _) _ _) _ _) _ _ = W4 at HS ⊢
 refine wp_region_pl (fun w' : World => (w'.cell? ⟨r4, 0, none⟩ = some (.float .f64 p0) ∧ w'.cell? ⟨r4, 1, none⟩ = some (.float .f64 p1)) ∧ w'.cell? ⟨r5, 0, none⟩ = some (.float .f64 q0) ∧ w'.cell? ⟨r5, 1, none⟩ = some (.float .f64 q1)) 52 (.take 0 (.take 2 (.run 1 (.run 3 (.run 4 (.take 5 (.take 6 (.take 8 (.run 7 (.run 9 (.run 10 (.take 11 (.take 12 (.take 13 (.take 14 (.take 16 (.take 17 (.run 15 (.run 18 (.run 19 (.take 20 (.take 21 (.take 22 (.take 23 (.take 25 (.take 26 (.run 24 (.run 27 (.run 28 (.take 29 (.take 30 (.take 31 (.take 32 (.take 34 (.take 35 (.run 33 (.run 36 (.run 37 (.take 38 (.take 39 (.take 40 (.take 41 (.take 43 (.take 44 (.run 42 (.run 45 (.run 46 (.take 47 (.take 48 (.take 49 (.take 51 (.run 50 (.nil))))))))))))))))))))))))))))))))))))))))))))))))))))) (by kernel_rfl) (by kernel_rfl) ?_
 replace HS := Lib.hid (HS.out.later (drew_below _))
 generalize World.drew _ = W25 at HS ⊢
 repeat (refine tkL (v := ?_) rfl rfl rfl (fun w' hSw => ?_) HS.out.cells ?_; rotate_left; (focus (go_simp; with_reducible rfl)); simp only [setL])
 refine wpPl_goL rfl rfl fun K' hK => ?_
 go_simp
 refine (HPN.out _).mono ?_
 rintro e1 W25v1 ⟨rfl, hb1⟩
 replace HS := Lib.hid (HS.out.later hb1)
 refine hK _ _ HS.out.cells ?_
 clear hK K' hb1
 try simp only [Act.put, setL]
 repeat (refine tkL (v := ?_) rfl rfl rfl (fun w' hSw => ?_) HS.out.cells ?_; rotate_left; (focus (go_simp; with_reducible rfl)); simp only [setL])
 refine wpPl_goL rfl rfl fun K' hK => ?_
 go_simp
 refine (HRN.out _).mono ?_
 rintro e1 W25v2 ⟨rfl, hb1⟩
 replace HS := Lib.hid (HS.out.later hb1)
 refine hK _ _ HS.out.cells ?_
 clear hK K' hb1
 try simp only [Act.put, setL]
 repeat (refine tkL (v := ?_) rfl rfl rfl (fun w' hSw => ?_) HS.out.cells ?_; rotate_left; (focus (go_simp; with_reducible rfl)); simp only [setL])
 refine wpPl_goL rfl rfl fun K' hK => ?_
 go_simp
 refine (HSN.out _).mono ?_
 rintro e1 W25v3 ⟨rfl, hb1⟩
 replace HS := Lib.hid (HS.out.later hb1)
 refine hK _ _ HS.out.cells ?_
 clear hK K' hb1
 try simp only [Act.put, setL]
 repeat (refine tkL (v := ?_) rfl rfl rfl (fun w' hSw => ?_) HS.out.cells ?_; rotate_left; (focus (go_simp; with_reducible rfl)); simp only [setL])
 refine wpPl_goL rfl rfl fun K' hK => ?_
 go_simp
 refine (HPU.out _).mono ?_
 rintro e1 W25v4 ⟨rfl, hb1⟩
 replace HS := Lib.hid (HS.out.later hb1)
 refine hK _ _ HS.out.cells ?_
 clear hK K' hb1
 try simp only [Act.put, setL]
 repeat (refine tkL (v := ?_) rfl rfl rfl (fun w' hSw => ?_) HS.out.cells ?_; rotate_left; (focus (go_simp; with_reducible rfl)); simp only [setL])
 refine wpPl_goL rfl rfl fun K' hK => ?_
 go_simp
 refine (HRU.out _).mono ?_
 rintro e1 W25v5 ⟨rfl, hb1⟩
 replace HS := Lib.hid (HS.out.later hb1)
 refine hK _ _ HS.out.cells ?_
 clear hK K' hb1
 try simp only [Act.put, setL]
 repeat (refine tkL (v := ?_) rfl rfl rfl (fun w' hSw => ?_) HS.out.cells ?_; rotate_left; (focus (go_simp; with_reducible rfl)); simp only [setL])
 refine wpPl_goL rfl rfl fun K' hK => ?_
 go_simp
 refine (HSU.out _).mono ?_
 rintro e1 W25v6 ⟨rfl, hb1⟩
 replace HS := Lib.hid (HS.out.later hb1)
 refine hK _ _ HS.out.cells ?_
 clear hK K' hb1
 try simp only [Act.put, setL]
 repeat (refine tkL (v := ?_) rfl rfl rfl (fun w' hSw => ?_) HS.out.cells ?_; rotate_left; (focus (go_simp; with_reducible rfl)); simp only [setL])
 refine wpPl_goL rfl rfl fun K' hK => ?_
 go_simp
 refine (HPS.out _ (HT.out.below HS.out.1.2)).mono ?_
 rintro e1 W25v7 ⟨rfl, hb1⟩
 replace HS := Lib.hid (HS.out.later hb1)
 refine hK _ _ HS.out.cells ?_
 clear hK K' hb1
 try simp only [Act.put, setL]
 repeat (refine tkL (v := ?_) rfl rfl rfl (fun w' hSw => ?_) HS.out.cells ?_; rotate_left; (focus (go_simp; with_reducible rfl)); simp only [setL])
 refine wpPl_goL rfl rfl fun K' hK => ?_
 go_simp
 refine (HRS.out _).mono ?_
 rintro e1 W25v8 ⟨rfl, hb1⟩
 replace HS := Lib.hid (HS.out.later hb1)
 refine hK _ _ HS.out.cells ?_
 clear hK K' hb1
 try simp only [Act.put, setL]
 repeat (refine tkL (v := ?_) rfl rfl rfl (fun w' hSw => ?_) HS.out.cells ?_; rotate_left; (focus (go_simp; with_reducible rfl)); simp only [setL])
 refine wpPl_goL rfl rfl fun K' hK => ?_
 go_simp
 refine (HSS.out _).mono ?_
 rintro e1 W25v9 ⟨rfl, hb1⟩
 replace HS := Lib.hid (HS.out.later hb1)
 refine hK _ _ HS.out.cells ?_
 clear hK K' hb1
 try simp only [Act.put, setL]
 repeat (refine tkL (v := ?_) rfl rfl rfl (fun w' hSw => ?_) HS.out.cells ?_; rotate_left; (focus (go_simp; with_reducible rfl)); simp only [setL])
 refine wpPl_goL rfl rfl fun K' hK => ?_
 go_simp
 refine (HPD.out _ (HT.out.below HS.out.1.2)).mono ?_
 rintro e1 W25v10 ⟨rfl, hb1⟩
 replace HS := Lib.hid (HS.out.later hb1)
 refine hK _ _ HS.out.cells ?_
 clear hK K' hb1
 try simp only [Act.put, setL]
 repeat (refine tkL (v := ?_) rfl rfl rfl (fun w' hSw => ?_) HS.out.cells ?_; rotate_left; (focus (go_simp; with_reducible rfl)); simp only [setL])
 refine wpPl_goL rfl rfl fun K' hK => ?_
 go_simp
 refine (HRD.out _).mono ?_
 rintro e1 W25v11 ⟨rfl, hb1⟩
 replace HS := Lib.hid (HS.out.later hb1)
 refine hK _ _ HS.out.cells ?_
 clear hK K' hb1
 try simp only [Act.put, setL]
 repeat (refine tkL (v := ?_) rfl rfl rfl (fun w' hSw => ?_) HS.out.cells ?_; rotate_left; (focus (go_simp; with_reducible rfl)); simp only [setL])
 refine wpPl_goL rfl rfl fun K' hK => ?_
 go_simp
 refine (HSD.out _).mono ?_
 rintro e1 W25v12 ⟨rfl, hb1⟩
 replace HS := Lib.hid (HS.out.later hb1)
 refine hK _ _ HS.out.cells ?_
 clear hK K' hb1
 try simp only [Act.put, setL]
 repeat (refine tkL (v := ?_) rfl rfl rfl (fun w' hSw => ?_) HS.out.cells ?_; rotate_left; (focus (go_simp; with_reducible rfl)); simp only [setL])
 refine wpPl_goL rfl rfl fun K' hK => ?_
 go_simp
 refine (HPM.out _ (HT.out.below HS.out.1.2)).mono ?_
 rintro e1 W25v13 ⟨rfl, hb1⟩
 replace HS := Lib.hid (HS.out.later hb1)
 refine hK _ _ HS.out.cells ?_
 clear hK K' hb1
 try simp only [Act.put, setL]
 repeat (refine tkL (v := ?_) rfl rfl rfl (fun w' hSw => ?_) HS.out.cells ?_; rotate_left; (focus (go_simp; with_reducible rfl)); simp only [setL])
 refine wpPl_goL rfl rfl fun K' hK => ?_
 go_simp
 refine (HRM.out _).mono ?_
 rintro e1 W25v14 ⟨rfl, hb1⟩
 replace HS := Lib.hid (HS.out.later hb1)
 refine hK _ _ HS.out.cells ?_
 clear hK K' hb1
 try simp only [Act.put, setL]
 repeat (refine tkL (v := ?_) rfl rfl rfl (fun w' hSw => ?_) HS.out.cells ?_; rotate_left; (focus (go_simp; with_reducible rfl)); simp only [setL])
 refine wpPl_goL rfl rfl fun K' hK => ?_
 go_simp
 refine (HSM.out _).mono ?_
 rintro e1 W25v15 ⟨rfl, hb1⟩
 replace HS := Lib.hid (HS.out.later hb1)
 refine hK _ _ HS.out.cells ?_
 clear hK K' hb1
 try simp only [Act.put, setL]
 repeat (refine tkL (v := ?_) rfl rfl rfl (fun w' hSw => ?_) HS.out.cells ?_; rotate_left; (focus (go_simp; with_reducible rfl)); simp only [setL])
 refine wpPl_goL rfl rfl fun K' hK => ?_
 go_simp
 refine (HPQ.out _ (HT.out.below HS.out.1.2)).mono ?_
 rintro e1 W25v16 ⟨rfl, hb1⟩
 replace HS := Lib.hid (HS.out.later hb1)
 refine hK _ _ HS.out.cells ?_
 clear hK K' hb1
 try simp only [Act.put, setL]
 repeat (refine tkL (v := ?_) rfl rfl rfl (fun w' hSw => ?_) HS.out.cells ?_; rotate_left; (focus (go_simp; with_reducible rfl)); simp only [setL])
 refine wpPl_goL rfl rfl fun K' hK => ?_
 go_simp
 refine (HRQ.out _).mono ?_
 rintro e1 W25v17 ⟨rfl, hb1⟩
 replace HS := Lib.hid (HS.out.later hb1)
 refine hK _ _ HS.out.cells ?_
 clear hK K' hb1
 try simp only [Act.put, setL]
 repeat (refine tkL (v := ?_) rfl rfl rfl (fun w' hSw => ?_) HS.out.cells ?_; rotate_left; (focus (go_simp; with_reducible rfl)); simp only [setL])
 refine wpPl_goL rfl rfl fun K' hK => ?_
 go_simp
 refine (HSQ.out _).mono ?_
 rintro e1 W25v18 ⟨rfl, hb1⟩
 replace HS := Lib.hid (HS.out.later hb1)
 refine hK _ _ HS.out.cells ?_
 clear hK K' hb1
 try simp only [Act.put, setL]
 repeat (refine tkL (v := ?_) rfl rfl rfl (fun w' hSw => ?_) HS.out.cells ?_; rotate_left; (focus (go_simp; with_reducible rfl)); simp only [setL])
 refine wpPl_goL rfl rfl fun K' hK => ?_
 go_simp
 refine (HPR.out _ (HT.out.below HS.out.1.2)).mono ?_
 rintro e1 W25v19 ⟨rfl, hb1⟩
 replace HS := Lib.hid (HS.out.later hb1)
 refine hK _ _ HS.out.cells ?_
 clear hK K' hb1
 try simp only [Act.put, setL]
 repeat (refine tkL (v := ?_) rfl rfl rfl (fun w' hSw => ?_) HS.out.cells ?_; rotate_left; (focus (go_simp; with_reducible rfl)); simp only [setL])
 refine wpPl_nil ?_
 simp only [drL]
 obtain ⟨⟨g0, g1⟩, g2, g3⟩ := HS.out.cells
 go_wp2_with fail
 refine (HRR.out _).mono ?_
 rintro e58 w58 ⟨rfl, hb58⟩
 replace HS := Lib.hid (HS.out.later hb58)
 clear hb58
 clear g0 g1 g2 g3
 obtain ⟨⟨g0, g1⟩, g2, g3⟩ := HS.out.cells
 go_wp2_with fail
 refine (HSR.out _).mono ?_
 rintro e59 w59 ⟨rfl, hb59⟩
 replace HS := Lib.hid (HS.out.later hb59)
 clear hb59
 clear g0 g1 g2 g3
 obtain ⟨⟨g0, g1⟩, g2, g3⟩ := HS.out.cells
 go_wp2_with fail
 refine (HAW.out _ (HT.out.below HS.out.1.2)).mono ?_
 rintro e60 w60 ⟨rfl, hb60⟩
 replace HS := Lib.hid (HS.out.later hb60)
 clear hb60
 clear g0 g1 g2 g3
 obtain ⟨⟨g0, g1⟩, g2, g3⟩ := HS.out.cells
 go_wp2
 go_ret
 exact ⟨rfl, HS.out.1.2⟩
end Go.Proofs.YtloohbkceppocaaGreatDoor
