/- Walk: IntervalSets. Printed by wip/gen/iv11.py. -/
import Derived.Test.YtfjhhhccimpnjaaGreatDoorIG
import Derived.Deep.CutRange
namespace Go.Proofs.YtfjhhhccimpnjaaGreatDoor
open Go.RowKit
attribute [local go_sem] run_store_f

set_option maxRecDepth 100000 in
set_option maxHeartbeats 12800000 in
theorem intervalSets_any (p0 p1 q0 q1 r0 r1 : Nat) (w : World) (hp0 : W64 p0) (hp1 : W64 p1) (hq0 : W64 q0) (hq1 : W64 q1) (hr0 : W64 r0) (hr1 : W64 r1) (hT : TabB w) :
    Calls Tryz.prog 3 #[.agg #[.int .u64 p0, .int .u64 p1], .agg #[.int .u64 q0, .int .u64 q1], .agg #[.int .u64 r0, .int .u64 r1]] w (Gives (.bool true) w) := by
  have okA := ivK_ok hp0 hp1
  have okB := ivK_ok hq0 hq1
  have okC := ivK_ok hr0 hr1
  have HAW := Lib.hid fun W ht => awake6_any W ht
  have HOA := Lib.hid fun W => lof_any p0 p1 W
  have HOB := Lib.hid fun W => lof_any q0 q1 W
  have HOC := Lib.hid fun W => lof_any r0 r1 W
  have HT := Lib.hid hT
  have ok_ab := hullK_ok okA okB
  have ok_bc := hullK_ok okB okC
  have ok_mab := meetK_ok okA okB
  have ok_mbc := meetK_ok okB okC
  have HUab := Lib.hid fun W => hull_any p0 p1 q0 q1 W hp0 hp1 hq0 hq1
  have HUba := Lib.hid fun W => hull_any q0 q1 p0 p1 W hq0 hq1 hp0 hp1
  rw [hull_comm] at HUba
  have HUbc := Lib.hid fun W => hull_any q0 q1 r0 r1 W hq0 hq1 hr0 hr1
  have HUa_bc := Lib.hid fun W => hull_any p0 p1 (ivL (hullK (ivK q0 q1) (ivK r0 r1))) (ivH (hullK (ivK q0 q1) (ivK r0 r1))) W hp0 hp1 (ivL_lt ok_bc) (ivH_lt ok_bc)
  rw [ivK_back ok_bc, hull_assoc] at HUa_bc
  have HUab_c := Lib.hid fun W => hull_any (ivL (hullK (ivK p0 p1) (ivK q0 q1))) (ivH (hullK (ivK p0 p1) (ivK q0 q1))) r0 r1 W (ivL_lt ok_ab) (ivH_lt ok_ab) hr0 hr1
  rw [ivK_back ok_ab] at HUab_c
  have HMe := Lib.hid fun W => meet_any p0 p1 (ivL (hullK (ivK p0 p1) (ivK q0 q1))) (ivH (hullK (ivK p0 p1) (ivK q0 q1))) W hp0 hp1 (ivL_lt ok_ab) (ivH_lt ok_ab)
  rw [ivK_back ok_ab, meet_hull okA] at HMe
  have HMab := Lib.hid fun W => meet_any p0 p1 q0 q1 W hp0 hp1 hq0 hq1
  have HMba := Lib.hid fun W => meet_any q0 q1 p0 p1 W hq0 hq1 hp0 hp1
  rw [meet_comm] at HMba
  have HMbc := Lib.hid fun W => meet_any q0 q1 r0 r1 W hq0 hq1 hr0 hr1
  have HMa_bc := Lib.hid fun W => meet_any p0 p1 (ivL (meetK (ivK q0 q1) (ivK r0 r1))) (ivH (meetK (ivK q0 q1) (ivK r0 r1))) W hp0 hp1 (ivL_lt ok_mbc) (ivH_lt ok_mbc)
  rw [ivK_back ok_mbc, meet_assoc okA okB okC] at HMa_bc
  have HMab_c := Lib.hid fun W => meet_any (ivL (meetK (ivK p0 p1) (ivK q0 q1))) (ivH (meetK (ivK p0 p1) (ivK q0 q1))) r0 r1 W (ivL_lt ok_mab) (ivH_lt ok_mab) hr0 hr1
  rw [ivK_back ok_mab] at HMab_c
  have HUaa := Lib.hid fun W => hull_any p0 p1 p0 p1 W hp0 hp1 hp0 hp1
  rw [hull_self] at HUaa
  have HUbb := Lib.hid fun W => hull_any q0 q1 q0 q1 W hq0 hq1 hq0 hq1
  rw [hull_self] at HUbb
  have HIab := Lib.hid fun W => in_any p0 p1 q0 q1 W hp0 hp1 hq0 hq1
  have HIbc := Lib.hid fun W => in_any q0 q1 r0 r1 W hq0 hq1 hr0 hr1
  have HIac := Lib.hid fun W => in_any p0 p1 r0 r1 W hp0 hp1 hr0 hr1
  have HIba := Lib.hid fun W => in_any q0 q1 p0 p1 W hq0 hq1 hp0 hp1
  have HIaa := Lib.hid fun W => in_any p0 p1 p0 p1 W hp0 hp1 hp0 hp1
  rw [in_self] at HIaa
  have HMt := Lib.hid fun W => meets_any p0 p1 q0 q1 W hp0 hp1 hq0 hq1
  rw [meets_meet] at HMt
  have ok_h3 := hullK_ok ok_ab okC
  have ok_m3 := meetK_ok ok_mab okC
  have HS1 := Lib.hid fun W => lsame_any (ivL (hullK (ivK p0 p1) (ivK q0 q1))) (ivH (hullK (ivK p0 p1) (ivK q0 q1))) (ivL (hullK (ivK p0 p1) (ivK q0 q1))) (ivH (hullK (ivK p0 p1) (ivK q0 q1))) W
  rw [saB_iv ok_ab ok_ab] at HS1
  rw [decide_eq_true rfl] at HS1
  have HS2 := Lib.hid fun W => lsame_any (ivL (meetK (ivK p0 p1) (ivK q0 q1))) (ivH (meetK (ivK p0 p1) (ivK q0 q1))) (ivL (meetK (ivK p0 p1) (ivK q0 q1))) (ivH (meetK (ivK p0 p1) (ivK q0 q1))) W
  rw [saB_iv ok_mab ok_mab] at HS2
  rw [decide_eq_true rfl] at HS2
  have HS3 := Lib.hid fun W => lsame_any (ivL (hullK (hullK (ivK p0 p1) (ivK q0 q1)) (ivK r0 r1))) (ivH (hullK (hullK (ivK p0 p1) (ivK q0 q1)) (ivK r0 r1))) (ivL (hullK (hullK (ivK p0 p1) (ivK q0 q1)) (ivK r0 r1))) (ivH (hullK (hullK (ivK p0 p1) (ivK q0 q1)) (ivK r0 r1))) W
  rw [saB_iv ok_h3 ok_h3] at HS3
  rw [decide_eq_true rfl] at HS3
  have HS4 := Lib.hid fun W => lsame_any (ivL (meetK (meetK (ivK p0 p1) (ivK q0 q1)) (ivK r0 r1))) (ivH (meetK (meetK (ivK p0 p1) (ivK q0 q1)) (ivK r0 r1))) (ivL (meetK (meetK (ivK p0 p1) (ivK q0 q1)) (ivK r0 r1))) (ivH (meetK (meetK (ivK p0 p1) (ivK q0 q1)) (ivK r0 r1))) W
  rw [saB_iv ok_m3 ok_m3] at HS4
  rw [decide_eq_true rfl] at HS4
  have HS5 := Lib.hid fun W => lsame_any (ivL (ivK p0 p1)) (ivH (ivK p0 p1)) (ivL (ivK q0 q1)) (ivH (ivK q0 q1)) W
  rw [saB_iv okA okB] at HS5
  have HS6 := Lib.hid fun W => lsame_any (ivL (meetK (ivK p0 p1) (ivK q0 q1))) (ivH (meetK (ivK p0 p1) (ivK q0 q1))) 9218868437227405312 18442240474082181120 W
  rw [show saB (ivL (meetK (ivK p0 p1) (ivK q0 q1))) (ivH (meetK (ivK p0 p1) (ivK q0 q1))) 9218868437227405312 18442240474082181120 = decide (meetK (ivK p0 p1) (ivK q0 q1) = none) from saB_iv ok_mab Iok.none] at HS6
  have HS0 := Lib.hid fun W => lsame_any 9218868437227405312 18442240474082181120 9218868437227405312 18442240474082181120 W
  rw [show saB 9218868437227405312 18442240474082181120 9218868437227405312 18442240474082181120 = true by decide] at HS0
  have HE := Lib.hid fun W => empty_any W
  have HIS := Lib.hid fun W => is_iv p0 p1 W hp0 hp1
  have hful := is_full hp0 hp1
  have hm1 : decide (meetK (ivK p0 p1) (ivK q0 q1) = none) = !(meetK (ivK p0 p1) (ivK q0 q1)).isSome := by cases meetK (ivK p0 p1) (ivK q0 q1) <;> simp
  rw [hm1] at HS6
  generalize (meetK (ivK p0 p1) (ivK q0 q1)).isSome = bm at *
  have htr := in_trans (a := ivK p0 p1) (b := ivK q0 q1) (c := ivK r0 r1)
  have han := in_anti (a := ivK p0 p1) (b := ivK q0 q1)
  obtain ⟨t1, hi1⟩ : ∃ t, inK (ivK p0 p1) (ivK q0 q1) = t := ⟨_, rfl⟩
  obtain ⟨t2, hi2⟩ : ∃ t, inK (ivK q0 q1) (ivK r0 r1) = t := ⟨_, rfl⟩
  obtain ⟨t3, hi3⟩ : ∃ t, inK (ivK p0 p1) (ivK r0 r1) = t := ⟨_, rfl⟩
  obtain ⟨t4, hi4⟩ : ∃ t, inK (ivK q0 q1) (ivK p0 p1) = t := ⟨_, rfl⟩
  obtain ⟨t5, hi5⟩ : ∃ t, decide (ivK p0 p1 = ivK q0 q1) = t := ⟨_, rfl⟩
  rw [hi1] at HIab htr han
  rw [hi2] at HIbc htr
  rw [hi3] at HIac htr
  rw [hi4] at HIba han
  rw [hi5] at HS5
  have HTR : Hid (t1 = true → t2 = true → t3 = true) := Lib.hid htr
  have HAN : Hid (t1 = true → t4 = true → t5 = true) := Lib.hid fun h1 h4 => by rw [← hi5]; exact decide_eq_true (han h1 h4)
  have HF : Hid (((ivK p0 p1).isSome = true ∧ (FloatKind.f64.format.order (ivL (ivK p0 p1)) p0 == some Ordering.eq) = true ∧ (FloatKind.f64.format.order (ivH (ivK p0 p1)) p1 == some Ordering.eq) = true) ∨ ((ivK p0 p1).isSome = false ∧ ivL (ivK p0 p1) = 9218868437227405312 ∧ ivH (ivK p0 p1) = 18442240474082181120)) := by
    rcases e1 : ivK p0 p1 with _ | p
    · exact Lib.hid (.inr ⟨rfl, rfl, rfl⟩)
    · obtain ⟨nl, nh, rfl⟩ := ivK_some e1
      exact Lib.hid (.inl ⟨rfl, eq_own hp0 nl, eq_own hp1 nh⟩)
  clear htr han hi1 hi2 hi3 hi4 hi5 hm1 okA okB okC ok_ab ok_bc ok_mab ok_mbc ok_h3 ok_m3 hp0 hp1 hq0 hq1 hr0 hr1 hT
  generalize ivL (hullK (hullK (ivK p0 p1) (ivK q0 q1)) (ivK r0 r1)) = u0 at *
  generalize ivH (hullK (hullK (ivK p0 p1) (ivK q0 q1)) (ivK r0 r1)) = u1 at *
  generalize ivL (meetK (meetK (ivK p0 p1) (ivK q0 q1)) (ivK r0 r1)) = v0 at *
  generalize ivH (meetK (meetK (ivK p0 p1) (ivK q0 q1)) (ivK r0 r1)) = v1 at *
  generalize ivL (hullK (ivK p0 p1) (ivK q0 q1)) = x0 at *
  generalize ivH (hullK (ivK p0 p1) (ivK q0 q1)) = x1 at *
  generalize ivL (hullK (ivK q0 q1) (ivK r0 r1)) = y0 at *
  generalize ivH (hullK (ivK q0 q1) (ivK r0 r1)) = y1 at *
  generalize ivL (meetK (ivK p0 p1) (ivK q0 q1)) = n0 at *
  generalize ivH (meetK (ivK p0 p1) (ivK q0 q1)) = n1 at *
  generalize ivL (meetK (ivK q0 q1) (ivK r0 r1)) = k0 at *
  generalize ivH (meetK (ivK q0 q1) (ivK r0 r1)) = k1 at *
  generalize ivL (ivK p0 p1) = a0 at *
  generalize ivH (ivK p0 p1) = a1 at *
  generalize ivL (ivK q0 q1) = b0 at *
  generalize ivH (ivK q0 q1) = b1 at *
  generalize (ivK p0 p1).isSome = F at *
  generalize isB p0 p1 = IS at *
  have HFU := Lib.hid hful
  clear hful
  have HW0 := Lib.hid (EB3.new w p0 p1 q0 q1 r0 r1)
  go_enter Tryz.func3, Tryz.ntmps3
  go_wp2_with fail
  refine (HAW.out _ (HT.out.below HW0.out.2)).mono ?_
  rintro e1 w1 ⟨rfl, hb1⟩
  have HW := Lib.hid (HW0.out.later hb1)
  clear HW0 hb1 HAW
  go_wp2
  refine wp_region_q (fun w' : World => ((w'.cell? ⟨w.heap.size, 0, none⟩ = some (.int .u64 p0) ∧ w'.cell? ⟨w.heap.size, 1, none⟩ = some (.int .u64 p1)) ∧ w'.cell? ⟨w.heap.size + 1, 0, none⟩ = some (.int .u64 q0) ∧ w'.cell? ⟨w.heap.size + 1, 1, none⟩ = some (.int .u64 q1)) ∧ w'.cell? ⟨w.heap.size + 1 + 1, 0, none⟩ = some (.int .u64 r0) ∧ w'.cell? ⟨w.heap.size + 1 + 1, 1, none⟩ = some (.int .u64 r1)) 9 (.take 0 (.take 2 (.take 4 (.bag [(1, 15, []), (3, 17, []), (5, 19, []), (6, 7, []), (7, 8, []), (8, 9, [])] .nil)))) (by kernel_rfl) (by kernel_rfl) ?_
  replace HW := Lib.hid (HW.out.later (drew_below w1))
  generalize w1.drew = W3 at HW ⊢
  have hS : (fun w' : World => ((w'.cell? ⟨w.heap.size, 0, none⟩ = some (.int .u64 p0) ∧ w'.cell? ⟨w.heap.size, 1, none⟩ = some (.int .u64 p1)) ∧ w'.cell? ⟨w.heap.size + 1, 0, none⟩ = some (.int .u64 q0) ∧ w'.cell? ⟨w.heap.size + 1, 1, none⟩ = some (.int .u64 q1)) ∧ w'.cell? ⟨w.heap.size + 1 + 1, 0, none⟩ = some (.int .u64 r0) ∧ w'.cell? ⟨w.heap.size + 1 + 1, 1, none⟩ = some (.int .u64 r1)) W3 := HW.out.cells
  repeat (refine wpPq_takeL (v := ?_) rfl rfl (fun _ _ _ h => h) rfl (fun w' hSw => ?_) hS ?_; rotate_left; (focus (go_simp; with_reducible rfl)); simp only [List.setIfInBounds_toArray, List.set_cons_zero, List.set_cons_succ])
  clear hS
  have hAp : ∀ j ∈ ([6, 7, 8] : List Nat), ∀ s w', (pick [(1, fun v w' => v = .agg #[.float .f64 p0, .float .f64 p1]), (3, fun v w' => v = .agg #[.float .f64 q0, .float .f64 q1]), (5, fun v w' => v = .agg #[.float .f64 r0, .float .f64 r1]), (6, fun v w' => ∃ r, v = .pointer (some ⟨r, 0, none⟩) ∧ w.heap.size ≤ r ∧ BlkT w' r 28 #[.float .f64 0, .float .f64 0]), (7, fun v w' => ∃ r, v = .pointer (some ⟨r, 0, none⟩) ∧ w.heap.size ≤ r ∧ BlkT w' r 28 #[.float .f64 0, .float .f64 0]), (8, fun v w' => ∃ r, v = .pointer (some ⟨r, 0, none⟩) ∧ w.heap.size ≤ r ∧ BlkT w' r 28 #[.float .f64 0, .float .f64 0])]) j (.pointer (some ⟨s, 0, none⟩)) w' → s < w'.heap.size := (bag_cons (fun s w' h => by obtain ⟨r, hr, -, hB⟩ := (h : (fun (v : Value) (w' : World) => ∃ r, v = .pointer (some ⟨r, 0, none⟩) ∧ w.heap.size ≤ r ∧ BlkT w' r 28 #[.float .f64 0, .float .f64 0]) (.pointer (some ⟨s, 0, none⟩)) w'); simp only [Value.pointer.injEq, Option.some.injEq, Addr.mk.injEq, and_true] at hr; subst hr; exact hB.lt) (bag_cons (fun s w' h => by obtain ⟨r, hr, -, hB⟩ := (h : (fun (v : Value) (w' : World) => ∃ r, v = .pointer (some ⟨r, 0, none⟩) ∧ w.heap.size ≤ r ∧ BlkT w' r 28 #[.float .f64 0, .float .f64 0]) (.pointer (some ⟨s, 0, none⟩)) w'); simp only [Value.pointer.injEq, Option.some.injEq, Addr.mk.injEq, and_true] at hr; subst hr; exact hB.lt) (bag_cons (fun s w' h => by obtain ⟨r, hr, -, hB⟩ := (h : (fun (v : Value) (w' : World) => ∃ r, v = .pointer (some ⟨r, 0, none⟩) ∧ w.heap.size ≤ r ∧ BlkT w' r 28 #[.float .f64 0, .float .f64 0]) (.pointer (some ⟨s, 0, none⟩)) w'); simp only [Value.pointer.injEq, Option.some.injEq, Addr.mk.injEq, and_true] at hr; subst hr; exact hB.lt) bag_nil)))
  refine wpPq_bagD [6, 7, 8] (pick [(1, fun v w' => v = .agg #[.float .f64 p0, .float .f64 p1]), (3, fun v w' => v = .agg #[.float .f64 q0, .float .f64 q1]), (5, fun v w' => v = .agg #[.float .f64 r0, .float .f64 r1]), (6, fun v w' => ∃ r, v = .pointer (some ⟨r, 0, none⟩) ∧ w.heap.size ≤ r ∧ BlkT w' r 28 #[.float .f64 0, .float .f64 0]), (7, fun v w' => ∃ r, v = .pointer (some ⟨r, 0, none⟩) ∧ w.heap.size ≤ r ∧ BlkT w' r 28 #[.float .f64 0, .float .f64 0]), (8, fun v w' => ∃ r, v = .pointer (some ⟨r, 0, none⟩) ∧ w.heap.size ≤ r ∧ BlkT w' r 28 #[.float .f64 0, .float .f64 0])]) (pick_mono (bag_cons (fun v w1 w2 hv1 hb => hv1) (bag_cons (fun v w1 w2 hv3 hb => hv3) (bag_cons (fun v w1 w2 hv5 hb => hv5) (bag_cons (fun v w1 w2 ⟨r6, hv6, hl6, hB6⟩ hb => ⟨r6, hv6, hl6, hB6.below hb⟩) (bag_cons (fun v w1 w2 ⟨r7, hv7, hl7, hB7⟩ hb => ⟨r7, hv7, hl7, hB7.below hb⟩) (bag_cons (fun v w1 w2 ⟨r8, hv8, hl8, hB8⟩ hb => ⟨r8, hv8, hl8, hB8.below hb⟩) bag_nil))))))) (fun w' hb => (HW.out.later hb).cells) (by simp [prE]) (fun _ _ _ _ _ h => h) (by decide) (bag_cons (bagD_one rfl (BagStep.other (by decide) ?_)) (bag_cons (bagD_one rfl (BagStep.other (by decide) ?_)) (bag_cons (bagD_one rfl (BagStep.other (by decide) ?_)) (bag_cons (bagD_one rfl (BagStep.fresh hAp ?_)) (bag_cons (bagD_one rfl (BagStep.fresh hAp ?_)) (bag_cons (bagD_one rfl (BagStep.fresh hAp ?_)) bag_nil)))))) bag_nil ?_
  · intro a' V hdf hin hdep hb1 K hK
    have i14 : a'.tmps[14]?.getD undef = .agg #[.int .u64 p0, .int .u64 p1] := evT (hin 14 (by decide))
    clear hin hdep hdf
    have HW := Lib.hid (HW.out.later hb1)
    go_simp
    refine (HOA.out _).mono ?_
    rintro e1 V2 ⟨rfl, hb2⟩
    exact hK _ _ rfl hb2
  · intro a' V hdf hin hdep hb1 K hK
    have i16 : a'.tmps[16]?.getD undef = .agg #[.int .u64 q0, .int .u64 q1] := evT (hin 16 (by decide))
    clear hin hdep hdf
    have HW := Lib.hid (HW.out.later hb1)
    go_simp
    refine (HOB.out _).mono ?_
    rintro e1 V2 ⟨rfl, hb2⟩
    exact hK _ _ rfl hb2
  · intro a' V hdf hin hdep hb1 K hK
    have i18 : a'.tmps[18]?.getD undef = .agg #[.int .u64 r0, .int .u64 r1] := evT (hin 18 (by decide))
    clear hin hdep hdf
    have HW := Lib.hid (HW.out.later hb1)
    go_simp
    refine (HOC.out _).mono ?_
    rintro e1 V2 ⟨rfl, hb2⟩
    exact hK _ _ rfl hb2
  · intro a' V hdf hin hdep hb1 K hK
    clear hin hdep hdf
    have HW := Lib.hid (HW.out.later hb1)
    go_simp
    exact hK _ ⟨_, rfl, HW.out.size, BlkT.new V _ _⟩ (Below.alloc_self _ _)
  · intro a' V hdf hin hdep hb1 K hK
    clear hin hdep hdf
    have HW := Lib.hid (HW.out.later hb1)
    go_simp
    exact hK _ ⟨_, rfl, HW.out.size, BlkT.new V _ _⟩ (Below.alloc_self _ _)
  · intro a' V hdf hin hdep hb1 K hK
    clear hin hdep hdf
    have HW := Lib.hid (HW.out.later hb1)
    go_simp
    exact hK _ ⟨_, rfl, HW.out.size, BlkT.new V _ _⟩ (Below.alloc_self _ _)
  intro vals B1 hb1 hR hNE
  replace HW := Lib.hid (HW.out.later hb1)
  obtain hv1 : (fun (v : Value) (w' : World) => v = .agg #[.float .f64 p0, .float .f64 p1]) (vals 1) B1 := hR (1, 15) (by decide)
  dsimp only at hv1
  obtain hv3 : (fun (v : Value) (w' : World) => v = .agg #[.float .f64 q0, .float .f64 q1]) (vals 3) B1 := hR (3, 17) (by decide)
  dsimp only at hv3
  obtain hv5 : (fun (v : Value) (w' : World) => v = .agg #[.float .f64 r0, .float .f64 r1]) (vals 5) B1 := hR (5, 19) (by decide)
  dsimp only at hv5
  obtain ⟨r6, hv6, hl6, hB6⟩ : (fun (v : Value) (w' : World) => ∃ r, v = .pointer (some ⟨r, 0, none⟩) ∧ w.heap.size ≤ r ∧ BlkT w' r 28 #[.float .f64 0, .float .f64 0]) (vals 6) B1 := hR (6, 7) (by decide)
  obtain ⟨r7, hv7, hl7, hB7⟩ : (fun (v : Value) (w' : World) => ∃ r, v = .pointer (some ⟨r, 0, none⟩) ∧ w.heap.size ≤ r ∧ BlkT w' r 28 #[.float .f64 0, .float .f64 0]) (vals 7) B1 := hR (7, 8) (by decide)
  obtain ⟨r8, hv8, hl8, hB8⟩ : (fun (v : Value) (w' : World) => ∃ r, v = .pointer (some ⟨r, 0, none⟩) ∧ w.heap.size ≤ r ∧ BlkT w' r 28 #[.float .f64 0, .float .f64 0]) (vals 8) B1 := hR (8, 9) (by decide)
  have hne6_7 := hNE (6, 7) (by decide) (7, 8) (by decide) (by decide) (by decide) (by decide) r6 r7 hv6 hv7
  have hne6_8 := hNE (6, 7) (by decide) (8, 9) (by decide) (by decide) (by decide) (by decide) r6 r8 hv6 hv8
  have hne7_8 := hNE (7, 8) (by decide) (8, 9) (by decide) (by decide) (by decide) (by decide) r7 r8 hv7 hv8
  clear hNE hAp
  clear hb1 hR
  simp only [prE, List.flatMap_cons, List.flatMap_nil, List.cons_append, List.nil_append, List.append_nil, setD, List.setIfInBounds_toArray, List.set_cons_zero, List.set_cons_succ, hv1, hv3, hv5, hv6, hv7, hv8]
  clear vals hv1 hv3 hv5 hv6 hv7 hv8
  refine wpPq_nil ?_
  simp only [List.drop_succ_cons, List.drop_zero]
  have HS := Lib.hid (S3b.make p0 p1 q0 q1 r0 r1 HW.out.2 hB6 hB7 hB8 hl6 hl7 hl8 hne6_7 hne6_8 hne7_8)
  obtain ⟨f60, f61, f62, f63⟩ := hB6.cells2
  obtain ⟨f70, f71, f72, f73⟩ := hB7.cells2
  obtain ⟨f80, f81, f82, f83⟩ := hB8.cells2
  have hne7_6 : r7 ≠ r6 := hne6_7.symm
  have hne8_6 : r8 ≠ r6 := hne6_8.symm
  have hne8_7 : r8 ≠ r7 := hne7_8.symm
  clear HW hB6 hB7 hB8 hl6 hl7 hl8
  go_wp2
  refine wp_region_q (fun w' : World => ((w'.cell? ⟨r6, 0, none⟩ = some (.float .f64 p0) ∧ w'.cell? ⟨r6, 1, none⟩ = some (.float .f64 p1)) ∧ w'.cell? ⟨r7, 0, none⟩ = some (.float .f64 q0) ∧ w'.cell? ⟨r7, 1, none⟩ = some (.float .f64 q1)) ∧ w'.cell? ⟨r8, 0, none⟩ = some (.float .f64 r0) ∧ w'.cell? ⟨r8, 1, none⟩ = some (.float .f64 r1)) 6 (.take 0 (.take 1 (.take 2 (.bag [(3, 23, []), (4, 24, []), (5, 10, [])] .nil)))) (by kernel_rfl) (by kernel_rfl) ?_
  replace HS := Lib.hid (HS.out.later (drew_below _))
  generalize World.drew _ = W4 at HS ⊢
  have HSZ : Hid (SzLe W4 W4.heap.size) := Lib.hid (Nat.le_refl _)
  have HLT := Lib.hid HS.out.lt
  have HSW : Hid (w.heap.size ≤ W4.heap.size) := Lib.hid HS.out.2.2.size
  generalize W4.heap.size = nB at HSZ HLT HSW
  clear f60 f61 f62 f63 f70 f71 f72 f73 f80 f81 f82 f83 hne6_7 hne6_8 hne7_8 hne7_6 hne8_6 hne8_7
  have hS : (fun w' : World => ((w'.cell? ⟨r6, 0, none⟩ = some (.float .f64 p0) ∧ w'.cell? ⟨r6, 1, none⟩ = some (.float .f64 p1)) ∧ w'.cell? ⟨r7, 0, none⟩ = some (.float .f64 q0) ∧ w'.cell? ⟨r7, 1, none⟩ = some (.float .f64 q1)) ∧ w'.cell? ⟨r8, 0, none⟩ = some (.float .f64 r0) ∧ w'.cell? ⟨r8, 1, none⟩ = some (.float .f64 r1)) W4 := HS.out.cells
  repeat (refine wpPq_takeL (v := ?_) rfl rfl (fun _ _ _ h => h) rfl (fun w' hSw => ?_) hS ?_; rotate_left; (focus (go_simp; with_reducible rfl)); simp only [List.setIfInBounds_toArray, List.set_cons_zero, List.set_cons_succ])
  clear hS
  refine wpPq_bag (pick [(3, fun v w' => v = .agg #[.float .f64 x0, .float .f64 x1]), (4, fun v w' => v = .agg #[.float .f64 a0, .float .f64 a1]), (5, fun v w' => ∃ r, v = .pointer (some ⟨r, 0, none⟩) ∧ nB ≤ r ∧ BlkT w' r 28 #[.float .f64 0, .float .f64 0])]) (pick_mono (bag_cons (fun v w1 w2 hv3 hb => hv3) (bag_cons (fun v w1 w2 hv4 hb => hv4) (bag_cons (fun v w1 w2 ⟨rm, hv5, hl5, hB5⟩ hb => ⟨rm, hv5, hl5, hB5.below hb⟩) bag_nil)))) (fun w' hb => (HS.out.later hb).cells) (by simp [prE]) (fun _ _ _ _ _ h => h) (bag_cons (bag_one rfl ?_) (bag_cons (bag_one rfl ?_) (bag_cons (bag_one rfl ?_) bag_nil))) bag_nil ?_
  · intro a' V hdf hin hdep hb1 K hK
    have i21 : a'.tmps[21]?.getD undef = .agg #[.float .f64 p0, .float .f64 p1] := evT (hin 21 (by decide))
    have i22 : a'.tmps[22]?.getD undef = .agg #[.float .f64 q0, .float .f64 q1] := evT (hin 22 (by decide))
    clear hin hdep hdf
    have HS := Lib.hid (HS.out.later hb1)
    have HSZ := Lib.hid (HSZ.out.below hb1)
    go_simp
    refine (HUab.out _).mono ?_
    rintro e1 V2 ⟨rfl, hb2⟩
    exact hK _ _ rfl hb2
  · intro a' V hdf hin hdep hb1 K hK
    have i20 : a'.tmps[20]?.getD undef = .agg #[.float .f64 p0, .float .f64 p1] := evT (hin 20 (by decide))
    obtain hv3 : (fun (v : Value) (w' : World) => v = .agg #[.float .f64 x0, .float .f64 x1]) (a'.tmps.getD 23 undef) V := hdep ⟨3, .data⟩ (by simp) rfl 23 (by decide)
    dsimp only at hv3
    replace hv3 := evT hv3
    clear hin hdep hdf
    have HS := Lib.hid (HS.out.later hb1)
    have HSZ := Lib.hid (HSZ.out.below hb1)
    go_simp
    refine (HMe.out _).mono ?_
    rintro e1 V2 ⟨rfl, hb2⟩
    exact hK _ _ rfl hb2
  · intro a' V hdf hin hdep hb1 K hK
    clear hin hdep hdf
    have HS := Lib.hid (HS.out.later hb1)
    have HSZ := Lib.hid (HSZ.out.below hb1)
    go_simp
    exact hK _ _ ⟨_, rfl, HSZ.out, BlkT.new V _ _⟩ (Below.alloc_self _ _)
  intro vals B1 hb1 hR
  replace HS := Lib.hid (HS.out.later hb1)
  replace HSZ := Lib.hid (HSZ.out.below hb1)
  obtain hv3 : (fun (v : Value) (w' : World) => v = .agg #[.float .f64 x0, .float .f64 x1]) (vals 3) B1 := hR (3, 23) (by decide)
  dsimp only at hv3
  obtain hv4 : (fun (v : Value) (w' : World) => v = .agg #[.float .f64 a0, .float .f64 a1]) (vals 4) B1 := hR (4, 24) (by decide)
  dsimp only at hv4
  obtain ⟨rm, hv5, hl5, hB5⟩ : (fun (v : Value) (w' : World) => ∃ r, v = .pointer (some ⟨r, 0, none⟩) ∧ nB ≤ r ∧ BlkT w' r 28 #[.float .f64 0, .float .f64 0]) (vals 5) B1 := hR (5, 10) (by decide)
  clear hb1 hR
  simp only [prE, List.flatMap_cons, List.flatMap_nil, List.cons_append, List.nil_append, List.append_nil, setD, List.setIfInBounds_toArray, List.set_cons_zero, List.set_cons_succ, hv3, hv4, hv5]
  clear vals hv3 hv4 hv5
  refine wpPq_nil ?_
  simp only [List.drop_succ_cons, List.drop_zero]
  have HN : Hid (r6 ≠ rm ∧ r7 ≠ rm ∧ r8 ≠ rm ∧ w.heap.size ≤ rm) := Lib.hid (by
    have h1 := HLT.out.1.1
    have h2 := HLT.out.1.2
    have h3 := HLT.out.2
    have h4 : w.heap.size ≤ nB := HSW.out
    exact ⟨by omega, by omega, by omega, by omega⟩)
  have HS2 := Lib.hid (S4b.make a0 a1 HS.out hB5 HN.out.2.2.2 HN.out.1 HN.out.2.1 HN.out.2.2.1)
  obtain ⟨f60, f61, f62, f63⟩ := hB5.cells2
  obtain ⟨⟨⟨g0, g1⟩, g2, g3⟩, g4, g5⟩ := HS.out.cells
  have hn6 : r6 ≠ rm := HN.out.1
  have hn7 : r7 ≠ rm := HN.out.2.1
  have hn8 : r8 ≠ rm := HN.out.2.2.1
  clear HS HSZ HLT hB5 hl5
  go_upto_region 5 with fail
  go_cut [11] from 25 to 33 (fun c wx => c = .bool F ∧ Hid (S4b w wx r6 r7 r8 rm p0 p1 q0 q1 r0 r1 a0 a1))
  case first =>
    have HS := HS2
    clear f60 f61 f62 f63 g0 g1 g2 g3 g4 g5 hn6 hn7 hn8 HS2
    obtain ⟨⟨⟨⟨g0, g1⟩, g2, g3⟩, g4, g5⟩, g6, g7⟩ := HS.out.cells
    obtain ⟨le, hle⟩ : ∃ t, (FloatKind.f64.format.order p0 p1 == some Ordering.lt || FloatKind.f64.format.order p0 p1 == some Ordering.eq) = t := ⟨_, rfl⟩
    have HR : Hid ((IS && le) = F) := Lib.hid (by rw [← hle]; exact HFU.out)
    cases IS
    · obtain rfl : false = F := HR.out
      go_wp2_with fail
      refine (HIS.out _).mono ?_
      rintro e2 w2 ⟨rfl, hb2⟩
      replace HS := Lib.hid (HS.out.later hb2)
      clear hb2
      clear g0 g1 g2 g3 g4 g5 g6 g7
      obtain ⟨⟨⟨⟨g0, g1⟩, g2, g3⟩, g4, g5⟩, g6, g7⟩ := HS.out.cells
      go_wp2
      go_meet
      exact ⟨rfl, HS⟩
    · obtain rfl : le = F := HR.out
      go_wp2_with fail
      refine (HIS.out _).mono ?_
      rintro e2 w2 ⟨rfl, hb2⟩
      replace HS := Lib.hid (HS.out.later hb2)
      clear hb2
      clear g0 g1 g2 g3 g4 g5 g6 g7
      obtain ⟨⟨⟨⟨g0, g1⟩, g2, g3⟩, g4, g5⟩, g6, g7⟩ := HS.out.cells
      go_wp2
      go_meet
      exact ⟨rfl, HS⟩
  case rest =>
  obtain ⟨rfl, HS⟩ := hcut
  clear HS2 f60 f61 f62 f63 g0 g1 g2 g3 g4 g5 hn6 hn7 hn8 HFU HIS IS
  obtain ⟨⟨⟨⟨g0, g1⟩, g2, g3⟩, g4, g5⟩, g6, g7⟩ := HS.out.cells
  go_upto_region 6 with fail
  go_cut [58] from 34 to 57 (fun c wx => c = .bool false ∧ Hid (S4b w wx r6 r7 r8 rm p0 p1 q0 q1 r0 r1 a0 a1))
  case first =>
    rcases HF.out with ⟨rfl, d1, d2⟩ | ⟨rfl, d1, d2⟩
    · have d3 : (FloatKind.f64.format.order a0 p0 != some Ordering.eq) = false := by rw [bne, d1]; rfl
      have d4 : (FloatKind.f64.format.order a1 p1 != some Ordering.eq) = false := by rw [bne, d2]; rfl
      clear g0 g1 g2 g3 g4 g5 g6 g7
      refine wp_region_pl (fun w' : World => (((w'.cell? ⟨r6, 0, none⟩ = some (.float .f64 p0) ∧ w'.cell? ⟨r6, 1, none⟩ = some (.float .f64 p1)) ∧ w'.cell? ⟨r7, 0, none⟩ = some (.float .f64 q0) ∧ w'.cell? ⟨r7, 1, none⟩ = some (.float .f64 q1)) ∧ w'.cell? ⟨r8, 0, none⟩ = some (.float .f64 r0) ∧ w'.cell? ⟨r8, 1, none⟩ = some (.float .f64 r1)) ∧ w'.cell? ⟨rm, 0, none⟩ = some (.float .f64 a0) ∧ w'.cell? ⟨rm, 1, none⟩ = some (.float .f64 a1)) 21 (.take 0 (.take 1 (.take 2 (.take 3 (.take 4 (.take 5 (.take 6 (.take 7 (.take 8 (.take 9 (.take 10 (.take 11 (.take 12 (.take 13 (.take 14 (.take 15 (.take 16 (.take 17 (.take 18 (.take 19 (.run 20 .nil))))))))))))))))))))) (by kernel_rfl) (by kernel_rfl) ?_
      replace HS := Lib.hid (HS.out.later (drew_below _))
      generalize World.drew _ = W6 at HS ⊢
      have hS : (fun w' : World => (((w'.cell? ⟨r6, 0, none⟩ = some (.float .f64 p0) ∧ w'.cell? ⟨r6, 1, none⟩ = some (.float .f64 p1)) ∧ w'.cell? ⟨r7, 0, none⟩ = some (.float .f64 q0) ∧ w'.cell? ⟨r7, 1, none⟩ = some (.float .f64 q1)) ∧ w'.cell? ⟨r8, 0, none⟩ = some (.float .f64 r0) ∧ w'.cell? ⟨r8, 1, none⟩ = some (.float .f64 r1)) ∧ w'.cell? ⟨rm, 0, none⟩ = some (.float .f64 a0) ∧ w'.cell? ⟨rm, 1, none⟩ = some (.float .f64 a1)) W6 := HS.out.cells
      repeat (first | (refine wpPl_takeL (v := ?_) rfl rfl (fun _ _ _ h => h) rfl (fun w' hSw => ?_) hS ?_; rotate_left; (focus (go_simp; with_reducible rfl)); simp only [List.setIfInBounds_toArray, List.set_cons_zero, List.set_cons_succ]) | (refine wpPl_skipL rfl rfl (fun _ _ _ h => h) rfl hS ?_; simp only [List.setIfInBounds_toArray, List.set_cons_zero, List.set_cons_succ]))
      refine wpPl_idleL rfl rfl rfl hS ?_
      simp only [List.setIfInBounds_toArray, List.set_cons_zero, List.set_cons_succ]
      repeat (first | (refine wpPl_takeL (v := ?_) rfl rfl (fun _ _ _ h => h) rfl (fun w' hSw => ?_) hS ?_; rotate_left; (focus (go_simp; with_reducible rfl)); simp only [List.setIfInBounds_toArray, List.set_cons_zero, List.set_cons_succ]) | (refine wpPl_skipL rfl rfl (fun _ _ _ h => h) rfl hS ?_; simp only [List.setIfInBounds_toArray, List.set_cons_zero, List.set_cons_succ]))
      clear hS
      refine wpPl_nil ?_
      simp only [List.drop_succ_cons, List.drop_zero]
      obtain ⟨⟨⟨⟨g0, g1⟩, g2, g3⟩, g4, g5⟩, g6, g7⟩ := HS.out.cells
      go_wp2
      go_meet
      exact ⟨rfl, HS⟩
    · have HS9 : Hid (∀ W, Calls Tryz.prog 9 #[.agg #[.float .f64 a0, .float .f64 a1], .agg #[.float .f64 9218868437227405312, .float .f64 18442240474082181120]] W (Gives (.bool true) W)) := Lib.hid (by rw [d1, d2]; exact HS0.out)
      clear d1 d2
      clear g0 g1 g2 g3 g4 g5 g6 g7
      refine wp_region_pl (fun w' : World => (((w'.cell? ⟨r6, 0, none⟩ = some (.float .f64 p0) ∧ w'.cell? ⟨r6, 1, none⟩ = some (.float .f64 p1)) ∧ w'.cell? ⟨r7, 0, none⟩ = some (.float .f64 q0) ∧ w'.cell? ⟨r7, 1, none⟩ = some (.float .f64 q1)) ∧ w'.cell? ⟨r8, 0, none⟩ = some (.float .f64 r0) ∧ w'.cell? ⟨r8, 1, none⟩ = some (.float .f64 r1)) ∧ w'.cell? ⟨rm, 0, none⟩ = some (.float .f64 a0) ∧ w'.cell? ⟨rm, 1, none⟩ = some (.float .f64 a1)) 21 (.take 0 (.take 1 (.take 2 (.take 3 (.take 4 (.take 5 (.take 6 (.take 7 (.take 8 (.take 9 (.take 10 (.take 11 (.take 12 (.take 13 (.take 14 (.take 15 (.take 16 (.take 17 (.take 18 (.take 19 (.run 20 .nil))))))))))))))))))))) (by kernel_rfl) (by kernel_rfl) ?_
      replace HS := Lib.hid (HS.out.later (drew_below _))
      generalize World.drew _ = W6 at HS ⊢
      have hS : (fun w' : World => (((w'.cell? ⟨r6, 0, none⟩ = some (.float .f64 p0) ∧ w'.cell? ⟨r6, 1, none⟩ = some (.float .f64 p1)) ∧ w'.cell? ⟨r7, 0, none⟩ = some (.float .f64 q0) ∧ w'.cell? ⟨r7, 1, none⟩ = some (.float .f64 q1)) ∧ w'.cell? ⟨r8, 0, none⟩ = some (.float .f64 r0) ∧ w'.cell? ⟨r8, 1, none⟩ = some (.float .f64 r1)) ∧ w'.cell? ⟨rm, 0, none⟩ = some (.float .f64 a0) ∧ w'.cell? ⟨rm, 1, none⟩ = some (.float .f64 a1)) W6 := HS.out.cells
      repeat (first | (refine wpPl_takeL (v := ?_) rfl rfl (fun _ _ _ h => h) rfl (fun w' hSw => ?_) hS ?_; rotate_left; (focus (go_simp; with_reducible rfl)); simp only [List.setIfInBounds_toArray, List.set_cons_zero, List.set_cons_succ]) | (refine wpPl_skipL rfl rfl (fun _ _ _ h => h) rfl hS ?_; simp only [List.setIfInBounds_toArray, List.set_cons_zero, List.set_cons_succ]))
      clear hS
      refine wpPl_goL rfl rfl fun K' hK => ?_
      go_simp
      refine (HE.out _).mono ?_
      rintro e1 W6v1 ⟨rfl, hb1⟩
      replace HS := Lib.hid (HS.out.later hb1)
      refine hK _ _ HS.out.cells ?_
      clear hK K' hb1
      try simp only [Act.put, List.setIfInBounds_toArray, List.set_cons_zero, List.set_cons_succ]
      have hS : (fun w' : World => (((w'.cell? ⟨r6, 0, none⟩ = some (.float .f64 p0) ∧ w'.cell? ⟨r6, 1, none⟩ = some (.float .f64 p1)) ∧ w'.cell? ⟨r7, 0, none⟩ = some (.float .f64 q0) ∧ w'.cell? ⟨r7, 1, none⟩ = some (.float .f64 q1)) ∧ w'.cell? ⟨r8, 0, none⟩ = some (.float .f64 r0) ∧ w'.cell? ⟨r8, 1, none⟩ = some (.float .f64 r1)) ∧ w'.cell? ⟨rm, 0, none⟩ = some (.float .f64 a0) ∧ w'.cell? ⟨rm, 1, none⟩ = some (.float .f64 a1)) W6v1 := HS.out.cells
      repeat (first | (refine wpPl_takeL (v := ?_) rfl rfl (fun _ _ _ h => h) rfl (fun w' hSw => ?_) hS ?_; rotate_left; (focus (go_simp; with_reducible rfl)); simp only [List.setIfInBounds_toArray, List.set_cons_zero, List.set_cons_succ]) | (refine wpPl_skipL rfl rfl (fun _ _ _ h => h) rfl hS ?_; simp only [List.setIfInBounds_toArray, List.set_cons_zero, List.set_cons_succ]))
      clear hS
      refine wpPl_nil ?_
      simp only [List.drop_succ_cons, List.drop_zero]
      obtain ⟨⟨⟨⟨g0, g1⟩, g2, g3⟩, g4, g5⟩, g6, g7⟩ := HS.out.cells
      go_wp2_with fail
      refine (HS9.out _).mono ?_
      rintro e9 w9 ⟨rfl, hb9⟩
      replace HS := Lib.hid (HS.out.later hb9)
      clear hb9
      clear g0 g1 g2 g3 g4 g5 g6 g7
      obtain ⟨⟨⟨⟨g0, g1⟩, g2, g3⟩, g4, g5⟩, g6, g7⟩ := HS.out.cells
      go_wp2
      go_meet
      exact ⟨rfl, HS⟩
  case rest =>
  obtain ⟨rfl, HS⟩ := hcut
  clear HF
  clear g0 g1 g2 g3 g4 g5 g6 g7
  obtain ⟨⟨⟨⟨g0, g1⟩, g2, g3⟩, g4, g5⟩, g6, g7⟩ := HS.out.cells
  go_wp2
  clear g0 g1 g2 g3 g4 g5 g6 g7
  refine wp_region_pl (fun w' : World => (((w'.cell? ⟨r6, 0, none⟩ = some (.float .f64 p0) ∧ w'.cell? ⟨r6, 1, none⟩ = some (.float .f64 p1)) ∧ w'.cell? ⟨r7, 0, none⟩ = some (.float .f64 q0) ∧ w'.cell? ⟨r7, 1, none⟩ = some (.float .f64 q1)) ∧ w'.cell? ⟨r8, 0, none⟩ = some (.float .f64 r0) ∧ w'.cell? ⟨r8, 1, none⟩ = some (.float .f64 r1)) ∧ w'.cell? ⟨rm, 0, none⟩ = some (.float .f64 a0) ∧ w'.cell? ⟨rm, 1, none⟩ = some (.float .f64 a1)) 42 (.take 0 (.take 1 (.take 3 (.take 4 (.run 2 (.run 5 (.run 6 (.take 7 (.take 8 (.take 9 (.take 10 (.take 12 (.take 13 (.run 11 (.run 14 (.run 15 (.take 16 (.take 17 (.take 18 (.take 19 (.take 20 (.take 21 (.take 24 (.take 25 (.take 27 (.run 22 (.run 23 (.run 26 (.run 28 (.run 29 (.take 30 (.take 31 (.take 32 (.take 33 (.take 34 (.take 35 (.take 38 (.take 39 (.take 41 (.run 36 (.run 37 (.run 40 .nil)))))))))))))))))))))))))))))))))))))))))) (by kernel_rfl) (by kernel_rfl) ?_
  replace HS := Lib.hid (HS.out.later (drew_below _))
  generalize World.drew _ = W8 at HS ⊢
  have hS : (fun w' : World => (((w'.cell? ⟨r6, 0, none⟩ = some (.float .f64 p0) ∧ w'.cell? ⟨r6, 1, none⟩ = some (.float .f64 p1)) ∧ w'.cell? ⟨r7, 0, none⟩ = some (.float .f64 q0) ∧ w'.cell? ⟨r7, 1, none⟩ = some (.float .f64 q1)) ∧ w'.cell? ⟨r8, 0, none⟩ = some (.float .f64 r0) ∧ w'.cell? ⟨r8, 1, none⟩ = some (.float .f64 r1)) ∧ w'.cell? ⟨rm, 0, none⟩ = some (.float .f64 a0) ∧ w'.cell? ⟨rm, 1, none⟩ = some (.float .f64 a1)) W8 := HS.out.cells
  repeat (first | (refine wpPl_takeL (v := ?_) rfl rfl (fun _ _ _ h => h) rfl (fun w' hSw => ?_) hS ?_; rotate_left; (focus (go_simp; with_reducible rfl)); simp only [List.setIfInBounds_toArray, List.set_cons_zero, List.set_cons_succ]) | (refine wpPl_skipL rfl rfl (fun _ _ _ h => h) rfl hS ?_; simp only [List.setIfInBounds_toArray, List.set_cons_zero, List.set_cons_succ]))
  clear hS
  refine wpPl_goL rfl rfl fun K' hK => ?_
  go_simp
  refine (HUab.out _).mono ?_
  rintro e1 W8v1 ⟨rfl, hb1⟩
  replace HS := Lib.hid (HS.out.later hb1)
  refine hK _ _ HS.out.cells ?_
  clear hK K' hb1
  try simp only [Act.put, List.setIfInBounds_toArray, List.set_cons_zero, List.set_cons_succ]
  have hS : (fun w' : World => (((w'.cell? ⟨r6, 0, none⟩ = some (.float .f64 p0) ∧ w'.cell? ⟨r6, 1, none⟩ = some (.float .f64 p1)) ∧ w'.cell? ⟨r7, 0, none⟩ = some (.float .f64 q0) ∧ w'.cell? ⟨r7, 1, none⟩ = some (.float .f64 q1)) ∧ w'.cell? ⟨r8, 0, none⟩ = some (.float .f64 r0) ∧ w'.cell? ⟨r8, 1, none⟩ = some (.float .f64 r1)) ∧ w'.cell? ⟨rm, 0, none⟩ = some (.float .f64 a0) ∧ w'.cell? ⟨rm, 1, none⟩ = some (.float .f64 a1)) W8v1 := HS.out.cells
  repeat (first | (refine wpPl_takeL (v := ?_) rfl rfl (fun _ _ _ h => h) rfl (fun w' hSw => ?_) hS ?_; rotate_left; (focus (go_simp; with_reducible rfl)); simp only [List.setIfInBounds_toArray, List.set_cons_zero, List.set_cons_succ]) | (refine wpPl_skipL rfl rfl (fun _ _ _ h => h) rfl hS ?_; simp only [List.setIfInBounds_toArray, List.set_cons_zero, List.set_cons_succ]))
  clear hS
  refine wpPl_goL rfl rfl fun K' hK => ?_
  go_simp
  refine (HUba.out _).mono ?_
  rintro e1 W8v2 ⟨rfl, hb1⟩
  replace HS := Lib.hid (HS.out.later hb1)
  refine hK _ _ HS.out.cells ?_
  clear hK K' hb1
  try simp only [Act.put, List.setIfInBounds_toArray, List.set_cons_zero, List.set_cons_succ]
  have hS : (fun w' : World => (((w'.cell? ⟨r6, 0, none⟩ = some (.float .f64 p0) ∧ w'.cell? ⟨r6, 1, none⟩ = some (.float .f64 p1)) ∧ w'.cell? ⟨r7, 0, none⟩ = some (.float .f64 q0) ∧ w'.cell? ⟨r7, 1, none⟩ = some (.float .f64 q1)) ∧ w'.cell? ⟨r8, 0, none⟩ = some (.float .f64 r0) ∧ w'.cell? ⟨r8, 1, none⟩ = some (.float .f64 r1)) ∧ w'.cell? ⟨rm, 0, none⟩ = some (.float .f64 a0) ∧ w'.cell? ⟨rm, 1, none⟩ = some (.float .f64 a1)) W8v2 := HS.out.cells
  repeat (first | (refine wpPl_takeL (v := ?_) rfl rfl (fun _ _ _ h => h) rfl (fun w' hSw => ?_) hS ?_; rotate_left; (focus (go_simp; with_reducible rfl)); simp only [List.setIfInBounds_toArray, List.set_cons_zero, List.set_cons_succ]) | (refine wpPl_skipL rfl rfl (fun _ _ _ h => h) rfl hS ?_; simp only [List.setIfInBounds_toArray, List.set_cons_zero, List.set_cons_succ]))
  clear hS
  refine wpPl_goL rfl rfl fun K' hK => ?_
  go_simp
  refine (HS1.out _).mono ?_
  rintro e1 W8v3 ⟨rfl, hb1⟩
  replace HS := Lib.hid (HS.out.later hb1)
  refine hK _ _ HS.out.cells ?_
  clear hK K' hb1
  try simp only [Act.put, List.setIfInBounds_toArray, List.set_cons_zero, List.set_cons_succ]
  have hS : (fun w' : World => (((w'.cell? ⟨r6, 0, none⟩ = some (.float .f64 p0) ∧ w'.cell? ⟨r6, 1, none⟩ = some (.float .f64 p1)) ∧ w'.cell? ⟨r7, 0, none⟩ = some (.float .f64 q0) ∧ w'.cell? ⟨r7, 1, none⟩ = some (.float .f64 q1)) ∧ w'.cell? ⟨r8, 0, none⟩ = some (.float .f64 r0) ∧ w'.cell? ⟨r8, 1, none⟩ = some (.float .f64 r1)) ∧ w'.cell? ⟨rm, 0, none⟩ = some (.float .f64 a0) ∧ w'.cell? ⟨rm, 1, none⟩ = some (.float .f64 a1)) W8v3 := HS.out.cells
  repeat (first | (refine wpPl_takeL (v := ?_) rfl rfl (fun _ _ _ h => h) rfl (fun w' hSw => ?_) hS ?_; rotate_left; (focus (go_simp; with_reducible rfl)); simp only [List.setIfInBounds_toArray, List.set_cons_zero, List.set_cons_succ]) | (refine wpPl_skipL rfl rfl (fun _ _ _ h => h) rfl hS ?_; simp only [List.setIfInBounds_toArray, List.set_cons_zero, List.set_cons_succ]))
  clear hS
  refine wpPl_goL rfl rfl fun K' hK => ?_
  go_simp
  refine (HMab.out _).mono ?_
  rintro e1 W8v4 ⟨rfl, hb1⟩
  replace HS := Lib.hid (HS.out.later hb1)
  refine hK _ _ HS.out.cells ?_
  clear hK K' hb1
  try simp only [Act.put, List.setIfInBounds_toArray, List.set_cons_zero, List.set_cons_succ]
  have hS : (fun w' : World => (((w'.cell? ⟨r6, 0, none⟩ = some (.float .f64 p0) ∧ w'.cell? ⟨r6, 1, none⟩ = some (.float .f64 p1)) ∧ w'.cell? ⟨r7, 0, none⟩ = some (.float .f64 q0) ∧ w'.cell? ⟨r7, 1, none⟩ = some (.float .f64 q1)) ∧ w'.cell? ⟨r8, 0, none⟩ = some (.float .f64 r0) ∧ w'.cell? ⟨r8, 1, none⟩ = some (.float .f64 r1)) ∧ w'.cell? ⟨rm, 0, none⟩ = some (.float .f64 a0) ∧ w'.cell? ⟨rm, 1, none⟩ = some (.float .f64 a1)) W8v4 := HS.out.cells
  repeat (first | (refine wpPl_takeL (v := ?_) rfl rfl (fun _ _ _ h => h) rfl (fun w' hSw => ?_) hS ?_; rotate_left; (focus (go_simp; with_reducible rfl)); simp only [List.setIfInBounds_toArray, List.set_cons_zero, List.set_cons_succ]) | (refine wpPl_skipL rfl rfl (fun _ _ _ h => h) rfl hS ?_; simp only [List.setIfInBounds_toArray, List.set_cons_zero, List.set_cons_succ]))
  clear hS
  refine wpPl_goL rfl rfl fun K' hK => ?_
  go_simp
  refine (HMba.out _).mono ?_
  rintro e1 W8v5 ⟨rfl, hb1⟩
  replace HS := Lib.hid (HS.out.later hb1)
  refine hK _ _ HS.out.cells ?_
  clear hK K' hb1
  try simp only [Act.put, List.setIfInBounds_toArray, List.set_cons_zero, List.set_cons_succ]
  have hS : (fun w' : World => (((w'.cell? ⟨r6, 0, none⟩ = some (.float .f64 p0) ∧ w'.cell? ⟨r6, 1, none⟩ = some (.float .f64 p1)) ∧ w'.cell? ⟨r7, 0, none⟩ = some (.float .f64 q0) ∧ w'.cell? ⟨r7, 1, none⟩ = some (.float .f64 q1)) ∧ w'.cell? ⟨r8, 0, none⟩ = some (.float .f64 r0) ∧ w'.cell? ⟨r8, 1, none⟩ = some (.float .f64 r1)) ∧ w'.cell? ⟨rm, 0, none⟩ = some (.float .f64 a0) ∧ w'.cell? ⟨rm, 1, none⟩ = some (.float .f64 a1)) W8v5 := HS.out.cells
  repeat (first | (refine wpPl_takeL (v := ?_) rfl rfl (fun _ _ _ h => h) rfl (fun w' hSw => ?_) hS ?_; rotate_left; (focus (go_simp; with_reducible rfl)); simp only [List.setIfInBounds_toArray, List.set_cons_zero, List.set_cons_succ]) | (refine wpPl_skipL rfl rfl (fun _ _ _ h => h) rfl hS ?_; simp only [List.setIfInBounds_toArray, List.set_cons_zero, List.set_cons_succ]))
  clear hS
  refine wpPl_goL rfl rfl fun K' hK => ?_
  go_simp
  refine (HS2.out _).mono ?_
  rintro e1 W8v6 ⟨rfl, hb1⟩
  replace HS := Lib.hid (HS.out.later hb1)
  refine hK _ _ HS.out.cells ?_
  clear hK K' hb1
  try simp only [Act.put, List.setIfInBounds_toArray, List.set_cons_zero, List.set_cons_succ]
  have hS : (fun w' : World => (((w'.cell? ⟨r6, 0, none⟩ = some (.float .f64 p0) ∧ w'.cell? ⟨r6, 1, none⟩ = some (.float .f64 p1)) ∧ w'.cell? ⟨r7, 0, none⟩ = some (.float .f64 q0) ∧ w'.cell? ⟨r7, 1, none⟩ = some (.float .f64 q1)) ∧ w'.cell? ⟨r8, 0, none⟩ = some (.float .f64 r0) ∧ w'.cell? ⟨r8, 1, none⟩ = some (.float .f64 r1)) ∧ w'.cell? ⟨rm, 0, none⟩ = some (.float .f64 a0) ∧ w'.cell? ⟨rm, 1, none⟩ = some (.float .f64 a1)) W8v6 := HS.out.cells
  repeat (first | (refine wpPl_takeL (v := ?_) rfl rfl (fun _ _ _ h => h) rfl (fun w' hSw => ?_) hS ?_; rotate_left; (focus (go_simp; with_reducible rfl)); simp only [List.setIfInBounds_toArray, List.set_cons_zero, List.set_cons_succ]) | (refine wpPl_skipL rfl rfl (fun _ _ _ h => h) rfl hS ?_; simp only [List.setIfInBounds_toArray, List.set_cons_zero, List.set_cons_succ]))
  clear hS
  refine wpPl_goL rfl rfl fun K' hK => ?_
  go_simp
  refine (HUbc.out _).mono ?_
  rintro e1 W8v7 ⟨rfl, hb1⟩
  replace HS := Lib.hid (HS.out.later hb1)
  refine hK _ _ HS.out.cells ?_
  clear hK K' hb1
  try simp only [Act.put, List.setIfInBounds_toArray, List.set_cons_zero, List.set_cons_succ]
  have hS : (fun w' : World => (((w'.cell? ⟨r6, 0, none⟩ = some (.float .f64 p0) ∧ w'.cell? ⟨r6, 1, none⟩ = some (.float .f64 p1)) ∧ w'.cell? ⟨r7, 0, none⟩ = some (.float .f64 q0) ∧ w'.cell? ⟨r7, 1, none⟩ = some (.float .f64 q1)) ∧ w'.cell? ⟨r8, 0, none⟩ = some (.float .f64 r0) ∧ w'.cell? ⟨r8, 1, none⟩ = some (.float .f64 r1)) ∧ w'.cell? ⟨rm, 0, none⟩ = some (.float .f64 a0) ∧ w'.cell? ⟨rm, 1, none⟩ = some (.float .f64 a1)) W8v7 := HS.out.cells
  repeat (first | (refine wpPl_takeL (v := ?_) rfl rfl (fun _ _ _ h => h) rfl (fun w' hSw => ?_) hS ?_; rotate_left; (focus (go_simp; with_reducible rfl)); simp only [List.setIfInBounds_toArray, List.set_cons_zero, List.set_cons_succ]) | (refine wpPl_skipL rfl rfl (fun _ _ _ h => h) rfl hS ?_; simp only [List.setIfInBounds_toArray, List.set_cons_zero, List.set_cons_succ]))
  clear hS
  refine wpPl_goL rfl rfl fun K' hK => ?_
  go_simp
  refine (HUa_bc.out _).mono ?_
  rintro e1 W8v8 ⟨rfl, hb1⟩
  replace HS := Lib.hid (HS.out.later hb1)
  refine hK _ _ HS.out.cells ?_
  clear hK K' hb1
  try simp only [Act.put, List.setIfInBounds_toArray, List.set_cons_zero, List.set_cons_succ]
  have hS : (fun w' : World => (((w'.cell? ⟨r6, 0, none⟩ = some (.float .f64 p0) ∧ w'.cell? ⟨r6, 1, none⟩ = some (.float .f64 p1)) ∧ w'.cell? ⟨r7, 0, none⟩ = some (.float .f64 q0) ∧ w'.cell? ⟨r7, 1, none⟩ = some (.float .f64 q1)) ∧ w'.cell? ⟨r8, 0, none⟩ = some (.float .f64 r0) ∧ w'.cell? ⟨r8, 1, none⟩ = some (.float .f64 r1)) ∧ w'.cell? ⟨rm, 0, none⟩ = some (.float .f64 a0) ∧ w'.cell? ⟨rm, 1, none⟩ = some (.float .f64 a1)) W8v8 := HS.out.cells
  repeat (first | (refine wpPl_takeL (v := ?_) rfl rfl (fun _ _ _ h => h) rfl (fun w' hSw => ?_) hS ?_; rotate_left; (focus (go_simp; with_reducible rfl)); simp only [List.setIfInBounds_toArray, List.set_cons_zero, List.set_cons_succ]) | (refine wpPl_skipL rfl rfl (fun _ _ _ h => h) rfl hS ?_; simp only [List.setIfInBounds_toArray, List.set_cons_zero, List.set_cons_succ]))
  clear hS
  refine wpPl_goL rfl rfl fun K' hK => ?_
  go_simp
  refine (HUab.out _).mono ?_
  rintro e1 W8v9 ⟨rfl, hb1⟩
  replace HS := Lib.hid (HS.out.later hb1)
  refine hK _ _ HS.out.cells ?_
  clear hK K' hb1
  try simp only [Act.put, List.setIfInBounds_toArray, List.set_cons_zero, List.set_cons_succ]
  have hS : (fun w' : World => (((w'.cell? ⟨r6, 0, none⟩ = some (.float .f64 p0) ∧ w'.cell? ⟨r6, 1, none⟩ = some (.float .f64 p1)) ∧ w'.cell? ⟨r7, 0, none⟩ = some (.float .f64 q0) ∧ w'.cell? ⟨r7, 1, none⟩ = some (.float .f64 q1)) ∧ w'.cell? ⟨r8, 0, none⟩ = some (.float .f64 r0) ∧ w'.cell? ⟨r8, 1, none⟩ = some (.float .f64 r1)) ∧ w'.cell? ⟨rm, 0, none⟩ = some (.float .f64 a0) ∧ w'.cell? ⟨rm, 1, none⟩ = some (.float .f64 a1)) W8v9 := HS.out.cells
  repeat (first | (refine wpPl_takeL (v := ?_) rfl rfl (fun _ _ _ h => h) rfl (fun w' hSw => ?_) hS ?_; rotate_left; (focus (go_simp; with_reducible rfl)); simp only [List.setIfInBounds_toArray, List.set_cons_zero, List.set_cons_succ]) | (refine wpPl_skipL rfl rfl (fun _ _ _ h => h) rfl hS ?_; simp only [List.setIfInBounds_toArray, List.set_cons_zero, List.set_cons_succ]))
  clear hS
  refine wpPl_goL rfl rfl fun K' hK => ?_
  go_simp
  refine (HUab_c.out _).mono ?_
  rintro e1 W8v10 ⟨rfl, hb1⟩
  replace HS := Lib.hid (HS.out.later hb1)
  refine hK _ _ HS.out.cells ?_
  clear hK K' hb1
  try simp only [Act.put, List.setIfInBounds_toArray, List.set_cons_zero, List.set_cons_succ]
  have hS : (fun w' : World => (((w'.cell? ⟨r6, 0, none⟩ = some (.float .f64 p0) ∧ w'.cell? ⟨r6, 1, none⟩ = some (.float .f64 p1)) ∧ w'.cell? ⟨r7, 0, none⟩ = some (.float .f64 q0) ∧ w'.cell? ⟨r7, 1, none⟩ = some (.float .f64 q1)) ∧ w'.cell? ⟨r8, 0, none⟩ = some (.float .f64 r0) ∧ w'.cell? ⟨r8, 1, none⟩ = some (.float .f64 r1)) ∧ w'.cell? ⟨rm, 0, none⟩ = some (.float .f64 a0) ∧ w'.cell? ⟨rm, 1, none⟩ = some (.float .f64 a1)) W8v10 := HS.out.cells
  repeat (first | (refine wpPl_takeL (v := ?_) rfl rfl (fun _ _ _ h => h) rfl (fun w' hSw => ?_) hS ?_; rotate_left; (focus (go_simp; with_reducible rfl)); simp only [List.setIfInBounds_toArray, List.set_cons_zero, List.set_cons_succ]) | (refine wpPl_skipL rfl rfl (fun _ _ _ h => h) rfl hS ?_; simp only [List.setIfInBounds_toArray, List.set_cons_zero, List.set_cons_succ]))
  clear hS
  refine wpPl_goL rfl rfl fun K' hK => ?_
  go_simp
  refine (HS3.out _).mono ?_
  rintro e1 W8v11 ⟨rfl, hb1⟩
  replace HS := Lib.hid (HS.out.later hb1)
  refine hK _ _ HS.out.cells ?_
  clear hK K' hb1
  try simp only [Act.put, List.setIfInBounds_toArray, List.set_cons_zero, List.set_cons_succ]
  have hS : (fun w' : World => (((w'.cell? ⟨r6, 0, none⟩ = some (.float .f64 p0) ∧ w'.cell? ⟨r6, 1, none⟩ = some (.float .f64 p1)) ∧ w'.cell? ⟨r7, 0, none⟩ = some (.float .f64 q0) ∧ w'.cell? ⟨r7, 1, none⟩ = some (.float .f64 q1)) ∧ w'.cell? ⟨r8, 0, none⟩ = some (.float .f64 r0) ∧ w'.cell? ⟨r8, 1, none⟩ = some (.float .f64 r1)) ∧ w'.cell? ⟨rm, 0, none⟩ = some (.float .f64 a0) ∧ w'.cell? ⟨rm, 1, none⟩ = some (.float .f64 a1)) W8v11 := HS.out.cells
  repeat (first | (refine wpPl_takeL (v := ?_) rfl rfl (fun _ _ _ h => h) rfl (fun w' hSw => ?_) hS ?_; rotate_left; (focus (go_simp; with_reducible rfl)); simp only [List.setIfInBounds_toArray, List.set_cons_zero, List.set_cons_succ]) | (refine wpPl_skipL rfl rfl (fun _ _ _ h => h) rfl hS ?_; simp only [List.setIfInBounds_toArray, List.set_cons_zero, List.set_cons_succ]))
  clear hS
  refine wpPl_goL rfl rfl fun K' hK => ?_
  go_simp
  refine (HMbc.out _).mono ?_
  rintro e1 W8v12 ⟨rfl, hb1⟩
  replace HS := Lib.hid (HS.out.later hb1)
  refine hK _ _ HS.out.cells ?_
  clear hK K' hb1
  try simp only [Act.put, List.setIfInBounds_toArray, List.set_cons_zero, List.set_cons_succ]
  have hS : (fun w' : World => (((w'.cell? ⟨r6, 0, none⟩ = some (.float .f64 p0) ∧ w'.cell? ⟨r6, 1, none⟩ = some (.float .f64 p1)) ∧ w'.cell? ⟨r7, 0, none⟩ = some (.float .f64 q0) ∧ w'.cell? ⟨r7, 1, none⟩ = some (.float .f64 q1)) ∧ w'.cell? ⟨r8, 0, none⟩ = some (.float .f64 r0) ∧ w'.cell? ⟨r8, 1, none⟩ = some (.float .f64 r1)) ∧ w'.cell? ⟨rm, 0, none⟩ = some (.float .f64 a0) ∧ w'.cell? ⟨rm, 1, none⟩ = some (.float .f64 a1)) W8v12 := HS.out.cells
  repeat (first | (refine wpPl_takeL (v := ?_) rfl rfl (fun _ _ _ h => h) rfl (fun w' hSw => ?_) hS ?_; rotate_left; (focus (go_simp; with_reducible rfl)); simp only [List.setIfInBounds_toArray, List.set_cons_zero, List.set_cons_succ]) | (refine wpPl_skipL rfl rfl (fun _ _ _ h => h) rfl hS ?_; simp only [List.setIfInBounds_toArray, List.set_cons_zero, List.set_cons_succ]))
  clear hS
  refine wpPl_goL rfl rfl fun K' hK => ?_
  go_simp
  refine (HMa_bc.out _).mono ?_
  rintro e1 W8v13 ⟨rfl, hb1⟩
  replace HS := Lib.hid (HS.out.later hb1)
  refine hK _ _ HS.out.cells ?_
  clear hK K' hb1
  try simp only [Act.put, List.setIfInBounds_toArray, List.set_cons_zero, List.set_cons_succ]
  have hS : (fun w' : World => (((w'.cell? ⟨r6, 0, none⟩ = some (.float .f64 p0) ∧ w'.cell? ⟨r6, 1, none⟩ = some (.float .f64 p1)) ∧ w'.cell? ⟨r7, 0, none⟩ = some (.float .f64 q0) ∧ w'.cell? ⟨r7, 1, none⟩ = some (.float .f64 q1)) ∧ w'.cell? ⟨r8, 0, none⟩ = some (.float .f64 r0) ∧ w'.cell? ⟨r8, 1, none⟩ = some (.float .f64 r1)) ∧ w'.cell? ⟨rm, 0, none⟩ = some (.float .f64 a0) ∧ w'.cell? ⟨rm, 1, none⟩ = some (.float .f64 a1)) W8v13 := HS.out.cells
  repeat (first | (refine wpPl_takeL (v := ?_) rfl rfl (fun _ _ _ h => h) rfl (fun w' hSw => ?_) hS ?_; rotate_left; (focus (go_simp; with_reducible rfl)); simp only [List.setIfInBounds_toArray, List.set_cons_zero, List.set_cons_succ]) | (refine wpPl_skipL rfl rfl (fun _ _ _ h => h) rfl hS ?_; simp only [List.setIfInBounds_toArray, List.set_cons_zero, List.set_cons_succ]))
  clear hS
  refine wpPl_goL rfl rfl fun K' hK => ?_
  go_simp
  refine (HMab.out _).mono ?_
  rintro e1 W8v14 ⟨rfl, hb1⟩
  replace HS := Lib.hid (HS.out.later hb1)
  refine hK _ _ HS.out.cells ?_
  clear hK K' hb1
  try simp only [Act.put, List.setIfInBounds_toArray, List.set_cons_zero, List.set_cons_succ]
  have hS : (fun w' : World => (((w'.cell? ⟨r6, 0, none⟩ = some (.float .f64 p0) ∧ w'.cell? ⟨r6, 1, none⟩ = some (.float .f64 p1)) ∧ w'.cell? ⟨r7, 0, none⟩ = some (.float .f64 q0) ∧ w'.cell? ⟨r7, 1, none⟩ = some (.float .f64 q1)) ∧ w'.cell? ⟨r8, 0, none⟩ = some (.float .f64 r0) ∧ w'.cell? ⟨r8, 1, none⟩ = some (.float .f64 r1)) ∧ w'.cell? ⟨rm, 0, none⟩ = some (.float .f64 a0) ∧ w'.cell? ⟨rm, 1, none⟩ = some (.float .f64 a1)) W8v14 := HS.out.cells
  repeat (first | (refine wpPl_takeL (v := ?_) rfl rfl (fun _ _ _ h => h) rfl (fun w' hSw => ?_) hS ?_; rotate_left; (focus (go_simp; with_reducible rfl)); simp only [List.setIfInBounds_toArray, List.set_cons_zero, List.set_cons_succ]) | (refine wpPl_skipL rfl rfl (fun _ _ _ h => h) rfl hS ?_; simp only [List.setIfInBounds_toArray, List.set_cons_zero, List.set_cons_succ]))
  clear hS
  refine wpPl_nil ?_
  simp only [List.drop_succ_cons, List.drop_zero]
  obtain ⟨⟨⟨⟨g0, g1⟩, g2, g3⟩, g4, g5⟩, g6, g7⟩ := HS.out.cells
  go_wp2_with fail
  refine (HMab_c.out _).mono ?_
  rintro e42 w42 ⟨rfl, hb42⟩
  replace HS := Lib.hid (HS.out.later hb42)
  clear hb42
  clear g0 g1 g2 g3 g4 g5 g6 g7
  obtain ⟨⟨⟨⟨g0, g1⟩, g2, g3⟩, g4, g5⟩, g6, g7⟩ := HS.out.cells
  go_wp2_with fail
  refine (HS4.out _).mono ?_
  rintro e43 w43 ⟨rfl, hb43⟩
  replace HS := Lib.hid (HS.out.later hb43)
  clear hb43
  clear g0 g1 g2 g3 g4 g5 g6 g7
  obtain ⟨⟨⟨⟨g0, g1⟩, g2, g3⟩, g4, g5⟩, g6, g7⟩ := HS.out.cells
  go_upto_region 10 with fail
  go_cut [124] from 105 to 123 (fun c wx => c = .bool false ∧ Hid (S4b w wx r6 r7 r8 rm p0 p1 q0 q1 r0 r1 a0 a1))
  case first =>
    cases t1
    · go_wp2_with fail
      refine (HIab.out _).mono ?_
      rintro e2 w2 ⟨rfl, hb2⟩
      replace HS := Lib.hid (HS.out.later hb2)
      clear hb2
      clear g0 g1 g2 g3 g4 g5 g6 g7
      obtain ⟨⟨⟨⟨g0, g1⟩, g2, g3⟩, g4, g5⟩, g6, g7⟩ := HS.out.cells
      go_wp2_with fail
      refine (HIaa.out _).mono ?_
      rintro e5 w5 ⟨rfl, hb5⟩
      replace HS := Lib.hid (HS.out.later hb5)
      clear hb5
      clear g0 g1 g2 g3 g4 g5 g6 g7
      obtain ⟨⟨⟨⟨g0, g1⟩, g2, g3⟩, g4, g5⟩, g6, g7⟩ := HS.out.cells
      go_wp2
      go_meet
      exact ⟨rfl, HS⟩
    · cases t2
      · go_wp2_with fail
        refine (HIab.out _).mono ?_
        rintro e2 w2 ⟨rfl, hb2⟩
        replace HS := Lib.hid (HS.out.later hb2)
        clear hb2
        clear g0 g1 g2 g3 g4 g5 g6 g7
        obtain ⟨⟨⟨⟨g0, g1⟩, g2, g3⟩, g4, g5⟩, g6, g7⟩ := HS.out.cells
        go_wp2_with fail
        refine (HIbc.out _).mono ?_
        rintro e3 w3 ⟨rfl, hb3⟩
        replace HS := Lib.hid (HS.out.later hb3)
        clear hb3
        clear g0 g1 g2 g3 g4 g5 g6 g7
        obtain ⟨⟨⟨⟨g0, g1⟩, g2, g3⟩, g4, g5⟩, g6, g7⟩ := HS.out.cells
        go_wp2_with fail
        refine (HIaa.out _).mono ?_
        rintro e5 w5 ⟨rfl, hb5⟩
        replace HS := Lib.hid (HS.out.later hb5)
        clear hb5
        clear g0 g1 g2 g3 g4 g5 g6 g7
        obtain ⟨⟨⟨⟨g0, g1⟩, g2, g3⟩, g4, g5⟩, g6, g7⟩ := HS.out.cells
        go_wp2
        go_meet
        exact ⟨rfl, HS⟩
      · obtain rfl : t3 = true := HTR.out rfl rfl
        go_wp2_with fail
        refine (HIab.out _).mono ?_
        rintro e2 w2 ⟨rfl, hb2⟩
        replace HS := Lib.hid (HS.out.later hb2)
        clear hb2
        clear g0 g1 g2 g3 g4 g5 g6 g7
        obtain ⟨⟨⟨⟨g0, g1⟩, g2, g3⟩, g4, g5⟩, g6, g7⟩ := HS.out.cells
        go_wp2_with fail
        refine (HIbc.out _).mono ?_
        rintro e3 w3 ⟨rfl, hb3⟩
        replace HS := Lib.hid (HS.out.later hb3)
        clear hb3
        clear g0 g1 g2 g3 g4 g5 g6 g7
        obtain ⟨⟨⟨⟨g0, g1⟩, g2, g3⟩, g4, g5⟩, g6, g7⟩ := HS.out.cells
        go_wp2_with fail
        refine (HIac.out _).mono ?_
        rintro e4 w4 ⟨rfl, hb4⟩
        replace HS := Lib.hid (HS.out.later hb4)
        clear hb4
        clear g0 g1 g2 g3 g4 g5 g6 g7
        obtain ⟨⟨⟨⟨g0, g1⟩, g2, g3⟩, g4, g5⟩, g6, g7⟩ := HS.out.cells
        go_wp2_with fail
        refine (HIaa.out _).mono ?_
        rintro e5 w5 ⟨rfl, hb5⟩
        replace HS := Lib.hid (HS.out.later hb5)
        clear hb5
        clear g0 g1 g2 g3 g4 g5 g6 g7
        obtain ⟨⟨⟨⟨g0, g1⟩, g2, g3⟩, g4, g5⟩, g6, g7⟩ := HS.out.cells
        go_wp2
        go_meet
        exact ⟨rfl, HS⟩
  case rest =>
  obtain ⟨rfl, HS⟩ := hcut
  clear HTR
  clear g0 g1 g2 g3 g4 g5 g6 g7
  obtain ⟨⟨⟨⟨g0, g1⟩, g2, g3⟩, g4, g5⟩, g6, g7⟩ := HS.out.cells
  go_upto_region 12 with fail
  go_cut [142] from 125 to 141 (fun c wx => c = .bool false ∧ Hid (S4b w wx r6 r7 r8 rm p0 p1 q0 q1 r0 r1 a0 a1))
  case first =>
    clear g0 g1 g2 g3 g4 g5 g6 g7
    cases t1
    · refine wp_region_pl (fun w' : World => (((w'.cell? ⟨r6, 0, none⟩ = some (.float .f64 p0) ∧ w'.cell? ⟨r6, 1, none⟩ = some (.float .f64 p1)) ∧ w'.cell? ⟨r7, 0, none⟩ = some (.float .f64 q0) ∧ w'.cell? ⟨r7, 1, none⟩ = some (.float .f64 q1)) ∧ w'.cell? ⟨r8, 0, none⟩ = some (.float .f64 r0) ∧ w'.cell? ⟨r8, 1, none⟩ = some (.float .f64 r1)) ∧ w'.cell? ⟨rm, 0, none⟩ = some (.float .f64 a0) ∧ w'.cell? ⟨rm, 1, none⟩ = some (.float .f64 a1)) 14 (.take 0 (.take 1 (.run 2 (.take 3 (.take 4 (.take 5 (.run 6 (.take 7 (.take 8 (.take 9 (.take 10 (.take 12 (.take 13 (.run 11 .nil)))))))))))))) (by kernel_rfl) (by kernel_rfl) ?_
      replace HS := Lib.hid (HS.out.later (drew_below _))
      generalize World.drew _ = W12 at HS ⊢
      have hS : (fun w' : World => (((w'.cell? ⟨r6, 0, none⟩ = some (.float .f64 p0) ∧ w'.cell? ⟨r6, 1, none⟩ = some (.float .f64 p1)) ∧ w'.cell? ⟨r7, 0, none⟩ = some (.float .f64 q0) ∧ w'.cell? ⟨r7, 1, none⟩ = some (.float .f64 q1)) ∧ w'.cell? ⟨r8, 0, none⟩ = some (.float .f64 r0) ∧ w'.cell? ⟨r8, 1, none⟩ = some (.float .f64 r1)) ∧ w'.cell? ⟨rm, 0, none⟩ = some (.float .f64 a0) ∧ w'.cell? ⟨rm, 1, none⟩ = some (.float .f64 a1)) W12 := HS.out.cells
      repeat (first | (refine wpPl_takeL (v := ?_) rfl rfl (fun _ _ _ h => h) rfl (fun w' hSw => ?_) hS ?_; rotate_left; (focus (go_simp; with_reducible rfl)); simp only [List.setIfInBounds_toArray, List.set_cons_zero, List.set_cons_succ]) | (refine wpPl_skipL rfl rfl (fun _ _ _ h => h) rfl hS ?_; simp only [List.setIfInBounds_toArray, List.set_cons_zero, List.set_cons_succ]))
      clear hS
      refine wpPl_goL rfl rfl fun K' hK => ?_
      go_simp
      refine (HIab.out _).mono ?_
      rintro e1 W12v1 ⟨rfl, hb1⟩
      replace HS := Lib.hid (HS.out.later hb1)
      refine hK _ _ HS.out.cells ?_
      clear hK K' hb1
      try simp only [Act.put, List.setIfInBounds_toArray, List.set_cons_zero, List.set_cons_succ]
      have hS : (fun w' : World => (((w'.cell? ⟨r6, 0, none⟩ = some (.float .f64 p0) ∧ w'.cell? ⟨r6, 1, none⟩ = some (.float .f64 p1)) ∧ w'.cell? ⟨r7, 0, none⟩ = some (.float .f64 q0) ∧ w'.cell? ⟨r7, 1, none⟩ = some (.float .f64 q1)) ∧ w'.cell? ⟨r8, 0, none⟩ = some (.float .f64 r0) ∧ w'.cell? ⟨r8, 1, none⟩ = some (.float .f64 r1)) ∧ w'.cell? ⟨rm, 0, none⟩ = some (.float .f64 a0) ∧ w'.cell? ⟨rm, 1, none⟩ = some (.float .f64 a1)) W12v1 := HS.out.cells
      repeat (first | (refine wpPl_takeL (v := ?_) rfl rfl (fun _ _ _ h => h) rfl (fun w' hSw => ?_) hS ?_; rotate_left; (focus (go_simp; with_reducible rfl)); simp only [List.setIfInBounds_toArray, List.set_cons_zero, List.set_cons_succ]) | (refine wpPl_skipL rfl rfl (fun _ _ _ h => h) rfl hS ?_; simp only [List.setIfInBounds_toArray, List.set_cons_zero, List.set_cons_succ]))
      refine wpPl_idleL rfl rfl rfl hS ?_
      simp only [List.setIfInBounds_toArray, List.set_cons_zero, List.set_cons_succ]
      repeat (first | (refine wpPl_takeL (v := ?_) rfl rfl (fun _ _ _ h => h) rfl (fun w' hSw => ?_) hS ?_; rotate_left; (focus (go_simp; with_reducible rfl)); simp only [List.setIfInBounds_toArray, List.set_cons_zero, List.set_cons_succ]) | (refine wpPl_skipL rfl rfl (fun _ _ _ h => h) rfl hS ?_; simp only [List.setIfInBounds_toArray, List.set_cons_zero, List.set_cons_succ]))
      refine wpPl_idleL rfl rfl rfl hS ?_
      simp only [List.setIfInBounds_toArray, List.set_cons_zero, List.set_cons_succ]
      repeat (first | (refine wpPl_takeL (v := ?_) rfl rfl (fun _ _ _ h => h) rfl (fun w' hSw => ?_) hS ?_; rotate_left; (focus (go_simp; with_reducible rfl)); simp only [List.setIfInBounds_toArray, List.set_cons_zero, List.set_cons_succ]) | (refine wpPl_skipL rfl rfl (fun _ _ _ h => h) rfl hS ?_; simp only [List.setIfInBounds_toArray, List.set_cons_zero, List.set_cons_succ]))
      clear hS
      refine wpPl_nil ?_
      simp only [List.drop_succ_cons, List.drop_zero]
      obtain ⟨⟨⟨⟨g0, g1⟩, g2, g3⟩, g4, g5⟩, g6, g7⟩ := HS.out.cells
      go_wp2
      go_meet
      exact ⟨rfl, HS⟩
    · cases t4
      · refine wp_region_pl (fun w' : World => (((w'.cell? ⟨r6, 0, none⟩ = some (.float .f64 p0) ∧ w'.cell? ⟨r6, 1, none⟩ = some (.float .f64 p1)) ∧ w'.cell? ⟨r7, 0, none⟩ = some (.float .f64 q0) ∧ w'.cell? ⟨r7, 1, none⟩ = some (.float .f64 q1)) ∧ w'.cell? ⟨r8, 0, none⟩ = some (.float .f64 r0) ∧ w'.cell? ⟨r8, 1, none⟩ = some (.float .f64 r1)) ∧ w'.cell? ⟨rm, 0, none⟩ = some (.float .f64 a0) ∧ w'.cell? ⟨rm, 1, none⟩ = some (.float .f64 a1)) 14 (.take 0 (.take 1 (.run 2 (.take 3 (.take 4 (.take 5 (.run 6 (.take 7 (.take 8 (.take 9 (.take 10 (.take 12 (.take 13 (.run 11 .nil)))))))))))))) (by kernel_rfl) (by kernel_rfl) ?_
        replace HS := Lib.hid (HS.out.later (drew_below _))
        generalize World.drew _ = W12 at HS ⊢
        have hS : (fun w' : World => (((w'.cell? ⟨r6, 0, none⟩ = some (.float .f64 p0) ∧ w'.cell? ⟨r6, 1, none⟩ = some (.float .f64 p1)) ∧ w'.cell? ⟨r7, 0, none⟩ = some (.float .f64 q0) ∧ w'.cell? ⟨r7, 1, none⟩ = some (.float .f64 q1)) ∧ w'.cell? ⟨r8, 0, none⟩ = some (.float .f64 r0) ∧ w'.cell? ⟨r8, 1, none⟩ = some (.float .f64 r1)) ∧ w'.cell? ⟨rm, 0, none⟩ = some (.float .f64 a0) ∧ w'.cell? ⟨rm, 1, none⟩ = some (.float .f64 a1)) W12 := HS.out.cells
        repeat (first | (refine wpPl_takeL (v := ?_) rfl rfl (fun _ _ _ h => h) rfl (fun w' hSw => ?_) hS ?_; rotate_left; (focus (go_simp; with_reducible rfl)); simp only [List.setIfInBounds_toArray, List.set_cons_zero, List.set_cons_succ]) | (refine wpPl_skipL rfl rfl (fun _ _ _ h => h) rfl hS ?_; simp only [List.setIfInBounds_toArray, List.set_cons_zero, List.set_cons_succ]))
        clear hS
        refine wpPl_goL rfl rfl fun K' hK => ?_
        go_simp
        refine (HIab.out _).mono ?_
        rintro e1 W12v1 ⟨rfl, hb1⟩
        replace HS := Lib.hid (HS.out.later hb1)
        refine hK _ _ HS.out.cells ?_
        clear hK K' hb1
        try simp only [Act.put, List.setIfInBounds_toArray, List.set_cons_zero, List.set_cons_succ]
        have hS : (fun w' : World => (((w'.cell? ⟨r6, 0, none⟩ = some (.float .f64 p0) ∧ w'.cell? ⟨r6, 1, none⟩ = some (.float .f64 p1)) ∧ w'.cell? ⟨r7, 0, none⟩ = some (.float .f64 q0) ∧ w'.cell? ⟨r7, 1, none⟩ = some (.float .f64 q1)) ∧ w'.cell? ⟨r8, 0, none⟩ = some (.float .f64 r0) ∧ w'.cell? ⟨r8, 1, none⟩ = some (.float .f64 r1)) ∧ w'.cell? ⟨rm, 0, none⟩ = some (.float .f64 a0) ∧ w'.cell? ⟨rm, 1, none⟩ = some (.float .f64 a1)) W12v1 := HS.out.cells
        repeat (first | (refine wpPl_takeL (v := ?_) rfl rfl (fun _ _ _ h => h) rfl (fun w' hSw => ?_) hS ?_; rotate_left; (focus (go_simp; with_reducible rfl)); simp only [List.setIfInBounds_toArray, List.set_cons_zero, List.set_cons_succ]) | (refine wpPl_skipL rfl rfl (fun _ _ _ h => h) rfl hS ?_; simp only [List.setIfInBounds_toArray, List.set_cons_zero, List.set_cons_succ]))
        clear hS
        refine wpPl_goL rfl rfl fun K' hK => ?_
        go_simp
        refine (HIba.out _).mono ?_
        rintro e1 W12v2 ⟨rfl, hb1⟩
        replace HS := Lib.hid (HS.out.later hb1)
        refine hK _ _ HS.out.cells ?_
        clear hK K' hb1
        try simp only [Act.put, List.setIfInBounds_toArray, List.set_cons_zero, List.set_cons_succ]
        have hS : (fun w' : World => (((w'.cell? ⟨r6, 0, none⟩ = some (.float .f64 p0) ∧ w'.cell? ⟨r6, 1, none⟩ = some (.float .f64 p1)) ∧ w'.cell? ⟨r7, 0, none⟩ = some (.float .f64 q0) ∧ w'.cell? ⟨r7, 1, none⟩ = some (.float .f64 q1)) ∧ w'.cell? ⟨r8, 0, none⟩ = some (.float .f64 r0) ∧ w'.cell? ⟨r8, 1, none⟩ = some (.float .f64 r1)) ∧ w'.cell? ⟨rm, 0, none⟩ = some (.float .f64 a0) ∧ w'.cell? ⟨rm, 1, none⟩ = some (.float .f64 a1)) W12v2 := HS.out.cells
        repeat (first | (refine wpPl_takeL (v := ?_) rfl rfl (fun _ _ _ h => h) rfl (fun w' hSw => ?_) hS ?_; rotate_left; (focus (go_simp; with_reducible rfl)); simp only [List.setIfInBounds_toArray, List.set_cons_zero, List.set_cons_succ]) | (refine wpPl_skipL rfl rfl (fun _ _ _ h => h) rfl hS ?_; simp only [List.setIfInBounds_toArray, List.set_cons_zero, List.set_cons_succ]))
        refine wpPl_idleL rfl rfl rfl hS ?_
        simp only [List.setIfInBounds_toArray, List.set_cons_zero, List.set_cons_succ]
        repeat (first | (refine wpPl_takeL (v := ?_) rfl rfl (fun _ _ _ h => h) rfl (fun w' hSw => ?_) hS ?_; rotate_left; (focus (go_simp; with_reducible rfl)); simp only [List.setIfInBounds_toArray, List.set_cons_zero, List.set_cons_succ]) | (refine wpPl_skipL rfl rfl (fun _ _ _ h => h) rfl hS ?_; simp only [List.setIfInBounds_toArray, List.set_cons_zero, List.set_cons_succ]))
        clear hS
        refine wpPl_nil ?_
        simp only [List.drop_succ_cons, List.drop_zero]
        obtain ⟨⟨⟨⟨g0, g1⟩, g2, g3⟩, g4, g5⟩, g6, g7⟩ := HS.out.cells
        go_wp2
        go_meet
        exact ⟨rfl, HS⟩
      · obtain rfl : t5 = true := HAN.out rfl rfl
        refine wp_region_pl (fun w' : World => (((w'.cell? ⟨r6, 0, none⟩ = some (.float .f64 p0) ∧ w'.cell? ⟨r6, 1, none⟩ = some (.float .f64 p1)) ∧ w'.cell? ⟨r7, 0, none⟩ = some (.float .f64 q0) ∧ w'.cell? ⟨r7, 1, none⟩ = some (.float .f64 q1)) ∧ w'.cell? ⟨r8, 0, none⟩ = some (.float .f64 r0) ∧ w'.cell? ⟨r8, 1, none⟩ = some (.float .f64 r1)) ∧ w'.cell? ⟨rm, 0, none⟩ = some (.float .f64 a0) ∧ w'.cell? ⟨rm, 1, none⟩ = some (.float .f64 a1)) 14 (.take 0 (.take 1 (.run 2 (.take 3 (.take 4 (.take 5 (.run 6 (.take 7 (.take 8 (.take 9 (.take 10 (.take 12 (.take 13 (.run 11 .nil)))))))))))))) (by kernel_rfl) (by kernel_rfl) ?_
        replace HS := Lib.hid (HS.out.later (drew_below _))
        generalize World.drew _ = W12 at HS ⊢
        have hS : (fun w' : World => (((w'.cell? ⟨r6, 0, none⟩ = some (.float .f64 p0) ∧ w'.cell? ⟨r6, 1, none⟩ = some (.float .f64 p1)) ∧ w'.cell? ⟨r7, 0, none⟩ = some (.float .f64 q0) ∧ w'.cell? ⟨r7, 1, none⟩ = some (.float .f64 q1)) ∧ w'.cell? ⟨r8, 0, none⟩ = some (.float .f64 r0) ∧ w'.cell? ⟨r8, 1, none⟩ = some (.float .f64 r1)) ∧ w'.cell? ⟨rm, 0, none⟩ = some (.float .f64 a0) ∧ w'.cell? ⟨rm, 1, none⟩ = some (.float .f64 a1)) W12 := HS.out.cells
        repeat (first | (refine wpPl_takeL (v := ?_) rfl rfl (fun _ _ _ h => h) rfl (fun w' hSw => ?_) hS ?_; rotate_left; (focus (go_simp; with_reducible rfl)); simp only [List.setIfInBounds_toArray, List.set_cons_zero, List.set_cons_succ]) | (refine wpPl_skipL rfl rfl (fun _ _ _ h => h) rfl hS ?_; simp only [List.setIfInBounds_toArray, List.set_cons_zero, List.set_cons_succ]))
        clear hS
        refine wpPl_goL rfl rfl fun K' hK => ?_
        go_simp
        refine (HIab.out _).mono ?_
        rintro e1 W12v1 ⟨rfl, hb1⟩
        replace HS := Lib.hid (HS.out.later hb1)
        refine hK _ _ HS.out.cells ?_
        clear hK K' hb1
        try simp only [Act.put, List.setIfInBounds_toArray, List.set_cons_zero, List.set_cons_succ]
        have hS : (fun w' : World => (((w'.cell? ⟨r6, 0, none⟩ = some (.float .f64 p0) ∧ w'.cell? ⟨r6, 1, none⟩ = some (.float .f64 p1)) ∧ w'.cell? ⟨r7, 0, none⟩ = some (.float .f64 q0) ∧ w'.cell? ⟨r7, 1, none⟩ = some (.float .f64 q1)) ∧ w'.cell? ⟨r8, 0, none⟩ = some (.float .f64 r0) ∧ w'.cell? ⟨r8, 1, none⟩ = some (.float .f64 r1)) ∧ w'.cell? ⟨rm, 0, none⟩ = some (.float .f64 a0) ∧ w'.cell? ⟨rm, 1, none⟩ = some (.float .f64 a1)) W12v1 := HS.out.cells
        repeat (first | (refine wpPl_takeL (v := ?_) rfl rfl (fun _ _ _ h => h) rfl (fun w' hSw => ?_) hS ?_; rotate_left; (focus (go_simp; with_reducible rfl)); simp only [List.setIfInBounds_toArray, List.set_cons_zero, List.set_cons_succ]) | (refine wpPl_skipL rfl rfl (fun _ _ _ h => h) rfl hS ?_; simp only [List.setIfInBounds_toArray, List.set_cons_zero, List.set_cons_succ]))
        clear hS
        refine wpPl_goL rfl rfl fun K' hK => ?_
        go_simp
        refine (HIba.out _).mono ?_
        rintro e1 W12v2 ⟨rfl, hb1⟩
        replace HS := Lib.hid (HS.out.later hb1)
        refine hK _ _ HS.out.cells ?_
        clear hK K' hb1
        try simp only [Act.put, List.setIfInBounds_toArray, List.set_cons_zero, List.set_cons_succ]
        have hS : (fun w' : World => (((w'.cell? ⟨r6, 0, none⟩ = some (.float .f64 p0) ∧ w'.cell? ⟨r6, 1, none⟩ = some (.float .f64 p1)) ∧ w'.cell? ⟨r7, 0, none⟩ = some (.float .f64 q0) ∧ w'.cell? ⟨r7, 1, none⟩ = some (.float .f64 q1)) ∧ w'.cell? ⟨r8, 0, none⟩ = some (.float .f64 r0) ∧ w'.cell? ⟨r8, 1, none⟩ = some (.float .f64 r1)) ∧ w'.cell? ⟨rm, 0, none⟩ = some (.float .f64 a0) ∧ w'.cell? ⟨rm, 1, none⟩ = some (.float .f64 a1)) W12v2 := HS.out.cells
        repeat (first | (refine wpPl_takeL (v := ?_) rfl rfl (fun _ _ _ h => h) rfl (fun w' hSw => ?_) hS ?_; rotate_left; (focus (go_simp; with_reducible rfl)); simp only [List.setIfInBounds_toArray, List.set_cons_zero, List.set_cons_succ]) | (refine wpPl_skipL rfl rfl (fun _ _ _ h => h) rfl hS ?_; simp only [List.setIfInBounds_toArray, List.set_cons_zero, List.set_cons_succ]))
        clear hS
        refine wpPl_goL rfl rfl fun K' hK => ?_
        go_simp
        refine (HUaa.out _).mono ?_
        rintro e1 W12v3 ⟨rfl, hb1⟩
        replace HS := Lib.hid (HS.out.later hb1)
        refine hK _ _ HS.out.cells ?_
        clear hK K' hb1
        try simp only [Act.put, List.setIfInBounds_toArray, List.set_cons_zero, List.set_cons_succ]
        have hS : (fun w' : World => (((w'.cell? ⟨r6, 0, none⟩ = some (.float .f64 p0) ∧ w'.cell? ⟨r6, 1, none⟩ = some (.float .f64 p1)) ∧ w'.cell? ⟨r7, 0, none⟩ = some (.float .f64 q0) ∧ w'.cell? ⟨r7, 1, none⟩ = some (.float .f64 q1)) ∧ w'.cell? ⟨r8, 0, none⟩ = some (.float .f64 r0) ∧ w'.cell? ⟨r8, 1, none⟩ = some (.float .f64 r1)) ∧ w'.cell? ⟨rm, 0, none⟩ = some (.float .f64 a0) ∧ w'.cell? ⟨rm, 1, none⟩ = some (.float .f64 a1)) W12v3 := HS.out.cells
        repeat (first | (refine wpPl_takeL (v := ?_) rfl rfl (fun _ _ _ h => h) rfl (fun w' hSw => ?_) hS ?_; rotate_left; (focus (go_simp; with_reducible rfl)); simp only [List.setIfInBounds_toArray, List.set_cons_zero, List.set_cons_succ]) | (refine wpPl_skipL rfl rfl (fun _ _ _ h => h) rfl hS ?_; simp only [List.setIfInBounds_toArray, List.set_cons_zero, List.set_cons_succ]))
        clear hS
        refine wpPl_nil ?_
        simp only [List.drop_succ_cons, List.drop_zero]
        obtain ⟨⟨⟨⟨g0, g1⟩, g2, g3⟩, g4, g5⟩, g6, g7⟩ := HS.out.cells
        go_wp2_with fail
        refine (HUbb.out _).mono ?_
        rintro e13 w13 ⟨rfl, hb13⟩
        replace HS := Lib.hid (HS.out.later hb13)
        clear hb13
        clear g0 g1 g2 g3 g4 g5 g6 g7
        obtain ⟨⟨⟨⟨g0, g1⟩, g2, g3⟩, g4, g5⟩, g6, g7⟩ := HS.out.cells
        go_wp2_with fail
        refine (HS5.out _).mono ?_
        rintro e15 w15 ⟨rfl, hb15⟩
        replace HS := Lib.hid (HS.out.later hb15)
        clear hb15
        clear g0 g1 g2 g3 g4 g5 g6 g7
        obtain ⟨⟨⟨⟨g0, g1⟩, g2, g3⟩, g4, g5⟩, g6, g7⟩ := HS.out.cells
        go_wp2
        go_meet
        exact ⟨rfl, HS⟩
  case rest =>
  obtain ⟨rfl, HS⟩ := hcut
  clear HAN
  clear g0 g1 g2 g3 g4 g5 g6 g7
  obtain ⟨⟨⟨⟨g0, g1⟩, g2, g3⟩, g4, g5⟩, g6, g7⟩ := HS.out.cells
  go_wp2
  clear g0 g1 g2 g3 g4 g5 g6 g7
  refine wp_region_pl (fun w' : World => (((w'.cell? ⟨r6, 0, none⟩ = some (.float .f64 p0) ∧ w'.cell? ⟨r6, 1, none⟩ = some (.float .f64 p1)) ∧ w'.cell? ⟨r7, 0, none⟩ = some (.float .f64 q0) ∧ w'.cell? ⟨r7, 1, none⟩ = some (.float .f64 q1)) ∧ w'.cell? ⟨r8, 0, none⟩ = some (.float .f64 r0) ∧ w'.cell? ⟨r8, 1, none⟩ = some (.float .f64 r1)) ∧ w'.cell? ⟨rm, 0, none⟩ = some (.float .f64 a0) ∧ w'.cell? ⟨rm, 1, none⟩ = some (.float .f64 a1)) 5 (.take 0 (.take 1 (.take 3 (.take 4 (.run 2 .nil))))) (by kernel_rfl) (by kernel_rfl) ?_
  replace HS := Lib.hid (HS.out.later (drew_below _))
  generalize World.drew _ = W14 at HS ⊢
  have hS : (fun w' : World => (((w'.cell? ⟨r6, 0, none⟩ = some (.float .f64 p0) ∧ w'.cell? ⟨r6, 1, none⟩ = some (.float .f64 p1)) ∧ w'.cell? ⟨r7, 0, none⟩ = some (.float .f64 q0) ∧ w'.cell? ⟨r7, 1, none⟩ = some (.float .f64 q1)) ∧ w'.cell? ⟨r8, 0, none⟩ = some (.float .f64 r0) ∧ w'.cell? ⟨r8, 1, none⟩ = some (.float .f64 r1)) ∧ w'.cell? ⟨rm, 0, none⟩ = some (.float .f64 a0) ∧ w'.cell? ⟨rm, 1, none⟩ = some (.float .f64 a1)) W14 := HS.out.cells
  repeat (first | (refine wpPl_takeL (v := ?_) rfl rfl (fun _ _ _ h => h) rfl (fun w' hSw => ?_) hS ?_; rotate_left; (focus (go_simp; with_reducible rfl)); simp only [List.setIfInBounds_toArray, List.set_cons_zero, List.set_cons_succ]) | (refine wpPl_skipL rfl rfl (fun _ _ _ h => h) rfl hS ?_; simp only [List.setIfInBounds_toArray, List.set_cons_zero, List.set_cons_succ]))
  clear hS
  refine wpPl_goL rfl rfl fun K' hK => ?_
  go_simp
  refine (HMt.out _).mono ?_
  rintro e1 W14v1 ⟨rfl, hb1⟩
  replace HS := Lib.hid (HS.out.later hb1)
  refine hK _ _ HS.out.cells ?_
  clear hK K' hb1
  try simp only [Act.put, List.setIfInBounds_toArray, List.set_cons_zero, List.set_cons_succ]
  have hS : (fun w' : World => (((w'.cell? ⟨r6, 0, none⟩ = some (.float .f64 p0) ∧ w'.cell? ⟨r6, 1, none⟩ = some (.float .f64 p1)) ∧ w'.cell? ⟨r7, 0, none⟩ = some (.float .f64 q0) ∧ w'.cell? ⟨r7, 1, none⟩ = some (.float .f64 q1)) ∧ w'.cell? ⟨r8, 0, none⟩ = some (.float .f64 r0) ∧ w'.cell? ⟨r8, 1, none⟩ = some (.float .f64 r1)) ∧ w'.cell? ⟨rm, 0, none⟩ = some (.float .f64 a0) ∧ w'.cell? ⟨rm, 1, none⟩ = some (.float .f64 a1)) W14v1 := HS.out.cells
  repeat (first | (refine wpPl_takeL (v := ?_) rfl rfl (fun _ _ _ h => h) rfl (fun w' hSw => ?_) hS ?_; rotate_left; (focus (go_simp; with_reducible rfl)); simp only [List.setIfInBounds_toArray, List.set_cons_zero, List.set_cons_succ]) | (refine wpPl_skipL rfl rfl (fun _ _ _ h => h) rfl hS ?_; simp only [List.setIfInBounds_toArray, List.set_cons_zero, List.set_cons_succ]))
  clear hS
  refine wpPl_nil ?_
  simp only [List.drop_succ_cons, List.drop_zero]
  obtain ⟨⟨⟨⟨g0, g1⟩, g2, g3⟩, g4, g5⟩, g6, g7⟩ := HS.out.cells
  go_wp2_with fail
  refine (HMab.out _).mono ?_
  rintro e15 w15 ⟨rfl, hb15⟩
  replace HS := Lib.hid (HS.out.later hb15)
  clear hb15
  clear g0 g1 g2 g3 g4 g5 g6 g7
  obtain ⟨⟨⟨⟨g0, g1⟩, g2, g3⟩, g4, g5⟩, g6, g7⟩ := HS.out.cells
  go_wp2_with fail
  refine (HE.out _).mono ?_
  rintro e16 w16 ⟨rfl, hb16⟩
  replace HS := Lib.hid (HS.out.later hb16)
  clear hb16
  clear g0 g1 g2 g3 g4 g5 g6 g7
  obtain ⟨⟨⟨⟨g0, g1⟩, g2, g3⟩, g4, g5⟩, g6, g7⟩ := HS.out.cells
  go_wp2_with fail
  refine (HS6.out _).mono ?_
  rintro e17 w17 ⟨rfl, hb17⟩
  replace HS := Lib.hid (HS.out.later hb17)
  clear hb17
  clear g0 g1 g2 g3 g4 g5 g6 g7
  obtain ⟨⟨⟨⟨g0, g1⟩, g2, g3⟩, g4, g5⟩, g6, g7⟩ := HS.out.cells
  have hbb : (bm == !!bm) = true := by cases bm <;> rfl
  go_wp2
  go_ret
  exact ⟨by cases bm <;> rfl, HS.out.1.2.2⟩

end Go.Proofs.YtfjhhhccimpnjaaGreatDoor
