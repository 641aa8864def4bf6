/- Walk: IntervalNarrow. Printed by wip/gen/iv24.py. -/
import Derived.Test.YtjokekmbnffpfaaGreatDoorIL
namespace Go.Proofs.YtjokekmbnffpfaaGreatDoor
open Go.RowKit
attribute [local go_sem] run_store_f

set_option maxRecDepth 100000 in
set_option maxHeartbeats 51200000 in
theorem intervalNarrow_any (p0 p1 q0 q1 : Nat) (w : World) (hp0 : W64 p0) (hp1 : W64 p1) (hq0 : W64 q0) (hq1 : W64 q1) (hT : TabB w) :
    Calls Tryz.prog 4 #[.agg #[.int .u64 p0, .int .u64 p1], .agg #[.int .u64 q0, .int .u64 q1]] w (Gives (.bool true) w) := by
  have HP := Lib.hid (And.intro hp0 (And.intro hp1 (And.intro hq0 hq1)))
  have HAW := Lib.hid fun W ht => awake6_any W ht
  have HOA := Lib.hid fun W => lof_any p0 p1 W
  have HOB := Lib.hid fun W => lof_any q0 q1 W
  have HT := Lib.hid hT
  have HSUB : Hid (∀ v : Nat, W64 v → finB v = true → ∀ t w, (binOp .sub t (.float .f64 v) (.float .f64 v)).run Tryz.prog w = .ok (.float .f64 0) w) := Lib.hid fun v hv fv t w => run_float_arith w .sub t .f64 _ _ _ (sub_self_fin hv fv)
  have HNAN : Hid (∀ v : Nat, W64 v → finB v = false → (∀ t w, (binOp .sub t (.float .f64 v) (.float .f64 v)).run Tryz.prog w = .ok (.float .f64 (fV .sub v v w)) (fN .sub v v w)) ∧ (∀ w, (FloatKind.f64.format.order (fV .sub v v w) 0 != some Ordering.eq) = true) ∧ ∀ w, Below w.heap.size w (fN .sub v v w)) := Lib.hid fun v hv fv => by
    have hs := sub_self_not hv fv
    refine ⟨fun t w => run_float_any .sub (.inr (.inl rfl)) t v v w, fun w => ?_, fun w => fN_below .sub v v w⟩
    have hv2 : fV .sub v v w = nzB v v w := by
      have : floatBits .sub .f64 v v = none := hs
      unfold fV; rw [this]
    have hnn := order_nan (y := 0) (nz_nan v v w).2
    rw [← hv2] at hnn
    unfold F6 at hnn; rw [bne, hnn]; rfl
  have hz2 : (FloatKind.f64.format.order 0 0 != some Ordering.eq) = false := by decide
  clear hp0 hp1 hq0 hq1 hT
  have HW0 := Lib.hid (Bks.new2 w 37 #[.int .u64 p0, .int .u64 p1] #[.int .u64 q0, .int .u64 q1])
  go_enter Tryz.func4, Tryz.ntmps4
  go_wp2_with fail
  refine (HAW.out _ (HT.out.below HW0.out.2)).mono ?_
  rintro e1 w1 ⟨rfl, hb1⟩
  have HW := Lib.hid (HW0.out.later hb1)
  clear HW0 hb1 HAW
  go_wp2
  refine wp_region_q (fun w' : World => (w'.cell? ⟨w.heap.size, 0, none⟩ = some (.int .u64 p0) ∧ w'.cell? ⟨w.heap.size, 1, none⟩ = some (.int .u64 p1)) ∧ w'.cell? ⟨w.heap.size + 1, 0, none⟩ = some (.int .u64 q0) ∧ w'.cell? ⟨w.heap.size + 1, 1, none⟩ = some (.int .u64 q1)) 6 (.take 0 (.take 2 (.bag [(1, 16, []), (3, 18, []), (4, 5, []), (5, 6, [])] .nil))) (by kernel_rfl) (by kernel_rfl) ?_
  replace HW := Lib.hid (HW.out.later (drew_below _))
  generalize World.drew _ = W3 at HW ⊢
  have HSZ : Hid (SzLe W3 W3.heap.size) := Lib.hid (Nat.le_refl _)
  have HLT := Lib.hid HW.out.lt
  have HSW : Hid (w.heap.size ≤ W3.heap.size) := Lib.hid HW.out.size
  generalize W3.heap.size = nB at HSZ HLT HSW
  have hS : (fun w' : World => (w'.cell? ⟨w.heap.size, 0, none⟩ = some (.int .u64 p0) ∧ w'.cell? ⟨w.heap.size, 1, none⟩ = some (.int .u64 p1)) ∧ w'.cell? ⟨w.heap.size + 1, 0, none⟩ = some (.int .u64 q0) ∧ w'.cell? ⟨w.heap.size + 1, 1, none⟩ = some (.int .u64 q1)) W3 := HW.out.two2
  repeat (refine wpPq_takeL (v := ?_) rfl rfl (fun _ _ _ h => h) rfl (fun w' hSw => ?_) hS ?_; rotate_left; (focus (go_simp; with_reducible rfl)); simp only [setL])
  clear hS
  have hAp : ∀ j ∈ ([4, 5] : List Nat), ∀ s w', (pick [(1, fun v w' => v = .agg #[.float .f64 p0, .float .f64 p1]), (3, fun v w' => v = .agg #[.float .f64 q0, .float .f64 q1]), (4, fun v w' => ∃ r, v = .pointer (some ⟨r, 0, none⟩) ∧ nB ≤ r ∧ BlkT w' r 34 #[.float .f64 0, .float .f64 0]), (5, fun v w' => ∃ r, v = .pointer (some ⟨r, 0, none⟩) ∧ nB ≤ r ∧ BlkT w' r 34 #[.float .f64 0, .float .f64 0])]) j (.pointer (some ⟨s, 0, none⟩)) w' → s < w'.heap.size := (bag_cons (fun s w' h => by obtain ⟨r, hr, -, hB⟩ := (h : (fun (v : Value) (w' : World) => ∃ r, v = .pointer (some ⟨r, 0, none⟩) ∧ nB ≤ r ∧ BlkT w' r 34 #[.float .f64 0, .float .f64 0]) (.pointer (some ⟨s, 0, none⟩)) w'); simp only [Value.pointer.injEq, Option.some.injEq, Addr.mk.injEq, and_true] at hr; subst hr; exact hB.lt) (bag_cons (fun s w' h => by obtain ⟨r, hr, -, hB⟩ := (h : (fun (v : Value) (w' : World) => ∃ r, v = .pointer (some ⟨r, 0, none⟩) ∧ nB ≤ r ∧ BlkT w' r 34 #[.float .f64 0, .float .f64 0]) (.pointer (some ⟨s, 0, none⟩)) w'); simp only [Value.pointer.injEq, Option.some.injEq, Addr.mk.injEq, and_true] at hr; subst hr; exact hB.lt) bag_nil))
  refine wpPq_bagD [4, 5] (pick [(1, fun v w' => v = .agg #[.float .f64 p0, .float .f64 p1]), (3, fun v w' => v = .agg #[.float .f64 q0, .float .f64 q1]), (4, fun v w' => ∃ r, v = .pointer (some ⟨r, 0, none⟩) ∧ nB ≤ r ∧ BlkT w' r 34 #[.float .f64 0, .float .f64 0]), (5, fun v w' => ∃ r, v = .pointer (some ⟨r, 0, none⟩) ∧ nB ≤ r ∧ BlkT w' r 34 #[.float .f64 0, .float .f64 0])]) (pick_mono (bag_cons (fun v w1 w2 hv1 hb => hv1) (bag_cons (fun v w1 w2 hv3 hb => hv3) (bag_cons (fun v w1 w2 ⟨ra, hv4, hl4, hB4⟩ hb => ⟨ra, hv4, hl4, hB4.below hb⟩) (bag_cons (fun v w1 w2 ⟨rb, hv5, hl5, hB5⟩ hb => ⟨rb, hv5, hl5, hB5.below hb⟩) bag_nil))))) (fun w' hb => (HW.out.later hb).two2) (by simp [prE]) (fun _ _ _ _ _ h => h) (by decide) (bag_cons (bagD_one rfl (BagStep.other (by decide) ?_)) (bag_cons (bagD_one rfl (BagStep.other (by decide) ?_)) (bag_cons (bagD_one rfl (BagStep.fresh hAp ?_)) (bag_cons (bagD_one rfl (BagStep.fresh hAp ?_)) bag_nil)))) bag_nil ?_
  · intro a' V hdf hin hdep hb1 K hK
    have i15 : a'.tmps[15]?.getD undef = .agg #[.int .u64 p0, .int .u64 p1] := evT (hin 15 (by decide))
    clear hin hdep hdf
    have HW := Lib.hid (HW.out.later hb1)
    have HSZ := Lib.hid (HSZ.out.below hb1)
    go_simp
    refine (HOA.out _).mono ?_
    rintro e1 V2 ⟨rfl, hb2⟩
    exact hK _ _ rfl hb2
  · intro a' V hdf hin hdep hb1 K hK
    have i17 : a'.tmps[17]?.getD undef = .agg #[.int .u64 q0, .int .u64 q1] := evT (hin 17 (by decide))
    clear hin hdep hdf
    have HW := Lib.hid (HW.out.later hb1)
    have HSZ := Lib.hid (HSZ.out.below hb1)
    go_simp
    refine (HOB.out _).mono ?_
    rintro e1 V2 ⟨rfl, hb2⟩
    exact hK _ _ rfl hb2
  · intro a' V hdf hin hdep hb1 K hK
    clear hin hdep hdf
    have HW := Lib.hid (HW.out.later hb1)
    have HSZ := Lib.hid (HSZ.out.below hb1)
    go_simp
    exact hK _ ⟨_, rfl, HSZ.out, BlkT.new V _ _⟩ (Below.alloc_self _ _)
  · intro a' V hdf hin hdep hb1 K hK
    clear hin hdep hdf
    have HW := Lib.hid (HW.out.later hb1)
    have HSZ := Lib.hid (HSZ.out.below hb1)
    go_simp
    exact hK _ ⟨_, rfl, HSZ.out, BlkT.new V _ _⟩ (Below.alloc_self _ _)
  intro vals B1 hb1 hR hNE
  replace HW := Lib.hid (HW.out.later hb1)
  replace HSZ := Lib.hid (HSZ.out.below hb1)
  obtain hv1 : (fun (v : Value) (w' : World) => v = .agg #[.float .f64 p0, .float .f64 p1]) (vals 1) B1 := hR (1, 16) (by decide)
  dsimp only at hv1
  obtain hv3 : (fun (v : Value) (w' : World) => v = .agg #[.float .f64 q0, .float .f64 q1]) (vals 3) B1 := hR (3, 18) (by decide)
  dsimp only at hv3
  obtain ⟨ra, hv4, hl4, hB4⟩ : (fun (v : Value) (w' : World) => ∃ r, v = .pointer (some ⟨r, 0, none⟩) ∧ nB ≤ r ∧ BlkT w' r 34 #[.float .f64 0, .float .f64 0]) (vals 4) B1 := hR (4, 5) (by decide)
  obtain ⟨rb, hv5, hl5, hB5⟩ : (fun (v : Value) (w' : World) => ∃ r, v = .pointer (some ⟨r, 0, none⟩) ∧ nB ≤ r ∧ BlkT w' r 34 #[.float .f64 0, .float .f64 0]) (vals 5) B1 := hR (5, 6) (by decide)
  have hne4_5 := hNE (4, 5) (by decide) (5, 6) (by decide) (by decide) (by decide) (by decide) ra rb hv4 hv5
  clear hNE hAp
  clear hb1 hR
  simp only [prE, List.flatMap_cons, List.flatMap_nil, List.cons_append, List.nil_append, List.append_nil, setD, List.setIfInBounds_toArray, List.set_cons_zero, List.set_cons_succ, hv1, hv3, hv4, hv5]
  clear vals hv1 hv3 hv4 hv5
  refine wpPq_nil ?_
  simp only [List.drop_succ_cons, List.drop_zero]
  have HS := Lib.hid (Bks.sub (HW.out.fill2 hB4 hB5 (Nat.le_trans HSW.out hl4) (Nat.le_trans HSW.out hl5) hne4_5 (fun q m e => by have := HLT.out q m; omega) (fun q m e => by have := HLT.out q m; omega) (.float .f64 p0) (.float .f64 p1) (.float .f64 q0) (.float .f64 q1)) (l' := [(ra, 34, #[.float .f64 p0, .float .f64 p1]), (rb, 34, #[.float .f64 q0, .float .f64 q1])]) (by intro t m; simp only [List.mem_cons, List.not_mem_nil, or_false] at m ⊢; rcases m with rfl | rfl <;> simp))
  obtain ⟨f60, f61, f62, f63⟩ := hB4.cells2
  obtain ⟨f70, f71, f72, f73⟩ := hB5.cells2
  have hne' : rb ≠ ra := hne4_5.symm
  clear HW HLT HSZ HSW hB4 hB5 hl4 hl5
  go_upto_region 4 with fail
  clear f60 f61 f62 f63 f70 f71 f72 f73 hne4_5 hne'
  generalize World.setCell (World.setCell (World.setCell (World.setCell _ _ _) _ _) _ _) _ _ = W4 at HS ⊢
  obtain ⟨⟨g0, g1⟩, g2, g3⟩ := HS.out.two2
  go_upto_region 5 with fail
  clear g0 g1 g2 g3
  replace HS := Lib.hid (HS.out.alloc #[.float .f64 p0, .float .f64 p1, .float .f64 q0, .float .f64 q1] 29)
  generalize World.alloc W4 _ = W5 at HS ⊢
  generalize W4.heap.size = rs at HS ⊢
  go_loopw [29] (fun i wr => ∃ (j : Int), i = .int .i64 j ∧ Hid ((j = 0 ∧ True) ∨ (j = 1 ∧ finB p0 = true) ∨ (j = 2 ∧ finB p0 = true ∧ finB p1 = true) ∨ (j = 3 ∧ finB p0 = true ∧ finB p1 = true ∧ finB q0 = true) ∨ (j = 4 ∧ finB p0 = true ∧ finB p1 = true ∧ finB q0 = true ∧ finB q1 = true)) ∧ Hid (Bks w wr [(rs, 29, #[.float .f64 p0, .float .f64 p1, .float .f64 q0, .float .f64 q1]), (ra, 34, #[.float .f64 p0, .float .f64 p1]), (rb, 34, #[.float .f64 q0, .float .f64 q1])])) (fun i _ => 4 - (intOf i).toNat)
  case atStart => exact ⟨0, rfl, Lib.hid (.inl ⟨rfl, trivial⟩), HS⟩
  case round =>
    clear HS W5
    obtain ⟨j, rfl, HJ, HS⟩ := hrel
    rcases HJ.out with ⟨rfl, hf⟩ | ⟨rfl, hf⟩ | ⟨rfl, hf⟩ | ⟨rfl, hf⟩ | ⟨rfl, hf⟩
    · clear HJ
      have hc : wr.cell? ⟨rs, 0, none⟩ = some (.float .f64 p0) := (HS.out.get (.head _)).cell 0
      rcases (Bool.eq_false_or_eq_true (finB p0)).symm with hv | hv
      · obtain ⟨hsub, hz3, hbl⟩ := HNAN.out p0 HP.out.1 hv
        have HBL := Lib.hid hbl
        clear hv hf hbl
        go_wp2
        go_ret
        exact ⟨rfl, HS.out.2.trans ((HBL.out _).mono HS.out.size)⟩
      · have hsub := HSUB.out p0 HP.out.1 hv
        have HF := Lib.hid (And.intro hf hv)
        clear hv hf
        go_wp2
        go_roundw
        case rel => exact ⟨1, by go_num, Lib.hid (.inr (.inl ⟨rfl, HF.out.2⟩)), HS⟩
        case measure => simp [intOf]
    · clear HJ
      have hc : wr.cell? ⟨rs, 1, none⟩ = some (.float .f64 p1) := (HS.out.get (.head _)).cell 1
      rcases (Bool.eq_false_or_eq_true (finB p1)).symm with hv | hv
      · obtain ⟨hsub, hz3, hbl⟩ := HNAN.out p1 HP.out.2.1 hv
        have HBL := Lib.hid hbl
        clear hv hf hbl
        go_wp2
        go_ret
        exact ⟨rfl, HS.out.2.trans ((HBL.out _).mono HS.out.size)⟩
      · have hsub := HSUB.out p1 HP.out.2.1 hv
        have HF := Lib.hid (And.intro hf hv)
        clear hv hf
        go_wp2
        go_roundw
        case rel => exact ⟨2, by go_num, Lib.hid (.inr (.inr (.inl ⟨rfl, HF.out.1, HF.out.2⟩))), HS⟩
        case measure => simp [intOf]
    · clear HJ
      have hc : wr.cell? ⟨rs, 2, none⟩ = some (.float .f64 q0) := (HS.out.get (.head _)).cell 2
      rcases (Bool.eq_false_or_eq_true (finB q0)).symm with hv | hv
      · obtain ⟨hsub, hz3, hbl⟩ := HNAN.out q0 HP.out.2.2.1 hv
        have HBL := Lib.hid hbl
        clear hv hf hbl
        go_wp2
        go_ret
        exact ⟨rfl, HS.out.2.trans ((HBL.out _).mono HS.out.size)⟩
      · have hsub := HSUB.out q0 HP.out.2.2.1 hv
        have HF := Lib.hid (And.intro hf hv)
        clear hv hf
        go_wp2
        go_roundw
        case rel => exact ⟨3, by go_num, Lib.hid (.inr (.inr (.inr (.inl ⟨rfl, HF.out.1.1, HF.out.1.2, HF.out.2⟩)))), HS⟩
        case measure => simp [intOf]
    · clear HJ
      have hc : wr.cell? ⟨rs, 3, none⟩ = some (.float .f64 q1) := (HS.out.get (.head _)).cell 3
      rcases (Bool.eq_false_or_eq_true (finB q1)).symm with hv | hv
      · obtain ⟨hsub, hz3, hbl⟩ := HNAN.out q1 HP.out.2.2.2 hv
        have HBL := Lib.hid hbl
        clear hv hf hbl
        go_wp2
        go_ret
        exact ⟨rfl, HS.out.2.trans ((HBL.out _).mono HS.out.size)⟩
      · have hsub := HSUB.out q1 HP.out.2.2.2 hv
        have HF := Lib.hid (And.intro hf hv)
        clear hv hf
        go_wp2
        go_roundw
        case rel => exact ⟨4, by go_num, Lib.hid (.inr (.inr (.inr (.inr (⟨rfl, HF.out.1.1, HF.out.1.2.1, HF.out.1.2.2, HF.out.2⟩))))), HS⟩
        case measure => simp [intOf]
    · obtain ⟨fp0, fp1, fq0, fq1⟩ := hf
      obtain ⟨hp0, hp1, hq0, hq1⟩ := HP.out
      clear HJ HSUB HNAN hz2 HP
      replace HS := Lib.hid HS.out.tail
      have og1 : (FloatKind.f64.format.order p0 p1 == some Ordering.gt) = decide (ky p1 < ky p0) := gt_test hp0 hp1 (nan_fin fp0) (nan_fin fp1)
      have og2 : (FloatKind.f64.format.order q0 q1 == some Ordering.gt) = decide (ky q1 < ky q0) := gt_test hq0 hq1 (nan_fin fq0) (nan_fin fq1)
      have HIA := Lib.hid fun W => is_iv p0 p1 W hp0 hp1
      have HIB := Lib.hid fun W => is_iv q0 q1 W hq0 hq1
      have isb : ∀ x y, W64 x → W64 y → finB x = true → finB y = true → isB x y = decide (ky x ≤ ky y) := fun x y hx hy fx fy => is_fin hx hy fx fy
      rw [isb p0 p1 hp0 hp1 fp0 fp1] at HIA
      rw [isb q0 q1 hq0 hq1 fq0 fq1] at HIB
      clear isb
      by_cases ha : ky p1 < ky p0
      · rw [decide_eq_true ha] at og1
        rw [decide_eq_false (by omega)] at HIA
        clear hp0 hp1 hq0 hq1 fp0 fp1 fq0 fq1 ha HIB
        generalize decide (ky q1 < ky q0) = b2 at *
        obtain ⟨⟨g0, g1⟩, g2, g3⟩ := HS.out.two2
        go_wp2_with fail
        refine (HIA.out _).mono ?_
        rintro e41 w41 ⟨rfl, hb41⟩
        replace HS := Lib.hid (HS.out.later hb41)
        clear hb41
        clear g0 g1 g2 g3
        obtain ⟨⟨g0, g1⟩, g2, g3⟩ := HS.out.two2
        go_wp2
        go_ret
        exact ⟨rfl, HS.out.2⟩
      · rw [decide_eq_false ha] at og1
        rw [decide_eq_true (by omega)] at HIA
        by_cases hb : ky q1 < ky q0
        · rw [decide_eq_true hb] at og2
          rw [decide_eq_false (by omega)] at HIB
          clear hp0 hp1 hq0 hq1 fp0 fp1 fq0 fq1 ha hb
          obtain ⟨⟨g0, g1⟩, g2, g3⟩ := HS.out.two2
          go_wp2_with fail
          refine (HIA.out _).mono ?_
          rintro e41 w41 ⟨rfl, hb41⟩
          replace HS := Lib.hid (HS.out.later hb41)
          clear hb41
          clear g0 g1 g2 g3
          obtain ⟨⟨g0, g1⟩, g2, g3⟩ := HS.out.two2
          go_wp2_with fail
          refine (HIB.out _).mono ?_
          rintro e42 w42 ⟨rfl, hb42⟩
          replace HS := Lib.hid (HS.out.later hb42)
          clear hb42
          clear g0 g1 g2 g3
          obtain ⟨⟨g0, g1⟩, g2, g3⟩ := HS.out.two2
          go_wp2
          go_ret
          exact ⟨rfl, HS.out.2⟩
        · rw [decide_eq_false hb] at og2
          clear HIA HIB
          replace ha : ky p0 ≤ ky p1 := by omega
          replace hb : ky q0 ≤ ky q1 := by omega
          have okP := addK_ok (ivK_ok hp0 hp1) (ivK_ok hq0 hq1)
          have HADD := Lib.hid fun W (ht : TabB W) => add_iv p0 p1 q0 q1 W hp0 hp1 hq0 hq1 ht
          rw [add_narrow hp0 hp1 hq0 hq1 fp0 fp1 fq0 fq1 ha hb] at HADD okP
          obtain ⟨o1, o2, o3, o4, o5⟩ := okP _ _ rfl
          rw [show ivL (some (adK p0 q0 4, adK p1 q1 3)) = kb (adK p0 q0 4) from rfl, show ivH (some (adK p0 q0 4, adK p1 q1 3)) = kb (adK p1 q1 3) from rfl] at HADD
          have ep0 := pE_bd fp0
          have ep1 := pE_bd fp1
          have eq0 := pE_bd fq0
          have eq1 := pE_bd fq1
          have vp0 := val_bl (b := p0)
          have vp1 := val_bl (b := p1)
          have vq0 := val_bl (b := q0)
          have vq1 := val_bl (b := q1)
          have y1 := bl_plZ (z := valZ p0) (e := pE p0) (y := valZ q0) (f := pE q0)
          have y2 := bl_plZ (z := valZ p1) (e := pE p1) (y := valZ q1) (f := pE q1)
          have y3 := plE_in (z := valZ p0) (y := valZ q0) ep0.1 ep0.2 eq0.1 eq0.2
          have y4 := plE_in (z := valZ p1) (y := valZ q1) ep1.1 ep1.2 eq1.1 eq1.2
          have HTL := Lib.hid fun b c W (h1 : RInt W b (plZ (valZ p0) (pE p0) (valZ q0) (pE q0))) (h2 : RInt W c 1) => tight_lo (hi := adK p1 q1 3) o1 o4 (tg_low (z := plZ (valZ p0) (pE p0) (valZ q0) (pE q0)) (e := plE (valZ p0) (pE p0) (valZ q0) (pE q0)) rfl) (by omega) (by decide) (by omega) (by omega) (by decide) (by decide) b c W h1 h2
          have HTH := Lib.hid fun b c W (h1 : RInt W b (plZ (valZ p1) (pE p1) (valZ q1) (pE q1))) (h2 : RInt W c 1) => tight_hi (lo := adK p0 q0 4) o5 o3 (tg_high (z := plZ (valZ p1) (pE p1) (valZ q1) (pE q1)) (e := plE (valZ p1) (pE p1) (valZ q1) (pE q1)) rfl) (by omega) (by decide) (by omega) (by omega) (by decide) (by decide) b c W h1 h2
          have HOp0 := Lib.hid fun W => rOf_any p0 W hp0 fp0
          have HOp1 := Lib.hid fun W => rOf_any p1 W hp1 fp1
          have HOq0 := Lib.hid fun W => rOf_any q0 W hq0 fq0
          have HOq1 := Lib.hid fun W => rOf_any q1 W hq1 fq1
          have HX0 := Lib.hid fun b c W (h1 : RInt W b (valZ p0)) (h2 : RInt W c (valZ q0)) => rAddX_any b c _ (pE p0) _ (pE q0) W h1 h2 (by omega) (by omega) (by omega) (by omega) (by omega) (by omega)
          have HX1 := Lib.hid fun b c W (h1 : RInt W b (valZ p1)) (h2 : RInt W c (valZ q1)) => rAddX_any b c _ (pE p1) _ (pE q1) W h1 h2 (by omega) (by omega) (by omega) (by omega) (by omega) (by omega)
          have HMUL := Lib.hid fun W (ht : TabB W) => mul_iv p0 p1 q0 q1 W hp0 hp1 hq0 hq1 ht
          have HDIV := Lib.hid fun W (ht : TabB W) => div_iv p0 p1 q0 q1 W hp0 hp1 hq0 hq1 ht
          have HSQI := Lib.hid fun W (ht : TabB W) => sqrt_iv p0 p1 W hp0 hp1 ht
          have HCM := Lib.hid fun W => mul_corners hp0 hp1 hq0 hq1 fp0 fp1 fq0 fq1 ha hb W
          have HCD : Hid (0 < ky q0 ∨ ky q1 < 0 → ∀ W, _) := Lib.hid fun hs W => div_corners hp0 hp1 hq0 hq1 fp0 fp1 fq0 fq1 ha hb hs W
          have HWH := Lib.hid fun W => rWhole_any 1 W (by decide) (by decide)
          have ogq : (FloatKind.f64.format.order q0 0 == some Ordering.gt) = decide (0 < ky q0) := by rw [gt_test hq0 (by decide) (nan_fin fq0) (by decide), ky_zero]
          have olq : (FloatKind.f64.format.order q1 0 == some Ordering.lt) = decide (ky q1 < 0) := by rw [lt_test hq1 (by decide) (nan_fin fq1) (by decide), ky_zero]
          have olp : (FloatKind.f64.format.order p0 0 == some Ordering.lt) = decide (ky p0 < 0) := by rw [lt_test hp0 (by decide) (nan_fin fp0) (by decide), ky_zero]
          have HSV : Hid (0 ≤ ky p0 → _) := Lib.hid fun h => sqrt_narrow hp0 hp1 fp0 fp1 ha h
          have HBD := Lib.hid (And.intro (And.intro ep0 ep1) (And.intro vp0 vp1))
          have HPI := Lib.hid fun W => inf_any W
          have HNI := Lib.hid fun W => infNeg_any W
          have HKS := Lib.hid (And.intro ha hb)
          clear hp0 hp1 hq0 hq1 fp0 fp1 fq0 fq1 ha hb okP o1 o2 o3 o4 o5 ep0 ep1 eq0 eq1 vp0 vp1 vq0 vq1 y1 y2 y3 y4
          generalize hl0 : kb (adK p0 q0 4) = s0 at HADD HTL HTH
          generalize hl1 : kb (adK p1 q1 3) = s1 at HADD HTL HTH
          clear hl0 hl1
          skip
          obtain ⟨⟨g0, g1⟩, g2, g3⟩ := HS.out.two2
          go_wp2_with fail
          refine (HWH.out _).mono ?_
          rintro e51 w51 ⟨bo, rfl, -, hi51, hb51⟩
          replace HS := Lib.hid (HS.out.later hb51)
          have HONE := Lib.hid hi51
          clear hi51
          unfold ExV
          clear hb51
          clear g0 g1 g2 g3
          go_upto_region 13 with fail
          replace HS := Lib.hid (HS.out.alloc #[.pointer (some ⟨bo, 0, none⟩), .int .i64 0] 27)
          replace HONE := Lib.hid (HONE.out.below (Below.alloc_self w51 (.cells #[.pointer (some ⟨bo, 0, none⟩), .int .i64 0] 27)))
          generalize World.alloc w51 _ = W52 at HS HONE ⊢
          generalize w51.heap.size = r9 at HS ⊢
          obtain ⟨⟨-, g0, g1⟩, g2, g3⟩ := HS.out.tri
          go_wp2_with fail
          refine (HADD.out _ (HT.out.below HS.out.2)).mono ?_
          rintro e53 w53 ⟨rfl, hb53⟩
          replace HS := Lib.hid (HS.out.later hb53)
          replace HONE := Lib.hid (HONE.out.below hb53)
          clear hb53
          clear g0 g1 g2 g3
          go_upto_region 14 with fail
          have HRX : Hid (w.heap.size ≤ w53.heap.size ∧ ∀ q ∈ ([(ra, 34, #[.float .f64 p0, .float .f64 p1]), (rb, 34, #[.float .f64 q0, .float .f64 q1])] : List (Nat × Nat × Array Value)), q.1 ≠ w53.heap.size) := Lib.hid ⟨HS.out.size, fun q m e => by have := HS.out.lt q (by simp only [List.mem_cons, List.not_mem_nil, or_false] at m ⊢; rcases m with rfl | rfl <;> simp); omega⟩
          replace HS := Lib.hid (HS.out.alloc #[.float .f64 s0, .float .f64 s1] 34)
          replace HONE := Lib.hid (HONE.out.below (Below.alloc_self w53 (.cells #[.float .f64 s0, .float .f64 s1] 34)))
          generalize World.alloc w53 _ = W54 at HS HONE ⊢
          have HR10 : Hid (w.heap.size ≤ w53.heap.size ∧ ∀ q ∈ ([(ra, 34, #[.float .f64 p0, .float .f64 p1]), (rb, 34, #[.float .f64 q0, .float .f64 q1])] : List (Nat × Nat × Array Value)), q.1 ≠ w53.heap.size) := HRX
          generalize w53.heap.size = r10 at HS HR10 ⊢
          refine wp_region_pl (fun w' : World => ((w'.cell? ⟨r10, 0, none⟩ = some (.float .f64 s0) ∧ w'.cell? ⟨r10, 1, none⟩ = some (.float .f64 s1)) ∧ w'.cell? ⟨r9, 0, none⟩ = some (.pointer (some ⟨bo, 0, none⟩)) ∧ w'.cell? ⟨r9, 1, none⟩ = some (.int .i64 0)) ∧ (w'.cell? ⟨ra, 0, none⟩ = some (.float .f64 p0) ∧ w'.cell? ⟨ra, 1, none⟩ = some (.float .f64 p1)) ∧ w'.cell? ⟨rb, 0, none⟩ = some (.float .f64 q0) ∧ w'.cell? ⟨rb, 1, none⟩ = some (.float .f64 q1)) 21 (.take 0 (.take 1 (.take 2 (.take 4 (.take 5 (.take 8 (.run 3 (.run 6 (.run 7 (.run 9 (.take 10 (.take 11 (.take 12 (.take 13 (.take 14 (.take 16 (.take 17 (.take 20 (.run 15 (.run 18 (.run 19 (.nil)))))))))))))))))))))) (by kernel_rfl) (by kernel_rfl) ?_
          replace HS := Lib.hid (HS.out.later (drew_below _))
          replace HONE := Lib.hid (HONE.out.below (drew_below _))
          generalize World.drew _ = W55 at HS HONE ⊢
          repeat (first | (refine wpPl_takeL (v := ?_) rfl rfl (fun _ _ _ h => h) rfl (fun w' hSw => ?_) HS.out.two4 ?_; rotate_left; (focus (go_simp; with_reducible rfl)); simp only [setL]) | (refine wpPl_skipL rfl rfl (fun _ _ _ h => h) rfl HS.out.two4 ?_; simp only [setL]))
          refine wpPl_goL rfl rfl fun K' hK => ?_
          go_simp
          refine (HOp0.out _).mono ?_
          rintro e1 W55v1 ⟨o1, rfl, -, hi1, hb1⟩
          replace HS := Lib.hid (HS.out.later hb1)
          replace HONE := Lib.hid (HONE.out.below hb1)
          have HZ1 := Lib.hid hi1
          clear hi1
          unfold ExV
          refine hK _ _ HS.out.two4 ?_
          clear hK K' hb1
          try simp only [Act.put, setL]
          repeat (first | (refine wpPl_takeL (v := ?_) rfl rfl (fun _ _ _ h => h) rfl (fun w' hSw => ?_) HS.out.two4 ?_; rotate_left; (focus (go_simp; with_reducible rfl)); simp only [setL]) | (refine wpPl_skipL rfl rfl (fun _ _ _ h => h) rfl HS.out.two4 ?_; simp only [setL]))
          refine wpPl_goL rfl rfl fun K' hK => ?_
          go_simp
          refine (HOq0.out _).mono ?_
          rintro e1 W55v2 ⟨o2, rfl, -, hi1, hb1⟩
          replace HS := Lib.hid (HS.out.later hb1)
          replace HONE := Lib.hid (HONE.out.below hb1)
          replace HZ1 := Lib.hid (HZ1.out.below hb1)
          have HZ2 := Lib.hid hi1
          clear hi1
          unfold ExV
          refine hK _ _ HS.out.two4 ?_
          clear hK K' hb1
          try simp only [Act.put, setL]
          repeat (first | (refine wpPl_takeL (v := ?_) rfl rfl (fun _ _ _ h => h) rfl (fun w' hSw => ?_) HS.out.two4 ?_; rotate_left; (focus (go_simp; with_reducible rfl)); simp only [setL]) | (refine wpPl_skipL rfl rfl (fun _ _ _ h => h) rfl HS.out.two4 ?_; simp only [setL]))
          refine wpPl_goL rfl rfl fun K' hK => ?_
          go_simp
          refine (HX0.out _ _ _ HZ1.out HZ2.out).mono ?_
          rintro e1 W55v3 ⟨o3, rfl, hi1, hb1⟩
          replace HS := Lib.hid (HS.out.later hb1)
          replace HONE := Lib.hid (HONE.out.below hb1)
          clear HZ1 HZ2
          have HZ3 := Lib.hid hi1
          clear hi1
          unfold ExV
          refine hK _ _ HS.out.two4 ?_
          clear hK K' hb1
          try simp only [Act.put, setL]
          repeat (first | (refine wpPl_takeL (v := ?_) rfl rfl (fun _ _ _ h => h) rfl (fun w' hSw => ?_) HS.out.two4 ?_; rotate_left; (focus (go_simp; with_reducible rfl)); simp only [setL]) | (refine wpPl_skipL rfl rfl (fun _ _ _ h => h) rfl HS.out.two4 ?_; simp only [setL]))
          refine wpPl_goL rfl rfl fun K' hK => ?_
          go_simp
          refine (HTL.out _ _ _ HZ3.out HONE.out).mono ?_
          rintro e1 W55v4 ⟨rfl, hb1⟩
          replace HS := Lib.hid (HS.out.later hb1)
          replace HONE := Lib.hid (HONE.out.below hb1)
          clear HZ3
          refine hK _ _ HS.out.two4 ?_
          clear hK K' hb1
          try simp only [Act.put, setL]
          repeat (first | (refine wpPl_takeL (v := ?_) rfl rfl (fun _ _ _ h => h) rfl (fun w' hSw => ?_) HS.out.two4 ?_; rotate_left; (focus (go_simp; with_reducible rfl)); simp only [setL]) | (refine wpPl_skipL rfl rfl (fun _ _ _ h => h) rfl HS.out.two4 ?_; simp only [setL]))
          refine wpPl_goL rfl rfl fun K' hK => ?_
          go_simp
          refine (HOp1.out _).mono ?_
          rintro e1 W55v5 ⟨o4, rfl, -, hi1, hb1⟩
          replace HS := Lib.hid (HS.out.later hb1)
          replace HONE := Lib.hid (HONE.out.below hb1)
          have HZ4 := Lib.hid hi1
          clear hi1
          unfold ExV
          refine hK _ _ HS.out.two4 ?_
          clear hK K' hb1
          try simp only [Act.put, setL]
          repeat (first | (refine wpPl_takeL (v := ?_) rfl rfl (fun _ _ _ h => h) rfl (fun w' hSw => ?_) HS.out.two4 ?_; rotate_left; (focus (go_simp; with_reducible rfl)); simp only [setL]) | (refine wpPl_skipL rfl rfl (fun _ _ _ h => h) rfl HS.out.two4 ?_; simp only [setL]))
          refine wpPl_goL rfl rfl fun K' hK => ?_
          go_simp
          refine (HOq1.out _).mono ?_
          rintro e1 W55v6 ⟨o5, rfl, -, hi1, hb1⟩
          replace HS := Lib.hid (HS.out.later hb1)
          replace HONE := Lib.hid (HONE.out.below hb1)
          replace HZ4 := Lib.hid (HZ4.out.below hb1)
          have HZ5 := Lib.hid hi1
          clear hi1
          unfold ExV
          refine hK _ _ HS.out.two4 ?_
          clear hK K' hb1
          try simp only [Act.put, setL]
          repeat (first | (refine wpPl_takeL (v := ?_) rfl rfl (fun _ _ _ h => h) rfl (fun w' hSw => ?_) HS.out.two4 ?_; rotate_left; (focus (go_simp; with_reducible rfl)); simp only [setL]) | (refine wpPl_skipL rfl rfl (fun _ _ _ h => h) rfl HS.out.two4 ?_; simp only [setL]))
          refine wpPl_goL rfl rfl fun K' hK => ?_
          go_simp
          refine (HX1.out _ _ _ HZ4.out HZ5.out).mono ?_
          rintro e1 W55v7 ⟨o6, rfl, hi1, hb1⟩
          replace HS := Lib.hid (HS.out.later hb1)
          replace HONE := Lib.hid (HONE.out.below hb1)
          clear HZ4 HZ5
          have HZ6 := Lib.hid hi1
          clear hi1
          unfold ExV
          refine hK _ _ HS.out.two4 ?_
          clear hK K' hb1
          try simp only [Act.put, setL]
          repeat (first | (refine wpPl_takeL (v := ?_) rfl rfl (fun _ _ _ h => h) rfl (fun w' hSw => ?_) HS.out.two4 ?_; rotate_left; (focus (go_simp; with_reducible rfl)); simp only [setL]) | (refine wpPl_skipL rfl rfl (fun _ _ _ h => h) rfl HS.out.two4 ?_; simp only [setL]))
          refine wpPl_nil ?_
          simp only [List.drop_succ_cons, List.drop_zero]
          obtain ⟨⟨⟨g0, g1⟩, g2, g3⟩, ⟨g4, g5⟩, g6, g7⟩ := HS.out.two4
          go_wp2_with fail
          refine (HTH.out _ _ _ HZ6.out HONE.out).mono ?_
          rintro e56 w56 ⟨rfl, hb56⟩
          replace HS := Lib.hid (HS.out.later hb56)
          clear hb56
          clear g0 g1 g2 g3 g4 g5 g6 g7
          clear HZ6 HONE HTH HTL HADD HX0 HX1
          replace HS := Lib.hid (HS.out.sub (l' := [(ra, 34, #[.float .f64 p0, .float .f64 p1]), (rb, 34, #[.float .f64 q0, .float .f64 q1]), (r10, 34, #[.float .f64 s0, .float .f64 s1])]) (by intro t m; simp only [List.mem_cons, List.not_mem_nil, or_false] at m ⊢; rcases m with rfl | rfl | rfl <;> simp))
          go_upto_region 16 with fail
          refine wp_region_pl (fun w' : World => (w'.cell? ⟨ra, 0, none⟩ = some (.float .f64 p0) ∧ w'.cell? ⟨ra, 1, none⟩ = some (.float .f64 p1)) ∧ w'.cell? ⟨rb, 0, none⟩ = some (.float .f64 q0) ∧ w'.cell? ⟨rb, 1, none⟩ = some (.float .f64 q1)) 5 (.take 0 (.take 1 (.take 3 (.take 4 (.run 2 (.nil)))))) (by kernel_rfl) (by kernel_rfl) ?_
          replace HS := Lib.hid (HS.out.later (drew_below _))
          generalize World.drew _ = W57 at HS ⊢
          repeat (first | (refine wpPl_takeL (v := ?_) rfl rfl (fun _ _ _ h => h) rfl (fun w' hSw => ?_) HS.out.two2 ?_; rotate_left; (focus (go_simp; with_reducible rfl)); simp only [setL]) | (refine wpPl_skipL rfl rfl (fun _ _ _ h => h) rfl HS.out.two2 ?_; simp only [setL]))
          refine wpPl_goL rfl rfl fun K' hK => ?_
          go_simp
          refine (HMUL.out _ (HT.out.below HS.out.2)).mono ?_
          rintro e1 W57v1 ⟨rfl, hb1⟩
          replace HS := Lib.hid (HS.out.later hb1)
          refine hK _ _ HS.out.two2 ?_
          clear hK K' hb1
          try simp only [Act.put, setL]
          repeat (first | (refine wpPl_takeL (v := ?_) rfl rfl (fun _ _ _ h => h) rfl (fun w' hSw => ?_) HS.out.two2 ?_; rotate_left; (focus (go_simp; with_reducible rfl)); simp only [setL]) | (refine wpPl_skipL rfl rfl (fun _ _ _ h => h) rfl HS.out.two2 ?_; simp only [setL]))
          refine wpPl_nil ?_
          simp only [List.drop_succ_cons, List.drop_zero]
          obtain ⟨⟨g0, g1⟩, g2, g3⟩ := HS.out.two2
          go_wp2_with fail
          refine (HCM.out _).mono ?_
          rintro e58 w58 ⟨rfl, hb58⟩
          replace HS := Lib.hid (HS.out.later hb58)
          clear hb58
          clear g0 g1 g2 g3
          clear HCM HMUL
          go_upto_region 18 with fail
          go_cut [109] from 93 to 108 (fun c wx => c = .bool false ∧ Hid (Bks w wx [(ra, 34, #[.float .f64 p0, .float .f64 p1]), (rb, 34, #[.float .f64 q0, .float .f64 q1]), (r10, 34, #[.float .f64 s0, .float .f64 s1])]))
          case first =>
            by_cases hq : 0 < ky q0
            · rw [decide_eq_true hq] at ogq
              have HCQ := Lib.hid (HCD.out (.inl hq))
              generalize decide (ky q1 < 0) = b9 at *
              clear HCD hq
              clear HSV HBD HPI HNI HKS HSQI olp
              refine wp_region_pl (fun w' : World => (w'.cell? ⟨ra, 0, none⟩ = some (.float .f64 p0) ∧ w'.cell? ⟨ra, 1, none⟩ = some (.float .f64 p1)) ∧ w'.cell? ⟨rb, 0, none⟩ = some (.float .f64 q0) ∧ w'.cell? ⟨rb, 1, none⟩ = some (.float .f64 q1)) 14 (.take 0 (.take 1 (.take 2 (.take 3 (.take 4 (.take 5 (.take 6 (.take 7 (.take 8 (.take 9 (.take 10 (.take 12 (.take 13 (.run 11 (.nil))))))))))))))) (by kernel_rfl) (by kernel_rfl) ?_
              replace HS := Lib.hid (HS.out.later (drew_below _))
              generalize World.drew _ = W59 at HS ⊢
              repeat (first | (refine wpPl_takeL (v := ?_) rfl rfl (fun _ _ _ h => h) rfl (fun w' hSw => ?_) HS.out.two2 ?_; rotate_left; (focus (go_simp; with_reducible rfl)); simp only [setL]) | (refine wpPl_skipL rfl rfl (fun _ _ _ h => h) rfl HS.out.two2 ?_; simp only [setL]))
              refine wpPl_goL rfl rfl fun K' hK => ?_
              go_simp
              refine (HDIV.out _ (HT.out.below HS.out.2)).mono ?_
              rintro e1 W59v1 ⟨rfl, hb1⟩
              replace HS := Lib.hid (HS.out.later hb1)
              refine hK _ _ HS.out.two2 ?_
              clear hK K' hb1
              try simp only [Act.put, setL]
              repeat (first | (refine wpPl_takeL (v := ?_) rfl rfl (fun _ _ _ h => h) rfl (fun w' hSw => ?_) HS.out.two2 ?_; rotate_left; (focus (go_simp; with_reducible rfl)); simp only [setL]) | (refine wpPl_skipL rfl rfl (fun _ _ _ h => h) rfl HS.out.two2 ?_; simp only [setL]))
              refine wpPl_nil ?_
              simp only [List.drop_succ_cons, List.drop_zero]
              obtain ⟨⟨g0, g1⟩, g2, g3⟩ := HS.out.two2
              go_wp2_with fail
              refine (HCQ.out _).mono ?_
              rintro e60 w60 ⟨rfl, hb60⟩
              replace HS := Lib.hid (HS.out.later hb60)
              clear hb60
              clear g0 g1 g2 g3
              go_wp2
              go_meet
              exact ⟨rfl, HS⟩
            · by_cases hq2 : ky q1 < 0
              · rw [decide_eq_false hq] at ogq
                rw [decide_eq_true hq2] at olq
                have HCQ := Lib.hid (HCD.out (.inr hq2))
                clear HCD hq hq2
                clear HSV HBD HPI HNI HKS HSQI olp
                refine wp_region_pl (fun w' : World => (w'.cell? ⟨ra, 0, none⟩ = some (.float .f64 p0) ∧ w'.cell? ⟨ra, 1, none⟩ = some (.float .f64 p1)) ∧ w'.cell? ⟨rb, 0, none⟩ = some (.float .f64 q0) ∧ w'.cell? ⟨rb, 1, none⟩ = some (.float .f64 q1)) 14 (.take 0 (.take 1 (.take 2 (.take 3 (.take 4 (.take 5 (.take 6 (.take 7 (.take 8 (.take 9 (.take 10 (.take 12 (.take 13 (.run 11 (.nil))))))))))))))) (by kernel_rfl) (by kernel_rfl) ?_
                replace HS := Lib.hid (HS.out.later (drew_below _))
                generalize World.drew _ = W59 at HS ⊢
                repeat (first | (refine wpPl_takeL (v := ?_) rfl rfl (fun _ _ _ h => h) rfl (fun w' hSw => ?_) HS.out.two2 ?_; rotate_left; (focus (go_simp; with_reducible rfl)); simp only [setL]) | (refine wpPl_skipL rfl rfl (fun _ _ _ h => h) rfl HS.out.two2 ?_; simp only [setL]))
                refine wpPl_goL rfl rfl fun K' hK => ?_
                go_simp
                refine (HDIV.out _ (HT.out.below HS.out.2)).mono ?_
                rintro e1 W59v1 ⟨rfl, hb1⟩
                replace HS := Lib.hid (HS.out.later hb1)
                refine hK _ _ HS.out.two2 ?_
                clear hK K' hb1
                try simp only [Act.put, setL]
                repeat (first | (refine wpPl_takeL (v := ?_) rfl rfl (fun _ _ _ h => h) rfl (fun w' hSw => ?_) HS.out.two2 ?_; rotate_left; (focus (go_simp; with_reducible rfl)); simp only [setL]) | (refine wpPl_skipL rfl rfl (fun _ _ _ h => h) rfl HS.out.two2 ?_; simp only [setL]))
                refine wpPl_nil ?_
                simp only [List.drop_succ_cons, List.drop_zero]
                obtain ⟨⟨g0, g1⟩, g2, g3⟩ := HS.out.two2
                go_wp2_with fail
                refine (HCQ.out _).mono ?_
                rintro e60 w60 ⟨rfl, hb60⟩
                replace HS := Lib.hid (HS.out.later hb60)
                clear hb60
                clear g0 g1 g2 g3
                go_wp2
                go_meet
                exact ⟨rfl, HS⟩
              · rw [decide_eq_false hq] at ogq
                rw [decide_eq_false hq2] at olq
                clear HCD hq hq2
                clear HSV HBD HPI HNI HKS HSQI olp
                refine wp_region_pl (fun w' : World => (w'.cell? ⟨ra, 0, none⟩ = some (.float .f64 p0) ∧ w'.cell? ⟨ra, 1, none⟩ = some (.float .f64 p1)) ∧ w'.cell? ⟨rb, 0, none⟩ = some (.float .f64 q0) ∧ w'.cell? ⟨rb, 1, none⟩ = some (.float .f64 q1)) 14 (.take 0 (.take 1 (.take 2 (.take 3 (.take 4 (.take 5 (.take 6 (.take 7 (.take 8 (.take 9 (.take 10 (.take 12 (.take 13 (.run 11 (.nil))))))))))))))) (by kernel_rfl) (by kernel_rfl) ?_
                replace HS := Lib.hid (HS.out.later (drew_below _))
                generalize World.drew _ = W59 at HS ⊢
                repeat (first | (refine wpPl_takeL (v := ?_) rfl rfl (fun _ _ _ h => h) rfl (fun w' hSw => ?_) HS.out.two2 ?_; rotate_left; (focus (go_simp; with_reducible rfl)); simp only [setL]) | (refine wpPl_skipL rfl rfl (fun _ _ _ h => h) rfl HS.out.two2 ?_; simp only [setL]))
                refine wpPl_idleL rfl rfl rfl HS.out.two2 ?_
                simp only [setL]
                repeat (first | (refine wpPl_takeL (v := ?_) rfl rfl (fun _ _ _ h => h) rfl (fun w' hSw => ?_) HS.out.two2 ?_; rotate_left; (focus (go_simp; with_reducible rfl)); simp only [setL]) | (refine wpPl_skipL rfl rfl (fun _ _ _ h => h) rfl HS.out.two2 ?_; simp only [setL]))
                refine wpPl_nil ?_
                simp only [List.drop_succ_cons, List.drop_zero]
                go_wp2
                go_meet
                exact ⟨rfl, HS⟩
          case rest =>
          obtain ⟨rfl, HS⟩ := hcut
          clear HCD HDIV ogq olq HOq0 HOq1 HOB HOA
          go_upto_region 20 with fail
          by_cases hp : 0 ≤ ky p0
          · rw [decide_eq_false (by omega)] at olp
            obtain ⟨lo, hi, e, ⟨l1, l2⟩, ⟨h1, h2⟩, c1, c2⟩ := HSV.out hp
            rw [e] at HSQI
            clear e
            have hk := kInf_pos
            obtain ⟨a1, a2, a3, a4⟩ := kb_fin (k := lo) (by omega) (by omega)
            obtain ⟨d1, d2, d3, d4⟩ := kb_fin (k := hi) (by omega) h2
            obtain ⟨i1, i2, i3, i4⟩ := kb_fin (k := lo + 1) (by omega) l2
            obtain ⟨j1, j2, j3, j4⟩ := kb_fin (k := hi - 1) (by omega) (by omega)
            have HNU := Lib.hid fun W => next_of (k := lo) (j := lo + 1) ⟨by omega, l2⟩ 9218868437227405312 W (by have := next_up (kb lo) W a1 a2; rw [a4] at this; exact this)
            have HND := Lib.hid fun W => next_of (k := hi) (j := hi - 1) ⟨by omega, by omega⟩ 18442240474082181120 W (by have := next_dn (kb hi) W d1 d2; rw [d4] at this; exact this)
            have eu := pE_bd i2
            have ed := pE_bd j2
            have vu := val_bl (b := kb (lo + 1))
            have vd := val_bl (b := kb (hi - 1))
            have mu := bl_mul (valZ (kb (lo + 1))).natAbs (valZ (kb (lo + 1))).natAbs
            rw [← Int.natAbs_mul] at mu
            have md := bl_mul (valZ (kb (hi - 1))).natAbs (valZ (kb (hi - 1))).natAbs
            rw [← Int.natAbs_mul] at md
            obtain ⟨⟨ep0, ep1⟩, vp0, vp1⟩ := HBD.out
            have HMU := Lib.hid fun b c W (x1 : RInt W b (valZ (kb (lo + 1)))) (x2 : RInt W c (valZ (kb (lo + 1)))) => rMulX_any b c _ (pE (kb (lo + 1))) _ (pE (kb (lo + 1))) W x1 x2 (by omega) (by omega) (by omega) (by omega) (by omega) (by omega)
            have HMD := Lib.hid fun b c W (x1 : RInt W b (valZ (kb (hi - 1)))) (x2 : RInt W c (valZ (kb (hi - 1)))) => rMulX_any b c _ (pE (kb (hi - 1))) _ (pE (kb (hi - 1))) W x1 x2 (by omega) (by omega) (by omega) (by omega) (by omega) (by omega)
            have HCU := Lib.hid fun b c W (x1 : RInt W b (valZ p0)) (x2 : RInt W c (valZ (kb (lo + 1)) * valZ (kb (lo + 1)))) => rCmpX_any b c _ (pE p0) _ (pE (kb (lo + 1)) + pE (kb (lo + 1))) W x1 x2 (by omega) (by omega) (by omega) (by omega) (by omega) (by omega)
            have HCD2 := Lib.hid fun b c W (x1 : RInt W b (valZ p1)) (x2 : RInt W c (valZ (kb (hi - 1)) * valZ (kb (hi - 1)))) => rCmpX_any b c _ (pE p1) _ (pE (kb (hi - 1)) + pE (kb (hi - 1))) W x1 x2 (by omega) (by omega) (by omega) (by omega) (by omega) (by omega)
            have ozh : (FloatKind.f64.format.order (kb hi) 0 == some Ordering.eq) = decide (hi = 0) := by rw [eq_test d1 (by decide) d3 (by decide), ky_zero, d4]
            generalize (plZ (valZ p0) (pE p0) (-(valZ (kb (lo + 1)) * valZ (kb (lo + 1)))) (pE (kb (lo + 1)) + pE (kb (lo + 1)))).sign = S1 at *
            generalize (plZ (valZ p1) (pE p1) (-(valZ (kb (hi - 1)) * valZ (kb (hi - 1)))) (pE (kb (hi - 1)) + pE (kb (hi - 1)))).sign = S2 at *
            have t1 : decide (S1 < 0) = true := decide_eq_true c1
            obtain ⟨zb, hzb⟩ : ∃ b, decide (hi = 0) = b := ⟨_, rfl⟩
            rw [hzb] at ozh
            have HS2 : Hid (zb = false → decide (0 < S2) = true) := Lib.hid fun h => decide_eq_true (c2 (by rw [← hzb] at h; exact of_decide_eq_false h))
            rw [show ivL (some (lo, hi)) = kb lo from rfl, show ivH (some (lo, hi)) = kb hi from rfl] at HSQI
            clear l1 l2 h1 h2 c1 c2 hk a1 a2 a3 a4 d1 d2 d3 d4 i1 i2 i3 i4 j1 j2 j3 j4 eu ed vu vd mu md ep0 ep1 vp0 vp1 hzb hp
            generalize valZ (kb (lo + 1)) = zu at *
            generalize pE (kb (lo + 1)) = eu at *
            generalize valZ (kb (hi - 1)) = zd at *
            generalize pE (kb (hi - 1)) = ed at *
            generalize zu * zu = zuu at *
            generalize eu + eu = euu at *
            generalize zd * zd = zdd at *
            generalize ed + ed = edd at *
            generalize kb lo = u0 at *
            generalize kb hi = u1 at *
            obtain ⟨⟨g0, g1⟩, g2, g3⟩ := HS.out.two2
            go_wp2_with fail
            refine (HSQI.out _ (HT.out.below HS.out.2)).mono ?_
            rintro e71 w71 ⟨rfl, hb71⟩
            replace HS := Lib.hid (HS.out.later hb71)
            clear hb71
            clear g0 g1 g2 g3
            obtain ⟨k0, k1, k2, k3⟩ := (HS.out.get (.tail _ (.tail _ (.head _)))).cells2
            have HB10 := Lib.hid (HS.out.get (.tail _ (.tail _ (.head _))))
            replace HS := Lib.hid ((Bks.sub HS.out (l' := [(r10, 34, #[.float .f64 s0, .float .f64 s1]), (ra, 34, #[.float .f64 p0, .float .f64 p1]), (rb, 34, #[.float .f64 q0, .float .f64 q1])]) (by intro t m; simp only [List.mem_cons, List.not_mem_nil, or_false] at m ⊢; rcases m with rfl | rfl | rfl <;> simp)).set2 HR10.out.1 HR10.out.2 (.float .f64 u0) (.float .f64 u1))
            clear HB10
            go_upto_region 23 with fail
            clear k0 k1 k2 k3
            generalize World.setCell (World.setCell w71 _ _) _ _ = W72 at HS ⊢
            refine wp_region_q (fun w' : World => w'.cell? ⟨r10, 0, none⟩ = some (.float .f64 u0)) 6 (.take 0 (.take 1 (.bag [(2, 117, []), (3, 118, []), (4, 119, []), (5, 11, [])] .nil))) (by kernel_rfl) (by kernel_rfl) ?_
            replace HS := Lib.hid (HS.out.later (drew_below _))
            generalize World.drew _ = W73 at HS ⊢
            have HSZ : Hid (SzLe W73 W73.heap.size) := Lib.hid (Nat.le_refl _)
            have HLT := Lib.hid HS.out.lt
            have HSW : Hid (w.heap.size ≤ W73.heap.size) := Lib.hid HS.out.size
            generalize W73.heap.size = nB at HSZ HLT HSW
            have hS : (fun w' : World => w'.cell? ⟨r10, 0, none⟩ = some (.float .f64 u0)) W73 := (HS.out.cellOf (.head _) 0)
            repeat (refine wpPq_takeL (v := ?_) rfl rfl (fun _ _ _ h => h) rfl (fun w' hSw => ?_) hS ?_; rotate_left; (focus (go_simp; with_reducible rfl)); simp only [setL])
            clear hS
            refine wpPq_bag (pick [(2, fun v w' => v = .float .f64 9218868437227405312), (3, fun v w' => ∃ r, v = .float .f64 r ∧ ∀ W, Calls Tryz.prog 13 #[.float .f64 r] W (RxNew zu eu W)), (4, fun v w' => ∃ p, v = ExV p eu ∧ RInt w' p zu), (5, fun v w' => ∃ r, v = .pointer (some ⟨r, 0, none⟩) ∧ nB ≤ r ∧ BlkT w' r 27 #[.pointer none, .int .i64 0])]) (pick_mono (bag_cons (fun v w1 w2 hv2 hb => hv2) (bag_cons (fun v w1 w2 ⟨x3, hv3, hx3⟩ hb => ⟨x3, hv3, hx3⟩) (bag_cons (fun v w1 w2 ⟨bru, hv4, hi4⟩ hb => ⟨bru, hv4, hi4.below hb⟩) (bag_cons (fun v w1 w2 ⟨ru, hv5, hl5, hB5⟩ hb => ⟨ru, hv5, hl5, hB5.below hb⟩) bag_nil))))) (fun w' hb => ((HS.out.later hb).cellOf (.head _) 0)) (by simp [prE]) (fun _ _ _ _ _ h => h) (bag_cons (bag_one rfl ?_) (bag_cons (bag_one rfl ?_) (bag_cons (bag_one rfl ?_) (bag_cons (bag_one rfl ?_) bag_nil)))) bag_nil ?_
            · intro a' V hdf hin hdep hb1 K hK
              clear hin hdep hdf
              have HS := Lib.hid (HS.out.later hb1)
              have HSZ := Lib.hid (HSZ.out.below hb1)
              go_simp
              refine (HPI.out _).mono ?_
              rintro e1 V2 ⟨rfl, hb2⟩
              exact hK _ _ rfl hb2
            · intro a' V hdf hin hdep hb1 K hK
              have i116 : a'.tmps[116]?.getD undef = .float .f64 u0 := evT (hin 116 (by decide))
              obtain hv2 : (fun (v : Value) (w' : World) => v = .float .f64 9218868437227405312) (a'.tmps.getD 117 undef) V := hdep ⟨2, .data⟩ (by simp) rfl 117 (by decide)
              dsimp only at hv2
              replace hv2 := evT hv2
              clear hin hdep hdf
              have HS := Lib.hid (HS.out.later hb1)
              have HSZ := Lib.hid (HSZ.out.below hb1)
              go_simp
              refine (HNU.out _).mono ?_
              rintro e1 V2 ⟨r, rfl, hr, hb2⟩
              exact hK _ _ ⟨r, rfl, hr⟩ hb2
            · intro a' V hdf hin hdep hb1 K hK
              obtain ⟨x3, hv3, hx3⟩ : (fun (v : Value) (w' : World) => ∃ r, v = .float .f64 r ∧ ∀ W, Calls Tryz.prog 13 #[.float .f64 r] W (RxNew zu eu W)) (a'.tmps.getD 118 undef) V := hdep ⟨3, .data⟩ (by simp) rfl 118 (by decide)
              replace hv3 := evT hv3
              clear hin hdep hdf
              have HS := Lib.hid (HS.out.later hb1)
              have HSZ := Lib.hid (HSZ.out.below hb1)
              go_simp
              refine (hx3 _).mono ?_
              rintro e1 V2 ⟨p, rfl, -, hi, hb2⟩
              exact hK _ _ ⟨p, rfl, hi⟩ hb2
            · intro a' V hdf hin hdep hb1 K hK
              clear hin hdep hdf
              have HS := Lib.hid (HS.out.later hb1)
              have HSZ := Lib.hid (HSZ.out.below hb1)
              go_simp
              exact hK _ _ ⟨_, rfl, HSZ.out, BlkT.new V _ _⟩ (Below.alloc_self _ _)
            intro vals B1 hb1 hR
            replace HS := Lib.hid (HS.out.later hb1)
            replace HSZ := Lib.hid (HSZ.out.below hb1)
            obtain hv2 : (fun (v : Value) (w' : World) => v = .float .f64 9218868437227405312) (vals 2) B1 := hR (2, 117) (by decide)
            dsimp only at hv2
            obtain ⟨x3, hv3, hx3⟩ : (fun (v : Value) (w' : World) => ∃ r, v = .float .f64 r ∧ ∀ W, Calls Tryz.prog 13 #[.float .f64 r] W (RxNew zu eu W)) (vals 3) B1 := hR (3, 118) (by decide)
            obtain ⟨bru, hv4, hi4⟩ : (fun (v : Value) (w' : World) => ∃ p, v = ExV p eu ∧ RInt w' p zu) (vals 4) B1 := hR (4, 119) (by decide)
            obtain ⟨ru, hv5, hl5, hB5⟩ : (fun (v : Value) (w' : World) => ∃ r, v = .pointer (some ⟨r, 0, none⟩) ∧ nB ≤ r ∧ BlkT w' r 27 #[.pointer none, .int .i64 0]) (vals 5) B1 := hR (5, 11) (by decide)
            clear hb1 hR
            simp only [prE, List.flatMap_cons, List.flatMap_nil, List.cons_append, List.nil_append, List.append_nil, setD, List.setIfInBounds_toArray, List.set_cons_zero, List.set_cons_succ, hv2, hv3, hv4, hv5]
            clear vals hv2 hv3 hv4 hv5
            refine wpPq_nil ?_
            simp only [List.drop_succ_cons, List.drop_zero]
            have HNE : Hid (w.heap.size ≤ ru ∧ ∀ q ∈ ([(r10, 34, #[.float .f64 u0, .float .f64 u1]), (ra, 34, #[.float .f64 p0, .float .f64 p1]), (rb, 34, #[.float .f64 q0, .float .f64 q1])] : List (Nat × Nat × Array Value)), q.1 ≠ ru) := Lib.hid ⟨Nat.le_trans HSW.out hl5, fun q m e => by have := HLT.out q m; omega⟩
            have HB5 := Lib.hid hB5
            replace HS := Lib.hid ((HS.out.cons hB5).set2 HNE.out.1 HNE.out.2 (.pointer (some ⟨bru, 0, none⟩)) (.int .i64 eu))
            have HUU := Lib.hid (RInt.st2 hi4 HB5.out (.pointer (some ⟨bru, 0, none⟩)) (.int .i64 eu))
            obtain ⟨k0, k1, k2, k3⟩ := hB5.cells2
            clear hx3 hi4 HSZ HLT HSW HNE hB5 hl5 HB5
            unfold ExV
            go_upto_region 24 with fail
            clear k0 k1 k2 k3
            generalize World.setCell (World.setCell _ _ _) _ _ = W73b at HS HUU ⊢
            refine wp_region_q (fun w' : World => w'.cell? ⟨r10, 1, none⟩ = some (.float .f64 u1)) 6 (.take 0 (.take 1 (.bag [(2, 122, []), (3, 123, []), (4, 124, []), (5, 12, [])] .nil))) (by kernel_rfl) (by kernel_rfl) ?_
            replace HS := Lib.hid (HS.out.later (drew_below _))
            replace HUU := Lib.hid (HUU.out.below (drew_below _))
            generalize World.drew _ = W74 at HS HUU ⊢
            have HSZ : Hid (SzLe W74 W74.heap.size) := Lib.hid (Nat.le_refl _)
            have HLT := Lib.hid HS.out.lt
            have HSW : Hid (w.heap.size ≤ W74.heap.size) := Lib.hid HS.out.size
            generalize W74.heap.size = nB at HSZ HLT HSW
            have hS : (fun w' : World => w'.cell? ⟨r10, 1, none⟩ = some (.float .f64 u1)) W74 := (HS.out.cellOf (.tail _ (.head _)) 1)
            repeat (refine wpPq_takeL (v := ?_) rfl rfl (fun _ _ _ h => h) rfl (fun w' hSw => ?_) hS ?_; rotate_left; (focus (go_simp; with_reducible rfl)); simp only [setL])
            clear hS
            refine wpPq_bag (pick [(2, fun v w' => v = .float .f64 18442240474082181120), (3, fun v w' => ∃ r, v = .float .f64 r ∧ ∀ W, Calls Tryz.prog 13 #[.float .f64 r] W (RxNew zd ed W)), (4, fun v w' => ∃ p, v = ExV p ed ∧ RInt w' p zd), (5, fun v w' => ∃ r, v = .pointer (some ⟨r, 0, none⟩) ∧ nB ≤ r ∧ BlkT w' r 27 #[.pointer none, .int .i64 0])]) (pick_mono (bag_cons (fun v w1 w2 hv2 hb => hv2) (bag_cons (fun v w1 w2 ⟨x3, hv3, hx3⟩ hb => ⟨x3, hv3, hx3⟩) (bag_cons (fun v w1 w2 ⟨brv, hv4, hi4⟩ hb => ⟨brv, hv4, hi4.below hb⟩) (bag_cons (fun v w1 w2 ⟨rv, hv5, hl5, hB5⟩ hb => ⟨rv, hv5, hl5, hB5.below hb⟩) bag_nil))))) (fun w' hb => ((HS.out.later hb).cellOf (.tail _ (.head _)) 1)) (by simp [prE]) (fun _ _ _ _ _ h => h) (bag_cons (bag_one rfl ?_) (bag_cons (bag_one rfl ?_) (bag_cons (bag_one rfl ?_) (bag_cons (bag_one rfl ?_) bag_nil)))) bag_nil ?_
            · intro a' V hdf hin hdep hb1 K hK
              clear hin hdep hdf
              have HS := Lib.hid (HS.out.later hb1)
              have HSZ := Lib.hid (HSZ.out.below hb1)
              have HUU := Lib.hid (HUU.out.below hb1)
              go_simp
              refine (HNI.out _).mono ?_
              rintro e1 V2 ⟨rfl, hb2⟩
              exact hK _ _ rfl hb2
            · intro a' V hdf hin hdep hb1 K hK
              have i121 : a'.tmps[121]?.getD undef = .float .f64 u1 := evT (hin 121 (by decide))
              obtain hv2 : (fun (v : Value) (w' : World) => v = .float .f64 18442240474082181120) (a'.tmps.getD 122 undef) V := hdep ⟨2, .data⟩ (by simp) rfl 122 (by decide)
              dsimp only at hv2
              replace hv2 := evT hv2
              clear hin hdep hdf
              have HS := Lib.hid (HS.out.later hb1)
              have HSZ := Lib.hid (HSZ.out.below hb1)
              have HUU := Lib.hid (HUU.out.below hb1)
              go_simp
              refine (HND.out _).mono ?_
              rintro e1 V2 ⟨r, rfl, hr, hb2⟩
              exact hK _ _ ⟨r, rfl, hr⟩ hb2
            · intro a' V hdf hin hdep hb1 K hK
              obtain ⟨x3, hv3, hx3⟩ : (fun (v : Value) (w' : World) => ∃ r, v = .float .f64 r ∧ ∀ W, Calls Tryz.prog 13 #[.float .f64 r] W (RxNew zd ed W)) (a'.tmps.getD 123 undef) V := hdep ⟨3, .data⟩ (by simp) rfl 123 (by decide)
              replace hv3 := evT hv3
              clear hin hdep hdf
              have HS := Lib.hid (HS.out.later hb1)
              have HSZ := Lib.hid (HSZ.out.below hb1)
              have HUU := Lib.hid (HUU.out.below hb1)
              go_simp
              refine (hx3 _).mono ?_
              rintro e1 V2 ⟨p, rfl, -, hi, hb2⟩
              exact hK _ _ ⟨p, rfl, hi⟩ hb2
            · intro a' V hdf hin hdep hb1 K hK
              clear hin hdep hdf
              have HS := Lib.hid (HS.out.later hb1)
              have HSZ := Lib.hid (HSZ.out.below hb1)
              have HUU := Lib.hid (HUU.out.below hb1)
              go_simp
              exact hK _ _ ⟨_, rfl, HSZ.out, BlkT.new V _ _⟩ (Below.alloc_self _ _)
            intro vals B1 hb1 hR
            replace HS := Lib.hid (HS.out.later hb1)
            replace HSZ := Lib.hid (HSZ.out.below hb1)
            replace HUU := Lib.hid (HUU.out.below hb1)
            obtain hv2 : (fun (v : Value) (w' : World) => v = .float .f64 18442240474082181120) (vals 2) B1 := hR (2, 122) (by decide)
            dsimp only at hv2
            obtain ⟨x3, hv3, hx3⟩ : (fun (v : Value) (w' : World) => ∃ r, v = .float .f64 r ∧ ∀ W, Calls Tryz.prog 13 #[.float .f64 r] W (RxNew zd ed W)) (vals 3) B1 := hR (3, 123) (by decide)
            obtain ⟨brv, hv4, hi4⟩ : (fun (v : Value) (w' : World) => ∃ p, v = ExV p ed ∧ RInt w' p zd) (vals 4) B1 := hR (4, 124) (by decide)
            obtain ⟨rv, hv5, hl5, hB5⟩ : (fun (v : Value) (w' : World) => ∃ r, v = .pointer (some ⟨r, 0, none⟩) ∧ nB ≤ r ∧ BlkT w' r 27 #[.pointer none, .int .i64 0]) (vals 5) B1 := hR (5, 12) (by decide)
            clear hb1 hR
            simp only [prE, List.flatMap_cons, List.flatMap_nil, List.cons_append, List.nil_append, List.append_nil, setD, List.setIfInBounds_toArray, List.set_cons_zero, List.set_cons_succ, hv2, hv3, hv4, hv5]
            clear vals hv2 hv3 hv4 hv5
            refine wpPq_nil ?_
            simp only [List.drop_succ_cons, List.drop_zero]
            have HNE : Hid (w.heap.size ≤ rv ∧ ∀ q ∈ ([(ru, 27, #[.pointer (some ⟨bru, 0, none⟩), .int .i64 eu]), (r10, 34, #[.float .f64 u0, .float .f64 u1]), (ra, 34, #[.float .f64 p0, .float .f64 p1]), (rb, 34, #[.float .f64 q0, .float .f64 q1])] : List (Nat × Nat × Array Value)), q.1 ≠ rv) := Lib.hid ⟨Nat.le_trans HSW.out hl5, fun q m e => by have := HLT.out q m; omega⟩
            have HB5 := Lib.hid hB5
            replace HS := Lib.hid ((HS.out.cons hB5).set2 HNE.out.1 HNE.out.2 (.pointer (some ⟨brv, 0, none⟩)) (.int .i64 ed))
            replace HUU := Lib.hid (RInt.st2 HUU.out HB5.out (.pointer (some ⟨brv, 0, none⟩)) (.int .i64 ed))
            have HDD := Lib.hid (RInt.st2 hi4 HB5.out (.pointer (some ⟨brv, 0, none⟩)) (.int .i64 ed))
            obtain ⟨k0, k1, k2, k3⟩ := hB5.cells2
            clear hx3 hi4 HSZ HLT HSW HNE hB5 hl5 HB5
            unfold ExV
            go_upto_region 25 with fail
            clear k0 k1 k2 k3
            generalize World.setCell (World.setCell _ _ _) _ _ = W74b at HS HUU HDD ⊢
            cases zb
            · have t2 := HS2.out rfl
              refine wp_region_pl (fun w' : World => ((w'.cell? ⟨rv, 0, none⟩ = some (.pointer (some ⟨brv, 0, none⟩)) ∧ w'.cell? ⟨rv, 1, none⟩ = some (.int .i64 ed)) ∧ w'.cell? ⟨ru, 0, none⟩ = some (.pointer (some ⟨bru, 0, none⟩)) ∧ w'.cell? ⟨ru, 1, none⟩ = some (.int .i64 eu)) ∧ (w'.cell? ⟨r10, 0, none⟩ = some (.float .f64 u0) ∧ w'.cell? ⟨r10, 1, none⟩ = some (.float .f64 u1)) ∧ w'.cell? ⟨ra, 0, none⟩ = some (.float .f64 p0) ∧ w'.cell? ⟨ra, 1, none⟩ = some (.float .f64 p1)) 18 (.take 0 (.take 1 (.take 3 (.take 4 (.run 2 (.run 5 (.run 6 (.take 7 (.take 8 (.take 9 (.take 10 (.take 11 (.take 12 (.take 13 (.take 14 (.take 16 (.take 17 (.run 15 (.nil))))))))))))))))))) (by kernel_rfl) (by kernel_rfl) ?_
              replace HS := Lib.hid (HS.out.later (drew_below _))
              replace HUU := Lib.hid (HUU.out.below (drew_below _))
              replace HDD := Lib.hid (HDD.out.below (drew_below _))
              generalize World.drew _ = W75 at HS HUU HDD ⊢
              repeat (first | (refine wpPl_takeL (v := ?_) rfl rfl (fun _ _ _ h => h) rfl (fun w' hSw => ?_) HS.out.two4 ?_; rotate_left; (focus (go_simp; with_reducible rfl)); simp only [setL]) | (refine wpPl_skipL rfl rfl (fun _ _ _ h => h) rfl HS.out.two4 ?_; simp only [setL]))
              refine wpPl_goL rfl rfl fun K' hK => ?_
              go_simp
              refine (HOp0.out _).mono ?_
              rintro e1 W75v1 ⟨o1, rfl, -, hi1, hb1⟩
              replace HS := Lib.hid (HS.out.later hb1)
              replace HUU := Lib.hid (HUU.out.below hb1)
              replace HDD := Lib.hid (HDD.out.below hb1)
              have HZ1 := Lib.hid hi1
              clear hi1
              unfold ExV
              refine hK _ _ HS.out.two4 ?_
              clear hK K' hb1
              try simp only [Act.put, setL]
              repeat (first | (refine wpPl_takeL (v := ?_) rfl rfl (fun _ _ _ h => h) rfl (fun w' hSw => ?_) HS.out.two4 ?_; rotate_left; (focus (go_simp; with_reducible rfl)); simp only [setL]) | (refine wpPl_skipL rfl rfl (fun _ _ _ h => h) rfl HS.out.two4 ?_; simp only [setL]))
              refine wpPl_goL rfl rfl fun K' hK => ?_
              go_simp
              refine (HMU.out _ _ _ HUU.out HUU.out).mono ?_
              rintro e1 W75v2 ⟨o2, rfl, -, hi1, hb1⟩
              replace HS := Lib.hid (HS.out.later hb1)
              replace HUU := Lib.hid (HUU.out.below hb1)
              replace HDD := Lib.hid (HDD.out.below hb1)
              replace HZ1 := Lib.hid (HZ1.out.below hb1)
              have HZ2 := Lib.hid hi1
              clear hi1
              unfold ExV
              refine hK _ _ HS.out.two4 ?_
              clear hK K' hb1
              try simp only [Act.put, setL]
              repeat (first | (refine wpPl_takeL (v := ?_) rfl rfl (fun _ _ _ h => h) rfl (fun w' hSw => ?_) HS.out.two4 ?_; rotate_left; (focus (go_simp; with_reducible rfl)); simp only [setL]) | (refine wpPl_skipL rfl rfl (fun _ _ _ h => h) rfl HS.out.two4 ?_; simp only [setL]))
              refine wpPl_goL rfl rfl fun K' hK => ?_
              go_simp
              refine (HCU.out _ _ _ HZ1.out HZ2.out).mono ?_
              rintro e1 W75v3 ⟨rfl, hb1⟩
              replace HS := Lib.hid (HS.out.later hb1)
              replace HUU := Lib.hid (HUU.out.below hb1)
              replace HDD := Lib.hid (HDD.out.below hb1)
              clear HZ1 HZ2
              refine hK _ _ HS.out.two4 ?_
              clear hK K' hb1
              try simp only [Act.put, setL]
              repeat (first | (refine wpPl_takeL (v := ?_) rfl rfl (fun _ _ _ h => h) rfl (fun w' hSw => ?_) HS.out.two4 ?_; rotate_left; (focus (go_simp; with_reducible rfl)); simp only [setL]) | (refine wpPl_skipL rfl rfl (fun _ _ _ h => h) rfl HS.out.two4 ?_; simp only [setL]))
              refine wpPl_goL rfl rfl fun K' hK => ?_
              go_simp
              refine (HOp1.out _).mono ?_
              rintro e1 W75v4 ⟨o3, rfl, -, hi1, hb1⟩
              replace HS := Lib.hid (HS.out.later hb1)
              replace HUU := Lib.hid (HUU.out.below hb1)
              replace HDD := Lib.hid (HDD.out.below hb1)
              have HZ3 := Lib.hid hi1
              clear hi1
              unfold ExV
              refine hK _ _ HS.out.two4 ?_
              clear hK K' hb1
              try simp only [Act.put, setL]
              repeat (first | (refine wpPl_takeL (v := ?_) rfl rfl (fun _ _ _ h => h) rfl (fun w' hSw => ?_) HS.out.two4 ?_; rotate_left; (focus (go_simp; with_reducible rfl)); simp only [setL]) | (refine wpPl_skipL rfl rfl (fun _ _ _ h => h) rfl HS.out.two4 ?_; simp only [setL]))
              refine wpPl_nil ?_
              simp only [List.drop_succ_cons, List.drop_zero]
              obtain ⟨⟨⟨g0, g1⟩, g2, g3⟩, ⟨g4, g5⟩, g6, g7⟩ := HS.out.two4
              go_wp2_with fail
              refine (HMD.out _ _ _ HDD.out HDD.out).mono ?_
              rintro e81 w81 ⟨o8, rfl, -, hi81, hb81⟩
              replace HS := Lib.hid (HS.out.later hb81)
              replace HZ3 := Lib.hid (HZ3.out.below hb81)
              have HZ8 := Lib.hid hi81
              clear hi81 hb81
              clear g0 g1 g2 g3 g4 g5 g6 g7
              unfold ExV
              go_wp2_with fail
              refine (HCD2.out _ _ _ HZ3.out HZ8.out).mono ?_
              rintro e82 w82 ⟨rfl, hb82⟩
              replace HS := Lib.hid (HS.out.later hb82)
              clear hb82
              skip
              go_wp2
              go_ret
              exact ⟨rfl, HS.out.2⟩
            · refine wp_region_pl (fun w' : World => ((w'.cell? ⟨rv, 0, none⟩ = some (.pointer (some ⟨brv, 0, none⟩)) ∧ w'.cell? ⟨rv, 1, none⟩ = some (.int .i64 ed)) ∧ w'.cell? ⟨ru, 0, none⟩ = some (.pointer (some ⟨bru, 0, none⟩)) ∧ w'.cell? ⟨ru, 1, none⟩ = some (.int .i64 eu)) ∧ (w'.cell? ⟨r10, 0, none⟩ = some (.float .f64 u0) ∧ w'.cell? ⟨r10, 1, none⟩ = some (.float .f64 u1)) ∧ w'.cell? ⟨ra, 0, none⟩ = some (.float .f64 p0) ∧ w'.cell? ⟨ra, 1, none⟩ = some (.float .f64 p1)) 18 (.take 0 (.take 1 (.take 3 (.take 4 (.run 2 (.run 5 (.run 6 (.take 7 (.take 8 (.take 9 (.take 10 (.take 11 (.take 12 (.take 13 (.take 14 (.take 16 (.take 17 (.run 15 (.nil))))))))))))))))))) (by kernel_rfl) (by kernel_rfl) ?_
              replace HS := Lib.hid (HS.out.later (drew_below _))
              replace HUU := Lib.hid (HUU.out.below (drew_below _))
              replace HDD := Lib.hid (HDD.out.below (drew_below _))
              generalize World.drew _ = W75 at HS HUU HDD ⊢
              repeat (first | (refine wpPl_takeL (v := ?_) rfl rfl (fun _ _ _ h => h) rfl (fun w' hSw => ?_) HS.out.two4 ?_; rotate_left; (focus (go_simp; with_reducible rfl)); simp only [setL]) | (refine wpPl_skipL rfl rfl (fun _ _ _ h => h) rfl HS.out.two4 ?_; simp only [setL]))
              refine wpPl_goL rfl rfl fun K' hK => ?_
              go_simp
              refine (HOp0.out _).mono ?_
              rintro e1 W75v1 ⟨o1, rfl, -, hi1, hb1⟩
              replace HS := Lib.hid (HS.out.later hb1)
              replace HUU := Lib.hid (HUU.out.below hb1)
              replace HDD := Lib.hid (HDD.out.below hb1)
              have HZ1 := Lib.hid hi1
              clear hi1
              unfold ExV
              refine hK _ _ HS.out.two4 ?_
              clear hK K' hb1
              try simp only [Act.put, setL]
              repeat (first | (refine wpPl_takeL (v := ?_) rfl rfl (fun _ _ _ h => h) rfl (fun w' hSw => ?_) HS.out.two4 ?_; rotate_left; (focus (go_simp; with_reducible rfl)); simp only [setL]) | (refine wpPl_skipL rfl rfl (fun _ _ _ h => h) rfl HS.out.two4 ?_; simp only [setL]))
              refine wpPl_goL rfl rfl fun K' hK => ?_
              go_simp
              refine (HMU.out _ _ _ HUU.out HUU.out).mono ?_
              rintro e1 W75v2 ⟨o2, rfl, -, hi1, hb1⟩
              replace HS := Lib.hid (HS.out.later hb1)
              replace HUU := Lib.hid (HUU.out.below hb1)
              replace HDD := Lib.hid (HDD.out.below hb1)
              replace HZ1 := Lib.hid (HZ1.out.below hb1)
              have HZ2 := Lib.hid hi1
              clear hi1
              unfold ExV
              refine hK _ _ HS.out.two4 ?_
              clear hK K' hb1
              try simp only [Act.put, setL]
              repeat (first | (refine wpPl_takeL (v := ?_) rfl rfl (fun _ _ _ h => h) rfl (fun w' hSw => ?_) HS.out.two4 ?_; rotate_left; (focus (go_simp; with_reducible rfl)); simp only [setL]) | (refine wpPl_skipL rfl rfl (fun _ _ _ h => h) rfl HS.out.two4 ?_; simp only [setL]))
              refine wpPl_goL rfl rfl fun K' hK => ?_
              go_simp
              refine (HCU.out _ _ _ HZ1.out HZ2.out).mono ?_
              rintro e1 W75v3 ⟨rfl, hb1⟩
              replace HS := Lib.hid (HS.out.later hb1)
              replace HUU := Lib.hid (HUU.out.below hb1)
              replace HDD := Lib.hid (HDD.out.below hb1)
              clear HZ1 HZ2
              refine hK _ _ HS.out.two4 ?_
              clear hK K' hb1
              try simp only [Act.put, setL]
              repeat (first | (refine wpPl_takeL (v := ?_) rfl rfl (fun _ _ _ h => h) rfl (fun w' hSw => ?_) HS.out.two4 ?_; rotate_left; (focus (go_simp; with_reducible rfl)); simp only [setL]) | (refine wpPl_skipL rfl rfl (fun _ _ _ h => h) rfl HS.out.two4 ?_; simp only [setL]))
              refine wpPl_idleL rfl rfl rfl HS.out.two4 ?_
              simp only [setL]
              repeat (first | (refine wpPl_takeL (v := ?_) rfl rfl (fun _ _ _ h => h) rfl (fun w' hSw => ?_) HS.out.two4 ?_; rotate_left; (focus (go_simp; with_reducible rfl)); simp only [setL]) | (refine wpPl_skipL rfl rfl (fun _ _ _ h => h) rfl HS.out.two4 ?_; simp only [setL]))
              refine wpPl_nil ?_
              simp only [List.drop_succ_cons, List.drop_zero]
              go_wp2
              go_ret
              exact ⟨rfl, HS.out.2⟩
          · rw [decide_eq_true (by omega)] at olp
            obtain ⟨⟨g0, g1⟩, g2, g3⟩ := HS.out.two2
            go_wp2
            go_ret
            exact ⟨rfl, HS.out.2⟩

end Go.Proofs.YtjokekmbnffpfaaGreatDoor
