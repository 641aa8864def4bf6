/- Walk: IntervalEncloses. Printed by wip/gen/iv20.py. -/
import Derived.Test.YtjokekmbnffpfaaGreatDoorZIww
namespace Go.Proofs.YtjokekmbnffpfaaGreatDoor
open Go.RowKit
attribute [local go_sem] run_store_f

/-- The quotient: all that the walk needs. -/
def DivAsk (x y d0 d1 : Nat) : Prop :=
  ∃ r sg, (∀ t w, (binOp .quo t (.float .f64 x) (.float .f64 y)).run Tryz.prog w = .ok (.float .f64 r) w) ∧ (FloatKind.f64.format.order y 0 == some Ordering.lt) = sg ∧
    (∀ W, Calls Tryz.prog 18 #[.agg #[.float .f64 d0, .float .f64 d1], .float .f64 r] W (Gives (.bool true) W)) ∧
    (sg = false → ∀ b c W, RInt W b (valZ x) → RInt W c ((valZ y).natAbs : Int) → Calls Tryz.prog 35 #[.agg #[.float .f64 d0, .float .f64 d1], ExV b (pE x), ExV c (pE y)] W (Gives (.bool true) W)) ∧
    (sg = true → ∀ b c W, RInt W b (-(valZ x)) → RInt W c ((valZ y).natAbs : Int) → Calls Tryz.prog 35 #[.agg #[.float .f64 d0, .float .f64 d1], ExV b (pE x), ExV c (pE y)] W (Gives (.bool true) W))

theorem div_ask {p0 p1 q0 q1 x y : Nat} (hp0 : W64 p0) (hp1 : W64 p1) (hq0 : W64 q0) (hq1 : W64 q1) (hx : W64 x) (hy : W64 y) (hu : hasK (ivK p0 p1) x = true) (hv : hasK (ivK q0 q1) y = true) (h0 : ky y ≠ 0) :
    DivAsk x y (ivL (divK (ivK p0 p1) (ivK q0 q1))) (ivH (divK (ivK p0 p1) (ivK q0 q1))) := by
  have okA := ivK_ok hp0 hp1
  have okB := ivK_ok hq0 hq1
  obtain ⟨fx, -⟩ := pt_in hu
  obtain ⟨fy, -⟩ := pt_in hv
  obtain ⟨⟨r, r1, r2, r3⟩, d1, d2⟩ := div_case okA okB hx hy hu hv h0
  have okD := divK_ok okA okB
  have ex := pE_bd fx
  have ey := pE_bd fy
  have vx := val_bl (b := x)
  have vy := val_bl (b := y)
  refine ⟨r, _, fun t w => run_float_arith w .quo t .f64 _ _ _ r1, rfl, fun W => round_of okD r2 r3 W, fun hs b c W h1 h2 => ?_, fun hs b c W h1 h2 => ?_⟩
  · rw [lt_test hy (by decide) (nan_fin fy) (by decide), ky_zero] at hs
    have := of_decide_eq_false hs
    exact over_of okD (d1 (by omega)) (by omega) (by rw [Int.natAbs_natCast]; omega) (by omega) (by omega) (by omega) (by omega) b c W h1 h2
  · rw [lt_test hy (by decide) (nan_fin fy) (by decide), ky_zero] at hs
    have := of_decide_eq_true hs
    exact over_of okD (d2 this) (by rw [Int.natAbs_neg]; omega) (by rw [Int.natAbs_natCast]; omega) (by omega) (by omega) (by omega) (by omega) b c W h1 h2

/-- The root: all that the walk needs. -/
def SqAsk (x t0 t1 : Nat) : Prop :=
  ∃ r z e S, (∀ W, Calls Tryz.prog 37 #[.float .f64 x] W (Gives (.float .f64 r) W)) ∧ (∀ W, Calls Tryz.prog 18 #[.agg #[.float .f64 t0, .float .f64 t1], .float .f64 r] W (Gives (.bool true) W)) ∧
    (FloatKind.f64.format.order t0 0 == some Ordering.lt) = false ∧ (∀ W, Calls Tryz.prog 13 #[.float .f64 t0] W (RxNew z e W)) ∧
    (∀ b c W, RInt W b z → RInt W c z → Calls Tryz.prog 14 #[ExV b e, ExV c e] W (RxNew (z * z) (e + e) W)) ∧
    (∀ b c W, RInt W b (z * z) → RInt W c (valZ x) → Calls Tryz.prog 28 #[ExV b (e + e), ExV c (pE x)] W (Gives (.int .i64 S) W)) ∧ decide (0 < S) = false ∧
    (∀ W, Calls Tryz.prog 32 #[.float .f64 t1] W (Gives (.bool (!finB t1)) W)) ∧
    (finB t1 = true → ∃ z2 e2 S2, (∀ W, Calls Tryz.prog 13 #[.float .f64 t1] W (RxNew z2 e2 W)) ∧
      (∀ b c W, RInt W b z2 → RInt W c z2 → Calls Tryz.prog 14 #[ExV b e2, ExV c e2] W (RxNew (z2 * z2) (e2 + e2) W)) ∧
      (∀ b c W, RInt W b (z2 * z2) → RInt W c (valZ x) → Calls Tryz.prog 28 #[ExV b (e2 + e2), ExV c (pE x)] W (Gives (.int .i64 S2) W)) ∧ decide (S2 < 0) = false)

theorem sq_ask {p0 p1 x : Nat} (hp0 : W64 p0) (hp1 : W64 p1) (hx : W64 x) (hu : hasK (ivK p0 p1) x = true) (h0 : 0 ≤ ky x) : SqAsk x (ivL (sqK (ivK p0 p1))) (ivH (sqK (ivK p0 p1))) := by
  have okA := ivK_ok hp0 hp1
  obtain ⟨fx, ix⟩ := pt_in hu
  obtain ⟨l, h, e, l0, lK, h00, hK, e1, e2⟩ := enc_sqrt okA hx fx ix h0
  obtain ⟨r, r1, r2, r3, r4⟩ := root_has e hx fx h0 l0 h00 e1 e2
  obtain ⟨g1, g2⟩ := sqrt_signs hx fx h0 l0 lK h00 e1 e2
  have okS := sqK_ok okA
  have hro : ∀ W, Calls Tryz.prog 18 #[.agg #[.float .f64 (ivL (sqK (ivK p0 p1))), .float .f64 (ivH (sqK (ivK p0 p1)))], .float .f64 r] W (Gives (.bool true) W) := fun W => round_of okS r2 (fun _ => r4) W
  rw [e] at hro ⊢
  show SqAsk x (kb l) (kb h)
  have hk := kInf_pos
  obtain ⟨c1, c2, c3, c4⟩ := kb_fin (k := l) (by omega) lK
  obtain ⟨d1, d2, d3⟩ := kb_lt (k := h) (by omega) hK
  have ep := pE_bd c2
  have vp := val_bl (b := kb l)
  have ex := pE_bd fx
  have vx := val_bl (b := x)
  have mm := bl_mul (valZ (kb l)).natAbs (valZ (kb l)).natAbs
  rw [← Int.natAbs_mul] at mm
  refine ⟨r, valZ (kb l), pE (kb l), _, fun W => sqrt_any x r r1 W, hro, ?_, fun W => rOf_any _ W c1 c2,
    fun b c W h1 h2 => rMulX_any b c _ _ _ _ W h1 h2 (by omega) (by omega) (by omega) (by omega) (by omega) (by omega),
    fun b c W h1 h2 => rCmpX_any b c _ _ _ _ W h1 h2 (by omega) (by omega) (by omega) (by omega) (by omega) (by omega), decide_eq_false (by omega), fun W => linf_any _ W d1 (num_iff.2 d2), fun hf => ?_⟩
  · rw [lt_test c1 (by decide) c3 (by decide), c4, ky_zero]
    exact decide_eq_false (by omega)
  · have ep2 := pE_bd hf
    have vp2 := val_bl (b := kb h)
    have mm2 := bl_mul (valZ (kb h)).natAbs (valZ (kb h)).natAbs
    rw [← Int.natAbs_mul] at mm2
    have hh := (fin_ky d1 d2).1 hf
    have := g2 (by omega)
    exact ⟨valZ (kb h), pE (kb h), _, fun W => rOf_any _ W d1 hf,
      fun b c W h1 h2 => rMulX_any b c _ _ _ _ W h1 h2 (by omega) (by omega) (by omega) (by omega) (by omega) (by omega),
      fun b c W h1 h2 => rCmpX_any b c _ _ _ _ W h1 h2 (by omega) (by omega) (by omega) (by omega) (by omega) (by omega), decide_eq_false (by omega)⟩

/-- Powers of an exact number. -/
theorem mul_next {x : Nat} (fx : finB x = true) {j : Nat} (hj : j ≤ 16) (b c : Nat) (W : World) (h1 : RInt W b (valZ x ^ j)) (h2 : RInt W c (valZ x)) :
    Calls Tryz.prog 14 #[ExV b (pE x * (j : Int)), ExV c (pE x)] W (RxNew (valZ x ^ (j + 1)) (pE x * ((j + 1 : Nat) : Int)) W) := by
  have hb := bl_powZ (valZ x) (val_bl (b := x)) j
  have vx := val_bl (b := x)
  have he := pE_bd fx
  have e1 : -1074 * (j : Int) ≤ pE x * (j : Int) := Int.mul_le_mul_of_nonneg_right he.1 (by omega)
  have e2 : pE x * (j : Int) ≤ 1023 * (j : Int) := Int.mul_le_mul_of_nonneg_right he.2 (by omega)
  obtain ⟨n1, n2⟩ := pow_next (valZ x) (pE x) j
  have := rMulX_any b c _ (pE x * (j : Int)) _ (pE x) W h1 h2 (by omega) (by omega) (by omega) (by omega) (by omega) (by omega)
  rw [n1, n2] at this
  exact this

set_option maxRecDepth 100000 in
set_option maxHeartbeats 51200000 in
theorem intervalEncloses_any (p0 p1 q0 q1 x y : Nat) (n : Int) (w : World) (hp0 : W64 p0) (hp1 : W64 p1) (hq0 : W64 q0) (hq1 : W64 q1) (hx : W64 x) (hy : W64 y) (hT : TabB w) :
    Calls Tryz.prog 6 #[.agg #[.int .u64 p0, .int .u64 p1], .agg #[.int .u64 q0, .int .u64 q1], .int .u64 x, .int .u64 y, .int .i64 n] w (Gives (.bool true) w) := by
  have okA := ivK_ok hp0 hp1
  have okB := ivK_ok hq0 hq1
  have HAW := Lib.hid fun W ht => awake6_any W ht
  have HOA := Lib.hid fun W => lof_any p0 p1 W
  have HOB := Lib.hid fun W => lof_any q0 q1 W
  have HFX := Lib.hid fun W => lf_any x W
  have HFY := Lib.hid fun W => lf_any y W
  have HHU := Lib.hid fun W => has_any p0 p1 x W hp0 hp1 hx
  have HHV := Lib.hid fun W => has_any q0 q1 y W hq0 hq1 hy
  have HT := Lib.hid hT
  have HW0 := Lib.hid (Bks.new2 w 37 #[.int .u64 p0, .int .u64 p1] #[.int .u64 q0, .int .u64 q1])
  cases hu : hasK (ivK p0 p1) x
  · rw [hu] at HHU
    clear hu HHV
    clear okA okB hp0 hp1 hq0 hq1 hx hy hT
    go_enter Tryz.func6, Tryz.ntmps6
    go_wp2_with fail
    refine (HAW.out _ (HT.out.below HW0.out.2)).mono ?_
    rintro e1 w1 ⟨rfl, hb1⟩
    have HW := Lib.hid (HW0.out.later hb1)
    clear HW0 hb1 HAW
    go_wp2
    refine wp_region_q (fun w' : World => (w'.cell? ⟨w.heap.size, 0, none⟩ = some (.int .u64 p0) ∧ w'.cell? ⟨w.heap.size, 1, none⟩ = some (.int .u64 p1)) ∧ w'.cell? ⟨w.heap.size + 1, 0, none⟩ = some (.int .u64 q0) ∧ w'.cell? ⟨w.heap.size + 1, 1, none⟩ = some (.int .u64 q1)) 10 (.take 0 (.take 2 (.take 4 (.take 6 (.bag [(1, 31, []), (3, 33, []), (5, 35, []), (7, 37, []), (8, 11, []), (9, 12, [])] .nil))))) (by kernel_rfl) (by kernel_rfl) ?_
    replace HW := Lib.hid (HW.out.later (drew_below _))
    generalize World.drew _ = W3 at HW ⊢
    have HSZ : Hid (SzLe W3 W3.heap.size) := Lib.hid (Nat.le_refl _)
    have HLT := Lib.hid HW.out.lt
    have HSW : Hid (w.heap.size ≤ W3.heap.size) := Lib.hid HW.out.size
    generalize W3.heap.size = nB at HSZ HLT HSW
    have hS : (fun w' : World => (w'.cell? ⟨w.heap.size, 0, none⟩ = some (.int .u64 p0) ∧ w'.cell? ⟨w.heap.size, 1, none⟩ = some (.int .u64 p1)) ∧ w'.cell? ⟨w.heap.size + 1, 0, none⟩ = some (.int .u64 q0) ∧ w'.cell? ⟨w.heap.size + 1, 1, none⟩ = some (.int .u64 q1)) W3 := HW.out.two2
    repeat (refine wpPq_takeL (v := ?_) rfl rfl (fun _ _ _ h => h) rfl (fun w' hSw => ?_) hS ?_; rotate_left; (focus (go_simp; with_reducible rfl)); simp only [List.setIfInBounds_toArray, List.set_cons_zero, List.set_cons_succ])
    clear hS
    have hAp : ∀ j ∈ ([8, 9] : List Nat), ∀ s w', (pick [(1, fun v w' => v = .agg #[.float .f64 p0, .float .f64 p1]), (3, fun v w' => v = .agg #[.float .f64 q0, .float .f64 q1]), (5, fun v w' => v = .float .f64 x), (7, fun v w' => v = .float .f64 y), (8, fun v w' => ∃ r, v = .pointer (some ⟨r, 0, none⟩) ∧ nB ≤ r ∧ BlkT w' r 34 #[.float .f64 0, .float .f64 0]), (9, fun v w' => ∃ r, v = .pointer (some ⟨r, 0, none⟩) ∧ nB ≤ r ∧ BlkT w' r 34 #[.float .f64 0, .float .f64 0])]) j (.pointer (some ⟨s, 0, none⟩)) w' → s < w'.heap.size := (bag_cons (fun s w' h => by obtain ⟨r, hr, -, hB⟩ := (h : (fun (v : Value) (w' : World) => ∃ r, v = .pointer (some ⟨r, 0, none⟩) ∧ nB ≤ r ∧ BlkT w' r 34 #[.float .f64 0, .float .f64 0]) (.pointer (some ⟨s, 0, none⟩)) w'); simp only [Value.pointer.injEq, Option.some.injEq, Addr.mk.injEq, and_true] at hr; subst hr; exact hB.lt) (bag_cons (fun s w' h => by obtain ⟨r, hr, -, hB⟩ := (h : (fun (v : Value) (w' : World) => ∃ r, v = .pointer (some ⟨r, 0, none⟩) ∧ nB ≤ r ∧ BlkT w' r 34 #[.float .f64 0, .float .f64 0]) (.pointer (some ⟨s, 0, none⟩)) w'); simp only [Value.pointer.injEq, Option.some.injEq, Addr.mk.injEq, and_true] at hr; subst hr; exact hB.lt) bag_nil))
    refine wpPq_bagD [8, 9] (pick [(1, fun v w' => v = .agg #[.float .f64 p0, .float .f64 p1]), (3, fun v w' => v = .agg #[.float .f64 q0, .float .f64 q1]), (5, fun v w' => v = .float .f64 x), (7, fun v w' => v = .float .f64 y), (8, fun v w' => ∃ r, v = .pointer (some ⟨r, 0, none⟩) ∧ nB ≤ r ∧ BlkT w' r 34 #[.float .f64 0, .float .f64 0]), (9, fun v w' => ∃ r, v = .pointer (some ⟨r, 0, none⟩) ∧ nB ≤ r ∧ BlkT w' r 34 #[.float .f64 0, .float .f64 0])]) (pick_mono (bag_cons (fun v w1 w2 hv1 hb => hv1) (bag_cons (fun v w1 w2 hv3 hb => hv3) (bag_cons (fun v w1 w2 hv5 hb => hv5) (bag_cons (fun v w1 w2 hv7 hb => hv7) (bag_cons (fun v w1 w2 ⟨ra, hv8, hl8, hB8⟩ hb => ⟨ra, hv8, hl8, hB8.below hb⟩) (bag_cons (fun v w1 w2 ⟨rb, hv9, hl9, hB9⟩ hb => ⟨rb, hv9, hl9, hB9.below hb⟩) bag_nil))))))) (fun w' hb => (HW.out.later hb).two2) (by simp [prE]) (fun _ _ _ _ _ h => h) (by decide) (bag_cons (bagD_one rfl (BagStep.other (by decide) ?_)) (bag_cons (bagD_one rfl (BagStep.other (by decide) ?_)) (bag_cons (bagD_one rfl (BagStep.other (by decide) ?_)) (bag_cons (bagD_one rfl (BagStep.other (by decide) ?_)) (bag_cons (bagD_one rfl (BagStep.fresh hAp ?_)) (bag_cons (bagD_one rfl (BagStep.fresh hAp ?_)) bag_nil)))))) bag_nil ?_
    · intro a' V hdf hin hdep hb1 K hK
      have i30 : a'.tmps[30]?.getD undef = .agg #[.int .u64 p0, .int .u64 p1] := evT (hin 30 (by decide))
      clear hin hdep hdf
      have HW := Lib.hid (HW.out.later hb1)
      have HSZ := Lib.hid (HSZ.out.below hb1)
      go_simp
      refine (HOA.out _).mono ?_
      rintro e1 V2 ⟨rfl, hb2⟩
      exact hK _ _ rfl hb2
    · intro a' V hdf hin hdep hb1 K hK
      have i32 : a'.tmps[32]?.getD undef = .agg #[.int .u64 q0, .int .u64 q1] := evT (hin 32 (by decide))
      clear hin hdep hdf
      have HW := Lib.hid (HW.out.later hb1)
      have HSZ := Lib.hid (HSZ.out.below hb1)
      go_simp
      refine (HOB.out _).mono ?_
      rintro e1 V2 ⟨rfl, hb2⟩
      exact hK _ _ rfl hb2
    · intro a' V hdf hin hdep hb1 K hK
      have i34 : a'.tmps[34]?.getD undef = .int .u64 x := evT (hin 34 (by decide))
      clear hin hdep hdf
      have HW := Lib.hid (HW.out.later hb1)
      have HSZ := Lib.hid (HSZ.out.below hb1)
      go_simp
      refine (HFX.out _).mono ?_
      rintro e1 V2 ⟨rfl, hb2⟩
      exact hK _ _ rfl hb2
    · intro a' V hdf hin hdep hb1 K hK
      have i36 : a'.tmps[36]?.getD undef = .int .u64 y := evT (hin 36 (by decide))
      clear hin hdep hdf
      have HW := Lib.hid (HW.out.later hb1)
      have HSZ := Lib.hid (HSZ.out.below hb1)
      go_simp
      refine (HFY.out _).mono ?_
      rintro e1 V2 ⟨rfl, hb2⟩
      exact hK _ _ rfl hb2
    · intro a' V hdf hin hdep hb1 K hK
      clear hin hdep hdf
      have HW := Lib.hid (HW.out.later hb1)
      have HSZ := Lib.hid (HSZ.out.below hb1)
      go_simp
      exact hK _ ⟨_, rfl, HSZ.out, BlkT.new V _ _⟩ (Below.alloc_self _ _)
    · intro a' V hdf hin hdep hb1 K hK
      clear hin hdep hdf
      have HW := Lib.hid (HW.out.later hb1)
      have HSZ := Lib.hid (HSZ.out.below hb1)
      go_simp
      exact hK _ ⟨_, rfl, HSZ.out, BlkT.new V _ _⟩ (Below.alloc_self _ _)
    intro vals B1 hb1 hR hNE
    replace HW := Lib.hid (HW.out.later hb1)
    replace HSZ := Lib.hid (HSZ.out.below hb1)
    obtain hv1 : (fun (v : Value) (w' : World) => v = .agg #[.float .f64 p0, .float .f64 p1]) (vals 1) B1 := hR (1, 31) (by decide)
    dsimp only at hv1
    obtain hv3 : (fun (v : Value) (w' : World) => v = .agg #[.float .f64 q0, .float .f64 q1]) (vals 3) B1 := hR (3, 33) (by decide)
    dsimp only at hv3
    obtain hv5 : (fun (v : Value) (w' : World) => v = .float .f64 x) (vals 5) B1 := hR (5, 35) (by decide)
    dsimp only at hv5
    obtain hv7 : (fun (v : Value) (w' : World) => v = .float .f64 y) (vals 7) B1 := hR (7, 37) (by decide)
    dsimp only at hv7
    obtain ⟨ra, hv8, hl8, hB8⟩ : (fun (v : Value) (w' : World) => ∃ r, v = .pointer (some ⟨r, 0, none⟩) ∧ nB ≤ r ∧ BlkT w' r 34 #[.float .f64 0, .float .f64 0]) (vals 8) B1 := hR (8, 11) (by decide)
    obtain ⟨rb, hv9, hl9, hB9⟩ : (fun (v : Value) (w' : World) => ∃ r, v = .pointer (some ⟨r, 0, none⟩) ∧ nB ≤ r ∧ BlkT w' r 34 #[.float .f64 0, .float .f64 0]) (vals 9) B1 := hR (9, 12) (by decide)
    have hne8_9 := hNE (8, 11) (by decide) (9, 12) (by decide) (by decide) (by decide) (by decide) ra rb hv8 hv9
    clear hNE hAp
    clear hb1 hR
    simp only [prE, List.flatMap_cons, List.flatMap_nil, List.cons_append, List.nil_append, List.append_nil, setD, List.setIfInBounds_toArray, List.set_cons_zero, List.set_cons_succ, hv1, hv3, hv5, hv7, hv8, hv9]
    clear vals hv1 hv3 hv5 hv7 hv8 hv9
    refine wpPq_nil ?_
    simp only [List.drop_succ_cons, List.drop_zero]
    have HS := Lib.hid (Bks.sub (HW.out.fill2 hB8 hB9 (Nat.le_trans HSW.out hl8) (Nat.le_trans HSW.out hl9) hne8_9 (fun q m e => by have := HLT.out q m; omega) (fun q m e => by have := HLT.out q m; omega) (.float .f64 p0) (.float .f64 p1) (.float .f64 q0) (.float .f64 q1)) (l' := [(ra, 34, #[.float .f64 p0, .float .f64 p1]), (rb, 34, #[.float .f64 q0, .float .f64 q1])]) (by intro t m; simp only [List.mem_cons, List.not_mem_nil, or_false] at m ⊢; rcases m with rfl | rfl <;> simp))
    obtain ⟨f60, f61, f62, f63⟩ := hB8.cells2
    obtain ⟨f70, f71, f72, f73⟩ := hB9.cells2
    have hne' : rb ≠ ra := hne8_9.symm
    clear HW HLT HSZ HSW hB8 hB9 hl8 hl9
    go_upto_region 4 with fail
    clear f60 f61 f62 f63 f70 f71 f72 f73 hne8_9 hne'
    generalize World.setCell (World.setCell (World.setCell (World.setCell _ _ _) _ _) _ _) _ _ = W4 at HS ⊢
    obtain ⟨⟨g0, g1⟩, g2, g3⟩ := HS.out.two2
    go_wp2_with fail
    refine (HHU.out _).mono ?_
    rintro e5 w5 ⟨rfl, hb5⟩
    replace HS := Lib.hid (HS.out.later hb5)
    clear hb5
    clear g0 g1 g2 g3
    obtain ⟨⟨g0, g1⟩, g2, g3⟩ := HS.out.two2
    go_wp2
    go_ret
    exact ⟨rfl, HS.out.2⟩
  rw [hu] at HHU
  cases hv : hasK (ivK q0 q1) y
  · rw [hv] at HHV
    clear hu hv
    clear okA okB hp0 hp1 hq0 hq1 hx hy hT
    go_enter Tryz.func6, Tryz.ntmps6
    go_wp2_with fail
    refine (HAW.out _ (HT.out.below HW0.out.2)).mono ?_
    rintro e1 w1 ⟨rfl, hb1⟩
    have HW := Lib.hid (HW0.out.later hb1)
    clear HW0 hb1 HAW
    go_wp2
    refine wp_region_q (fun w' : World => (w'.cell? ⟨w.heap.size, 0, none⟩ = some (.int .u64 p0) ∧ w'.cell? ⟨w.heap.size, 1, none⟩ = some (.int .u64 p1)) ∧ w'.cell? ⟨w.heap.size + 1, 0, none⟩ = some (.int .u64 q0) ∧ w'.cell? ⟨w.heap.size + 1, 1, none⟩ = some (.int .u64 q1)) 10 (.take 0 (.take 2 (.take 4 (.take 6 (.bag [(1, 31, []), (3, 33, []), (5, 35, []), (7, 37, []), (8, 11, []), (9, 12, [])] .nil))))) (by kernel_rfl) (by kernel_rfl) ?_
    replace HW := Lib.hid (HW.out.later (drew_below _))
    generalize World.drew _ = W3 at HW ⊢
    have HSZ : Hid (SzLe W3 W3.heap.size) := Lib.hid (Nat.le_refl _)
    have HLT := Lib.hid HW.out.lt
    have HSW : Hid (w.heap.size ≤ W3.heap.size) := Lib.hid HW.out.size
    generalize W3.heap.size = nB at HSZ HLT HSW
    have hS : (fun w' : World => (w'.cell? ⟨w.heap.size, 0, none⟩ = some (.int .u64 p0) ∧ w'.cell? ⟨w.heap.size, 1, none⟩ = some (.int .u64 p1)) ∧ w'.cell? ⟨w.heap.size + 1, 0, none⟩ = some (.int .u64 q0) ∧ w'.cell? ⟨w.heap.size + 1, 1, none⟩ = some (.int .u64 q1)) W3 := HW.out.two2
    repeat (refine wpPq_takeL (v := ?_) rfl rfl (fun _ _ _ h => h) rfl (fun w' hSw => ?_) hS ?_; rotate_left; (focus (go_simp; with_reducible rfl)); simp only [List.setIfInBounds_toArray, List.set_cons_zero, List.set_cons_succ])
    clear hS
    have hAp : ∀ j ∈ ([8, 9] : List Nat), ∀ s w', (pick [(1, fun v w' => v = .agg #[.float .f64 p0, .float .f64 p1]), (3, fun v w' => v = .agg #[.float .f64 q0, .float .f64 q1]), (5, fun v w' => v = .float .f64 x), (7, fun v w' => v = .float .f64 y), (8, fun v w' => ∃ r, v = .pointer (some ⟨r, 0, none⟩) ∧ nB ≤ r ∧ BlkT w' r 34 #[.float .f64 0, .float .f64 0]), (9, fun v w' => ∃ r, v = .pointer (some ⟨r, 0, none⟩) ∧ nB ≤ r ∧ BlkT w' r 34 #[.float .f64 0, .float .f64 0])]) j (.pointer (some ⟨s, 0, none⟩)) w' → s < w'.heap.size := (bag_cons (fun s w' h => by obtain ⟨r, hr, -, hB⟩ := (h : (fun (v : Value) (w' : World) => ∃ r, v = .pointer (some ⟨r, 0, none⟩) ∧ nB ≤ r ∧ BlkT w' r 34 #[.float .f64 0, .float .f64 0]) (.pointer (some ⟨s, 0, none⟩)) w'); simp only [Value.pointer.injEq, Option.some.injEq, Addr.mk.injEq, and_true] at hr; subst hr; exact hB.lt) (bag_cons (fun s w' h => by obtain ⟨r, hr, -, hB⟩ := (h : (fun (v : Value) (w' : World) => ∃ r, v = .pointer (some ⟨r, 0, none⟩) ∧ nB ≤ r ∧ BlkT w' r 34 #[.float .f64 0, .float .f64 0]) (.pointer (some ⟨s, 0, none⟩)) w'); simp only [Value.pointer.injEq, Option.some.injEq, Addr.mk.injEq, and_true] at hr; subst hr; exact hB.lt) bag_nil))
    refine wpPq_bagD [8, 9] (pick [(1, fun v w' => v = .agg #[.float .f64 p0, .float .f64 p1]), (3, fun v w' => v = .agg #[.float .f64 q0, .float .f64 q1]), (5, fun v w' => v = .float .f64 x), (7, fun v w' => v = .float .f64 y), (8, fun v w' => ∃ r, v = .pointer (some ⟨r, 0, none⟩) ∧ nB ≤ r ∧ BlkT w' r 34 #[.float .f64 0, .float .f64 0]), (9, fun v w' => ∃ r, v = .pointer (some ⟨r, 0, none⟩) ∧ nB ≤ r ∧ BlkT w' r 34 #[.float .f64 0, .float .f64 0])]) (pick_mono (bag_cons (fun v w1 w2 hv1 hb => hv1) (bag_cons (fun v w1 w2 hv3 hb => hv3) (bag_cons (fun v w1 w2 hv5 hb => hv5) (bag_cons (fun v w1 w2 hv7 hb => hv7) (bag_cons (fun v w1 w2 ⟨ra, hv8, hl8, hB8⟩ hb => ⟨ra, hv8, hl8, hB8.below hb⟩) (bag_cons (fun v w1 w2 ⟨rb, hv9, hl9, hB9⟩ hb => ⟨rb, hv9, hl9, hB9.below hb⟩) bag_nil))))))) (fun w' hb => (HW.out.later hb).two2) (by simp [prE]) (fun _ _ _ _ _ h => h) (by decide) (bag_cons (bagD_one rfl (BagStep.other (by decide) ?_)) (bag_cons (bagD_one rfl (BagStep.other (by decide) ?_)) (bag_cons (bagD_one rfl (BagStep.other (by decide) ?_)) (bag_cons (bagD_one rfl (BagStep.other (by decide) ?_)) (bag_cons (bagD_one rfl (BagStep.fresh hAp ?_)) (bag_cons (bagD_one rfl (BagStep.fresh hAp ?_)) bag_nil)))))) bag_nil ?_
    · intro a' V hdf hin hdep hb1 K hK
      have i30 : a'.tmps[30]?.getD undef = .agg #[.int .u64 p0, .int .u64 p1] := evT (hin 30 (by decide))
      clear hin hdep hdf
      have HW := Lib.hid (HW.out.later hb1)
      have HSZ := Lib.hid (HSZ.out.below hb1)
      go_simp
      refine (HOA.out _).mono ?_
      rintro e1 V2 ⟨rfl, hb2⟩
      exact hK _ _ rfl hb2
    · intro a' V hdf hin hdep hb1 K hK
      have i32 : a'.tmps[32]?.getD undef = .agg #[.int .u64 q0, .int .u64 q1] := evT (hin 32 (by decide))
      clear hin hdep hdf
      have HW := Lib.hid (HW.out.later hb1)
      have HSZ := Lib.hid (HSZ.out.below hb1)
      go_simp
      refine (HOB.out _).mono ?_
      rintro e1 V2 ⟨rfl, hb2⟩
      exact hK _ _ rfl hb2
    · intro a' V hdf hin hdep hb1 K hK
      have i34 : a'.tmps[34]?.getD undef = .int .u64 x := evT (hin 34 (by decide))
      clear hin hdep hdf
      have HW := Lib.hid (HW.out.later hb1)
      have HSZ := Lib.hid (HSZ.out.below hb1)
      go_simp
      refine (HFX.out _).mono ?_
      rintro e1 V2 ⟨rfl, hb2⟩
      exact hK _ _ rfl hb2
    · intro a' V hdf hin hdep hb1 K hK
      have i36 : a'.tmps[36]?.getD undef = .int .u64 y := evT (hin 36 (by decide))
      clear hin hdep hdf
      have HW := Lib.hid (HW.out.later hb1)
      have HSZ := Lib.hid (HSZ.out.below hb1)
      go_simp
      refine (HFY.out _).mono ?_
      rintro e1 V2 ⟨rfl, hb2⟩
      exact hK _ _ rfl hb2
    · intro a' V hdf hin hdep hb1 K hK
      clear hin hdep hdf
      have HW := Lib.hid (HW.out.later hb1)
      have HSZ := Lib.hid (HSZ.out.below hb1)
      go_simp
      exact hK _ ⟨_, rfl, HSZ.out, BlkT.new V _ _⟩ (Below.alloc_self _ _)
    · intro a' V hdf hin hdep hb1 K hK
      clear hin hdep hdf
      have HW := Lib.hid (HW.out.later hb1)
      have HSZ := Lib.hid (HSZ.out.below hb1)
      go_simp
      exact hK _ ⟨_, rfl, HSZ.out, BlkT.new V _ _⟩ (Below.alloc_self _ _)
    intro vals B1 hb1 hR hNE
    replace HW := Lib.hid (HW.out.later hb1)
    replace HSZ := Lib.hid (HSZ.out.below hb1)
    obtain hv1 : (fun (v : Value) (w' : World) => v = .agg #[.float .f64 p0, .float .f64 p1]) (vals 1) B1 := hR (1, 31) (by decide)
    dsimp only at hv1
    obtain hv3 : (fun (v : Value) (w' : World) => v = .agg #[.float .f64 q0, .float .f64 q1]) (vals 3) B1 := hR (3, 33) (by decide)
    dsimp only at hv3
    obtain hv5 : (fun (v : Value) (w' : World) => v = .float .f64 x) (vals 5) B1 := hR (5, 35) (by decide)
    dsimp only at hv5
    obtain hv7 : (fun (v : Value) (w' : World) => v = .float .f64 y) (vals 7) B1 := hR (7, 37) (by decide)
    dsimp only at hv7
    obtain ⟨ra, hv8, hl8, hB8⟩ : (fun (v : Value) (w' : World) => ∃ r, v = .pointer (some ⟨r, 0, none⟩) ∧ nB ≤ r ∧ BlkT w' r 34 #[.float .f64 0, .float .f64 0]) (vals 8) B1 := hR (8, 11) (by decide)
    obtain ⟨rb, hv9, hl9, hB9⟩ : (fun (v : Value) (w' : World) => ∃ r, v = .pointer (some ⟨r, 0, none⟩) ∧ nB ≤ r ∧ BlkT w' r 34 #[.float .f64 0, .float .f64 0]) (vals 9) B1 := hR (9, 12) (by decide)
    have hne8_9 := hNE (8, 11) (by decide) (9, 12) (by decide) (by decide) (by decide) (by decide) ra rb hv8 hv9
    clear hNE hAp
    clear hb1 hR
    simp only [prE, List.flatMap_cons, List.flatMap_nil, List.cons_append, List.nil_append, List.append_nil, setD, List.setIfInBounds_toArray, List.set_cons_zero, List.set_cons_succ, hv1, hv3, hv5, hv7, hv8, hv9]
    clear vals hv1 hv3 hv5 hv7 hv8 hv9
    refine wpPq_nil ?_
    simp only [List.drop_succ_cons, List.drop_zero]
    have HS := Lib.hid (Bks.sub (HW.out.fill2 hB8 hB9 (Nat.le_trans HSW.out hl8) (Nat.le_trans HSW.out hl9) hne8_9 (fun q m e => by have := HLT.out q m; omega) (fun q m e => by have := HLT.out q m; omega) (.float .f64 p0) (.float .f64 p1) (.float .f64 q0) (.float .f64 q1)) (l' := [(ra, 34, #[.float .f64 p0, .float .f64 p1]), (rb, 34, #[.float .f64 q0, .float .f64 q1])]) (by intro t m; simp only [List.mem_cons, List.not_mem_nil, or_false] at m ⊢; rcases m with rfl | rfl <;> simp))
    obtain ⟨f60, f61, f62, f63⟩ := hB8.cells2
    obtain ⟨f70, f71, f72, f73⟩ := hB9.cells2
    have hne' : rb ≠ ra := hne8_9.symm
    clear HW HLT HSZ HSW hB8 hB9 hl8 hl9
    go_upto_region 4 with fail
    clear f60 f61 f62 f63 f70 f71 f72 f73 hne8_9 hne'
    generalize World.setCell (World.setCell (World.setCell (World.setCell _ _ _) _ _) _ _) _ _ = W4 at HS ⊢
    obtain ⟨⟨g0, g1⟩, g2, g3⟩ := HS.out.two2
    go_wp2_with fail
    refine (HHU.out _).mono ?_
    rintro e5 w5 ⟨rfl, hb5⟩
    replace HS := Lib.hid (HS.out.later hb5)
    clear hb5
    clear g0 g1 g2 g3
    obtain ⟨⟨g0, g1⟩, g2, g3⟩ := HS.out.two2
    go_wp2_with fail
    refine (HHV.out _).mono ?_
    rintro e6 w6 ⟨rfl, hb6⟩
    replace HS := Lib.hid (HS.out.later hb6)
    clear hb6
    clear g0 g1 g2 g3
    obtain ⟨⟨g0, g1⟩, g2, g3⟩ := HS.out.two2
    go_wp2
    go_ret
    exact ⟨rfl, HS.out.2⟩
  rw [hv] at HHV
  obtain ⟨fx, ix⟩ := pt_in hu
  obtain ⟨fy, iy⟩ := pt_in hv
  have encA := enc_add okA okB hx hy hu hv
  have encS := enc_sub okA okB hx hy hu hv
  have encM := enc_mul okA okB hx hy hu hv
  have okP := addK_ok okA okB
  have okS : Iok (subK (ivK p0 p1) (ivK q0 q1)) := addK_ok okA (negK_ok okB)
  have okM := mulK_ok okA okB
  obtain ⟨s, s1, s2, s3⟩ := plus_word hx hy fx fy
  obtain ⟨d, d1, d2, d3⟩ := minus_word hx hy fx fy
  obtain ⟨m, m1, m2, m3⟩ := times_word hx hy fx fy
  have hadd : ∀ t w, (binOp .add t (.float .f64 x) (.float .f64 y)).run Tryz.prog w = .ok (.float .f64 s) w := fun t w => run_float_arith w .add t .f64 _ _ _ s1
  have hsub : ∀ t w, (binOp .sub t (.float .f64 x) (.float .f64 y)).run Tryz.prog w = .ok (.float .f64 d) w := fun t w => run_float_arith w .sub t .f64 _ _ _ d1
  have hmul : ∀ t w, (binOp .mul t (.float .f64 x) (.float .f64 y)).run Tryz.prog w = .ok (.float .f64 m) w := fun t w => run_float_arith w .mul t .f64 _ _ _ m1
  have HRA := Lib.hid fun W => round_of okP s2 (fun hf => encA.has hf s3) W
  have HRS := Lib.hid fun W => round_of okS d2 (fun hf => encS.has hf d3) W
  have HRM := Lib.hid fun W => round_of okM m2 (fun hf => encM.has hf m3) W
  have ex := pE_bd fx
  have ey := pE_bd fy
  have vx := val_bl (b := x)
  have vy := val_bl (b := y)
  have y1 := bl_plZ (z := valZ x) (e := pE x) (y := valZ y) (f := pE y)
  have y2 := bl_plZ (z := valZ x) (e := pE x) (y := -(valZ y)) (f := pE y)
  rw [Int.natAbs_neg] at y2
  have y3 := bl_mul (valZ x).natAbs (valZ y).natAbs
  rw [← Int.natAbs_mul] at y3
  have y4 := plE_in (z := valZ x) (y := valZ y) ex.1 ex.2 ey.1 ey.2
  have y5 := plE_in (z := valZ x) (y := -(valZ y)) ex.1 ex.2 ey.1 ey.2
  have HHA := Lib.hid fun b W h => holds_of okP encA (by omega) (by omega) (by omega) b W h
  have HHS := Lib.hid fun b W h => holds_of okS encS (by omega) (by omega) (by omega) b W h
  have HHM := Lib.hid fun b W h => holds_of okM encM (by omega) (by omega) (by omega) b W h
  have HOX := Lib.hid fun W => rOf_any x W hx fx
  have HOY := Lib.hid fun W => rOf_any y W hy fy
  have HXA := Lib.hid fun b c W (h1 : RInt W b (valZ x)) (h2 : RInt W c (valZ y)) => rAddX_any b c _ (pE x) _ (pE y) W h1 h2 (by omega) (by omega) (by omega) (by omega) (by omega) (by omega)
  have HXS := Lib.hid fun b c W (h1 : RInt W b (valZ x)) (h2 : RInt W c (-(valZ y))) => rAddX_any b c _ (pE x) _ (pE y) W h1 h2 (by omega) (by rw [Int.natAbs_neg]; omega) (by omega) (by omega) (by omega) (by omega)
  have HXM := Lib.hid fun b c W (h1 : RInt W b (valZ x)) (h2 : RInt W c (valZ y)) => rMulX_any b c _ (pE x) _ (pE y) W h1 h2 (by omega) (by omega) (by omega) (by omega) (by omega) (by omega)
  have HADD := Lib.hid fun W (ht : TabB W) => add_iv p0 p1 q0 q1 W hp0 hp1 hq0 hq1 ht
  have HSUB := Lib.hid fun W (ht : TabB W) => sub_iv p0 p1 q0 q1 W hp0 hp1 hq0 hq1 ht
  have HMUL := Lib.hid fun W (ht : TabB W) => mul_iv p0 p1 q0 q1 W hp0 hp1 hq0 hq1 ht
  have HDIV := Lib.hid fun W (ht : TabB W) => div_iv p0 p1 q0 q1 W hp0 hp1 hq0 hq1 ht
  have HSQI := Lib.hid fun W (ht : TabB W) => sqrt_iv p0 p1 W hp0 hp1 ht
  obtain ⟨vb, hvb⟩ : ∃ t, (FloatKind.f64.format.order y 0 != some Ordering.eq) = t := ⟨_, rfl⟩
  have HDV : Hid (vb = true → DivAsk x y (ivL (divK (ivK p0 p1) (ivK q0 q1))) (ivH (divK (ivK p0 p1) (ivK q0 q1)))) := Lib.hid fun h => div_ask hp0 hp1 hq0 hq1 hx hy hu hv (by
    rw [← hvb, bne, eq_test hy (by decide) (nan_fin fy) (by decide), ky_zero, Bool.not_eq_true', decide_eq_false_iff_not] at h
    exact h)
  obtain ⟨ub, hub⟩ : ∃ t, (FloatKind.f64.format.order x 0 == some Ordering.gt || FloatKind.f64.format.order x 0 == some Ordering.eq) = t := ⟨_, rfl⟩
  have HSV : Hid (ub = true → SqAsk x (ivL (sqK (ivK p0 p1))) (ivH (sqK (ivK p0 p1)))) := Lib.hid fun h => sq_ask hp0 hp1 hx hu (by
    rw [← hub, ge_test hx (by decide) (nan_fin fx) (by decide), ky_zero, decide_eq_true_iff] at h
    exact h)
  obtain ⟨z, hz⟩ : ∃ z, n.tmod 17 = z := ⟨_, rfl⟩
  have hz1 : -17 < z ∧ z < 17 := by
    have h1 := Int.natAbs_tmod n 17
    have h2 : n.natAbs % 17 < 17 := Nat.mod_lt _ (by decide)
    rw [← hz]
    simp only [show (17 : Int).natAbs = 17 from rfl] at h1
    omega
  obtain ⟨k, hk⟩ : ∃ k : Nat, (z + 17).tmod 17 = (k : Int) := ⟨((z + 17).tmod 17).toNat, by rw [Int.toNat_of_nonneg (Int.tmod_nonneg _ (by omega))]⟩
  have hk1 : k ≤ 16 := by
    have := Int.tmod_lt_of_pos (z + 17) (show (0 : Int) < 17 by omega)
    omega
  have hw1 : IntKind.i64.wrap z = z := IntWalk.i64_in _ (by omega)
  have hw2 : IntKind.i64.wrap (z + 17) = z + 17 := IntWalk.i64_in _ (by omega)
  have hw3 : IntKind.i64.wrap (k : Int) = (k : Int) := IntWalk.i64_in _ (by omega)
  have HPW := Lib.hid fun W (ht : TabB W) => pow_iv p0 p1 k W hp0 hp1 hk1 ht
  have HMN := Lib.hid fun j (hj : j < k) b c W h1 h2 => mul_next fx (j := j) (by omega) b c W h1 h2
  have encP := enc_pow okA hx hu k
  have okW := powK_ok okA k
  have bp := bl_powZ (valZ x) vx k
  have pe1 : -1074 * (k : Int) ≤ pE x * (k : Int) := Int.mul_le_mul_of_nonneg_right ex.1 (by omega)
  have pe2 : pE x * (k : Int) ≤ 1023 * (k : Int) := Int.mul_le_mul_of_nonneg_right ex.2 (by omega)
  have HHP := Lib.hid fun b W h => holds_of okW encP (by omega) (by omega) (by omega) b W h
  have HWH := Lib.hid fun W => rWhole_any 1 W (by decide) (by decide)
  have HZ0 := Lib.hid (Int.pow_zero (valZ x))
  have HE0 := Lib.hid (show pE x * ((0 : Nat) : Int) = 0 from Int.mul_zero _)
  have HKB := Lib.hid hk1
  clear okA okB okP okS okM okW encA encS encM encP hp0 hp1 hq0 hq1 hx hy hT hu hv fx fy ix iy s1 s2 s3 d1 d2 d3 m1 m2 m3 ex ey vx vy y1 y2 y3 y4 y5 hz1 hk1 bp pe1 pe2
  generalize ivL (addK (ivK p0 p1) (ivK q0 q1)) = a0 at *
  generalize ivH (addK (ivK p0 p1) (ivK q0 q1)) = a1 at *
  generalize ivL (subK (ivK p0 p1) (ivK q0 q1)) = b0 at *
  generalize ivH (subK (ivK p0 p1) (ivK q0 q1)) = b1 at *
  generalize ivL (mulK (ivK p0 p1) (ivK q0 q1)) = c0 at *
  generalize ivH (mulK (ivK p0 p1) (ivK q0 q1)) = c1 at *
  generalize ivL (divK (ivK p0 p1) (ivK q0 q1)) = d0 at *
  generalize ivH (divK (ivK p0 p1) (ivK q0 q1)) = d1 at *
  generalize ivL (sqK (ivK p0 p1)) = t0 at *
  generalize ivH (sqK (ivK p0 p1)) = t1 at *
  generalize ivL (powK (ivK p0 p1) k) = v0 at *
  generalize ivH (powK (ivK p0 p1) k) = v1 at *
  go_enter Tryz.func6, Tryz.ntmps6
  go_wp2_with fail
  refine (HAW.out _ (HT.out.below HW0.out.2)).mono ?_
  rintro e1 w1 ⟨rfl, hb1⟩
  have HW := Lib.hid (HW0.out.later hb1)
  clear HW0 hb1 HAW
  go_wp2
  refine wp_region_q (fun w' : World => (w'.cell? ⟨w.heap.size, 0, none⟩ = some (.int .u64 p0) ∧ w'.cell? ⟨w.heap.size, 1, none⟩ = some (.int .u64 p1)) ∧ w'.cell? ⟨w.heap.size + 1, 0, none⟩ = some (.int .u64 q0) ∧ w'.cell? ⟨w.heap.size + 1, 1, none⟩ = some (.int .u64 q1)) 10 (.take 0 (.take 2 (.take 4 (.take 6 (.bag [(1, 31, []), (3, 33, []), (5, 35, []), (7, 37, []), (8, 11, []), (9, 12, [])] .nil))))) (by kernel_rfl) (by kernel_rfl) ?_
  replace HW := Lib.hid (HW.out.later (drew_below _))
  generalize World.drew _ = W3 at HW ⊢
  have HSZ : Hid (SzLe W3 W3.heap.size) := Lib.hid (Nat.le_refl _)
  have HLT := Lib.hid HW.out.lt
  have HSW : Hid (w.heap.size ≤ W3.heap.size) := Lib.hid HW.out.size
  generalize W3.heap.size = nB at HSZ HLT HSW
  have hS : (fun w' : World => (w'.cell? ⟨w.heap.size, 0, none⟩ = some (.int .u64 p0) ∧ w'.cell? ⟨w.heap.size, 1, none⟩ = some (.int .u64 p1)) ∧ w'.cell? ⟨w.heap.size + 1, 0, none⟩ = some (.int .u64 q0) ∧ w'.cell? ⟨w.heap.size + 1, 1, none⟩ = some (.int .u64 q1)) W3 := HW.out.two2
  repeat (refine wpPq_takeL (v := ?_) rfl rfl (fun _ _ _ h => h) rfl (fun w' hSw => ?_) hS ?_; rotate_left; (focus (go_simp; with_reducible rfl)); simp only [List.setIfInBounds_toArray, List.set_cons_zero, List.set_cons_succ])
  clear hS
  have hAp : ∀ j ∈ ([8, 9] : List Nat), ∀ s w', (pick [(1, fun v w' => v = .agg #[.float .f64 p0, .float .f64 p1]), (3, fun v w' => v = .agg #[.float .f64 q0, .float .f64 q1]), (5, fun v w' => v = .float .f64 x), (7, fun v w' => v = .float .f64 y), (8, fun v w' => ∃ r, v = .pointer (some ⟨r, 0, none⟩) ∧ nB ≤ r ∧ BlkT w' r 34 #[.float .f64 0, .float .f64 0]), (9, fun v w' => ∃ r, v = .pointer (some ⟨r, 0, none⟩) ∧ nB ≤ r ∧ BlkT w' r 34 #[.float .f64 0, .float .f64 0])]) j (.pointer (some ⟨s, 0, none⟩)) w' → s < w'.heap.size := (bag_cons (fun s w' h => by obtain ⟨r, hr, -, hB⟩ := (h : (fun (v : Value) (w' : World) => ∃ r, v = .pointer (some ⟨r, 0, none⟩) ∧ nB ≤ r ∧ BlkT w' r 34 #[.float .f64 0, .float .f64 0]) (.pointer (some ⟨s, 0, none⟩)) w'); simp only [Value.pointer.injEq, Option.some.injEq, Addr.mk.injEq, and_true] at hr; subst hr; exact hB.lt) (bag_cons (fun s w' h => by obtain ⟨r, hr, -, hB⟩ := (h : (fun (v : Value) (w' : World) => ∃ r, v = .pointer (some ⟨r, 0, none⟩) ∧ nB ≤ r ∧ BlkT w' r 34 #[.float .f64 0, .float .f64 0]) (.pointer (some ⟨s, 0, none⟩)) w'); simp only [Value.pointer.injEq, Option.some.injEq, Addr.mk.injEq, and_true] at hr; subst hr; exact hB.lt) bag_nil))
  refine wpPq_bagD [8, 9] (pick [(1, fun v w' => v = .agg #[.float .f64 p0, .float .f64 p1]), (3, fun v w' => v = .agg #[.float .f64 q0, .float .f64 q1]), (5, fun v w' => v = .float .f64 x), (7, fun v w' => v = .float .f64 y), (8, fun v w' => ∃ r, v = .pointer (some ⟨r, 0, none⟩) ∧ nB ≤ r ∧ BlkT w' r 34 #[.float .f64 0, .float .f64 0]), (9, fun v w' => ∃ r, v = .pointer (some ⟨r, 0, none⟩) ∧ nB ≤ r ∧ BlkT w' r 34 #[.float .f64 0, .float .f64 0])]) (pick_mono (bag_cons (fun v w1 w2 hv1 hb => hv1) (bag_cons (fun v w1 w2 hv3 hb => hv3) (bag_cons (fun v w1 w2 hv5 hb => hv5) (bag_cons (fun v w1 w2 hv7 hb => hv7) (bag_cons (fun v w1 w2 ⟨ra, hv8, hl8, hB8⟩ hb => ⟨ra, hv8, hl8, hB8.below hb⟩) (bag_cons (fun v w1 w2 ⟨rb, hv9, hl9, hB9⟩ hb => ⟨rb, hv9, hl9, hB9.below hb⟩) bag_nil))))))) (fun w' hb => (HW.out.later hb).two2) (by simp [prE]) (fun _ _ _ _ _ h => h) (by decide) (bag_cons (bagD_one rfl (BagStep.other (by decide) ?_)) (bag_cons (bagD_one rfl (BagStep.other (by decide) ?_)) (bag_cons (bagD_one rfl (BagStep.other (by decide) ?_)) (bag_cons (bagD_one rfl (BagStep.other (by decide) ?_)) (bag_cons (bagD_one rfl (BagStep.fresh hAp ?_)) (bag_cons (bagD_one rfl (BagStep.fresh hAp ?_)) bag_nil)))))) bag_nil ?_
  · intro a' V hdf hin hdep hb1 K hK
    have i30 : a'.tmps[30]?.getD undef = .agg #[.int .u64 p0, .int .u64 p1] := evT (hin 30 (by decide))
    clear hin hdep hdf
    have HW := Lib.hid (HW.out.later hb1)
    have HSZ := Lib.hid (HSZ.out.below hb1)
    go_simp
    refine (HOA.out _).mono ?_
    rintro e1 V2 ⟨rfl, hb2⟩
    exact hK _ _ rfl hb2
  · intro a' V hdf hin hdep hb1 K hK
    have i32 : a'.tmps[32]?.getD undef = .agg #[.int .u64 q0, .int .u64 q1] := evT (hin 32 (by decide))
    clear hin hdep hdf
    have HW := Lib.hid (HW.out.later hb1)
    have HSZ := Lib.hid (HSZ.out.below hb1)
    go_simp
    refine (HOB.out _).mono ?_
    rintro e1 V2 ⟨rfl, hb2⟩
    exact hK _ _ rfl hb2
  · intro a' V hdf hin hdep hb1 K hK
    have i34 : a'.tmps[34]?.getD undef = .int .u64 x := evT (hin 34 (by decide))
    clear hin hdep hdf
    have HW := Lib.hid (HW.out.later hb1)
    have HSZ := Lib.hid (HSZ.out.below hb1)
    go_simp
    refine (HFX.out _).mono ?_
    rintro e1 V2 ⟨rfl, hb2⟩
    exact hK _ _ rfl hb2
  · intro a' V hdf hin hdep hb1 K hK
    have i36 : a'.tmps[36]?.getD undef = .int .u64 y := evT (hin 36 (by decide))
    clear hin hdep hdf
    have HW := Lib.hid (HW.out.later hb1)
    have HSZ := Lib.hid (HSZ.out.below hb1)
    go_simp
    refine (HFY.out _).mono ?_
    rintro e1 V2 ⟨rfl, hb2⟩
    exact hK _ _ rfl hb2
  · intro a' V hdf hin hdep hb1 K hK
    clear hin hdep hdf
    have HW := Lib.hid (HW.out.later hb1)
    have HSZ := Lib.hid (HSZ.out.below hb1)
    go_simp
    exact hK _ ⟨_, rfl, HSZ.out, BlkT.new V _ _⟩ (Below.alloc_self _ _)
  · intro a' V hdf hin hdep hb1 K hK
    clear hin hdep hdf
    have HW := Lib.hid (HW.out.later hb1)
    have HSZ := Lib.hid (HSZ.out.below hb1)
    go_simp
    exact hK _ ⟨_, rfl, HSZ.out, BlkT.new V _ _⟩ (Below.alloc_self _ _)
  intro vals B1 hb1 hR hNE
  replace HW := Lib.hid (HW.out.later hb1)
  replace HSZ := Lib.hid (HSZ.out.below hb1)
  obtain hv1 : (fun (v : Value) (w' : World) => v = .agg #[.float .f64 p0, .float .f64 p1]) (vals 1) B1 := hR (1, 31) (by decide)
  dsimp only at hv1
  obtain hv3 : (fun (v : Value) (w' : World) => v = .agg #[.float .f64 q0, .float .f64 q1]) (vals 3) B1 := hR (3, 33) (by decide)
  dsimp only at hv3
  obtain hv5 : (fun (v : Value) (w' : World) => v = .float .f64 x) (vals 5) B1 := hR (5, 35) (by decide)
  dsimp only at hv5
  obtain hv7 : (fun (v : Value) (w' : World) => v = .float .f64 y) (vals 7) B1 := hR (7, 37) (by decide)
  dsimp only at hv7
  obtain ⟨ra, hv8, hl8, hB8⟩ : (fun (v : Value) (w' : World) => ∃ r, v = .pointer (some ⟨r, 0, none⟩) ∧ nB ≤ r ∧ BlkT w' r 34 #[.float .f64 0, .float .f64 0]) (vals 8) B1 := hR (8, 11) (by decide)
  obtain ⟨rb, hv9, hl9, hB9⟩ : (fun (v : Value) (w' : World) => ∃ r, v = .pointer (some ⟨r, 0, none⟩) ∧ nB ≤ r ∧ BlkT w' r 34 #[.float .f64 0, .float .f64 0]) (vals 9) B1 := hR (9, 12) (by decide)
  have hne8_9 := hNE (8, 11) (by decide) (9, 12) (by decide) (by decide) (by decide) (by decide) ra rb hv8 hv9
  clear hNE hAp
  clear hb1 hR
  simp only [prE, List.flatMap_cons, List.flatMap_nil, List.cons_append, List.nil_append, List.append_nil, setD, List.setIfInBounds_toArray, List.set_cons_zero, List.set_cons_succ, hv1, hv3, hv5, hv7, hv8, hv9]
  clear vals hv1 hv3 hv5 hv7 hv8 hv9
  refine wpPq_nil ?_
  simp only [List.drop_succ_cons, List.drop_zero]
  have HS := Lib.hid (Bks.sub (HW.out.fill2 hB8 hB9 (Nat.le_trans HSW.out hl8) (Nat.le_trans HSW.out hl9) hne8_9 (fun q m e => by have := HLT.out q m; omega) (fun q m e => by have := HLT.out q m; omega) (.float .f64 p0) (.float .f64 p1) (.float .f64 q0) (.float .f64 q1)) (l' := [(ra, 34, #[.float .f64 p0, .float .f64 p1]), (rb, 34, #[.float .f64 q0, .float .f64 q1])]) (by intro t m; simp only [List.mem_cons, List.not_mem_nil, or_false] at m ⊢; rcases m with rfl | rfl <;> simp))
  obtain ⟨f60, f61, f62, f63⟩ := hB8.cells2
  obtain ⟨f70, f71, f72, f73⟩ := hB9.cells2
  have hne' : rb ≠ ra := hne8_9.symm
  clear HW HLT HSZ HSW hB8 hB9 hl8 hl9
  go_upto_region 4 with fail
  clear f60 f61 f62 f63 f70 f71 f72 f73 hne8_9 hne'
  generalize World.setCell (World.setCell (World.setCell (World.setCell _ _ _) _ _) _ _) _ _ = W4 at HS ⊢
  obtain ⟨⟨g0, g1⟩, g2, g3⟩ := HS.out.two2
  go_wp2_with fail
  refine (HHU.out _).mono ?_
  rintro e5 w5 ⟨rfl, hb5⟩
  replace HS := Lib.hid (HS.out.later hb5)
  clear hb5
  clear g0 g1 g2 g3
  obtain ⟨⟨g0, g1⟩, g2, g3⟩ := HS.out.two2
  go_wp2_with fail
  refine (HHV.out _).mono ?_
  rintro e6 w6 ⟨rfl, hb6⟩
  replace HS := Lib.hid (HS.out.later hb6)
  clear hb6
  clear g0 g1 g2 g3
  obtain ⟨⟨g0, g1⟩, g2, g3⟩ := HS.out.two2
  go_wp2_with fail
  refine (HOX.out _).mono ?_
  rintro e31 w31 ⟨bc, rfl, -, hi31, hb31⟩
  replace HS := Lib.hid (HS.out.later hb31)
  have HC := Lib.hid hi31
  clear hi31
  unfold ExV
  clear hb31
  clear g0 g1 g2 g3
  obtain ⟨⟨g0, g1⟩, g2, g3⟩ := HS.out.two2
  go_wp2_with fail
  refine (HOY.out _).mono ?_
  rintro e32 w32 ⟨bd, rfl, -, hi32, hb32⟩
  replace HS := Lib.hid (HS.out.later hb32)
  replace HC := Lib.hid (HC.out.below hb32)
  have HD := Lib.hid hi32
  clear hi32
  unfold ExV
  clear hb32
  clear g0 g1 g2 g3
  obtain ⟨⟨g0, g1⟩, g2, g3⟩ := HS.out.two2
  go_upto_region 7 with fail
  clear g0 g1 g2 g3
  replace HS := Lib.hid ((HS.out.alloc #[.pointer (some ⟨bc, 0, none⟩), .int .i64 (pE x)] 27).alloc #[.pointer (some ⟨bd, 0, none⟩), .int .i64 (pE y)] 27)
  have hbb := below2 w32 (.cells #[.pointer (some ⟨bc, 0, none⟩), .int .i64 (pE x)] 27) (.cells #[.pointer (some ⟨bd, 0, none⟩), .int .i64 (pE y)] 27)
  replace HC := Lib.hid (HC.out.below hbb)
  replace HD := Lib.hid (HD.out.below hbb)
  clear hbb
  rw [show (w32.alloc (.cells #[.pointer (some ⟨bc, 0, none⟩), .int .i64 (pE x)] 27)).heap.size = w32.heap.size + 1 by simp] at HS
  generalize World.alloc (World.alloc w32 _) _ = W33 at HS HC HD ⊢
  generalize w32.heap.size + 1 = rd at HS ⊢
  generalize w32.heap.size = rc at HS ⊢
  replace HS := Lib.hid (HS.out.sub (l' := [(ra, 34, #[.float .f64 p0, .float .f64 p1]), (rb, 34, #[.float .f64 q0, .float .f64 q1]), (rc, 27, #[.pointer (some ⟨bc, 0, none⟩), .int .i64 (pE x)]), (rd, 27, #[.pointer (some ⟨bd, 0, none⟩), .int .i64 (pE y)])]) (by intro t m; simp only [List.mem_cons, List.not_mem_nil, or_false] at m ⊢; rcases m with rfl | rfl | rfl | rfl <;> simp))
  refine wp_region_q (fun w' : World => (w'.cell? ⟨ra, 0, none⟩ = some (.float .f64 p0) ∧ w'.cell? ⟨ra, 1, none⟩ = some (.float .f64 p1)) ∧ w'.cell? ⟨rb, 0, none⟩ = some (.float .f64 q0) ∧ w'.cell? ⟨rb, 1, none⟩ = some (.float .f64 q1)) 12 (.take 0 (.take 1 (.take 3 (.take 4 (.take 6 (.take 7 (.bag [(2, 54, []), (5, 57, []), (8, 60, []), (9, 17, []), (10, 18, []), (11, 19, [])] .nil))))))) (by kernel_rfl) (by kernel_rfl) ?_
  replace HS := Lib.hid (HS.out.later (drew_below _))
  replace HC := Lib.hid (HC.out.below (drew_below _))
  replace HD := Lib.hid (HD.out.below (drew_below _))
  generalize World.drew _ = W34 at HS HC HD ⊢
  have HSZ : Hid (SzLe W34 W34.heap.size) := Lib.hid (Nat.le_refl _)
  have HLT := Lib.hid HS.out.lt
  have HSW : Hid (w.heap.size ≤ W34.heap.size) := Lib.hid HS.out.size
  generalize W34.heap.size = nB at HSZ HLT HSW
  have hS : (fun w' : World => (w'.cell? ⟨ra, 0, none⟩ = some (.float .f64 p0) ∧ w'.cell? ⟨ra, 1, none⟩ = some (.float .f64 p1)) ∧ w'.cell? ⟨rb, 0, none⟩ = some (.float .f64 q0) ∧ w'.cell? ⟨rb, 1, none⟩ = some (.float .f64 q1)) W34 := HS.out.two2
  repeat (refine wpPq_takeL (v := ?_) rfl rfl (fun _ _ _ h => h) rfl (fun w' hSw => ?_) hS ?_; rotate_left; (focus (go_simp; with_reducible rfl)); simp only [List.setIfInBounds_toArray, List.set_cons_zero, List.set_cons_succ])
  clear hS
  have hAp : ∀ j ∈ ([9, 10, 11] : List Nat), ∀ s w', (pick [(2, fun v w' => v = .agg #[.float .f64 a0, .float .f64 a1]), (5, fun v w' => v = .agg #[.float .f64 b0, .float .f64 b1]), (8, fun v w' => v = .agg #[.float .f64 c0, .float .f64 c1]), (9, fun v w' => ∃ r, v = .pointer (some ⟨r, 0, none⟩) ∧ nB ≤ r ∧ BlkT w' r 34 #[.float .f64 0, .float .f64 0]), (10, fun v w' => ∃ r, v = .pointer (some ⟨r, 0, none⟩) ∧ nB ≤ r ∧ BlkT w' r 34 #[.float .f64 0, .float .f64 0]), (11, fun v w' => ∃ r, v = .pointer (some ⟨r, 0, none⟩) ∧ nB ≤ r ∧ BlkT w' r 34 #[.float .f64 0, .float .f64 0])]) j (.pointer (some ⟨s, 0, none⟩)) w' → s < w'.heap.size := (bag_cons (fun s w' h => by obtain ⟨r, hr, -, hB⟩ := (h : (fun (v : Value) (w' : World) => ∃ r, v = .pointer (some ⟨r, 0, none⟩) ∧ nB ≤ r ∧ BlkT w' r 34 #[.float .f64 0, .float .f64 0]) (.pointer (some ⟨s, 0, none⟩)) w'); simp only [Value.pointer.injEq, Option.some.injEq, Addr.mk.injEq, and_true] at hr; subst hr; exact hB.lt) (bag_cons (fun s w' h => by obtain ⟨r, hr, -, hB⟩ := (h : (fun (v : Value) (w' : World) => ∃ r, v = .pointer (some ⟨r, 0, none⟩) ∧ nB ≤ r ∧ BlkT w' r 34 #[.float .f64 0, .float .f64 0]) (.pointer (some ⟨s, 0, none⟩)) w'); simp only [Value.pointer.injEq, Option.some.injEq, Addr.mk.injEq, and_true] at hr; subst hr; exact hB.lt) (bag_cons (fun s w' h => by obtain ⟨r, hr, -, hB⟩ := (h : (fun (v : Value) (w' : World) => ∃ r, v = .pointer (some ⟨r, 0, none⟩) ∧ nB ≤ r ∧ BlkT w' r 34 #[.float .f64 0, .float .f64 0]) (.pointer (some ⟨s, 0, none⟩)) w'); simp only [Value.pointer.injEq, Option.some.injEq, Addr.mk.injEq, and_true] at hr; subst hr; exact hB.lt) bag_nil)))
  refine wpPq_bagD [9, 10, 11] (pick [(2, fun v w' => v = .agg #[.float .f64 a0, .float .f64 a1]), (5, fun v w' => v = .agg #[.float .f64 b0, .float .f64 b1]), (8, fun v w' => v = .agg #[.float .f64 c0, .float .f64 c1]), (9, fun v w' => ∃ r, v = .pointer (some ⟨r, 0, none⟩) ∧ nB ≤ r ∧ BlkT w' r 34 #[.float .f64 0, .float .f64 0]), (10, fun v w' => ∃ r, v = .pointer (some ⟨r, 0, none⟩) ∧ nB ≤ r ∧ BlkT w' r 34 #[.float .f64 0, .float .f64 0]), (11, fun v w' => ∃ r, v = .pointer (some ⟨r, 0, none⟩) ∧ nB ≤ r ∧ BlkT w' r 34 #[.float .f64 0, .float .f64 0])]) (pick_mono (bag_cons (fun v w1 w2 hv2 hb => hv2) (bag_cons (fun v w1 w2 hv5 hb => hv5) (bag_cons (fun v w1 w2 hv8 hb => hv8) (bag_cons (fun v w1 w2 ⟨r9, hv9, hl9, hB9⟩ hb => ⟨r9, hv9, hl9, hB9.below hb⟩) (bag_cons (fun v w1 w2 ⟨r10, hv10, hl10, hB10⟩ hb => ⟨r10, hv10, hl10, hB10.below hb⟩) (bag_cons (fun v w1 w2 ⟨r11, hv11, hl11, hB11⟩ hb => ⟨r11, hv11, hl11, hB11.below hb⟩) bag_nil))))))) (fun w' hb => (HS.out.later hb).two2) (by simp [prE]) (fun _ _ _ _ _ h => h) (by decide) (bag_cons (bagD_one rfl (BagStep.other (by decide) ?_)) (bag_cons (bagD_one rfl (BagStep.other (by decide) ?_)) (bag_cons (bagD_one rfl (BagStep.other (by decide) ?_)) (bag_cons (bagD_one rfl (BagStep.fresh hAp ?_)) (bag_cons (bagD_one rfl (BagStep.fresh hAp ?_)) (bag_cons (bagD_one rfl (BagStep.fresh hAp ?_)) bag_nil)))))) bag_nil ?_
  · intro a' V hdf hin hdep hb1 K hK
    have i52 : a'.tmps[52]?.getD undef = .agg #[.float .f64 p0, .float .f64 p1] := evT (hin 52 (by decide))
    have i53 : a'.tmps[53]?.getD undef = .agg #[.float .f64 q0, .float .f64 q1] := evT (hin 53 (by decide))
    clear hin hdep hdf
    have HS := Lib.hid (HS.out.later hb1)
    have HSZ := Lib.hid (HSZ.out.below hb1)
    have HC := Lib.hid (HC.out.below hb1)
    have HD := Lib.hid (HD.out.below hb1)
    go_simp
    refine (HADD.out _ (HT.out.below HS.out.2)).mono ?_
    rintro e1 V2 ⟨rfl, hb2⟩
    exact hK _ _ rfl hb2
  · intro a' V hdf hin hdep hb1 K hK
    have i55 : a'.tmps[55]?.getD undef = .agg #[.float .f64 p0, .float .f64 p1] := evT (hin 55 (by decide))
    have i56 : a'.tmps[56]?.getD undef = .agg #[.float .f64 q0, .float .f64 q1] := evT (hin 56 (by decide))
    clear hin hdep hdf
    have HS := Lib.hid (HS.out.later hb1)
    have HSZ := Lib.hid (HSZ.out.below hb1)
    have HC := Lib.hid (HC.out.below hb1)
    have HD := Lib.hid (HD.out.below hb1)
    go_simp
    refine (HSUB.out _ (HT.out.below HS.out.2)).mono ?_
    rintro e1 V2 ⟨rfl, hb2⟩
    exact hK _ _ rfl hb2
  · intro a' V hdf hin hdep hb1 K hK
    have i58 : a'.tmps[58]?.getD undef = .agg #[.float .f64 p0, .float .f64 p1] := evT (hin 58 (by decide))
    have i59 : a'.tmps[59]?.getD undef = .agg #[.float .f64 q0, .float .f64 q1] := evT (hin 59 (by decide))
    clear hin hdep hdf
    have HS := Lib.hid (HS.out.later hb1)
    have HSZ := Lib.hid (HSZ.out.below hb1)
    have HC := Lib.hid (HC.out.below hb1)
    have HD := Lib.hid (HD.out.below hb1)
    go_simp
    refine (HMUL.out _ (HT.out.below HS.out.2)).mono ?_
    rintro e1 V2 ⟨rfl, hb2⟩
    exact hK _ _ rfl hb2
  · intro a' V hdf hin hdep hb1 K hK
    clear hin hdep hdf
    have HS := Lib.hid (HS.out.later hb1)
    have HSZ := Lib.hid (HSZ.out.below hb1)
    have HC := Lib.hid (HC.out.below hb1)
    have HD := Lib.hid (HD.out.below hb1)
    go_simp
    exact hK _ ⟨_, rfl, HSZ.out, BlkT.new V _ _⟩ (Below.alloc_self _ _)
  · intro a' V hdf hin hdep hb1 K hK
    clear hin hdep hdf
    have HS := Lib.hid (HS.out.later hb1)
    have HSZ := Lib.hid (HSZ.out.below hb1)
    have HC := Lib.hid (HC.out.below hb1)
    have HD := Lib.hid (HD.out.below hb1)
    go_simp
    exact hK _ ⟨_, rfl, HSZ.out, BlkT.new V _ _⟩ (Below.alloc_self _ _)
  · intro a' V hdf hin hdep hb1 K hK
    clear hin hdep hdf
    have HS := Lib.hid (HS.out.later hb1)
    have HSZ := Lib.hid (HSZ.out.below hb1)
    have HC := Lib.hid (HC.out.below hb1)
    have HD := Lib.hid (HD.out.below hb1)
    go_simp
    exact hK _ ⟨_, rfl, HSZ.out, BlkT.new V _ _⟩ (Below.alloc_self _ _)
  intro vals B1 hb1 hR hNE
  replace HS := Lib.hid (HS.out.later hb1)
  replace HSZ := Lib.hid (HSZ.out.below hb1)
  replace HC := Lib.hid (HC.out.below hb1)
  replace HD := Lib.hid (HD.out.below hb1)
  obtain hv2 : (fun (v : Value) (w' : World) => v = .agg #[.float .f64 a0, .float .f64 a1]) (vals 2) B1 := hR (2, 54) (by decide)
  dsimp only at hv2
  obtain hv5 : (fun (v : Value) (w' : World) => v = .agg #[.float .f64 b0, .float .f64 b1]) (vals 5) B1 := hR (5, 57) (by decide)
  dsimp only at hv5
  obtain hv8 : (fun (v : Value) (w' : World) => v = .agg #[.float .f64 c0, .float .f64 c1]) (vals 8) B1 := hR (8, 60) (by decide)
  dsimp only at hv8
  obtain ⟨r9, hv9, hl9, hB9⟩ : (fun (v : Value) (w' : World) => ∃ r, v = .pointer (some ⟨r, 0, none⟩) ∧ nB ≤ r ∧ BlkT w' r 34 #[.float .f64 0, .float .f64 0]) (vals 9) B1 := hR (9, 17) (by decide)
  obtain ⟨r10, hv10, hl10, hB10⟩ : (fun (v : Value) (w' : World) => ∃ r, v = .pointer (some ⟨r, 0, none⟩) ∧ nB ≤ r ∧ BlkT w' r 34 #[.float .f64 0, .float .f64 0]) (vals 10) B1 := hR (10, 18) (by decide)
  obtain ⟨r11, hv11, hl11, hB11⟩ : (fun (v : Value) (w' : World) => ∃ r, v = .pointer (some ⟨r, 0, none⟩) ∧ nB ≤ r ∧ BlkT w' r 34 #[.float .f64 0, .float .f64 0]) (vals 11) B1 := hR (11, 19) (by decide)
  have hne9_10 := hNE (9, 17) (by decide) (10, 18) (by decide) (by decide) (by decide) (by decide) r9 r10 hv9 hv10
  have hne9_11 := hNE (9, 17) (by decide) (11, 19) (by decide) (by decide) (by decide) (by decide) r9 r11 hv9 hv11
  have hne10_11 := hNE (10, 18) (by decide) (11, 19) (by decide) (by decide) (by decide) (by decide) r10 r11 hv10 hv11
  clear hNE hAp
  clear hb1 hR
  simp only [prE, List.flatMap_cons, List.flatMap_nil, List.cons_append, List.nil_append, List.append_nil, setD, List.setIfInBounds_toArray, List.set_cons_zero, List.set_cons_succ, hv2, hv5, hv8, hv9, hv10, hv11]
  clear vals hv2 hv5 hv8 hv9 hv10 hv11
  refine wpPq_nil ?_
  simp only [List.drop_succ_cons, List.drop_zero]
  replace HS := Lib.hid (HS.out.fill3 hB9 hB10 hB11 (Nat.le_trans HSW.out hl9) (Nat.le_trans HSW.out hl10) (Nat.le_trans HSW.out hl11) hne9_10 hne9_11 hne10_11 (fun q m e => by have := HLT.out q m; omega) (fun q m e => by have := HLT.out q m; omega) (fun q m e => by have := HLT.out q m; omega) (.float .f64 a0) (.float .f64 a1) (.float .f64 b0) (.float .f64 b1) (.float .f64 c0) (.float .f64 c1))
  replace HC := Lib.hid (RInt.stI3 HC.out hB9 hB10 hB11 hne9_10 hne9_11 hne10_11 a0 a1 b0 b1 c0 c1)
  replace HD := Lib.hid (RInt.stI3 HD.out hB9 hB10 hB11 hne9_10 hne9_11 hne10_11 a0 a1 b0 b1 c0 c1)
  obtain ⟨f60, f61, f62, f63⟩ := hB9.cells2
  obtain ⟨f70, f71, f72, f73⟩ := hB10.cells2
  obtain ⟨f80, f81, f82, f83⟩ := hB11.cells2
  have hn1 : r10 ≠ r9 := hne9_10.symm
  have hn2 : r11 ≠ r9 := hne9_11.symm
  have hn3 : r11 ≠ r10 := hne10_11.symm
  clear HLT HSZ HSW hB9 hB10 hB11 hl9 hl10 hl11
  go_upto_region 8 with fail
  clear f60 f61 f62 f63 f70 f71 f72 f73 f80 f81 f82 f83 hne9_10 hne9_11 hne10_11 hn1 hn2 hn3
  generalize World.setCell (World.setCell (World.setCell (World.setCell (World.setCell (World.setCell _ _ _) _ _) _ _) _ _) _ _) _ _ = W8 at HS HC HD ⊢
  replace HS := Lib.hid (HS.out.sub (l' := [(r9, 34, #[.float .f64 a0, .float .f64 a1]), (r10, 34, #[.float .f64 b0, .float .f64 b1]), (r11, 34, #[.float .f64 c0, .float .f64 c1]), (rc, 27, #[.pointer (some ⟨bc, 0, none⟩), .int .i64 (pE x)]), (rd, 27, #[.pointer (some ⟨bd, 0, none⟩), .int .i64 (pE y)]), (ra, 34, #[.float .f64 p0, .float .f64 p1]), (rb, 34, #[.float .f64 q0, .float .f64 q1])]) (by intro t m; simp only [List.mem_cons, List.not_mem_nil, or_false] at m ⊢; rcases m with rfl | rfl | rfl | rfl | rfl | rfl | rfl <;> simp))
  refine wp_region_pl (fun w' : World => ((w'.cell? ⟨r9, 0, none⟩ = some (.float .f64 a0) ∧ w'.cell? ⟨r9, 1, none⟩ = some (.float .f64 a1)) ∧ w'.cell? ⟨r10, 0, none⟩ = some (.float .f64 b0) ∧ w'.cell? ⟨r10, 1, none⟩ = some (.float .f64 b1)) ∧ ((w'.cell? ⟨r11, 0, none⟩ = some (.float .f64 c0) ∧ w'.cell? ⟨r11, 1, none⟩ = some (.float .f64 c1)) ∧ w'.cell? ⟨rc, 0, none⟩ = some (.pointer (some ⟨bc, 0, none⟩)) ∧ w'.cell? ⟨rc, 1, none⟩ = some (.int .i64 (pE x))) ∧ w'.cell? ⟨rd, 0, none⟩ = some (.pointer (some ⟨bd, 0, none⟩)) ∧ w'.cell? ⟨rd, 1, none⟩ = some (.int .i64 (pE y))) 44 (.take 0 (.take 1 (.take 2 (.run 3 (.run 4 (.take 5 (.take 6 (.take 7 (.take 8 (.take 9 (.take 10 (.run 11 (.take 12 (.take 13 (.take 14 (.take 15 (.take 16 (.take 17 (.run 18 (.run 19 (.run 20 (.take 21 (.take 22 (.take 23 (.take 24 (.take 25 (.take 26 (.take 27 (.run 28 (.take 29 (.take 30 (.take 31 (.take 32 (.take 33 (.take 34 (.run 35 (.run 36 (.take 37 (.take 38 (.take 39 (.take 40 (.take 41 (.take 42 (.take 43 (.nil))))))))))))))))))))))))))))))))))))))))))))) (by kernel_rfl) (by kernel_rfl) ?_
  replace HS := Lib.hid (HS.out.later (drew_below _))
  replace HC := Lib.hid (HC.out.below (drew_below _))
  replace HD := Lib.hid (HD.out.below (drew_below _))
  generalize World.drew _ = W35 at HS HC HD ⊢
  have hS : (fun w' : World => ((w'.cell? ⟨r9, 0, none⟩ = some (.float .f64 a0) ∧ w'.cell? ⟨r9, 1, none⟩ = some (.float .f64 a1)) ∧ w'.cell? ⟨r10, 0, none⟩ = some (.float .f64 b0) ∧ w'.cell? ⟨r10, 1, none⟩ = some (.float .f64 b1)) ∧ ((w'.cell? ⟨r11, 0, none⟩ = some (.float .f64 c0) ∧ w'.cell? ⟨r11, 1, none⟩ = some (.float .f64 c1)) ∧ w'.cell? ⟨rc, 0, none⟩ = some (.pointer (some ⟨bc, 0, none⟩)) ∧ w'.cell? ⟨rc, 1, none⟩ = some (.int .i64 (pE x))) ∧ w'.cell? ⟨rd, 0, none⟩ = some (.pointer (some ⟨bd, 0, none⟩)) ∧ w'.cell? ⟨rd, 1, none⟩ = some (.int .i64 (pE y))) W35 := HS.out.five
  repeat (first | (refine wpPl_takeL (v := ?_) rfl rfl (fun _ _ _ h => h) rfl (fun w' hSw => ?_) hS ?_; rotate_left; (focus (go_simp; with_reducible rfl)); simp only [List.setIfInBounds_toArray, List.set_cons_zero, List.set_cons_succ]) | (refine wpPl_skipL rfl rfl (fun _ _ _ h => h) rfl hS ?_; simp only [List.setIfInBounds_toArray, List.set_cons_zero, List.set_cons_succ]))
  clear hS
  refine wpPl_goL rfl rfl fun K' hK => ?_
  go_simp
  refine (HXA.out _ _ _ HC.out HD.out).mono ?_
  rintro e1 W35v1 ⟨o1, rfl, hi1, hb1⟩
  replace HS := Lib.hid (HS.out.later hb1)
  replace HC := Lib.hid (HC.out.below hb1)
  replace HD := Lib.hid (HD.out.below hb1)
  have HZ1 := Lib.hid hi1
  clear hi1
  unfold ExV
  refine hK _ _ HS.out.five ?_
  clear hK K' hb1
  try simp only [Act.put, List.setIfInBounds_toArray, List.set_cons_zero, List.set_cons_succ]
  have hS : (fun w' : World => ((w'.cell? ⟨r9, 0, none⟩ = some (.float .f64 a0) ∧ w'.cell? ⟨r9, 1, none⟩ = some (.float .f64 a1)) ∧ w'.cell? ⟨r10, 0, none⟩ = some (.float .f64 b0) ∧ w'.cell? ⟨r10, 1, none⟩ = some (.float .f64 b1)) ∧ ((w'.cell? ⟨r11, 0, none⟩ = some (.float .f64 c0) ∧ w'.cell? ⟨r11, 1, none⟩ = some (.float .f64 c1)) ∧ w'.cell? ⟨rc, 0, none⟩ = some (.pointer (some ⟨bc, 0, none⟩)) ∧ w'.cell? ⟨rc, 1, none⟩ = some (.int .i64 (pE x))) ∧ w'.cell? ⟨rd, 0, none⟩ = some (.pointer (some ⟨bd, 0, none⟩)) ∧ w'.cell? ⟨rd, 1, none⟩ = some (.int .i64 (pE y))) W35v1 := HS.out.five
  repeat (first | (refine wpPl_takeL (v := ?_) rfl rfl (fun _ _ _ h => h) rfl (fun w' hSw => ?_) hS ?_; rotate_left; (focus (go_simp; with_reducible rfl)); simp only [List.setIfInBounds_toArray, List.set_cons_zero, List.set_cons_succ]) | (refine wpPl_skipL rfl rfl (fun _ _ _ h => h) rfl hS ?_; simp only [List.setIfInBounds_toArray, List.set_cons_zero, List.set_cons_succ]))
  clear hS
  refine wpPl_goL rfl rfl fun K' hK => ?_
  go_simp
  refine (HHA.out _ _ HZ1.out).mono ?_
  rintro e1 W35v2 ⟨rfl, hb1⟩
  replace HS := Lib.hid (HS.out.later hb1)
  replace HC := Lib.hid (HC.out.below hb1)
  replace HD := Lib.hid (HD.out.below hb1)
  clear HZ1
  refine hK _ _ HS.out.five ?_
  clear hK K' hb1
  try simp only [Act.put, List.setIfInBounds_toArray, List.set_cons_zero, List.set_cons_succ]
  have hS : (fun w' : World => ((w'.cell? ⟨r9, 0, none⟩ = some (.float .f64 a0) ∧ w'.cell? ⟨r9, 1, none⟩ = some (.float .f64 a1)) ∧ w'.cell? ⟨r10, 0, none⟩ = some (.float .f64 b0) ∧ w'.cell? ⟨r10, 1, none⟩ = some (.float .f64 b1)) ∧ ((w'.cell? ⟨r11, 0, none⟩ = some (.float .f64 c0) ∧ w'.cell? ⟨r11, 1, none⟩ = some (.float .f64 c1)) ∧ w'.cell? ⟨rc, 0, none⟩ = some (.pointer (some ⟨bc, 0, none⟩)) ∧ w'.cell? ⟨rc, 1, none⟩ = some (.int .i64 (pE x))) ∧ w'.cell? ⟨rd, 0, none⟩ = some (.pointer (some ⟨bd, 0, none⟩)) ∧ w'.cell? ⟨rd, 1, none⟩ = some (.int .i64 (pE y))) W35v2 := HS.out.five
  repeat (first | (refine wpPl_takeL (v := ?_) rfl rfl (fun _ _ _ h => h) rfl (fun w' hSw => ?_) hS ?_; rotate_left; (focus (go_simp; with_reducible rfl)); simp only [List.setIfInBounds_toArray, List.set_cons_zero, List.set_cons_succ]) | (refine wpPl_skipL rfl rfl (fun _ _ _ h => h) rfl hS ?_; simp only [List.setIfInBounds_toArray, List.set_cons_zero, List.set_cons_succ]))
  clear hS
  refine wpPl_goL rfl rfl fun K' hK => ?_
  go_simp
  refine (HRA.out _).mono ?_
  rintro e1 W35v3 ⟨rfl, hb1⟩
  replace HS := Lib.hid (HS.out.later hb1)
  replace HC := Lib.hid (HC.out.below hb1)
  replace HD := Lib.hid (HD.out.below hb1)
  refine hK _ _ HS.out.five ?_
  clear hK K' hb1
  try simp only [Act.put, List.setIfInBounds_toArray, List.set_cons_zero, List.set_cons_succ]
  have hS : (fun w' : World => ((w'.cell? ⟨r9, 0, none⟩ = some (.float .f64 a0) ∧ w'.cell? ⟨r9, 1, none⟩ = some (.float .f64 a1)) ∧ w'.cell? ⟨r10, 0, none⟩ = some (.float .f64 b0) ∧ w'.cell? ⟨r10, 1, none⟩ = some (.float .f64 b1)) ∧ ((w'.cell? ⟨r11, 0, none⟩ = some (.float .f64 c0) ∧ w'.cell? ⟨r11, 1, none⟩ = some (.float .f64 c1)) ∧ w'.cell? ⟨rc, 0, none⟩ = some (.pointer (some ⟨bc, 0, none⟩)) ∧ w'.cell? ⟨rc, 1, none⟩ = some (.int .i64 (pE x))) ∧ w'.cell? ⟨rd, 0, none⟩ = some (.pointer (some ⟨bd, 0, none⟩)) ∧ w'.cell? ⟨rd, 1, none⟩ = some (.int .i64 (pE y))) W35v3 := HS.out.five
  repeat (first | (refine wpPl_takeL (v := ?_) rfl rfl (fun _ _ _ h => h) rfl (fun w' hSw => ?_) hS ?_; rotate_left; (focus (go_simp; with_reducible rfl)); simp only [List.setIfInBounds_toArray, List.set_cons_zero, List.set_cons_succ]) | (refine wpPl_skipL rfl rfl (fun _ _ _ h => h) rfl hS ?_; simp only [List.setIfInBounds_toArray, List.set_cons_zero, List.set_cons_succ]))
  clear hS
  refine wpPl_goL rfl rfl fun K' hK => ?_
  go_simp
  refine (rNegX_any _ _ _ _ HD.out).mono ?_
  rintro e1 W35v4 ⟨o2, rfl, -, hi1, hb1⟩
  replace HS := Lib.hid (HS.out.later hb1)
  replace HC := Lib.hid (HC.out.below hb1)
  replace HD := Lib.hid (HD.out.below hb1)
  have HZ2 := Lib.hid hi1
  clear hi1
  unfold ExV
  refine hK _ _ HS.out.five ?_
  clear hK K' hb1
  try simp only [Act.put, List.setIfInBounds_toArray, List.set_cons_zero, List.set_cons_succ]
  have hS : (fun w' : World => ((w'.cell? ⟨r9, 0, none⟩ = some (.float .f64 a0) ∧ w'.cell? ⟨r9, 1, none⟩ = some (.float .f64 a1)) ∧ w'.cell? ⟨r10, 0, none⟩ = some (.float .f64 b0) ∧ w'.cell? ⟨r10, 1, none⟩ = some (.float .f64 b1)) ∧ ((w'.cell? ⟨r11, 0, none⟩ = some (.float .f64 c0) ∧ w'.cell? ⟨r11, 1, none⟩ = some (.float .f64 c1)) ∧ w'.cell? ⟨rc, 0, none⟩ = some (.pointer (some ⟨bc, 0, none⟩)) ∧ w'.cell? ⟨rc, 1, none⟩ = some (.int .i64 (pE x))) ∧ w'.cell? ⟨rd, 0, none⟩ = some (.pointer (some ⟨bd, 0, none⟩)) ∧ w'.cell? ⟨rd, 1, none⟩ = some (.int .i64 (pE y))) W35v4 := HS.out.five
  repeat (first | (refine wpPl_takeL (v := ?_) rfl rfl (fun _ _ _ h => h) rfl (fun w' hSw => ?_) hS ?_; rotate_left; (focus (go_simp; with_reducible rfl)); simp only [List.setIfInBounds_toArray, List.set_cons_zero, List.set_cons_succ]) | (refine wpPl_skipL rfl rfl (fun _ _ _ h => h) rfl hS ?_; simp only [List.setIfInBounds_toArray, List.set_cons_zero, List.set_cons_succ]))
  clear hS
  refine wpPl_goL rfl rfl fun K' hK => ?_
  go_simp
  refine (HXS.out _ _ _ HC.out HZ2.out).mono ?_
  rintro e1 W35v5 ⟨o3, rfl, hi1, hb1⟩
  replace HS := Lib.hid (HS.out.later hb1)
  replace HC := Lib.hid (HC.out.below hb1)
  replace HD := Lib.hid (HD.out.below hb1)
  clear HZ2
  have HZ3 := Lib.hid hi1
  clear hi1
  unfold ExV
  refine hK _ _ HS.out.five ?_
  clear hK K' hb1
  try simp only [Act.put, List.setIfInBounds_toArray, List.set_cons_zero, List.set_cons_succ]
  have hS : (fun w' : World => ((w'.cell? ⟨r9, 0, none⟩ = some (.float .f64 a0) ∧ w'.cell? ⟨r9, 1, none⟩ = some (.float .f64 a1)) ∧ w'.cell? ⟨r10, 0, none⟩ = some (.float .f64 b0) ∧ w'.cell? ⟨r10, 1, none⟩ = some (.float .f64 b1)) ∧ ((w'.cell? ⟨r11, 0, none⟩ = some (.float .f64 c0) ∧ w'.cell? ⟨r11, 1, none⟩ = some (.float .f64 c1)) ∧ w'.cell? ⟨rc, 0, none⟩ = some (.pointer (some ⟨bc, 0, none⟩)) ∧ w'.cell? ⟨rc, 1, none⟩ = some (.int .i64 (pE x))) ∧ w'.cell? ⟨rd, 0, none⟩ = some (.pointer (some ⟨bd, 0, none⟩)) ∧ w'.cell? ⟨rd, 1, none⟩ = some (.int .i64 (pE y))) W35v5 := HS.out.five
  repeat (first | (refine wpPl_takeL (v := ?_) rfl rfl (fun _ _ _ h => h) rfl (fun w' hSw => ?_) hS ?_; rotate_left; (focus (go_simp; with_reducible rfl)); simp only [List.setIfInBounds_toArray, List.set_cons_zero, List.set_cons_succ]) | (refine wpPl_skipL rfl rfl (fun _ _ _ h => h) rfl hS ?_; simp only [List.setIfInBounds_toArray, List.set_cons_zero, List.set_cons_succ]))
  clear hS
  refine wpPl_goL rfl rfl fun K' hK => ?_
  go_simp
  refine (HHS.out _ _ HZ3.out).mono ?_
  rintro e1 W35v6 ⟨rfl, hb1⟩
  replace HS := Lib.hid (HS.out.later hb1)
  replace HC := Lib.hid (HC.out.below hb1)
  replace HD := Lib.hid (HD.out.below hb1)
  clear HZ3
  refine hK _ _ HS.out.five ?_
  clear hK K' hb1
  try simp only [Act.put, List.setIfInBounds_toArray, List.set_cons_zero, List.set_cons_succ]
  have hS : (fun w' : World => ((w'.cell? ⟨r9, 0, none⟩ = some (.float .f64 a0) ∧ w'.cell? ⟨r9, 1, none⟩ = some (.float .f64 a1)) ∧ w'.cell? ⟨r10, 0, none⟩ = some (.float .f64 b0) ∧ w'.cell? ⟨r10, 1, none⟩ = some (.float .f64 b1)) ∧ ((w'.cell? ⟨r11, 0, none⟩ = some (.float .f64 c0) ∧ w'.cell? ⟨r11, 1, none⟩ = some (.float .f64 c1)) ∧ w'.cell? ⟨rc, 0, none⟩ = some (.pointer (some ⟨bc, 0, none⟩)) ∧ w'.cell? ⟨rc, 1, none⟩ = some (.int .i64 (pE x))) ∧ w'.cell? ⟨rd, 0, none⟩ = some (.pointer (some ⟨bd, 0, none⟩)) ∧ w'.cell? ⟨rd, 1, none⟩ = some (.int .i64 (pE y))) W35v6 := HS.out.five
  repeat (first | (refine wpPl_takeL (v := ?_) rfl rfl (fun _ _ _ h => h) rfl (fun w' hSw => ?_) hS ?_; rotate_left; (focus (go_simp; with_reducible rfl)); simp only [List.setIfInBounds_toArray, List.set_cons_zero, List.set_cons_succ]) | (refine wpPl_skipL rfl rfl (fun _ _ _ h => h) rfl hS ?_; simp only [List.setIfInBounds_toArray, List.set_cons_zero, List.set_cons_succ]))
  clear hS
  refine wpPl_goL rfl rfl fun K' hK => ?_
  go_simp
  refine (HRS.out _).mono ?_
  rintro e1 W35v7 ⟨rfl, hb1⟩
  replace HS := Lib.hid (HS.out.later hb1)
  replace HC := Lib.hid (HC.out.below hb1)
  replace HD := Lib.hid (HD.out.below hb1)
  refine hK _ _ HS.out.five ?_
  clear hK K' hb1
  try simp only [Act.put, List.setIfInBounds_toArray, List.set_cons_zero, List.set_cons_succ]
  have hS : (fun w' : World => ((w'.cell? ⟨r9, 0, none⟩ = some (.float .f64 a0) ∧ w'.cell? ⟨r9, 1, none⟩ = some (.float .f64 a1)) ∧ w'.cell? ⟨r10, 0, none⟩ = some (.float .f64 b0) ∧ w'.cell? ⟨r10, 1, none⟩ = some (.float .f64 b1)) ∧ ((w'.cell? ⟨r11, 0, none⟩ = some (.float .f64 c0) ∧ w'.cell? ⟨r11, 1, none⟩ = some (.float .f64 c1)) ∧ w'.cell? ⟨rc, 0, none⟩ = some (.pointer (some ⟨bc, 0, none⟩)) ∧ w'.cell? ⟨rc, 1, none⟩ = some (.int .i64 (pE x))) ∧ w'.cell? ⟨rd, 0, none⟩ = some (.pointer (some ⟨bd, 0, none⟩)) ∧ w'.cell? ⟨rd, 1, none⟩ = some (.int .i64 (pE y))) W35v7 := HS.out.five
  repeat (first | (refine wpPl_takeL (v := ?_) rfl rfl (fun _ _ _ h => h) rfl (fun w' hSw => ?_) hS ?_; rotate_left; (focus (go_simp; with_reducible rfl)); simp only [List.setIfInBounds_toArray, List.set_cons_zero, List.set_cons_succ]) | (refine wpPl_skipL rfl rfl (fun _ _ _ h => h) rfl hS ?_; simp only [List.setIfInBounds_toArray, List.set_cons_zero, List.set_cons_succ]))
  clear hS
  refine wpPl_goL rfl rfl fun K' hK => ?_
  go_simp
  refine (HXM.out _ _ _ HC.out HD.out).mono ?_
  rintro e1 W35v8 ⟨o4, rfl, -, hi1, hb1⟩
  replace HS := Lib.hid (HS.out.later hb1)
  replace HC := Lib.hid (HC.out.below hb1)
  replace HD := Lib.hid (HD.out.below hb1)
  have HZ4 := Lib.hid hi1
  clear hi1
  unfold ExV
  refine hK _ _ HS.out.five ?_
  clear hK K' hb1
  try simp only [Act.put, List.setIfInBounds_toArray, List.set_cons_zero, List.set_cons_succ]
  have hS : (fun w' : World => ((w'.cell? ⟨r9, 0, none⟩ = some (.float .f64 a0) ∧ w'.cell? ⟨r9, 1, none⟩ = some (.float .f64 a1)) ∧ w'.cell? ⟨r10, 0, none⟩ = some (.float .f64 b0) ∧ w'.cell? ⟨r10, 1, none⟩ = some (.float .f64 b1)) ∧ ((w'.cell? ⟨r11, 0, none⟩ = some (.float .f64 c0) ∧ w'.cell? ⟨r11, 1, none⟩ = some (.float .f64 c1)) ∧ w'.cell? ⟨rc, 0, none⟩ = some (.pointer (some ⟨bc, 0, none⟩)) ∧ w'.cell? ⟨rc, 1, none⟩ = some (.int .i64 (pE x))) ∧ w'.cell? ⟨rd, 0, none⟩ = some (.pointer (some ⟨bd, 0, none⟩)) ∧ w'.cell? ⟨rd, 1, none⟩ = some (.int .i64 (pE y))) W35v8 := HS.out.five
  repeat (first | (refine wpPl_takeL (v := ?_) rfl rfl (fun _ _ _ h => h) rfl (fun w' hSw => ?_) hS ?_; rotate_left; (focus (go_simp; with_reducible rfl)); simp only [List.setIfInBounds_toArray, List.set_cons_zero, List.set_cons_succ]) | (refine wpPl_skipL rfl rfl (fun _ _ _ h => h) rfl hS ?_; simp only [List.setIfInBounds_toArray, List.set_cons_zero, List.set_cons_succ]))
  clear hS
  refine wpPl_goL rfl rfl fun K' hK => ?_
  go_simp
  refine (HHM.out _ _ HZ4.out).mono ?_
  rintro e1 W35v9 ⟨rfl, hb1⟩
  replace HS := Lib.hid (HS.out.later hb1)
  replace HC := Lib.hid (HC.out.below hb1)
  replace HD := Lib.hid (HD.out.below hb1)
  clear HZ4
  refine hK _ _ HS.out.five ?_
  clear hK K' hb1
  try simp only [Act.put, List.setIfInBounds_toArray, List.set_cons_zero, List.set_cons_succ]
  have hS : (fun w' : World => ((w'.cell? ⟨r9, 0, none⟩ = some (.float .f64 a0) ∧ w'.cell? ⟨r9, 1, none⟩ = some (.float .f64 a1)) ∧ w'.cell? ⟨r10, 0, none⟩ = some (.float .f64 b0) ∧ w'.cell? ⟨r10, 1, none⟩ = some (.float .f64 b1)) ∧ ((w'.cell? ⟨r11, 0, none⟩ = some (.float .f64 c0) ∧ w'.cell? ⟨r11, 1, none⟩ = some (.float .f64 c1)) ∧ w'.cell? ⟨rc, 0, none⟩ = some (.pointer (some ⟨bc, 0, none⟩)) ∧ w'.cell? ⟨rc, 1, none⟩ = some (.int .i64 (pE x))) ∧ w'.cell? ⟨rd, 0, none⟩ = some (.pointer (some ⟨bd, 0, none⟩)) ∧ w'.cell? ⟨rd, 1, none⟩ = some (.int .i64 (pE y))) W35v9 := HS.out.five
  repeat (first | (refine wpPl_takeL (v := ?_) rfl rfl (fun _ _ _ h => h) rfl (fun w' hSw => ?_) hS ?_; rotate_left; (focus (go_simp; with_reducible rfl)); simp only [List.setIfInBounds_toArray, List.set_cons_zero, List.set_cons_succ]) | (refine wpPl_skipL rfl rfl (fun _ _ _ h => h) rfl hS ?_; simp only [List.setIfInBounds_toArray, List.set_cons_zero, List.set_cons_succ]))
  clear hS
  refine wpPl_nil ?_
  simp only [List.drop_succ_cons, List.drop_zero]
  obtain ⟨⟨⟨g0, g1⟩, g2, g3⟩, ⟨⟨g4, g5⟩, g6, g7⟩, g8, g9⟩ := HS.out.five
  go_wp2_with fail
  refine (HRM.out _).mono ?_
  rintro e36 w36 ⟨rfl, hb36⟩
  replace HS := Lib.hid (HS.out.later hb36)
  replace HC := Lib.hid (HC.out.below hb36)
  replace HD := Lib.hid (HD.out.below hb36)
  clear hb36
  clear g0 g1 g2 g3 g4 g5 g6 g7 g8 g9
  obtain ⟨⟨⟨g0, g1⟩, g2, g3⟩, ⟨⟨g4, g5⟩, g6, g7⟩, g8, g9⟩ := HS.out.five
  go_upto_if 109 with fail
  go_cut [] from 110 to 131 (fun wx => Hid (Bks w wx [(r9, 34, #[.float .f64 a0, .float .f64 a1]), (r10, 34, #[.float .f64 b0, .float .f64 b1]), (r11, 34, #[.float .f64 c0, .float .f64 c1]), (rc, 27, #[.pointer (some ⟨bc, 0, none⟩), .int .i64 (pE x)]), (rd, 27, #[.pointer (some ⟨bd, 0, none⟩), .int .i64 (pE y)]), (ra, 34, #[.float .f64 p0, .float .f64 p1]), (rb, 34, #[.float .f64 q0, .float .f64 q1])]) ∧ Hid (RInt wx bc (valZ x)) ∧ Hid (RInt wx bd (valZ y)))
  case first =>
    clear hub HSV
    cases vb
    · clear HDV
      go_wp2
      go_meet
      exact ⟨HS, HC, HD⟩
    · obtain ⟨r, sg, hquo, hsg, h3, h4, h5⟩ := HDV.out rfl
      have HRD := Lib.hid h3
      clear g0 g1 g2 g3 g4 g5 g6 g7 g8 g9
      clear hvb HDV h3
      cases sg
      · have HOV := Lib.hid (h4 rfl)
        clear h4 h5
        obtain ⟨⟨la0, la1⟩, ⟨lb0, lb1⟩, ⟨lc0, lc1⟩, ld0, ld1⟩ : (w36.cell? ⟨ra, 0, none⟩ = some (.float .f64 p0) ∧ w36.cell? ⟨ra, 1, none⟩ = some (.float .f64 p1)) ∧ (w36.cell? ⟨rb, 0, none⟩ = some (.float .f64 q0) ∧ w36.cell? ⟨rb, 1, none⟩ = some (.float .f64 q1)) ∧ (w36.cell? ⟨rc, 0, none⟩ = some (.pointer (some ⟨bc, 0, none⟩)) ∧ w36.cell? ⟨rc, 1, none⟩ = some (.int .i64 (pE x))) ∧ (w36.cell? ⟨rd, 0, none⟩ = some (.pointer (some ⟨bd, 0, none⟩)) ∧ w36.cell? ⟨rd, 1, none⟩ = some (.int .i64 (pE y))) := ⟨HS.out.two (.tail _ (.tail _ (.tail _ (.tail _ (.tail _ (.head _)))))), HS.out.two (.tail _ (.tail _ (.tail _ (.tail _ (.tail _ (.tail _ (.head _))))))), HS.out.two (.tail _ (.tail _ (.tail _ (.head _)))), HS.out.two (.tail _ (.tail _ (.tail _ (.tail _ (.head _)))))⟩
        go_wp2_with fail
        refine (HDIV.out _ (HT.out.below HS.out.2)).mono ?_
        rintro e41 w41 ⟨rfl, hb41⟩
        replace HS := Lib.hid (HS.out.later hb41)
        replace HC := Lib.hid (HC.out.below hb41)
        replace HD := Lib.hid (HD.out.below hb41)
        clear hb41
        clear la0 la1 lb0 lb1 lc0 lc1 ld0 ld1
        obtain ⟨lc0, lc1⟩ : (w41.cell? ⟨rc, 0, none⟩ = some (.pointer (some ⟨bc, 0, none⟩)) ∧ w41.cell? ⟨rc, 1, none⟩ = some (.int .i64 (pE x))) := HS.out.two (.tail _ (.tail _ (.tail _ (.head _))))
        go_upto_region 12 with fail
        clear lc0 lc1
        replace HS := Lib.hid (HS.out.alloc #[.float .f64 d0, .float .f64 d1] 34)
        replace HC := Lib.hid (HC.out.below (Below.alloc_self w41 (.cells #[.float .f64 d0, .float .f64 d1] 34)))
        replace HD := Lib.hid (HD.out.below (Below.alloc_self w41 (.cells #[.float .f64 d0, .float .f64 d1] 34)))
        generalize World.alloc w41 _ = W40 at HS HC HD ⊢
        generalize w41.heap.size = r20 at HS ⊢
        obtain ⟨lc0, lc1⟩ : (W40.cell? ⟨rc, 0, none⟩ = some (.pointer (some ⟨bc, 0, none⟩)) ∧ W40.cell? ⟨rc, 1, none⟩ = some (.int .i64 (pE x))) := HS.out.two (.tail _ (.tail _ (.tail _ (.tail _ (.head _)))))
        go_upto_region 13 with fail
        clear lc0 lc1
        replace HS := Lib.hid (HS.out.alloc #[.pointer (some ⟨bc, 0, none⟩), .int .i64 (pE x)] 27)
        replace HC := Lib.hid (HC.out.below (Below.alloc_self W40 (.cells #[.pointer (some ⟨bc, 0, none⟩), .int .i64 (pE x)] 27)))
        replace HD := Lib.hid (HD.out.below (Below.alloc_self W40 (.cells #[.pointer (some ⟨bc, 0, none⟩), .int .i64 (pE x)] 27)))
        generalize World.alloc W40 _ = W42 at HS HC HD ⊢
        generalize W40.heap.size = r21 at HS ⊢
        go_upto_region 15 with fail
        replace HS := Lib.hid (HS.out.sub (l' := (r20, 34, #[.float .f64 d0, .float .f64 d1]) :: (r21, 27, #[.pointer (some ⟨bc, 0, none⟩), .int .i64 (pE x)]) :: (rd, 27, #[.pointer (some ⟨bd, 0, none⟩), .int .i64 (pE y)]) :: [(r9, 34, #[.float .f64 a0, .float .f64 a1]), (r10, 34, #[.float .f64 b0, .float .f64 b1]), (r11, 34, #[.float .f64 c0, .float .f64 c1]), (rc, 27, #[.pointer (some ⟨bc, 0, none⟩), .int .i64 (pE x)]), (rd, 27, #[.pointer (some ⟨bd, 0, none⟩), .int .i64 (pE y)]), (ra, 34, #[.float .f64 p0, .float .f64 p1]), (rb, 34, #[.float .f64 q0, .float .f64 q1])]) (by intro t m; simp only [List.mem_cons, List.not_mem_nil, or_false] at m ⊢; rcases m with rfl | rfl | rfl | rfl | rfl | rfl | rfl | rfl | rfl | rfl <;> simp))
        refine wp_region_pl (fun w' : World => ((w'.cell? ⟨r20, 0, none⟩ = some (.float .f64 d0) ∧ w'.cell? ⟨r20, 1, none⟩ = some (.float .f64 d1)) ∧ w'.cell? ⟨r21, 0, none⟩ = some (.pointer (some ⟨bc, 0, none⟩)) ∧ w'.cell? ⟨r21, 1, none⟩ = some (.int .i64 (pE x))) ∧ w'.cell? ⟨rd, 0, none⟩ = some (.pointer (some ⟨bd, 0, none⟩)) ∧ w'.cell? ⟨rd, 1, none⟩ = some (.int .i64 (pE y))) 11 (.take 0 (.take 1 (.take 2 (.run 3 (.run 4 (.take 5 (.take 6 (.take 7 (.take 8 (.take 9 (.take 10 (.nil)))))))))))) (by kernel_rfl) (by kernel_rfl) ?_
        replace HS := Lib.hid (HS.out.later (drew_below _))
        replace HC := Lib.hid (HC.out.below (drew_below _))
        replace HD := Lib.hid (HD.out.below (drew_below _))
        generalize World.drew _ = W45 at HS HC HD ⊢
        have hS : (fun w' : World => ((w'.cell? ⟨r20, 0, none⟩ = some (.float .f64 d0) ∧ w'.cell? ⟨r20, 1, none⟩ = some (.float .f64 d1)) ∧ w'.cell? ⟨r21, 0, none⟩ = some (.pointer (some ⟨bc, 0, none⟩)) ∧ w'.cell? ⟨r21, 1, none⟩ = some (.int .i64 (pE x))) ∧ w'.cell? ⟨rd, 0, none⟩ = some (.pointer (some ⟨bd, 0, none⟩)) ∧ w'.cell? ⟨rd, 1, none⟩ = some (.int .i64 (pE y))) W45 := HS.out.tri
        repeat (first | (refine wpPl_takeL (v := ?_) rfl rfl (fun _ _ _ h => h) rfl (fun w' hSw => ?_) hS ?_; rotate_left; (focus (go_simp; with_reducible rfl)); simp only [List.setIfInBounds_toArray, List.set_cons_zero, List.set_cons_succ]) | (refine wpPl_skipL rfl rfl (fun _ _ _ h => h) rfl hS ?_; simp only [List.setIfInBounds_toArray, List.set_cons_zero, List.set_cons_succ]))
        clear hS
        refine wpPl_goL rfl rfl fun K' hK => ?_
        go_simp
        refine (rAbsX_any _ _ _ _ HD.out).mono ?_
        rintro e1 W45v1 ⟨o6, rfl, -, hi1, hb1⟩
        replace HS := Lib.hid (HS.out.later hb1)
        replace HC := Lib.hid (HC.out.below hb1)
        replace HD := Lib.hid (HD.out.below hb1)
        have HZ6 := Lib.hid hi1
        clear hi1
        unfold ExV
        refine hK _ _ HS.out.tri ?_
        clear hK K' hb1
        try simp only [Act.put, List.setIfInBounds_toArray, List.set_cons_zero, List.set_cons_succ]
        have hS : (fun w' : World => ((w'.cell? ⟨r20, 0, none⟩ = some (.float .f64 d0) ∧ w'.cell? ⟨r20, 1, none⟩ = some (.float .f64 d1)) ∧ w'.cell? ⟨r21, 0, none⟩ = some (.pointer (some ⟨bc, 0, none⟩)) ∧ w'.cell? ⟨r21, 1, none⟩ = some (.int .i64 (pE x))) ∧ w'.cell? ⟨rd, 0, none⟩ = some (.pointer (some ⟨bd, 0, none⟩)) ∧ w'.cell? ⟨rd, 1, none⟩ = some (.int .i64 (pE y))) W45v1 := HS.out.tri
        repeat (first | (refine wpPl_takeL (v := ?_) rfl rfl (fun _ _ _ h => h) rfl (fun w' hSw => ?_) hS ?_; rotate_left; (focus (go_simp; with_reducible rfl)); simp only [List.setIfInBounds_toArray, List.set_cons_zero, List.set_cons_succ]) | (refine wpPl_skipL rfl rfl (fun _ _ _ h => h) rfl hS ?_; simp only [List.setIfInBounds_toArray, List.set_cons_zero, List.set_cons_succ]))
        clear hS
        refine wpPl_goL rfl rfl fun K' hK => ?_
        go_simp
        refine (HOV.out _ _ _ HC.out HZ6.out).mono ?_
        rintro e1 W45v2 ⟨rfl, hb1⟩
        replace HS := Lib.hid (HS.out.later hb1)
        replace HC := Lib.hid (HC.out.below hb1)
        replace HD := Lib.hid (HD.out.below hb1)
        clear HZ6
        refine hK _ _ HS.out.tri ?_
        clear hK K' hb1
        try simp only [Act.put, List.setIfInBounds_toArray, List.set_cons_zero, List.set_cons_succ]
        have hS : (fun w' : World => ((w'.cell? ⟨r20, 0, none⟩ = some (.float .f64 d0) ∧ w'.cell? ⟨r20, 1, none⟩ = some (.float .f64 d1)) ∧ w'.cell? ⟨r21, 0, none⟩ = some (.pointer (some ⟨bc, 0, none⟩)) ∧ w'.cell? ⟨r21, 1, none⟩ = some (.int .i64 (pE x))) ∧ w'.cell? ⟨rd, 0, none⟩ = some (.pointer (some ⟨bd, 0, none⟩)) ∧ w'.cell? ⟨rd, 1, none⟩ = some (.int .i64 (pE y))) W45v2 := HS.out.tri
        repeat (first | (refine wpPl_takeL (v := ?_) rfl rfl (fun _ _ _ h => h) rfl (fun w' hSw => ?_) hS ?_; rotate_left; (focus (go_simp; with_reducible rfl)); simp only [List.setIfInBounds_toArray, List.set_cons_zero, List.set_cons_succ]) | (refine wpPl_skipL rfl rfl (fun _ _ _ h => h) rfl hS ?_; simp only [List.setIfInBounds_toArray, List.set_cons_zero, List.set_cons_succ]))
        clear hS
        refine wpPl_nil ?_
        simp only [List.drop_succ_cons, List.drop_zero]
        obtain ⟨⟨⟨g0, g1⟩, g2, g3⟩, g4, g5⟩ := HS.out.tri
        go_wp2_with fail
        refine (HRD.out _).mono ?_
        rintro e46 w46 ⟨rfl, hb46⟩
        replace HS := Lib.hid (HS.out.later hb46)
        replace HC := Lib.hid (HC.out.below hb46)
        replace HD := Lib.hid (HD.out.below hb46)
        clear hb46
        clear g0 g1 g2 g3 g4 g5
        go_wp2
        go_meet
        exact ⟨Lib.hid (HS.out.sub (fun t m => .tail _ (.tail _ (.tail _ m)))), HC, HD⟩
      · have HOV := Lib.hid (h5 rfl)
        clear h4 h5
        obtain ⟨⟨la0, la1⟩, ⟨lb0, lb1⟩, ⟨lc0, lc1⟩, ld0, ld1⟩ : (w36.cell? ⟨ra, 0, none⟩ = some (.float .f64 p0) ∧ w36.cell? ⟨ra, 1, none⟩ = some (.float .f64 p1)) ∧ (w36.cell? ⟨rb, 0, none⟩ = some (.float .f64 q0) ∧ w36.cell? ⟨rb, 1, none⟩ = some (.float .f64 q1)) ∧ (w36.cell? ⟨rc, 0, none⟩ = some (.pointer (some ⟨bc, 0, none⟩)) ∧ w36.cell? ⟨rc, 1, none⟩ = some (.int .i64 (pE x))) ∧ (w36.cell? ⟨rd, 0, none⟩ = some (.pointer (some ⟨bd, 0, none⟩)) ∧ w36.cell? ⟨rd, 1, none⟩ = some (.int .i64 (pE y))) := ⟨HS.out.two (.tail _ (.tail _ (.tail _ (.tail _ (.tail _ (.head _)))))), HS.out.two (.tail _ (.tail _ (.tail _ (.tail _ (.tail _ (.tail _ (.head _))))))), HS.out.two (.tail _ (.tail _ (.tail _ (.head _)))), HS.out.two (.tail _ (.tail _ (.tail _ (.tail _ (.head _)))))⟩
        go_wp2_with fail
        refine (HDIV.out _ (HT.out.below HS.out.2)).mono ?_
        rintro e41 w41 ⟨rfl, hb41⟩
        replace HS := Lib.hid (HS.out.later hb41)
        replace HC := Lib.hid (HC.out.below hb41)
        replace HD := Lib.hid (HD.out.below hb41)
        clear hb41
        clear la0 la1 lb0 lb1 lc0 lc1 ld0 ld1
        obtain ⟨lc0, lc1⟩ : (w41.cell? ⟨rc, 0, none⟩ = some (.pointer (some ⟨bc, 0, none⟩)) ∧ w41.cell? ⟨rc, 1, none⟩ = some (.int .i64 (pE x))) := HS.out.two (.tail _ (.tail _ (.tail _ (.head _))))
        go_upto_region 12 with fail
        clear lc0 lc1
        replace HS := Lib.hid (HS.out.alloc #[.float .f64 d0, .float .f64 d1] 34)
        replace HC := Lib.hid (HC.out.below (Below.alloc_self w41 (.cells #[.float .f64 d0, .float .f64 d1] 34)))
        replace HD := Lib.hid (HD.out.below (Below.alloc_self w41 (.cells #[.float .f64 d0, .float .f64 d1] 34)))
        generalize World.alloc w41 _ = W40 at HS HC HD ⊢
        generalize w41.heap.size = r20 at HS ⊢
        obtain ⟨lc0, lc1⟩ : (W40.cell? ⟨rc, 0, none⟩ = some (.pointer (some ⟨bc, 0, none⟩)) ∧ W40.cell? ⟨rc, 1, none⟩ = some (.int .i64 (pE x))) := HS.out.two (.tail _ (.tail _ (.tail _ (.tail _ (.head _)))))
        go_upto_region 13 with fail
        clear lc0 lc1
        have HLB : Hid (w.heap.size ≤ W40.heap.size ∧ ∀ q ∈ (((r20, 34, #[.float .f64 d0, .float .f64 d1]) :: [(r9, 34, #[.float .f64 a0, .float .f64 a1]), (r10, 34, #[.float .f64 b0, .float .f64 b1]), (r11, 34, #[.float .f64 c0, .float .f64 c1]), (rc, 27, #[.pointer (some ⟨bc, 0, none⟩), .int .i64 (pE x)]), (rd, 27, #[.pointer (some ⟨bd, 0, none⟩), .int .i64 (pE y)]), (ra, 34, #[.float .f64 p0, .float .f64 p1]), (rb, 34, #[.float .f64 q0, .float .f64 q1])] : List (Nat × Nat × Array Value))), q.1 ≠ W40.heap.size) := Lib.hid ⟨HS.out.size, fun q m e => by have := HS.out.lt q m; omega⟩
        replace HS := Lib.hid (HS.out.alloc #[.pointer (some ⟨bc, 0, none⟩), .int .i64 (pE x)] 27)
        replace HC := Lib.hid (HC.out.below (Below.alloc_self W40 (.cells #[.pointer (some ⟨bc, 0, none⟩), .int .i64 (pE x)] 27)))
        replace HD := Lib.hid (HD.out.below (Below.alloc_self W40 (.cells #[.pointer (some ⟨bc, 0, none⟩), .int .i64 (pE x)] 27)))
        generalize World.alloc W40 _ = W42 at HS HC HD ⊢
        generalize W40.heap.size = r21 at HS HLB ⊢
        go_upto_region 14 with fail
        obtain ⟨⟨lc0, lc1⟩, ln0, ln1⟩ : (W42.cell? ⟨rc, 0, none⟩ = some (.pointer (some ⟨bc, 0, none⟩)) ∧ W42.cell? ⟨rc, 1, none⟩ = some (.int .i64 (pE x))) ∧ (W42.cell? ⟨r21, 0, none⟩ = some (.pointer (some ⟨bc, 0, none⟩)) ∧ W42.cell? ⟨r21, 1, none⟩ = some (.int .i64 (pE x))) := ⟨HS.out.two (.tail _ (.tail _ (.tail _ (.tail _ (.tail _ (.head _)))))), HS.out.two (.head _)⟩
        go_wp2_with fail
        refine (rNegX_any _ _ _ _ HC.out).mono ?_
        rintro e43 w43 ⟨bn, rfl, -, hi43, hb43⟩
        replace HS := Lib.hid (HS.out.later hb43)
        replace HC := Lib.hid (HC.out.below hb43)
        replace HD := Lib.hid (HD.out.below hb43)
        have HN := Lib.hid hi43
        clear hi43
        unfold ExV
        clear hb43
        clear lc0 lc1 ln0 ln1
        obtain ⟨k0, k1, k2, k3⟩ := (HS.out.get (.head _)).cells2
        have HB21 := Lib.hid (HS.out.get (.head _))
        replace HS := Lib.hid (HS.out.set2 HLB.out.1 HLB.out.2 (.pointer (some ⟨bn, 0, none⟩)) (.int .i64 (pE x)))
        replace HC := Lib.hid (RInt.st2 HC.out HB21.out (.pointer (some ⟨bn, 0, none⟩)) (.int .i64 (pE x)))
        replace HD := Lib.hid (RInt.st2 HD.out HB21.out (.pointer (some ⟨bn, 0, none⟩)) (.int .i64 (pE x)))
        replace HN := Lib.hid (RInt.st2 HN.out HB21.out (.pointer (some ⟨bn, 0, none⟩)) (.int .i64 (pE x)))
        clear HB21 HLB
        go_upto_region 15 with fail
        clear k0 k1 k2 k3
        generalize World.setCell (World.setCell w43 _ _) _ _ = W44 at HS HC HD HN ⊢
        replace HS := Lib.hid (HS.out.sub (l' := (r20, 34, #[.float .f64 d0, .float .f64 d1]) :: (r21, 27, #[.pointer (some ⟨bn, 0, none⟩), .int .i64 (pE x)]) :: (rd, 27, #[.pointer (some ⟨bd, 0, none⟩), .int .i64 (pE y)]) :: [(r9, 34, #[.float .f64 a0, .float .f64 a1]), (r10, 34, #[.float .f64 b0, .float .f64 b1]), (r11, 34, #[.float .f64 c0, .float .f64 c1]), (rc, 27, #[.pointer (some ⟨bc, 0, none⟩), .int .i64 (pE x)]), (rd, 27, #[.pointer (some ⟨bd, 0, none⟩), .int .i64 (pE y)]), (ra, 34, #[.float .f64 p0, .float .f64 p1]), (rb, 34, #[.float .f64 q0, .float .f64 q1])]) (by intro t m; simp only [List.mem_cons, List.not_mem_nil, or_false] at m ⊢; rcases m with rfl | rfl | rfl | rfl | rfl | rfl | rfl | rfl | rfl | rfl <;> simp))
        refine wp_region_pl (fun w' : World => ((w'.cell? ⟨r20, 0, none⟩ = some (.float .f64 d0) ∧ w'.cell? ⟨r20, 1, none⟩ = some (.float .f64 d1)) ∧ w'.cell? ⟨r21, 0, none⟩ = some (.pointer (some ⟨bn, 0, none⟩)) ∧ w'.cell? ⟨r21, 1, none⟩ = some (.int .i64 (pE x))) ∧ w'.cell? ⟨rd, 0, none⟩ = some (.pointer (some ⟨bd, 0, none⟩)) ∧ w'.cell? ⟨rd, 1, none⟩ = some (.int .i64 (pE y))) 11 (.take 0 (.take 1 (.take 2 (.run 3 (.run 4 (.take 5 (.take 6 (.take 7 (.take 8 (.take 9 (.take 10 (.nil)))))))))))) (by kernel_rfl) (by kernel_rfl) ?_
        replace HS := Lib.hid (HS.out.later (drew_below _))
        replace HC := Lib.hid (HC.out.below (drew_below _))
        replace HD := Lib.hid (HD.out.below (drew_below _))
        replace HN := Lib.hid (HN.out.below (drew_below _))
        generalize World.drew _ = W45 at HS HC HD HN ⊢
        have hS : (fun w' : World => ((w'.cell? ⟨r20, 0, none⟩ = some (.float .f64 d0) ∧ w'.cell? ⟨r20, 1, none⟩ = some (.float .f64 d1)) ∧ w'.cell? ⟨r21, 0, none⟩ = some (.pointer (some ⟨bn, 0, none⟩)) ∧ w'.cell? ⟨r21, 1, none⟩ = some (.int .i64 (pE x))) ∧ w'.cell? ⟨rd, 0, none⟩ = some (.pointer (some ⟨bd, 0, none⟩)) ∧ w'.cell? ⟨rd, 1, none⟩ = some (.int .i64 (pE y))) W45 := HS.out.tri
        repeat (first | (refine wpPl_takeL (v := ?_) rfl rfl (fun _ _ _ h => h) rfl (fun w' hSw => ?_) hS ?_; rotate_left; (focus (go_simp; with_reducible rfl)); simp only [List.setIfInBounds_toArray, List.set_cons_zero, List.set_cons_succ]) | (refine wpPl_skipL rfl rfl (fun _ _ _ h => h) rfl hS ?_; simp only [List.setIfInBounds_toArray, List.set_cons_zero, List.set_cons_succ]))
        clear hS
        refine wpPl_goL rfl rfl fun K' hK => ?_
        go_simp
        refine (rAbsX_any _ _ _ _ HD.out).mono ?_
        rintro e1 W45v1 ⟨o6, rfl, -, hi1, hb1⟩
        replace HS := Lib.hid (HS.out.later hb1)
        replace HC := Lib.hid (HC.out.below hb1)
        replace HD := Lib.hid (HD.out.below hb1)
        replace HN := Lib.hid (HN.out.below hb1)
        have HZ6 := Lib.hid hi1
        clear hi1
        unfold ExV
        refine hK _ _ HS.out.tri ?_
        clear hK K' hb1
        try simp only [Act.put, List.setIfInBounds_toArray, List.set_cons_zero, List.set_cons_succ]
        have hS : (fun w' : World => ((w'.cell? ⟨r20, 0, none⟩ = some (.float .f64 d0) ∧ w'.cell? ⟨r20, 1, none⟩ = some (.float .f64 d1)) ∧ w'.cell? ⟨r21, 0, none⟩ = some (.pointer (some ⟨bn, 0, none⟩)) ∧ w'.cell? ⟨r21, 1, none⟩ = some (.int .i64 (pE x))) ∧ w'.cell? ⟨rd, 0, none⟩ = some (.pointer (some ⟨bd, 0, none⟩)) ∧ w'.cell? ⟨rd, 1, none⟩ = some (.int .i64 (pE y))) W45v1 := HS.out.tri
        repeat (first | (refine wpPl_takeL (v := ?_) rfl rfl (fun _ _ _ h => h) rfl (fun w' hSw => ?_) hS ?_; rotate_left; (focus (go_simp; with_reducible rfl)); simp only [List.setIfInBounds_toArray, List.set_cons_zero, List.set_cons_succ]) | (refine wpPl_skipL rfl rfl (fun _ _ _ h => h) rfl hS ?_; simp only [List.setIfInBounds_toArray, List.set_cons_zero, List.set_cons_succ]))
        clear hS
        refine wpPl_goL rfl rfl fun K' hK => ?_
        go_simp
        refine (HOV.out _ _ _ HN.out HZ6.out).mono ?_
        rintro e1 W45v2 ⟨rfl, hb1⟩
        replace HS := Lib.hid (HS.out.later hb1)
        replace HC := Lib.hid (HC.out.below hb1)
        replace HD := Lib.hid (HD.out.below hb1)
        replace HN := Lib.hid (HN.out.below hb1)
        clear HZ6
        refine hK _ _ HS.out.tri ?_
        clear hK K' hb1
        try simp only [Act.put, List.setIfInBounds_toArray, List.set_cons_zero, List.set_cons_succ]
        have hS : (fun w' : World => ((w'.cell? ⟨r20, 0, none⟩ = some (.float .f64 d0) ∧ w'.cell? ⟨r20, 1, none⟩ = some (.float .f64 d1)) ∧ w'.cell? ⟨r21, 0, none⟩ = some (.pointer (some ⟨bn, 0, none⟩)) ∧ w'.cell? ⟨r21, 1, none⟩ = some (.int .i64 (pE x))) ∧ w'.cell? ⟨rd, 0, none⟩ = some (.pointer (some ⟨bd, 0, none⟩)) ∧ w'.cell? ⟨rd, 1, none⟩ = some (.int .i64 (pE y))) W45v2 := HS.out.tri
        repeat (first | (refine wpPl_takeL (v := ?_) rfl rfl (fun _ _ _ h => h) rfl (fun w' hSw => ?_) hS ?_; rotate_left; (focus (go_simp; with_reducible rfl)); simp only [List.setIfInBounds_toArray, List.set_cons_zero, List.set_cons_succ]) | (refine wpPl_skipL rfl rfl (fun _ _ _ h => h) rfl hS ?_; simp only [List.setIfInBounds_toArray, List.set_cons_zero, List.set_cons_succ]))
        clear hS
        refine wpPl_nil ?_
        simp only [List.drop_succ_cons, List.drop_zero]
        obtain ⟨⟨⟨g0, g1⟩, g2, g3⟩, g4, g5⟩ := HS.out.tri
        go_wp2_with fail
        refine (HRD.out _).mono ?_
        rintro e46 w46 ⟨rfl, hb46⟩
        replace HS := Lib.hid (HS.out.later hb46)
        replace HC := Lib.hid (HC.out.below hb46)
        replace HD := Lib.hid (HD.out.below hb46)
        clear hb46
        clear g0 g1 g2 g3 g4 g5
        go_wp2
        go_meet
        exact ⟨Lib.hid (HS.out.sub (fun t m => .tail _ (.tail _ (.tail _ m)))), HC, HD⟩
  case rest =>
  obtain ⟨HS, HC, HD⟩ := hcut
  clear g0 g1 g2 g3 g4 g5 g6 g7 g8 g9
  clear hvb HDV
  go_upto_if 133 with fail
  go_cut [] from 134 to 175 (fun wx => Hid (Bks w wx [(r9, 34, #[.float .f64 a0, .float .f64 a1]), (r10, 34, #[.float .f64 b0, .float .f64 b1]), (r11, 34, #[.float .f64 c0, .float .f64 c1]), (rc, 27, #[.pointer (some ⟨bc, 0, none⟩), .int .i64 (pE x)]), (rd, 27, #[.pointer (some ⟨bd, 0, none⟩), .int .i64 (pE y)]), (ra, 34, #[.float .f64 p0, .float .f64 p1]), (rb, 34, #[.float .f64 q0, .float .f64 q1])]) ∧ Hid (RInt wx bc (valZ x)) ∧ Hid (RInt wx bd (valZ y)))
  case first =>
    cases ub
    · clear HSV
      go_wp2
      go_meet
      exact ⟨HS, HC, HD⟩
    · obtain ⟨r, z0, e0, S0, h1, h2, h3, h4, h5, h6, h7, h8, h9⟩ := HSV.out rfl
      have HSM := Lib.hid h1
      have HRQ := Lib.hid h2
      have HO0 := Lib.hid h4
      have HM0 := Lib.hid h5
      have HC0 := Lib.hid h6
      have HIN := Lib.hid h8
      clear h1 h2 h4 h5 h6 h8 hub HSV
      generalize z0 * z0 = zz0 at *
      generalize e0 + e0 = ee0 at *
      cases ft : finB t1
      · rw [ft, Bool.not_false] at HIN
        clear h9 ft
        obtain ⟨la0, la1⟩ : (wc.cell? ⟨ra, 0, none⟩ = some (.float .f64 p0) ∧ wc.cell? ⟨ra, 1, none⟩ = some (.float .f64 p1)) := HS.out.two (.tail _ (.tail _ (.tail _ (.tail _ (.tail _ (.head _))))))
        go_wp2_with fail
        refine (HSQI.out _ (HT.out.below HS.out.2)).mono ?_
        rintro e51 w51 ⟨rfl, hb51⟩
        replace HS := Lib.hid (HS.out.later hb51)
        replace HC := Lib.hid (HC.out.below hb51)
        replace HD := Lib.hid (HD.out.below hb51)
        clear hb51
        clear la0 la1
        go_upto_region 19 with fail
        replace HS := Lib.hid (HS.out.alloc #[.float .f64 t0, .float .f64 t1] 34)
        replace HC := Lib.hid (HC.out.below (Below.alloc_self w51 (.cells #[.float .f64 t0, .float .f64 t1] 34)))
        replace HD := Lib.hid (HD.out.below (Below.alloc_self w51 (.cells #[.float .f64 t0, .float .f64 t1] 34)))
        generalize World.alloc w51 _ = W52 at HS HC HD ⊢
        generalize w51.heap.size = r22 at HS ⊢
        replace HS := Lib.hid (HS.out.sub (l' := (r22, 34, #[.float .f64 t0, .float .f64 t1]) :: (rc, 27, #[.pointer (some ⟨bc, 0, none⟩), .int .i64 (pE x)]) :: [(r9, 34, #[.float .f64 a0, .float .f64 a1]), (r10, 34, #[.float .f64 b0, .float .f64 b1]), (r11, 34, #[.float .f64 c0, .float .f64 c1]), (rc, 27, #[.pointer (some ⟨bc, 0, none⟩), .int .i64 (pE x)]), (rd, 27, #[.pointer (some ⟨bd, 0, none⟩), .int .i64 (pE y)]), (ra, 34, #[.float .f64 p0, .float .f64 p1]), (rb, 34, #[.float .f64 q0, .float .f64 q1])]) (by intro t m; simp only [List.mem_cons, List.not_mem_nil, or_false] at m ⊢; rcases m with rfl | rfl | rfl | rfl | rfl | rfl | rfl | rfl | rfl <;> simp))
        refine wp_region_pl (fun w' : World => (w'.cell? ⟨r22, 0, none⟩ = some (.float .f64 t0) ∧ w'.cell? ⟨r22, 1, none⟩ = some (.float .f64 t1)) ∧ w'.cell? ⟨rc, 0, none⟩ = some (.pointer (some ⟨bc, 0, none⟩)) ∧ w'.cell? ⟨rc, 1, none⟩ = some (.int .i64 (pE x))) 36 (.take 0 (.take 1 (.run 2 (.run 3 (.take 4 (.take 5 (.take 6 (.take 7 (.take 8 (.take 9 (.take 10 (.take 11 (.take 12 (.take 14 (.take 15 (.take 18 (.run 13 (.run 16 (.run 17 (.run 19 (.take 20 (.take 21 (.take 22 (.take 23 (.take 24 (.run 25 (.take 26 (.take 27 (.take 28 (.take 29 (.take 31 (.take 32 (.take 35 (.run 30 (.run 33 (.run 34 (.nil))))))))))))))))))))))))))))))))))))) (by kernel_rfl) (by kernel_rfl) ?_
        replace HS := Lib.hid (HS.out.later (drew_below _))
        replace HC := Lib.hid (HC.out.below (drew_below _))
        replace HD := Lib.hid (HD.out.below (drew_below _))
        generalize World.drew _ = W53 at HS HC HD ⊢
        have hS : (fun w' : World => (w'.cell? ⟨r22, 0, none⟩ = some (.float .f64 t0) ∧ w'.cell? ⟨r22, 1, none⟩ = some (.float .f64 t1)) ∧ w'.cell? ⟨rc, 0, none⟩ = some (.pointer (some ⟨bc, 0, none⟩)) ∧ w'.cell? ⟨rc, 1, none⟩ = some (.int .i64 (pE x))) W53 := HS.out.two2
        repeat (first | (refine wpPl_takeL (v := ?_) rfl rfl (fun _ _ _ h => h) rfl (fun w' hSw => ?_) hS ?_; rotate_left; (focus (go_simp; with_reducible rfl)); simp only [List.setIfInBounds_toArray, List.set_cons_zero, List.set_cons_succ]) | (refine wpPl_skipL rfl rfl (fun _ _ _ h => h) rfl hS ?_; simp only [List.setIfInBounds_toArray, List.set_cons_zero, List.set_cons_succ]))
        clear hS
        refine wpPl_goL rfl rfl fun K' hK => ?_
        go_simp
        refine (HSM.out _).mono ?_
        rintro e1 W53v1 ⟨rfl, hb1⟩
        replace HS := Lib.hid (HS.out.later hb1)
        replace HC := Lib.hid (HC.out.below hb1)
        replace HD := Lib.hid (HD.out.below hb1)
        refine hK _ _ HS.out.two2 ?_
        clear hK K' hb1
        try simp only [Act.put, List.setIfInBounds_toArray, List.set_cons_zero, List.set_cons_succ]
        have hS : (fun w' : World => (w'.cell? ⟨r22, 0, none⟩ = some (.float .f64 t0) ∧ w'.cell? ⟨r22, 1, none⟩ = some (.float .f64 t1)) ∧ w'.cell? ⟨rc, 0, none⟩ = some (.pointer (some ⟨bc, 0, none⟩)) ∧ w'.cell? ⟨rc, 1, none⟩ = some (.int .i64 (pE x))) W53v1 := HS.out.two2
        repeat (first | (refine wpPl_takeL (v := ?_) rfl rfl (fun _ _ _ h => h) rfl (fun w' hSw => ?_) hS ?_; rotate_left; (focus (go_simp; with_reducible rfl)); simp only [List.setIfInBounds_toArray, List.set_cons_zero, List.set_cons_succ]) | (refine wpPl_skipL rfl rfl (fun _ _ _ h => h) rfl hS ?_; simp only [List.setIfInBounds_toArray, List.set_cons_zero, List.set_cons_succ]))
        clear hS
        refine wpPl_goL rfl rfl fun K' hK => ?_
        go_simp
        refine (HRQ.out _).mono ?_
        rintro e1 W53v2 ⟨rfl, hb1⟩
        replace HS := Lib.hid (HS.out.later hb1)
        replace HC := Lib.hid (HC.out.below hb1)
        replace HD := Lib.hid (HD.out.below hb1)
        refine hK _ _ HS.out.two2 ?_
        clear hK K' hb1
        try simp only [Act.put, List.setIfInBounds_toArray, List.set_cons_zero, List.set_cons_succ]
        have hS : (fun w' : World => (w'.cell? ⟨r22, 0, none⟩ = some (.float .f64 t0) ∧ w'.cell? ⟨r22, 1, none⟩ = some (.float .f64 t1)) ∧ w'.cell? ⟨rc, 0, none⟩ = some (.pointer (some ⟨bc, 0, none⟩)) ∧ w'.cell? ⟨rc, 1, none⟩ = some (.int .i64 (pE x))) W53v2 := HS.out.two2
        repeat (first | (refine wpPl_takeL (v := ?_) rfl rfl (fun _ _ _ h => h) rfl (fun w' hSw => ?_) hS ?_; rotate_left; (focus (go_simp; with_reducible rfl)); simp only [List.setIfInBounds_toArray, List.set_cons_zero, List.set_cons_succ]) | (refine wpPl_skipL rfl rfl (fun _ _ _ h => h) rfl hS ?_; simp only [List.setIfInBounds_toArray, List.set_cons_zero, List.set_cons_succ]))
        clear hS
        refine wpPl_goL rfl rfl fun K' hK => ?_
        go_simp
        refine (HO0.out _).mono ?_
        rintro e1 W53v3 ⟨o1, rfl, -, hi1, hb1⟩
        replace HS := Lib.hid (HS.out.later hb1)
        replace HC := Lib.hid (HC.out.below hb1)
        replace HD := Lib.hid (HD.out.below hb1)
        have HZ1 := Lib.hid hi1
        clear hi1
        unfold ExV
        refine hK _ _ HS.out.two2 ?_
        clear hK K' hb1
        try simp only [Act.put, List.setIfInBounds_toArray, List.set_cons_zero, List.set_cons_succ]
        have hS : (fun w' : World => (w'.cell? ⟨r22, 0, none⟩ = some (.float .f64 t0) ∧ w'.cell? ⟨r22, 1, none⟩ = some (.float .f64 t1)) ∧ w'.cell? ⟨rc, 0, none⟩ = some (.pointer (some ⟨bc, 0, none⟩)) ∧ w'.cell? ⟨rc, 1, none⟩ = some (.int .i64 (pE x))) W53v3 := HS.out.two2
        repeat (first | (refine wpPl_takeL (v := ?_) rfl rfl (fun _ _ _ h => h) rfl (fun w' hSw => ?_) hS ?_; rotate_left; (focus (go_simp; with_reducible rfl)); simp only [List.setIfInBounds_toArray, List.set_cons_zero, List.set_cons_succ]) | (refine wpPl_skipL rfl rfl (fun _ _ _ h => h) rfl hS ?_; simp only [List.setIfInBounds_toArray, List.set_cons_zero, List.set_cons_succ]))
        clear hS
        refine wpPl_goL rfl rfl fun K' hK => ?_
        go_simp
        refine (HO0.out _).mono ?_
        rintro e1 W53v4 ⟨o2, rfl, -, hi1, hb1⟩
        replace HS := Lib.hid (HS.out.later hb1)
        replace HC := Lib.hid (HC.out.below hb1)
        replace HD := Lib.hid (HD.out.below hb1)
        replace HZ1 := Lib.hid (HZ1.out.below hb1)
        have HZ2 := Lib.hid hi1
        clear hi1
        unfold ExV
        refine hK _ _ HS.out.two2 ?_
        clear hK K' hb1
        try simp only [Act.put, List.setIfInBounds_toArray, List.set_cons_zero, List.set_cons_succ]
        have hS : (fun w' : World => (w'.cell? ⟨r22, 0, none⟩ = some (.float .f64 t0) ∧ w'.cell? ⟨r22, 1, none⟩ = some (.float .f64 t1)) ∧ w'.cell? ⟨rc, 0, none⟩ = some (.pointer (some ⟨bc, 0, none⟩)) ∧ w'.cell? ⟨rc, 1, none⟩ = some (.int .i64 (pE x))) W53v4 := HS.out.two2
        repeat (first | (refine wpPl_takeL (v := ?_) rfl rfl (fun _ _ _ h => h) rfl (fun w' hSw => ?_) hS ?_; rotate_left; (focus (go_simp; with_reducible rfl)); simp only [List.setIfInBounds_toArray, List.set_cons_zero, List.set_cons_succ]) | (refine wpPl_skipL rfl rfl (fun _ _ _ h => h) rfl hS ?_; simp only [List.setIfInBounds_toArray, List.set_cons_zero, List.set_cons_succ]))
        clear hS
        refine wpPl_goL rfl rfl fun K' hK => ?_
        go_simp
        refine (HM0.out _ _ _ HZ1.out HZ2.out).mono ?_
        rintro e1 W53v5 ⟨o3, rfl, -, hi1, hb1⟩
        replace HS := Lib.hid (HS.out.later hb1)
        replace HC := Lib.hid (HC.out.below hb1)
        replace HD := Lib.hid (HD.out.below hb1)
        clear HZ1 HZ2
        have HZ3 := Lib.hid hi1
        clear hi1
        unfold ExV
        refine hK _ _ HS.out.two2 ?_
        clear hK K' hb1
        try simp only [Act.put, List.setIfInBounds_toArray, List.set_cons_zero, List.set_cons_succ]
        have hS : (fun w' : World => (w'.cell? ⟨r22, 0, none⟩ = some (.float .f64 t0) ∧ w'.cell? ⟨r22, 1, none⟩ = some (.float .f64 t1)) ∧ w'.cell? ⟨rc, 0, none⟩ = some (.pointer (some ⟨bc, 0, none⟩)) ∧ w'.cell? ⟨rc, 1, none⟩ = some (.int .i64 (pE x))) W53v5 := HS.out.two2
        repeat (first | (refine wpPl_takeL (v := ?_) rfl rfl (fun _ _ _ h => h) rfl (fun w' hSw => ?_) hS ?_; rotate_left; (focus (go_simp; with_reducible rfl)); simp only [List.setIfInBounds_toArray, List.set_cons_zero, List.set_cons_succ]) | (refine wpPl_skipL rfl rfl (fun _ _ _ h => h) rfl hS ?_; simp only [List.setIfInBounds_toArray, List.set_cons_zero, List.set_cons_succ]))
        clear hS
        refine wpPl_goL rfl rfl fun K' hK => ?_
        go_simp
        refine (HC0.out _ _ _ HZ3.out HC.out).mono ?_
        rintro e1 W53v6 ⟨rfl, hb1⟩
        replace HS := Lib.hid (HS.out.later hb1)
        replace HC := Lib.hid (HC.out.below hb1)
        replace HD := Lib.hid (HD.out.below hb1)
        clear HZ3
        refine hK _ _ HS.out.two2 ?_
        clear hK K' hb1
        try simp only [Act.put, List.setIfInBounds_toArray, List.set_cons_zero, List.set_cons_succ]
        have hS : (fun w' : World => (w'.cell? ⟨r22, 0, none⟩ = some (.float .f64 t0) ∧ w'.cell? ⟨r22, 1, none⟩ = some (.float .f64 t1)) ∧ w'.cell? ⟨rc, 0, none⟩ = some (.pointer (some ⟨bc, 0, none⟩)) ∧ w'.cell? ⟨rc, 1, none⟩ = some (.int .i64 (pE x))) W53v6 := HS.out.two2
        repeat (first | (refine wpPl_takeL (v := ?_) rfl rfl (fun _ _ _ h => h) rfl (fun w' hSw => ?_) hS ?_; rotate_left; (focus (go_simp; with_reducible rfl)); simp only [List.setIfInBounds_toArray, List.set_cons_zero, List.set_cons_succ]) | (refine wpPl_skipL rfl rfl (fun _ _ _ h => h) rfl hS ?_; simp only [List.setIfInBounds_toArray, List.set_cons_zero, List.set_cons_succ]))
        clear hS
        refine wpPl_goL rfl rfl fun K' hK => ?_
        go_simp
        refine (HIN.out _).mono ?_
        rintro e1 W53v7 ⟨rfl, hb1⟩
        replace HS := Lib.hid (HS.out.later hb1)
        replace HC := Lib.hid (HC.out.below hb1)
        replace HD := Lib.hid (HD.out.below hb1)
        refine hK _ _ HS.out.two2 ?_
        clear hK K' hb1
        try simp only [Act.put, List.setIfInBounds_toArray, List.set_cons_zero, List.set_cons_succ]
        have hS : (fun w' : World => (w'.cell? ⟨r22, 0, none⟩ = some (.float .f64 t0) ∧ w'.cell? ⟨r22, 1, none⟩ = some (.float .f64 t1)) ∧ w'.cell? ⟨rc, 0, none⟩ = some (.pointer (some ⟨bc, 0, none⟩)) ∧ w'.cell? ⟨rc, 1, none⟩ = some (.int .i64 (pE x))) W53v7 := HS.out.two2
        repeat (first | (refine wpPl_takeL (v := ?_) rfl rfl (fun _ _ _ h => h) rfl (fun w' hSw => ?_) hS ?_; rotate_left; (focus (go_simp; with_reducible rfl)); simp only [List.setIfInBounds_toArray, List.set_cons_zero, List.set_cons_succ]) | (refine wpPl_skipL rfl rfl (fun _ _ _ h => h) rfl hS ?_; simp only [List.setIfInBounds_toArray, List.set_cons_zero, List.set_cons_succ]))
        refine wpPl_idleL rfl rfl rfl hS ?_
        simp only [List.setIfInBounds_toArray, List.set_cons_zero, List.set_cons_succ]
        repeat (first | (refine wpPl_takeL (v := ?_) rfl rfl (fun _ _ _ h => h) rfl (fun w' hSw => ?_) hS ?_; rotate_left; (focus (go_simp; with_reducible rfl)); simp only [List.setIfInBounds_toArray, List.set_cons_zero, List.set_cons_succ]) | (refine wpPl_skipL rfl rfl (fun _ _ _ h => h) rfl hS ?_; simp only [List.setIfInBounds_toArray, List.set_cons_zero, List.set_cons_succ]))
        refine wpPl_idleL rfl rfl rfl hS ?_
        simp only [List.setIfInBounds_toArray, List.set_cons_zero, List.set_cons_succ]
        repeat (first | (refine wpPl_takeL (v := ?_) rfl rfl (fun _ _ _ h => h) rfl (fun w' hSw => ?_) hS ?_; rotate_left; (focus (go_simp; with_reducible rfl)); simp only [List.setIfInBounds_toArray, List.set_cons_zero, List.set_cons_succ]) | (refine wpPl_skipL rfl rfl (fun _ _ _ h => h) rfl hS ?_; simp only [List.setIfInBounds_toArray, List.set_cons_zero, List.set_cons_succ]))
        refine wpPl_idleL rfl rfl rfl hS ?_
        simp only [List.setIfInBounds_toArray, List.set_cons_zero, List.set_cons_succ]
        repeat (first | (refine wpPl_takeL (v := ?_) rfl rfl (fun _ _ _ h => h) rfl (fun w' hSw => ?_) hS ?_; rotate_left; (focus (go_simp; with_reducible rfl)); simp only [List.setIfInBounds_toArray, List.set_cons_zero, List.set_cons_succ]) | (refine wpPl_skipL rfl rfl (fun _ _ _ h => h) rfl hS ?_; simp only [List.setIfInBounds_toArray, List.set_cons_zero, List.set_cons_succ]))
        clear hS
        refine wpPl_nil ?_
        simp only [List.drop_succ_cons, List.drop_zero]
        go_wp2
        go_meet
        exact ⟨Lib.hid (HS.out.sub (fun t m => .tail _ (.tail _ m))), HC, HD⟩
      · obtain ⟨z2, e2, S2, i1, i2, i3, i4⟩ := h9 ft
        rw [ft, Bool.not_true] at HIN
        have HO1 := Lib.hid i1
        have HM1 := Lib.hid i2
        have HC1 := Lib.hid i3
        clear h9 ft i1 i2 i3
        generalize z2 * z2 = zz2 at *
        generalize e2 + e2 = ee2 at *
        obtain ⟨la0, la1⟩ : (wc.cell? ⟨ra, 0, none⟩ = some (.float .f64 p0) ∧ wc.cell? ⟨ra, 1, none⟩ = some (.float .f64 p1)) := HS.out.two (.tail _ (.tail _ (.tail _ (.tail _ (.tail _ (.head _))))))
        go_wp2_with fail
        refine (HSQI.out _ (HT.out.below HS.out.2)).mono ?_
        rintro e51 w51 ⟨rfl, hb51⟩
        replace HS := Lib.hid (HS.out.later hb51)
        replace HC := Lib.hid (HC.out.below hb51)
        replace HD := Lib.hid (HD.out.below hb51)
        clear hb51
        clear la0 la1
        go_upto_region 19 with fail
        replace HS := Lib.hid (HS.out.alloc #[.float .f64 t0, .float .f64 t1] 34)
        replace HC := Lib.hid (HC.out.below (Below.alloc_self w51 (.cells #[.float .f64 t0, .float .f64 t1] 34)))
        replace HD := Lib.hid (HD.out.below (Below.alloc_self w51 (.cells #[.float .f64 t0, .float .f64 t1] 34)))
        generalize World.alloc w51 _ = W52 at HS HC HD ⊢
        generalize w51.heap.size = r22 at HS ⊢
        replace HS := Lib.hid (HS.out.sub (l' := (r22, 34, #[.float .f64 t0, .float .f64 t1]) :: (rc, 27, #[.pointer (some ⟨bc, 0, none⟩), .int .i64 (pE x)]) :: [(r9, 34, #[.float .f64 a0, .float .f64 a1]), (r10, 34, #[.float .f64 b0, .float .f64 b1]), (r11, 34, #[.float .f64 c0, .float .f64 c1]), (rc, 27, #[.pointer (some ⟨bc, 0, none⟩), .int .i64 (pE x)]), (rd, 27, #[.pointer (some ⟨bd, 0, none⟩), .int .i64 (pE y)]), (ra, 34, #[.float .f64 p0, .float .f64 p1]), (rb, 34, #[.float .f64 q0, .float .f64 q1])]) (by intro t m; simp only [List.mem_cons, List.not_mem_nil, or_false] at m ⊢; rcases m with rfl | rfl | rfl | rfl | rfl | rfl | rfl | rfl | rfl <;> simp))
        refine wp_region_pl (fun w' : World => (w'.cell? ⟨r22, 0, none⟩ = some (.float .f64 t0) ∧ w'.cell? ⟨r22, 1, none⟩ = some (.float .f64 t1)) ∧ w'.cell? ⟨rc, 0, none⟩ = some (.pointer (some ⟨bc, 0, none⟩)) ∧ w'.cell? ⟨rc, 1, none⟩ = some (.int .i64 (pE x))) 36 (.take 0 (.take 1 (.run 2 (.run 3 (.take 4 (.take 5 (.take 6 (.take 7 (.take 8 (.take 9 (.take 10 (.take 11 (.take 12 (.take 14 (.take 15 (.take 18 (.run 13 (.run 16 (.run 17 (.run 19 (.take 20 (.take 21 (.take 22 (.take 23 (.take 24 (.run 25 (.take 26 (.take 27 (.take 28 (.take 29 (.take 31 (.take 32 (.take 35 (.run 30 (.run 33 (.run 34 (.nil))))))))))))))))))))))))))))))))))))) (by kernel_rfl) (by kernel_rfl) ?_
        replace HS := Lib.hid (HS.out.later (drew_below _))
        replace HC := Lib.hid (HC.out.below (drew_below _))
        replace HD := Lib.hid (HD.out.below (drew_below _))
        generalize World.drew _ = W53 at HS HC HD ⊢
        have hS : (fun w' : World => (w'.cell? ⟨r22, 0, none⟩ = some (.float .f64 t0) ∧ w'.cell? ⟨r22, 1, none⟩ = some (.float .f64 t1)) ∧ w'.cell? ⟨rc, 0, none⟩ = some (.pointer (some ⟨bc, 0, none⟩)) ∧ w'.cell? ⟨rc, 1, none⟩ = some (.int .i64 (pE x))) W53 := HS.out.two2
        repeat (first | (refine wpPl_takeL (v := ?_) rfl rfl (fun _ _ _ h => h) rfl (fun w' hSw => ?_) hS ?_; rotate_left; (focus (go_simp; with_reducible rfl)); simp only [List.setIfInBounds_toArray, List.set_cons_zero, List.set_cons_succ]) | (refine wpPl_skipL rfl rfl (fun _ _ _ h => h) rfl hS ?_; simp only [List.setIfInBounds_toArray, List.set_cons_zero, List.set_cons_succ]))
        clear hS
        refine wpPl_goL rfl rfl fun K' hK => ?_
        go_simp
        refine (HSM.out _).mono ?_
        rintro e1 W53v1 ⟨rfl, hb1⟩
        replace HS := Lib.hid (HS.out.later hb1)
        replace HC := Lib.hid (HC.out.below hb1)
        replace HD := Lib.hid (HD.out.below hb1)
        refine hK _ _ HS.out.two2 ?_
        clear hK K' hb1
        try simp only [Act.put, List.setIfInBounds_toArray, List.set_cons_zero, List.set_cons_succ]
        have hS : (fun w' : World => (w'.cell? ⟨r22, 0, none⟩ = some (.float .f64 t0) ∧ w'.cell? ⟨r22, 1, none⟩ = some (.float .f64 t1)) ∧ w'.cell? ⟨rc, 0, none⟩ = some (.pointer (some ⟨bc, 0, none⟩)) ∧ w'.cell? ⟨rc, 1, none⟩ = some (.int .i64 (pE x))) W53v1 := HS.out.two2
        repeat (first | (refine wpPl_takeL (v := ?_) rfl rfl (fun _ _ _ h => h) rfl (fun w' hSw => ?_) hS ?_; rotate_left; (focus (go_simp; with_reducible rfl)); simp only [List.setIfInBounds_toArray, List.set_cons_zero, List.set_cons_succ]) | (refine wpPl_skipL rfl rfl (fun _ _ _ h => h) rfl hS ?_; simp only [List.setIfInBounds_toArray, List.set_cons_zero, List.set_cons_succ]))
        clear hS
        refine wpPl_goL rfl rfl fun K' hK => ?_
        go_simp
        refine (HRQ.out _).mono ?_
        rintro e1 W53v2 ⟨rfl, hb1⟩
        replace HS := Lib.hid (HS.out.later hb1)
        replace HC := Lib.hid (HC.out.below hb1)
        replace HD := Lib.hid (HD.out.below hb1)
        refine hK _ _ HS.out.two2 ?_
        clear hK K' hb1
        try simp only [Act.put, List.setIfInBounds_toArray, List.set_cons_zero, List.set_cons_succ]
        have hS : (fun w' : World => (w'.cell? ⟨r22, 0, none⟩ = some (.float .f64 t0) ∧ w'.cell? ⟨r22, 1, none⟩ = some (.float .f64 t1)) ∧ w'.cell? ⟨rc, 0, none⟩ = some (.pointer (some ⟨bc, 0, none⟩)) ∧ w'.cell? ⟨rc, 1, none⟩ = some (.int .i64 (pE x))) W53v2 := HS.out.two2
        repeat (first | (refine wpPl_takeL (v := ?_) rfl rfl (fun _ _ _ h => h) rfl (fun w' hSw => ?_) hS ?_; rotate_left; (focus (go_simp; with_reducible rfl)); simp only [List.setIfInBounds_toArray, List.set_cons_zero, List.set_cons_succ]) | (refine wpPl_skipL rfl rfl (fun _ _ _ h => h) rfl hS ?_; simp only [List.setIfInBounds_toArray, List.set_cons_zero, List.set_cons_succ]))
        clear hS
        refine wpPl_goL rfl rfl fun K' hK => ?_
        go_simp
        refine (HO0.out _).mono ?_
        rintro e1 W53v3 ⟨o1, rfl, -, hi1, hb1⟩
        replace HS := Lib.hid (HS.out.later hb1)
        replace HC := Lib.hid (HC.out.below hb1)
        replace HD := Lib.hid (HD.out.below hb1)
        have HZ1 := Lib.hid hi1
        clear hi1
        unfold ExV
        refine hK _ _ HS.out.two2 ?_
        clear hK K' hb1
        try simp only [Act.put, List.setIfInBounds_toArray, List.set_cons_zero, List.set_cons_succ]
        have hS : (fun w' : World => (w'.cell? ⟨r22, 0, none⟩ = some (.float .f64 t0) ∧ w'.cell? ⟨r22, 1, none⟩ = some (.float .f64 t1)) ∧ w'.cell? ⟨rc, 0, none⟩ = some (.pointer (some ⟨bc, 0, none⟩)) ∧ w'.cell? ⟨rc, 1, none⟩ = some (.int .i64 (pE x))) W53v3 := HS.out.two2
        repeat (first | (refine wpPl_takeL (v := ?_) rfl rfl (fun _ _ _ h => h) rfl (fun w' hSw => ?_) hS ?_; rotate_left; (focus (go_simp; with_reducible rfl)); simp only [List.setIfInBounds_toArray, List.set_cons_zero, List.set_cons_succ]) | (refine wpPl_skipL rfl rfl (fun _ _ _ h => h) rfl hS ?_; simp only [List.setIfInBounds_toArray, List.set_cons_zero, List.set_cons_succ]))
        clear hS
        refine wpPl_goL rfl rfl fun K' hK => ?_
        go_simp
        refine (HO0.out _).mono ?_
        rintro e1 W53v4 ⟨o2, rfl, -, hi1, hb1⟩
        replace HS := Lib.hid (HS.out.later hb1)
        replace HC := Lib.hid (HC.out.below hb1)
        replace HD := Lib.hid (HD.out.below hb1)
        replace HZ1 := Lib.hid (HZ1.out.below hb1)
        have HZ2 := Lib.hid hi1
        clear hi1
        unfold ExV
        refine hK _ _ HS.out.two2 ?_
        clear hK K' hb1
        try simp only [Act.put, List.setIfInBounds_toArray, List.set_cons_zero, List.set_cons_succ]
        have hS : (fun w' : World => (w'.cell? ⟨r22, 0, none⟩ = some (.float .f64 t0) ∧ w'.cell? ⟨r22, 1, none⟩ = some (.float .f64 t1)) ∧ w'.cell? ⟨rc, 0, none⟩ = some (.pointer (some ⟨bc, 0, none⟩)) ∧ w'.cell? ⟨rc, 1, none⟩ = some (.int .i64 (pE x))) W53v4 := HS.out.two2
        repeat (first | (refine wpPl_takeL (v := ?_) rfl rfl (fun _ _ _ h => h) rfl (fun w' hSw => ?_) hS ?_; rotate_left; (focus (go_simp; with_reducible rfl)); simp only [List.setIfInBounds_toArray, List.set_cons_zero, List.set_cons_succ]) | (refine wpPl_skipL rfl rfl (fun _ _ _ h => h) rfl hS ?_; simp only [List.setIfInBounds_toArray, List.set_cons_zero, List.set_cons_succ]))
        clear hS
        refine wpPl_goL rfl rfl fun K' hK => ?_
        go_simp
        refine (HM0.out _ _ _ HZ1.out HZ2.out).mono ?_
        rintro e1 W53v5 ⟨o3, rfl, -, hi1, hb1⟩
        replace HS := Lib.hid (HS.out.later hb1)
        replace HC := Lib.hid (HC.out.below hb1)
        replace HD := Lib.hid (HD.out.below hb1)
        clear HZ1 HZ2
        have HZ3 := Lib.hid hi1
        clear hi1
        unfold ExV
        refine hK _ _ HS.out.two2 ?_
        clear hK K' hb1
        try simp only [Act.put, List.setIfInBounds_toArray, List.set_cons_zero, List.set_cons_succ]
        have hS : (fun w' : World => (w'.cell? ⟨r22, 0, none⟩ = some (.float .f64 t0) ∧ w'.cell? ⟨r22, 1, none⟩ = some (.float .f64 t1)) ∧ w'.cell? ⟨rc, 0, none⟩ = some (.pointer (some ⟨bc, 0, none⟩)) ∧ w'.cell? ⟨rc, 1, none⟩ = some (.int .i64 (pE x))) W53v5 := HS.out.two2
        repeat (first | (refine wpPl_takeL (v := ?_) rfl rfl (fun _ _ _ h => h) rfl (fun w' hSw => ?_) hS ?_; rotate_left; (focus (go_simp; with_reducible rfl)); simp only [List.setIfInBounds_toArray, List.set_cons_zero, List.set_cons_succ]) | (refine wpPl_skipL rfl rfl (fun _ _ _ h => h) rfl hS ?_; simp only [List.setIfInBounds_toArray, List.set_cons_zero, List.set_cons_succ]))
        clear hS
        refine wpPl_goL rfl rfl fun K' hK => ?_
        go_simp
        refine (HC0.out _ _ _ HZ3.out HC.out).mono ?_
        rintro e1 W53v6 ⟨rfl, hb1⟩
        replace HS := Lib.hid (HS.out.later hb1)
        replace HC := Lib.hid (HC.out.below hb1)
        replace HD := Lib.hid (HD.out.below hb1)
        clear HZ3
        refine hK _ _ HS.out.two2 ?_
        clear hK K' hb1
        try simp only [Act.put, List.setIfInBounds_toArray, List.set_cons_zero, List.set_cons_succ]
        have hS : (fun w' : World => (w'.cell? ⟨r22, 0, none⟩ = some (.float .f64 t0) ∧ w'.cell? ⟨r22, 1, none⟩ = some (.float .f64 t1)) ∧ w'.cell? ⟨rc, 0, none⟩ = some (.pointer (some ⟨bc, 0, none⟩)) ∧ w'.cell? ⟨rc, 1, none⟩ = some (.int .i64 (pE x))) W53v6 := HS.out.two2
        repeat (first | (refine wpPl_takeL (v := ?_) rfl rfl (fun _ _ _ h => h) rfl (fun w' hSw => ?_) hS ?_; rotate_left; (focus (go_simp; with_reducible rfl)); simp only [List.setIfInBounds_toArray, List.set_cons_zero, List.set_cons_succ]) | (refine wpPl_skipL rfl rfl (fun _ _ _ h => h) rfl hS ?_; simp only [List.setIfInBounds_toArray, List.set_cons_zero, List.set_cons_succ]))
        clear hS
        refine wpPl_goL rfl rfl fun K' hK => ?_
        go_simp
        refine (HIN.out _).mono ?_
        rintro e1 W53v7 ⟨rfl, hb1⟩
        replace HS := Lib.hid (HS.out.later hb1)
        replace HC := Lib.hid (HC.out.below hb1)
        replace HD := Lib.hid (HD.out.below hb1)
        refine hK _ _ HS.out.two2 ?_
        clear hK K' hb1
        try simp only [Act.put, List.setIfInBounds_toArray, List.set_cons_zero, List.set_cons_succ]
        have hS : (fun w' : World => (w'.cell? ⟨r22, 0, none⟩ = some (.float .f64 t0) ∧ w'.cell? ⟨r22, 1, none⟩ = some (.float .f64 t1)) ∧ w'.cell? ⟨rc, 0, none⟩ = some (.pointer (some ⟨bc, 0, none⟩)) ∧ w'.cell? ⟨rc, 1, none⟩ = some (.int .i64 (pE x))) W53v7 := HS.out.two2
        repeat (first | (refine wpPl_takeL (v := ?_) rfl rfl (fun _ _ _ h => h) rfl (fun w' hSw => ?_) hS ?_; rotate_left; (focus (go_simp; with_reducible rfl)); simp only [List.setIfInBounds_toArray, List.set_cons_zero, List.set_cons_succ]) | (refine wpPl_skipL rfl rfl (fun _ _ _ h => h) rfl hS ?_; simp only [List.setIfInBounds_toArray, List.set_cons_zero, List.set_cons_succ]))
        clear hS
        refine wpPl_goL rfl rfl fun K' hK => ?_
        go_simp
        refine (HO1.out _).mono ?_
        rintro e1 W53v8 ⟨o4, rfl, -, hi1, hb1⟩
        replace HS := Lib.hid (HS.out.later hb1)
        replace HC := Lib.hid (HC.out.below hb1)
        replace HD := Lib.hid (HD.out.below hb1)
        have HZ4 := Lib.hid hi1
        clear hi1
        unfold ExV
        refine hK _ _ HS.out.two2 ?_
        clear hK K' hb1
        try simp only [Act.put, List.setIfInBounds_toArray, List.set_cons_zero, List.set_cons_succ]
        have hS : (fun w' : World => (w'.cell? ⟨r22, 0, none⟩ = some (.float .f64 t0) ∧ w'.cell? ⟨r22, 1, none⟩ = some (.float .f64 t1)) ∧ w'.cell? ⟨rc, 0, none⟩ = some (.pointer (some ⟨bc, 0, none⟩)) ∧ w'.cell? ⟨rc, 1, none⟩ = some (.int .i64 (pE x))) W53v8 := HS.out.two2
        repeat (first | (refine wpPl_takeL (v := ?_) rfl rfl (fun _ _ _ h => h) rfl (fun w' hSw => ?_) hS ?_; rotate_left; (focus (go_simp; with_reducible rfl)); simp only [List.setIfInBounds_toArray, List.set_cons_zero, List.set_cons_succ]) | (refine wpPl_skipL rfl rfl (fun _ _ _ h => h) rfl hS ?_; simp only [List.setIfInBounds_toArray, List.set_cons_zero, List.set_cons_succ]))
        clear hS
        refine wpPl_goL rfl rfl fun K' hK => ?_
        go_simp
        refine (HO1.out _).mono ?_
        rintro e1 W53v9 ⟨o5, rfl, -, hi1, hb1⟩
        replace HS := Lib.hid (HS.out.later hb1)
        replace HC := Lib.hid (HC.out.below hb1)
        replace HD := Lib.hid (HD.out.below hb1)
        replace HZ4 := Lib.hid (HZ4.out.below hb1)
        have HZ5 := Lib.hid hi1
        clear hi1
        unfold ExV
        refine hK _ _ HS.out.two2 ?_
        clear hK K' hb1
        try simp only [Act.put, List.setIfInBounds_toArray, List.set_cons_zero, List.set_cons_succ]
        have hS : (fun w' : World => (w'.cell? ⟨r22, 0, none⟩ = some (.float .f64 t0) ∧ w'.cell? ⟨r22, 1, none⟩ = some (.float .f64 t1)) ∧ w'.cell? ⟨rc, 0, none⟩ = some (.pointer (some ⟨bc, 0, none⟩)) ∧ w'.cell? ⟨rc, 1, none⟩ = some (.int .i64 (pE x))) W53v9 := HS.out.two2
        repeat (first | (refine wpPl_takeL (v := ?_) rfl rfl (fun _ _ _ h => h) rfl (fun w' hSw => ?_) hS ?_; rotate_left; (focus (go_simp; with_reducible rfl)); simp only [List.setIfInBounds_toArray, List.set_cons_zero, List.set_cons_succ]) | (refine wpPl_skipL rfl rfl (fun _ _ _ h => h) rfl hS ?_; simp only [List.setIfInBounds_toArray, List.set_cons_zero, List.set_cons_succ]))
        clear hS
        refine wpPl_goL rfl rfl fun K' hK => ?_
        go_simp
        refine (HM1.out _ _ _ HZ4.out HZ5.out).mono ?_
        rintro e1 W53v10 ⟨o6, rfl, -, hi1, hb1⟩
        replace HS := Lib.hid (HS.out.later hb1)
        replace HC := Lib.hid (HC.out.below hb1)
        replace HD := Lib.hid (HD.out.below hb1)
        clear HZ4 HZ5
        have HZ6 := Lib.hid hi1
        clear hi1
        unfold ExV
        refine hK _ _ HS.out.two2 ?_
        clear hK K' hb1
        try simp only [Act.put, List.setIfInBounds_toArray, List.set_cons_zero, List.set_cons_succ]
        have hS : (fun w' : World => (w'.cell? ⟨r22, 0, none⟩ = some (.float .f64 t0) ∧ w'.cell? ⟨r22, 1, none⟩ = some (.float .f64 t1)) ∧ w'.cell? ⟨rc, 0, none⟩ = some (.pointer (some ⟨bc, 0, none⟩)) ∧ w'.cell? ⟨rc, 1, none⟩ = some (.int .i64 (pE x))) W53v10 := HS.out.two2
        repeat (first | (refine wpPl_takeL (v := ?_) rfl rfl (fun _ _ _ h => h) rfl (fun w' hSw => ?_) hS ?_; rotate_left; (focus (go_simp; with_reducible rfl)); simp only [List.setIfInBounds_toArray, List.set_cons_zero, List.set_cons_succ]) | (refine wpPl_skipL rfl rfl (fun _ _ _ h => h) rfl hS ?_; simp only [List.setIfInBounds_toArray, List.set_cons_zero, List.set_cons_succ]))
        clear hS
        refine wpPl_nil ?_
        simp only [List.drop_succ_cons, List.drop_zero]
        obtain ⟨⟨g0, g1⟩, g2, g3⟩ := HS.out.two2
        go_wp2_with fail
        refine (HC1.out _ _ _ HZ6.out HC.out).mono ?_
        rintro e54 w54 ⟨rfl, hb54⟩
        replace HS := Lib.hid (HS.out.later hb54)
        replace HC := Lib.hid (HC.out.below hb54)
        replace HD := Lib.hid (HD.out.below hb54)
        clear hb54
        clear g0 g1 g2 g3 HZ6
        go_wp2
        go_meet
        exact ⟨Lib.hid (HS.out.sub (fun t m => .tail _ (.tail _ m))), HC, HD⟩
  case rest =>
  obtain ⟨HS, HC, HD⟩ := hcut
  clear hub HSV HD
  obtain ⟨la0, la1⟩ : (wc.cell? ⟨ra, 0, none⟩ = some (.float .f64 p0) ∧ wc.cell? ⟨ra, 1, none⟩ = some (.float .f64 p1)) := HS.out.two (.tail _ (.tail _ (.tail _ (.tail _ (.tail _ (.head _))))))
  go_wp2_with fail
  refine (HPW.out _ (HT.out.below HS.out.2)).mono ?_
  rintro e61 w61 ⟨rfl, hb61⟩
  replace HS := Lib.hid (HS.out.later hb61)
  replace HC := Lib.hid (HC.out.below hb61)
  clear hb61
  clear la0 la1
  go_upto_region 23 with fail
  replace HS := Lib.hid (HS.out.alloc #[.float .f64 v0, .float .f64 v1] 34)
  replace HC := Lib.hid (HC.out.below (Below.alloc_self w61 (.cells #[.float .f64 v0, .float .f64 v1] 34)))
  generalize World.alloc w61 _ = W62 at HS HC ⊢
  generalize w61.heap.size = r24 at HS ⊢
  go_wp2_with fail
  refine (HWH.out _).mono ?_
  rintro e63 w63 ⟨b1, rfl, -, hi63, hb63⟩
  replace HS := Lib.hid (HS.out.later hb63)
  replace HC := Lib.hid (HC.out.below hb63)
  have HP := Lib.hid hi63
  clear hi63
  unfold ExV
  clear hb63
  skip
  have HLB : Hid (w.heap.size ≤ w63.heap.size ∧ ∀ q ∈ ([(r24, 34, #[.float .f64 v0, .float .f64 v1]), (rc, 27, #[.pointer (some ⟨bc, 0, none⟩), .int .i64 (pE x)])] : List (Nat × Nat × Array Value)), q.1 ≠ w63.heap.size) := Lib.hid ⟨HS.out.size, fun q m e => by have := HS.out.lt q (by simp only [List.mem_cons, List.not_mem_nil, or_false] at m ⊢; rcases m with rfl | rfl <;> simp); omega⟩
  go_upto_region 24 with fail
  replace HS := Lib.hid (HS.out.alloc #[.pointer (some ⟨b1, 0, none⟩), .int .i64 0] 27)
  replace HC := Lib.hid (HC.out.below (Below.alloc_self w63 (.cells #[.pointer (some ⟨b1, 0, none⟩), .int .i64 0] 27)))
  replace HP := Lib.hid (HP.out.below (Below.alloc_self w63 (.cells #[.pointer (some ⟨b1, 0, none⟩), .int .i64 0] 27)))
  generalize World.alloc w63 _ = W64 at HS HC HP ⊢
  generalize w63.heap.size = r26 at HS HLB ⊢
  replace HS := Lib.hid (HS.out.sub (l' := [(r26, 27, #[.pointer (some ⟨b1, 0, none⟩), .int .i64 0]), (r24, 34, #[.float .f64 v0, .float .f64 v1]), (rc, 27, #[.pointer (some ⟨bc, 0, none⟩), .int .i64 (pE x)])]) (by intro t m; simp only [List.mem_cons, List.not_mem_nil, or_false] at m ⊢; rcases m with rfl | rfl | rfl <;> simp))
  go_wp2
  go_loopw [27] (fun i wr => ∃ (j bp : Nat), j ≤ k ∧ i = .int .i64 (j : Int) ∧ Hid (Bks w wr [(r26, 27, #[.pointer (some ⟨bp, 0, none⟩), .int .i64 (pE x * (j : Int))]), (r24, 34, #[.float .f64 v0, .float .f64 v1]), (rc, 27, #[.pointer (some ⟨bc, 0, none⟩), .int .i64 (pE x)])]) ∧ Hid (RInt wr bp (valZ x ^ j)) ∧ Hid (RInt wr bc (valZ x))) (fun i _ => k - (intOf i).toNat)
  case atStart => exact ⟨0, b1, Nat.zero_le _, rfl, Lib.hid (by rw [HE0.out]; exact HS.out), Lib.hid (by rw [HZ0.out]; exact HP.out), HC⟩
  case round =>
    clear HS HP HC HZ0 HE0 W64
    obtain ⟨j, bp, hj, rfl, HS, HP, HC⟩ := hrel
    by_cases hlt : j < k
    · have t9 : decide ((j : Int) < (k : Int)) = true := decide_eq_true (by omega)
      have HM := Lib.hid (HMN.out j hlt)
      have hwj : IntKind.i64.wrap ((j : Int) + 1) = (j : Int) + 1 := IntWalk.i64_in _ (by have := HKB.out; omega)
      generalize valZ x ^ j = zj at *
      generalize pE x * (j : Int) = ej at *
      obtain ⟨zn, hzn⟩ : ∃ t, valZ x ^ (j + 1) = t := ⟨_, rfl⟩
      obtain ⟨en, hen⟩ : ∃ t, pE x * ((j + 1 : Nat) : Int) = t := ⟨_, rfl⟩
      have HY := Lib.hid (And.intro hzn hen)
      rw [hzn, hen] at HM
      clear hzn hen
      obtain ⟨⟨⟨g0, g1⟩, g2, g3⟩, g4, g5⟩ := HS.out.tri
      go_wp2_with fail
      refine (HM.out _ _ _ HP.out HC.out).mono ?_
      rintro e71 w71 ⟨b2, rfl, -, hi71, hb71⟩
      replace HS := Lib.hid (HS.out.later hb71)
      replace HP := Lib.hid (HP.out.below hb71)
      replace HC := Lib.hid (HC.out.below hb71)
      have HN := Lib.hid hi71
      clear hi71
      unfold ExV
      clear hb71
      clear g0 g1 g2 g3 g4 g5
      obtain ⟨k0, k1, k2, k3⟩ := (HS.out.get (.head _)).cells2
      have HB26 := Lib.hid (HS.out.get (.head _))
      replace HS := Lib.hid (HS.out.set2 HLB.out.1 HLB.out.2 (.pointer (some ⟨b2, 0, none⟩)) (.int .i64 en))
      replace HC := Lib.hid (RInt.st2 HC.out HB26.out (.pointer (some ⟨b2, 0, none⟩)) (.int .i64 en))
      replace HN := Lib.hid (RInt.st2 HN.out HB26.out (.pointer (some ⟨b2, 0, none⟩)) (.int .i64 en))
      clear HB26 HP
      go_wp2
      go_roundw
      case rel => exact ⟨j + 1, b2, by omega, by go_num, Lib.hid (by rw [HY.out.2]; exact HS.out), Lib.hid (by rw [HY.out.1]; exact HN.out), HC⟩
      case measure => simp [intOf]; omega
    · obtain rfl : j = k := by omega
      have t9 : decide ((j : Int) < (j : Int)) = false := decide_eq_false (by omega)
      generalize valZ x ^ j = zj at *
      generalize pE x * (j : Int) = ej at *
      obtain ⟨⟨⟨g0, g1⟩, g2, g3⟩, g4, g5⟩ := HS.out.tri
      go_wp2_with fail
      refine (HHP.out _ _ HP.out).mono ?_
      rintro e72 w72 ⟨rfl, hb72⟩
      replace HS := Lib.hid (HS.out.later hb72)
      clear hb72
      clear g0 g1 g2 g3 g4 g5
      go_wp2
      go_ret
      exact ⟨rfl, HS.out.2⟩

end Go.Proofs.YtjokekmbnffpfaaGreatDoor
