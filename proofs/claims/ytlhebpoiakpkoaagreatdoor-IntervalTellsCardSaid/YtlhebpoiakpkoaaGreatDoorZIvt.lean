/- Walks: the references' Point; IntervalTells. Printed by wip/gen/iv13.py. -/
import Derived.Test.YtlhebpoiakpkoaaGreatDoorIG
import Derived.Test.YtlhebpoiakpkoaaGreatDoorZIvr
import Derived.Deep.CutRange
namespace Go.Proofs.YtlhebpoiakpkoaaGreatDoor
open Go.RowKit
attribute [local go_sem] run_store_f

set_option maxRecDepth 100000 in
set_option maxHeartbeats 1600000 in
theorem rPoint_iv (x : Nat) (w : World) (hx : W64 x) : Calls Tryz.prog 12 #[.float .f64 x] w (Gives (.tuple #[.agg #[.float .f64 (newB (finB x) (kb (ky x))), .float .f64 (newB (finB x) (kb (ky x)))], .int .i64 (newE (finB x))]) w) := by
  have HW := Lib.hid (IBox.new w 0 0)
  cases fx : finB x
  · rw [show newB false (kb (ky x)) = 0 from rfl, show newE false = 60 from rfl]
    have hs := sub_self_not hx fx
    have hsub : ∀ t w, (binOp .sub t (.float .f64 x) (.float .f64 x)).run Tryz.prog w = .ok (.float .f64 (fV .sub x x w)) (fN .sub x x w) := fun t w => run_float_any .sub (.inr (.inl rfl)) t x x w
    have hz : ∀ w, (FloatKind.f64.format.order (fV .sub x x w) 0 == some Ordering.eq) = false := fun w => by
      have hv : fV .sub x x w = nzB x x w := by
        have : floatBits .sub .f64 x x = none := hs
        unfold fV; rw [this]
      have hnn := order_nan (y := 0) (nz_nan x x w).2
      rw [← hv] at hnn
      unfold F6 at hnn; rw [hnn]; rfl
    have hz2 : ∀ w, (FloatKind.f64.format.order (fV .sub x x w) 0 != some Ordering.eq) = true := fun w => by rw [bne, hz]; rfl
    have HDN := Lib.hid fun w => fN_below .sub x x w
    clear hs fx hx
    go_enter Tryz.func12, Tryz.ntmps12
    go_upto_region 2 with fail
    replace HW := Lib.hid (HW.out.later (HDN.out _))
    generalize fN .sub x x _ = W1 at HW ⊢
    clear hsub hz hz2 HDN
    obtain ⟨q0, q1, q2, q3⟩ := HW.out.cells2
    go_wp2
    refine bodyPost_ret (v := .tuple #[.agg #[.float .f64 0, .float .f64 0], .int .i64 60]) (by simp [results, Tryz.results12, go_sem, q0, q1]) rfl ⟨rfl, HW.out.stored (Nat.le_refl _) _ _⟩
  · rw [show newB true (kb (ky x)) = kb (ky x) from rfl, show newE true = 0 from rfl]
    have hsub : ∀ t w, (binOp .sub t (.float .f64 x) (.float .f64 x)).run Tryz.prog w = .ok (.float .f64 0) w := fun t w => run_float_arith w .sub t .f64 _ _ _ (sub_self_fin hx fx)
    have hz : (FloatKind.f64.format.order 0 0 == some Ordering.eq) = true := by decide
    have hz2 : (FloatKind.f64.format.order 0 0 != some Ordering.eq) = false := by decide
    have HMK := Lib.hid fun W => rMade_any x x W hx hx (nan_fin fx) (nan_fin fx)
    generalize kb (ky x) = L at *
    clear fx hx
    go_enter Tryz.func12, Tryz.ntmps12
    go_wp2_with fail
    refine (HMK.out _).mono ?_
    rintro e1 w1 ⟨rfl, hb1⟩
    replace HW := Lib.hid (HW.out.later hb1)
    clear hb1 HMK hsub hz hz2
    obtain ⟨q0, q1, q2, q3⟩ := HW.out.cells2
    go_wp2
    refine bodyPost_ret (v := .tuple #[.agg #[.float .f64 L, .float .f64 L], .int .i64 0]) (by simp [results, Tryz.results12, go_sem, q0, q1]) rfl ⟨rfl, HW.out.stored (Nat.le_refl _) _ _⟩

/-- Two ends handed in, in a law's own blocks. -/
def EB2 (w0 W : World) (a0 a1 b0 b1 : Nat) : Prop := (BlkT W w0.heap.size 24 #[.int .u64 a0, .int .u64 a1] ∧ BlkT W (w0.heap.size + 1) 24 #[.int .u64 b0, .int .u64 b1]) ∧ Below w0.heap.size w0 W
theorem EB2.later {w0 W V : World} {a0 a1 b0 b1 : Nat} (h : EB2 w0 W a0 a1 b0 b1) (hb : Below W.heap.size W V) : EB2 w0 V a0 a1 b0 b1 := ⟨⟨h.1.1.below hb, h.1.2.below hb⟩, h.2.trans (hb.mono h.2.size)⟩
theorem EB2.size {w0 W : World} {a0 a1 b0 b1 : Nat} (h : EB2 w0 W a0 a1 b0 b1) : w0.heap.size ≤ W.heap.size := h.2.size
theorem EB2.new (w : World) (a0 a1 b0 b1 : Nat) : EB2 w ((w.alloc (.cells #[.int .u64 a0, .int .u64 a1] 24)).alloc (.cells #[.int .u64 b0, .int .u64 b1] 24)) a0 a1 b0 b1 := by
  have h1 := (Below.alloc_self w (.cells #[.int .u64 a0, .int .u64 a1] 24))
  exact ⟨⟨(BlkT.new w _ _).alloc _, BlkT.new1 w _ _ _⟩, h1.alloc h1.size _⟩
theorem EB2.cells {w0 W : World} {a0 a1 b0 b1 : Nat} (h : EB2 w0 W a0 a1 b0 b1) :
    (W.cell? ⟨w0.heap.size, 0, none⟩ = some (.int .u64 a0) ∧ W.cell? ⟨w0.heap.size, 1, none⟩ = some (.int .u64 a1)) ∧ W.cell? ⟨w0.heap.size + 1, 0, none⟩ = some (.int .u64 b0) ∧ W.cell? ⟨w0.heap.size + 1, 1, none⟩ = some (.int .u64 b1) :=
  ⟨⟨h.1.1.cell 0, h.1.1.cell 1⟩, h.1.2.cell 0, h.1.2.cell 1⟩

/-- Two intervals in a law's own blocks. -/
def S2b (w0 W : World) (x y a0 a1 b0 b1 : Nat) : Prop := IBox w0 W x a0 a1 ∧ IBox w0 W y b0 b1
theorem S2b.later {w0 W V : World} {x y a0 a1 b0 b1 : Nat} (h : S2b w0 W x y a0 a1 b0 b1) (hb : Below W.heap.size W V) : S2b w0 V x y a0 a1 b0 b1 := ⟨h.1.later hb, h.2.later hb⟩
theorem S2b.cells {w0 W : World} {x y a0 a1 b0 b1 : Nat} (h : S2b w0 W x y a0 a1 b0 b1) :
    (W.cell? ⟨x, 0, none⟩ = some (.float .f64 a0) ∧ W.cell? ⟨x, 1, none⟩ = some (.float .f64 a1)) ∧ W.cell? ⟨y, 0, none⟩ = some (.float .f64 b0) ∧ W.cell? ⟨y, 1, none⟩ = some (.float .f64 b1) := ⟨h.1.cells, h.2.cells⟩
theorem S2b.make {w0 B : World} {x y : Nat} (a0 a1 b0 b1 : Nat) (hb : Below w0.heap.size w0 B) (hx : BlkT B x 27 #[.float .f64 0, .float .f64 0]) (hy : BlkT B y 27 #[.float .f64 0, .float .f64 0])
    (lx : w0.heap.size ≤ x) (ly : w0.heap.size ≤ y) (nxy : x ≠ y) :
    S2b w0 ((((B.setCell ⟨x, 0, none⟩ (.float .f64 a0)).setCell ⟨x, 1, none⟩ (.float .f64 a1)).setCell ⟨y, 0, none⟩ (.float .f64 b0)).setCell ⟨y, 1, none⟩ (.float .f64 b1)) x y a0 a1 b0 b1 := by
  have hB := (((hb.setCell (p := ⟨x, 0, none⟩) lx (.float .f64 a0)).setCell (p := ⟨x, 1, none⟩) lx (.float .f64 a1)).setCell (p := ⟨y, 0, none⟩) ly (.float .f64 b0)).setCell (p := ⟨y, 1, none⟩) ly (.float .f64 b1)
  exact ⟨⟨(((hx.set (i := 0) (.float .f64 a0)).set (i := 1) (.float .f64 a1)).setOther nxy _).setOther nxy _, hB⟩, (((hy.setOther nxy.symm (i := 0) (.float .f64 a0)).setOther nxy.symm (i := 1) (.float .f64 a1)).set (i := 0) (.float .f64 b0)).set (i := 1) (.float .f64 b1), hB⟩

/-- And two more, behind them. -/
def T3b (w0 W : World) (x y z a0 a1 b0 b1 c0 c1 : Nat) : Prop := S2b w0 W x y a0 a1 b0 b1 ∧ IBox w0 W z c0 c1 ∧ w0.heap.size ≤ z ∧ x ≠ z ∧ y ≠ z
theorem T3b.later {w0 W V : World} {x y z a0 a1 b0 b1 c0 c1 : Nat} (h : T3b w0 W x y z a0 a1 b0 b1 c0 c1) (hb : Below W.heap.size W V) : T3b w0 V x y z a0 a1 b0 b1 c0 c1 := ⟨h.1.later hb, h.2.1.later hb, h.2.2⟩
theorem T3b.make {w0 W : World} {x y a0 a1 b0 b1 : Nat} (c0 c1 : Nat) (h : S2b w0 W x y a0 a1 b0 b1) : T3b w0 (W.alloc (.cells #[.float .f64 c0, .float .f64 c1] 27)) x y W.heap.size a0 a1 b0 b1 c0 c1 := by
  have h1 := h.1.1.lt
  have h2 := h.2.1.lt
  exact ⟨h.later (Below.alloc_self _ _), ⟨BlkT.new W _ _, h.1.2.alloc h.1.2.size _⟩, h.1.2.size, by omega, by omega⟩
theorem T3b.cells {w0 W : World} {x y z a0 a1 b0 b1 c0 c1 : Nat} (h : T3b w0 W x y z a0 a1 b0 b1 c0 c1) :
    ((W.cell? ⟨x, 0, none⟩ = some (.float .f64 a0) ∧ W.cell? ⟨x, 1, none⟩ = some (.float .f64 a1)) ∧ W.cell? ⟨y, 0, none⟩ = some (.float .f64 b0) ∧ W.cell? ⟨y, 1, none⟩ = some (.float .f64 b1)) ∧ W.cell? ⟨z, 0, none⟩ = some (.float .f64 c0) ∧ W.cell? ⟨z, 1, none⟩ = some (.float .f64 c1) ∧ W.frozen? ⟨z, 0, none⟩ = false ∧ W.frozen? ⟨z, 1, none⟩ = false := ⟨h.1.cells, h.2.1.cells2⟩
def T4b (w0 W : World) (x y z u a0 a1 b0 b1 c0 c1 d0 d1 : Nat) : Prop := T3b w0 W x y z a0 a1 b0 b1 c0 c1 ∧ IBox w0 W u d0 d1 ∧ w0.heap.size ≤ u ∧ (x ≠ u ∧ y ≠ u) ∧ z ≠ u
theorem T4b.later {w0 W V : World} {x y z u a0 a1 b0 b1 c0 c1 d0 d1 : Nat} (h : T4b w0 W x y z u a0 a1 b0 b1 c0 c1 d0 d1) (hb : Below W.heap.size W V) : T4b w0 V x y z u a0 a1 b0 b1 c0 c1 d0 d1 := ⟨h.1.later hb, h.2.1.later hb, h.2.2⟩
theorem T4b.make {w0 W : World} {x y z a0 a1 b0 b1 c0 c1 : Nat} (d0 d1 : Nat) (h : T3b w0 W x y z a0 a1 b0 b1 c0 c1) : T4b w0 (W.alloc (.cells #[.float .f64 d0, .float .f64 d1] 27)) x y z W.heap.size a0 a1 b0 b1 c0 c1 d0 d1 := by
  have h1 := h.1.1.1.lt
  have h2 := h.1.2.1.lt
  have h3 := h.2.1.1.lt
  exact ⟨h.later (Below.alloc_self _ _), ⟨BlkT.new W _ _, h.1.1.2.alloc h.1.1.2.size _⟩, h.1.1.2.size, ⟨by omega, by omega⟩, by omega⟩
theorem T4b.cells {w0 W : World} {x y z u a0 a1 b0 b1 c0 c1 d0 d1 : Nat} (h : T4b w0 W x y z u a0 a1 b0 b1 c0 c1 d0 d1) :
    (((W.cell? ⟨x, 0, none⟩ = some (.float .f64 a0) ∧ W.cell? ⟨x, 1, none⟩ = some (.float .f64 a1)) ∧ W.cell? ⟨y, 0, none⟩ = some (.float .f64 b0) ∧ W.cell? ⟨y, 1, none⟩ = some (.float .f64 b1)) ∧ W.cell? ⟨z, 0, none⟩ = some (.float .f64 c0) ∧ W.cell? ⟨z, 1, none⟩ = some (.float .f64 c1) ∧ W.frozen? ⟨z, 0, none⟩ = false ∧ W.frozen? ⟨z, 1, none⟩ = false) ∧ W.cell? ⟨u, 0, none⟩ = some (.float .f64 d0) ∧ W.cell? ⟨u, 1, none⟩ = some (.float .f64 d1) ∧ W.frozen? ⟨u, 0, none⟩ = false ∧ W.frozen? ⟨u, 1, none⟩ = false := ⟨h.1.cells, h.2.1.cells2⟩
theorem T4b.put {w0 W : World} {x y z u a0 a1 b0 b1 c0 c1 d0 d1 : Nat} (e0 e1 : Nat) (h : T4b w0 W x y z u a0 a1 b0 b1 c0 c1 d0 d1) :
    T4b w0 ((W.setCell ⟨z, 0, none⟩ (.float .f64 e0)).setCell ⟨z, 1, none⟩ (.float .f64 e1)) x y z u a0 a1 b0 b1 e0 e1 d0 d1 := by
  obtain ⟨⟨⟨⟨hx, _⟩, hy, _⟩, ⟨hz, hb⟩, lz, nxz, nyz⟩, ⟨hu, _⟩, lu, hn, nzu⟩ := h
  have hB := (hb.setCell (p := ⟨z, 0, none⟩) lz (.float .f64 e0)).setCell (p := ⟨z, 1, none⟩) lz (.float .f64 e1)
  exact ⟨⟨⟨⟨(hx.setOther nxz _).setOther nxz _, hB⟩, (hy.setOther nyz _).setOther nyz _, hB⟩, ⟨(hz.set (i := 0) (.float .f64 e0)).set (i := 1) (.float .f64 e1), hB⟩, lz, nxz, nyz⟩, ⟨(hu.setOther nzu.symm _).setOther nzu.symm _, hB⟩, lu, hn, nzu⟩
theorem T4b.put' {w0 W : World} {x y z u a0 a1 b0 b1 c0 c1 d0 d1 : Nat} (e0 e1 : Nat) (h : T4b w0 W x y z u a0 a1 b0 b1 c0 c1 d0 d1) :
    T4b w0 ((W.setCell ⟨u, 0, none⟩ (.float .f64 e0)).setCell ⟨u, 1, none⟩ (.float .f64 e1)) x y z u a0 a1 b0 b1 c0 c1 e0 e1 := by
  obtain ⟨⟨⟨⟨hx, _⟩, hy, _⟩, ⟨hz, hb⟩, lz, nxz, nyz⟩, ⟨hu, _⟩, lu, ⟨nxu, nyu⟩, nzu⟩ := h
  have hB := (hb.setCell (p := ⟨u, 0, none⟩) lu (.float .f64 e0)).setCell (p := ⟨u, 1, none⟩) lu (.float .f64 e1)
  exact ⟨⟨⟨⟨(hx.setOther nxu _).setOther nxu _, hB⟩, (hy.setOther nyu _).setOther nyu _, hB⟩, ⟨(hz.setOther nzu _).setOther nzu _, hB⟩, lz, nxz, nyz⟩, ⟨(hu.set (i := 0) (.float .f64 e0)).set (i := 1) (.float .f64 e1), hB⟩, lu, ⟨nxu, nyu⟩, nzu⟩

theorem newB_canon {b : Bool} {x : Nat} (hx : W64 x) (h : b = true → nanB x = false) : nuB (newB b (kb (ky x))) (newB b (kb (ky x))) = true := by
  cases b
  · show nuB 0 0 = true; decide
  · have hb := ky_bd hx (num_of (h rfl))
    obtain ⟨_, h2, _⟩ := kb_lt hb.1 hb.2
    show decide (kb (ky x) = canonB (kb (ky x))) = true
    rw [canon_num (num_iff.2 h2)]
    exact decide_eq_true rfl

set_option maxRecDepth 100000 in
set_option maxHeartbeats 12800000 in
theorem intervalTells_any (p0 p1 q0 q1 x : Nat) (w : World) (hp0 : W64 p0) (hp1 : W64 p1) (hq0 : W64 q0) (hq1 : W64 q1) (hx : W64 x) (hT : TabB w) :
    Calls Tryz.prog 3 #[.agg #[.int .u64 p0, .int .u64 p1], .agg #[.int .u64 q0, .int .u64 q1], .int .u64 x] w (Gives (.bool true) w) := by
  have okA := ivK_ok hp0 hp1
  have okB := ivK_ok hq0 hq1
  have ok_h := hullK_ok okA okB
  have ok_m := meetK_ok okA okB
  have HAW := Lib.hid fun W ht => awake6_any W ht
  have HOA := Lib.hid fun W => lof_any p0 p1 W
  have HOB := Lib.hid fun W => lof_any q0 q1 W
  have HFX := Lib.hid fun W => lf_any x W
  have HT := Lib.hid hT
  have HNW := Lib.hid fun W => new_iv p0 p1 W hp0 hp1
  have HRN := Lib.hid fun W => rNew_iv p0 p1 W hp0 hp1
  have HPT := Lib.hid fun W => point_iv x W hx
  have HRP := Lib.hid fun W => rPoint_iv x W hx
  have HEM := Lib.hid fun W => empty_any W
  have HRE := Lib.hid fun W => rEmpty_any W
  have HAL := Lib.hid fun W => all_any W
  have HRA := Lib.hid fun W => rAll_any W
  have HIS := Lib.hid fun W => is_iv p0 p1 W hp0 hp1
  have HRI := Lib.hid fun W => rIs_iv p0 p1 W hp0 hp1
  have HHA := Lib.hid fun W => has_any p0 p1 x W hp0 hp1 hx
  have HRH := Lib.hid fun W => rHas_any p0 p1 x W hp0 hp1 hx
  have HPIN := Lib.hid fun W => in_any p0 p1 q0 q1 W hp0 hp1 hq0 hq1
  have HRIN := Lib.hid fun W => rIn_any p0 p1 q0 q1 W hp0 hp1 hq0 hq1
  have HPME := Lib.hid fun W => meets_any p0 p1 q0 q1 W hp0 hp1 hq0 hq1
  have HRME := Lib.hid fun W => rMeets_any p0 p1 q0 q1 W hp0 hp1 hq0 hq1
  have HPBE := Lib.hid fun W => below_iv p0 p1 q0 q1 W hp0 hp1 hq0 hq1
  have HRBE := Lib.hid fun W => rBelow_iv p0 p1 q0 q1 W hp0 hp1 hq0 hq1
  have HPHU := Lib.hid fun W => hull_any p0 p1 q0 q1 W hp0 hp1 hq0 hq1
  have HRHU := Lib.hid fun W => rHull_any p0 p1 q0 q1 W hp0 hp1 hq0 hq1
  have HPMT := Lib.hid fun W => meet_any p0 p1 q0 q1 W hp0 hp1 hq0 hq1
  have HRMT := Lib.hid fun W => rMeet_any p0 p1 q0 q1 W hp0 hp1 hq0 hq1
  have HSH := Lib.hid fun W => lsame_any (ivL (hullK (ivK p0 p1) (ivK q0 q1))) (ivH (hullK (ivK p0 p1) (ivK q0 q1))) (ivL (hullK (ivK p0 p1) (ivK q0 q1))) (ivH (hullK (ivK p0 p1) (ivK q0 q1))) W
  rw [saB_iv ok_h ok_h] at HSH
  rw [decide_eq_true rfl] at HSH
  have HSM := Lib.hid fun W => lsame_any (ivL (meetK (ivK p0 p1) (ivK q0 q1))) (ivH (meetK (ivK p0 p1) (ivK q0 q1))) (ivL (meetK (ivK p0 p1) (ivK q0 q1))) (ivH (meetK (ivK p0 p1) (ivK q0 q1))) W
  rw [saB_iv ok_m ok_m] at HSM
  rw [decide_eq_true rfl] at HSM
  have HSE := Lib.hid fun W => lsame_any 9218868437227405312 18442240474082181120 9218868437227405312 18442240474082181120 W
  rw [show saB 9218868437227405312 18442240474082181120 9218868437227405312 18442240474082181120 = true by decide] at HSE
  have HSA := Lib.hid fun W => lsame_any 18442240474082181120 9218868437227405312 18442240474082181120 9218868437227405312 W
  rw [show saB 18442240474082181120 9218868437227405312 18442240474082181120 9218868437227405312 = true by decide] at HSA
  have hnn : (ivK p0 p1).isSome = true → nanB p0 = false ∧ nanB p1 = false := fun h => by
    rcases e1 : ivK p0 p1 with _ | p
    · rw [e1] at h; cases h
    · obtain ⟨nl, nh, _⟩ := ivK_some e1; exact ⟨nl, nh⟩
  have HSN := Lib.hid fun W => lsame_any (newB (ivK p0 p1).isSome (kb (ky p0))) (newB (ivK p0 p1).isSome (kb (ky p1))) (newB (ivK p0 p1).isSome (kb (ky p0))) (newB (ivK p0 p1).isSome (kb (ky p1))) W
  rw [show saB (newB (ivK p0 p1).isSome (kb (ky p0))) (newB (ivK p0 p1).isSome (kb (ky p1))) (newB (ivK p0 p1).isSome (kb (ky p0))) (newB (ivK p0 p1).isSome (kb (ky p1))) = true by unfold saB; rw [newB_canon hp0 fun h => (hnn h).1, newB_canon hp1 fun h => (hnn h).2]; rfl] at HSN
  have HSP := Lib.hid fun W => lsame_any (newB (finB x) (kb (ky x))) (newB (finB x) (kb (ky x))) (newB (finB x) (kb (ky x))) (newB (finB x) (kb (ky x))) W
  rw [show saB (newB (finB x) (kb (ky x))) (newB (finB x) (kb (ky x))) (newB (finB x) (kb (ky x))) (newB (finB x) (kb (ky x))) = true by unfold saB; rw [newB_canon hx fun h => nan_fin h]; rfl] at HSP
  clear okA okB ok_h ok_m hnn hp0 hp1 hq0 hq1 hx hT
  generalize ivL (hullK (ivK p0 p1) (ivK q0 q1)) = u0 at *
  generalize ivH (hullK (ivK p0 p1) (ivK q0 q1)) = u1 at *
  generalize ivL (meetK (ivK p0 p1) (ivK q0 q1)) = v0 at *
  generalize ivH (meetK (ivK p0 p1) (ivK q0 q1)) = v1 at *
  generalize inK (ivK p0 p1) (ivK q0 q1) = IN at *
  generalize meetsK (ivK p0 p1) (ivK q0 q1) = ME at *
  generalize belowK (ivK p0 p1) (ivK q0 q1) = BE at *
  generalize hasK (ivK p0 p1) x = HA at *
  generalize isB p0 p1 = IS at *
  generalize newB (ivK p0 p1).isSome (kb (ky p0)) = n0 at *
  generalize newB (ivK p0 p1).isSome (kb (ky p1)) = n1 at *
  generalize newE (ivK p0 p1).isSome = NE at *
  generalize newB (finB x) (kb (ky x)) = k0 at *
  generalize newE (finB x) = KE at *
  have HW := Lib.hid (EB2.new w p0 p1 q0 q1)
  go_enter Tryz.func3, Tryz.ntmps3
  go_wp2
  refine wp_region_q (fun w' : World => (w'.cell? ⟨w.heap.size, 0, none⟩ = some (.int .u64 p0) ∧ w'.cell? ⟨w.heap.size, 1, none⟩ = some (.int .u64 p1)) ∧ w'.cell? ⟨w.heap.size + 1, 0, none⟩ = some (.int .u64 q0) ∧ w'.cell? ⟨w.heap.size + 1, 1, none⟩ = some (.int .u64 q1)) 6 (.take 0 (.take 2 (.bag [(1, 14, []), (3, 16, []), (4, 7, []), (5, 8, [])] .nil))) (by kernel_rfl) (by kernel_rfl) ?_
  replace HW := Lib.hid (HW.out.later (drew_below _))
  generalize World.drew _ = W3 at HW ⊢
  have hS : (fun w' : World => (w'.cell? ⟨w.heap.size, 0, none⟩ = some (.int .u64 p0) ∧ w'.cell? ⟨w.heap.size, 1, none⟩ = some (.int .u64 p1)) ∧ w'.cell? ⟨w.heap.size + 1, 0, none⟩ = some (.int .u64 q0) ∧ w'.cell? ⟨w.heap.size + 1, 1, none⟩ = some (.int .u64 q1)) W3 := HW.out.cells
  repeat (refine wpPq_takeL (v := ?_) rfl rfl (fun _ _ _ h => h) rfl (fun w' hSw => ?_) hS ?_; rotate_left; (focus (go_simp; with_reducible rfl)); simp only [List.setIfInBounds_toArray, List.set_cons_zero, List.set_cons_succ])
  clear hS
  have hAp : ∀ j ∈ ([4, 5] : List Nat), ∀ s w', (pick [(1, fun v w' => v = .agg #[.float .f64 p0, .float .f64 p1]), (3, fun v w' => v = .agg #[.float .f64 q0, .float .f64 q1]), (4, fun v w' => ∃ r, v = .pointer (some ⟨r, 0, none⟩) ∧ w.heap.size ≤ r ∧ BlkT w' r 27 #[.float .f64 0, .float .f64 0]), (5, fun v w' => ∃ r, v = .pointer (some ⟨r, 0, none⟩) ∧ w.heap.size ≤ r ∧ BlkT w' r 27 #[.float .f64 0, .float .f64 0])]) j (.pointer (some ⟨s, 0, none⟩)) w' → s < w'.heap.size := (bag_cons (fun s w' h => by obtain ⟨r, hr, -, hB⟩ := (h : (fun (v : Value) (w' : World) => ∃ r, v = .pointer (some ⟨r, 0, none⟩) ∧ w.heap.size ≤ r ∧ BlkT w' r 27 #[.float .f64 0, .float .f64 0]) (.pointer (some ⟨s, 0, none⟩)) w'); simp only [Value.pointer.injEq, Option.some.injEq, Addr.mk.injEq, and_true] at hr; subst hr; exact hB.lt) (bag_cons (fun s w' h => by obtain ⟨r, hr, -, hB⟩ := (h : (fun (v : Value) (w' : World) => ∃ r, v = .pointer (some ⟨r, 0, none⟩) ∧ w.heap.size ≤ r ∧ BlkT w' r 27 #[.float .f64 0, .float .f64 0]) (.pointer (some ⟨s, 0, none⟩)) w'); simp only [Value.pointer.injEq, Option.some.injEq, Addr.mk.injEq, and_true] at hr; subst hr; exact hB.lt) bag_nil))
  refine wpPq_bagD [4, 5] (pick [(1, fun v w' => v = .agg #[.float .f64 p0, .float .f64 p1]), (3, fun v w' => v = .agg #[.float .f64 q0, .float .f64 q1]), (4, fun v w' => ∃ r, v = .pointer (some ⟨r, 0, none⟩) ∧ w.heap.size ≤ r ∧ BlkT w' r 27 #[.float .f64 0, .float .f64 0]), (5, fun v w' => ∃ r, v = .pointer (some ⟨r, 0, none⟩) ∧ w.heap.size ≤ r ∧ BlkT w' r 27 #[.float .f64 0, .float .f64 0])]) (pick_mono (bag_cons (fun v w1 w2 hv1 hb => hv1) (bag_cons (fun v w1 w2 hv3 hb => hv3) (bag_cons (fun v w1 w2 ⟨r4, hv4, hl4, hB4⟩ hb => ⟨r4, hv4, hl4, hB4.below hb⟩) (bag_cons (fun v w1 w2 ⟨r5, hv5, hl5, hB5⟩ hb => ⟨r5, hv5, hl5, hB5.below hb⟩) bag_nil))))) (fun w' hb => (HW.out.later hb).cells) (by simp [prE]) (fun _ _ _ _ _ h => h) (by decide) (bag_cons (bagD_one rfl (BagStep.other (by decide) ?_)) (bag_cons (bagD_one rfl (BagStep.other (by decide) ?_)) (bag_cons (bagD_one rfl (BagStep.fresh hAp ?_)) (bag_cons (bagD_one rfl (BagStep.fresh hAp ?_)) bag_nil)))) bag_nil ?_
  · intro a' V hdf hin hdep hb1 K hK
    have i13 : a'.tmps[13]?.getD undef = .agg #[.int .u64 p0, .int .u64 p1] := evT (hin 13 (by decide))
    clear hin hdep hdf
    have HW := Lib.hid (HW.out.later hb1)
    go_simp
    refine (HOA.out _).mono ?_
    rintro e1 V2 ⟨rfl, hb2⟩
    exact hK _ _ rfl hb2
  · intro a' V hdf hin hdep hb1 K hK
    have i15 : a'.tmps[15]?.getD undef = .agg #[.int .u64 q0, .int .u64 q1] := evT (hin 15 (by decide))
    clear hin hdep hdf
    have HW := Lib.hid (HW.out.later hb1)
    go_simp
    refine (HOB.out _).mono ?_
    rintro e1 V2 ⟨rfl, hb2⟩
    exact hK _ _ rfl hb2
  · intro a' V hdf hin hdep hb1 K hK
    clear hin hdep hdf
    have HW := Lib.hid (HW.out.later hb1)
    go_simp
    exact hK _ ⟨_, rfl, HW.out.size, BlkT.new V _ _⟩ (Below.alloc_self _ _)
  · intro a' V hdf hin hdep hb1 K hK
    clear hin hdep hdf
    have HW := Lib.hid (HW.out.later hb1)
    go_simp
    exact hK _ ⟨_, rfl, HW.out.size, BlkT.new V _ _⟩ (Below.alloc_self _ _)
  intro vals B1 hb1 hR hNE
  replace HW := Lib.hid (HW.out.later hb1)
  obtain hv1 : (fun (v : Value) (w' : World) => v = .agg #[.float .f64 p0, .float .f64 p1]) (vals 1) B1 := hR (1, 14) (by decide)
  dsimp only at hv1
  obtain hv3 : (fun (v : Value) (w' : World) => v = .agg #[.float .f64 q0, .float .f64 q1]) (vals 3) B1 := hR (3, 16) (by decide)
  dsimp only at hv3
  obtain ⟨r4, hv4, hl4, hB4⟩ : (fun (v : Value) (w' : World) => ∃ r, v = .pointer (some ⟨r, 0, none⟩) ∧ w.heap.size ≤ r ∧ BlkT w' r 27 #[.float .f64 0, .float .f64 0]) (vals 4) B1 := hR (4, 7) (by decide)
  obtain ⟨r5, hv5, hl5, hB5⟩ : (fun (v : Value) (w' : World) => ∃ r, v = .pointer (some ⟨r, 0, none⟩) ∧ w.heap.size ≤ r ∧ BlkT w' r 27 #[.float .f64 0, .float .f64 0]) (vals 5) B1 := hR (5, 8) (by decide)
  have hne4_5 := hNE (4, 7) (by decide) (5, 8) (by decide) (by decide) (by decide) (by decide) r4 r5 hv4 hv5
  clear hNE hAp
  clear hb1 hR
  simp only [prE, List.flatMap_cons, List.flatMap_nil, List.cons_append, List.nil_append, List.append_nil, setD, List.setIfInBounds_toArray, List.set_cons_zero, List.set_cons_succ, hv1, hv3, hv4, hv5]
  clear vals hv1 hv3 hv4 hv5
  refine wpPq_nil ?_
  simp only [List.drop_succ_cons, List.drop_zero]
  have HS := Lib.hid (S2b.make p0 p1 q0 q1 HW.out.2 hB4 hB5 hl4 hl5 hne4_5)
  obtain ⟨f60, f61, f62, f63⟩ := hB4.cells2
  obtain ⟨f70, f71, f72, f73⟩ := hB5.cells2
  have hne5_4 : r5 ≠ r4 := hne4_5.symm
  clear HW hB4 hB5 hl4 hl5
  go_upto_region 2 with fail
  clear f60 f61 f62 f63 f70 f71 f72 f73 hne4_5 hne5_4
  generalize World.setCell (World.setCell (World.setCell (World.setCell _ _ _) _ _) _ _) _ _ = W4 at HS ⊢
  obtain ⟨⟨g0, g1⟩, g2, g3⟩ := HS.out.cells
  go_wp2_with fail
  refine (HNW.out _).mono ?_
  rintro e5 w5 ⟨rfl, hb5⟩
  replace HS := Lib.hid (HS.out.later hb5)
  clear hb5
  clear g0 g1 g2 g3
  obtain ⟨⟨g0, g1⟩, g2, g3⟩ := HS.out.cells
  go_upto_region 3 with fail
  replace HS := Lib.hid (T3b.make n0 n1 HS.out)
  clear g0 g1 g2 g3
  generalize World.alloc w5 _ = W6 at HS ⊢
  generalize w5.heap.size = r9 at HS ⊢
  obtain ⟨⟨⟨g0, g1⟩, g2, g3⟩, g4, g5, g6, g7⟩ := HS.out.cells
  go_wp2_with fail
  refine (HRN.out _).mono ?_
  rintro e7 w7 ⟨rfl, hb7⟩
  replace HS := Lib.hid (HS.out.later hb7)
  clear hb7
  clear g0 g1 g2 g3 g4 g5 g6 g7
  obtain ⟨⟨⟨g0, g1⟩, g2, g3⟩, g4, g5, g6, g7⟩ := HS.out.cells
  go_upto_region 4 with fail
  replace HS := Lib.hid (T4b.make n0 n1 HS.out)
  clear g0 g1 g2 g3 g4 g5 g6 g7
  generalize World.alloc w7 _ = W8 at HS ⊢
  generalize w7.heap.size = r11 at HS ⊢
  obtain ⟨⟨⟨⟨g0, g1⟩, g2, g3⟩, g4, g5, g6, g7⟩, g8, g9, ga, gb⟩ := HS.out.cells
  go_wp2_with fail
  refine (HSN.out _).mono ?_
  rintro e9 w9 ⟨rfl, hb9⟩
  replace HS := Lib.hid (HS.out.later hb9)
  clear hb9
  clear g0 g1 g2 g3 g4 g5 g6 g7 g8 g9 ga gb
  obtain ⟨⟨⟨⟨g0, g1⟩, g2, g3⟩, g4, g5, g6, g7⟩, g8, g9, ga, gb⟩ := HS.out.cells
  go_wp2_with fail
  refine (HFX.out _).mono ?_
  rintro e10 w10 ⟨rfl, hb10⟩
  replace HS := Lib.hid (HS.out.later hb10)
  clear hb10
  clear g0 g1 g2 g3 g4 g5 g6 g7 g8 g9 ga gb
  obtain ⟨⟨⟨⟨g0, g1⟩, g2, g3⟩, g4, g5, g6, g7⟩, g8, g9, ga, gb⟩ := HS.out.cells
  go_wp2_with fail
  refine (HPT.out _).mono ?_
  rintro e11 w11 ⟨rfl, hb11⟩
  replace HS := Lib.hid (HS.out.later hb11)
  clear hb11
  clear g0 g1 g2 g3 g4 g5 g6 g7 g8 g9 ga gb
  obtain ⟨⟨⟨⟨g0, g1⟩, g2, g3⟩, g4, g5, g6, g7⟩, g8, g9, ga, gb⟩ := HS.out.cells
  go_upto_region 7 with fail
  replace HS := Lib.hid (T4b.put k0 k0 HS.out)
  clear g0 g1 g2 g3 g4 g5 g6 g7 g8 g9 ga gb
  generalize World.setCell (World.setCell w11 _ _) _ _ = W12 at HS ⊢
  obtain ⟨⟨⟨⟨g0, g1⟩, g2, g3⟩, g4, g5, g6, g7⟩, g8, g9, ga, gb⟩ := HS.out.cells
  go_wp2_with fail
  refine (HFX.out _).mono ?_
  rintro e13 w13 ⟨rfl, hb13⟩
  replace HS := Lib.hid (HS.out.later hb13)
  clear hb13
  clear g0 g1 g2 g3 g4 g5 g6 g7 g8 g9 ga gb
  obtain ⟨⟨⟨⟨g0, g1⟩, g2, g3⟩, g4, g5, g6, g7⟩, g8, g9, ga, gb⟩ := HS.out.cells
  go_wp2_with fail
  refine (HRP.out _).mono ?_
  rintro e14 w14 ⟨rfl, hb14⟩
  replace HS := Lib.hid (HS.out.later hb14)
  clear hb14
  clear g0 g1 g2 g3 g4 g5 g6 g7 g8 g9 ga gb
  obtain ⟨⟨⟨⟨g0, g1⟩, g2, g3⟩, g4, g5, g6, g7⟩, g8, g9, ga, gb⟩ := HS.out.cells
  go_upto_region 8 with fail
  replace HS := Lib.hid (T4b.put' k0 k0 HS.out)
  clear g0 g1 g2 g3 g4 g5 g6 g7 g8 g9 ga gb
  generalize World.setCell (World.setCell w14 _ _) _ _ = W15 at HS ⊢
  obtain ⟨⟨⟨⟨g0, g1⟩, g2, g3⟩, g4, g5, g6, g7⟩, g8, g9, ga, gb⟩ := HS.out.cells
  go_wp2_with fail
  refine (HSP.out _).mono ?_
  rintro e16 w16 ⟨rfl, hb16⟩
  replace HS := Lib.hid (HS.out.later hb16)
  clear hb16
  clear g0 g1 g2 g3 g4 g5 g6 g7 g8 g9 ga gb
  obtain ⟨⟨⟨⟨g0, g1⟩, g2, g3⟩, g4, g5, g6, g7⟩, g8, g9, ga, gb⟩ := HS.out.cells
  go_wp2_with fail
  refine (HEM.out _).mono ?_
  rintro e17 w17 ⟨rfl, hb17⟩
  replace HS := Lib.hid (HS.out.later hb17)
  clear hb17
  clear g0 g1 g2 g3 g4 g5 g6 g7 g8 g9 ga gb
  obtain ⟨⟨⟨⟨g0, g1⟩, g2, g3⟩, g4, g5, g6, g7⟩, g8, g9, ga, gb⟩ := HS.out.cells
  go_wp2_with fail
  refine (HRE.out _).mono ?_
  rintro e18 w18 ⟨rfl, hb18⟩
  replace HS := Lib.hid (HS.out.later hb18)
  clear hb18
  clear g0 g1 g2 g3 g4 g5 g6 g7 g8 g9 ga gb
  obtain ⟨⟨⟨⟨g0, g1⟩, g2, g3⟩, g4, g5, g6, g7⟩, g8, g9, ga, gb⟩ := HS.out.cells
  go_wp2_with fail
  refine (HSE.out _).mono ?_
  rintro e19 w19 ⟨rfl, hb19⟩
  replace HS := Lib.hid (HS.out.later hb19)
  clear hb19
  clear g0 g1 g2 g3 g4 g5 g6 g7 g8 g9 ga gb
  obtain ⟨⟨⟨⟨g0, g1⟩, g2, g3⟩, g4, g5, g6, g7⟩, g8, g9, ga, gb⟩ := HS.out.cells
  go_wp2_with fail
  refine (HAL.out _).mono ?_
  rintro e20 w20 ⟨rfl, hb20⟩
  replace HS := Lib.hid (HS.out.later hb20)
  clear hb20
  clear g0 g1 g2 g3 g4 g5 g6 g7 g8 g9 ga gb
  obtain ⟨⟨⟨⟨g0, g1⟩, g2, g3⟩, g4, g5, g6, g7⟩, g8, g9, ga, gb⟩ := HS.out.cells
  go_wp2_with fail
  refine (HRA.out _).mono ?_
  rintro e21 w21 ⟨rfl, hb21⟩
  replace HS := Lib.hid (HS.out.later hb21)
  clear hb21
  clear g0 g1 g2 g3 g4 g5 g6 g7 g8 g9 ga gb
  obtain ⟨⟨⟨⟨g0, g1⟩, g2, g3⟩, g4, g5, g6, g7⟩, g8, g9, ga, gb⟩ := HS.out.cells
  go_wp2_with fail
  refine (HSA.out _).mono ?_
  rintro e22 w22 ⟨rfl, hb22⟩
  replace HS := Lib.hid (HS.out.later hb22)
  clear hb22
  clear g0 g1 g2 g3 g4 g5 g6 g7 g8 g9 ga gb
  obtain ⟨⟨⟨⟨g0, g1⟩, g2, g3⟩, g4, g5, g6, g7⟩, g8, g9, ga, gb⟩ := HS.out.cells
  go_upto_region 10 with fail
  clear g0 g1 g2 g3 g4 g5 g6 g7 g8 g9 ga gb
  refine wp_region_pl (fun w' : World => (w'.cell? ⟨r4, 0, none⟩ = some (.float .f64 p0) ∧ w'.cell? ⟨r4, 1, none⟩ = some (.float .f64 p1)) ∧ w'.cell? ⟨r5, 0, none⟩ = some (.float .f64 q0) ∧ w'.cell? ⟨r5, 1, none⟩ = some (.float .f64 q1)) 58 (.take 0 (.take 2 (.run 1 (.run 3 (.take 4 (.take 5 (.take 6 (.take 7 (.take 10 (.take 11 (.run 8 (.run 9 (.run 12 (.run 13 (.take 14 (.take 15 (.take 16 (.take 17 (.take 18 (.take 20 (.take 21 (.run 19 (.run 22 (.take 23 (.take 24 (.take 25 (.take 26 (.take 27 (.take 29 (.take 30 (.run 28 (.run 31 (.take 32 (.take 33 (.take 34 (.take 35 (.take 36 (.take 38 (.take 39 (.run 37 (.run 40 (.take 41 (.take 42 (.take 43 (.take 44 (.take 45 (.take 47 (.take 48 (.run 46 (.run 49 (.run 50 (.take 51 (.take 52 (.take 53 (.take 54 (.take 56 (.take 57 (.run 55 (.nil))))))))))))))))))))))))))))))))))))))))))))))))))))))))))) (by kernel_rfl) (by kernel_rfl) ?_
  replace HS := Lib.hid (HS.out.later (drew_below _))
  generalize World.drew _ = W25 at HS ⊢
  have hS : (fun w' : World => (w'.cell? ⟨r4, 0, none⟩ = some (.float .f64 p0) ∧ w'.cell? ⟨r4, 1, none⟩ = some (.float .f64 p1)) ∧ w'.cell? ⟨r5, 0, none⟩ = some (.float .f64 q0) ∧ w'.cell? ⟨r5, 1, none⟩ = some (.float .f64 q1)) W25 := HS.out.1.1.cells
  repeat (first | (refine wpPl_takeL (v := ?_) rfl rfl (fun _ _ _ h => h) rfl (fun w' hSw => ?_) hS ?_; rotate_left; (focus (go_simp; with_reducible rfl)); simp only [List.setIfInBounds_toArray, List.set_cons_zero, List.set_cons_succ]) | (refine wpPl_skipL rfl rfl (fun _ _ _ h => h) rfl hS ?_; simp only [List.setIfInBounds_toArray, List.set_cons_zero, List.set_cons_succ]))
  clear hS
  refine wpPl_goL rfl rfl fun K' hK => ?_
  go_simp
  refine (HIS.out _).mono ?_
  rintro e1 W25v1 ⟨rfl, hb1⟩
  replace HS := Lib.hid (HS.out.later hb1)
  refine hK _ _ HS.out.1.1.cells ?_
  clear hK K' hb1
  try simp only [Act.put, List.setIfInBounds_toArray, List.set_cons_zero, List.set_cons_succ]
  have hS : (fun w' : World => (w'.cell? ⟨r4, 0, none⟩ = some (.float .f64 p0) ∧ w'.cell? ⟨r4, 1, none⟩ = some (.float .f64 p1)) ∧ w'.cell? ⟨r5, 0, none⟩ = some (.float .f64 q0) ∧ w'.cell? ⟨r5, 1, none⟩ = some (.float .f64 q1)) W25v1 := HS.out.1.1.cells
  repeat (first | (refine wpPl_takeL (v := ?_) rfl rfl (fun _ _ _ h => h) rfl (fun w' hSw => ?_) hS ?_; rotate_left; (focus (go_simp; with_reducible rfl)); simp only [List.setIfInBounds_toArray, List.set_cons_zero, List.set_cons_succ]) | (refine wpPl_skipL rfl rfl (fun _ _ _ h => h) rfl hS ?_; simp only [List.setIfInBounds_toArray, List.set_cons_zero, List.set_cons_succ]))
  clear hS
  refine wpPl_goL rfl rfl fun K' hK => ?_
  go_simp
  refine (HRI.out _).mono ?_
  rintro e1 W25v2 ⟨rfl, hb1⟩
  replace HS := Lib.hid (HS.out.later hb1)
  refine hK _ _ HS.out.1.1.cells ?_
  clear hK K' hb1
  try simp only [Act.put, List.setIfInBounds_toArray, List.set_cons_zero, List.set_cons_succ]
  have hS : (fun w' : World => (w'.cell? ⟨r4, 0, none⟩ = some (.float .f64 p0) ∧ w'.cell? ⟨r4, 1, none⟩ = some (.float .f64 p1)) ∧ w'.cell? ⟨r5, 0, none⟩ = some (.float .f64 q0) ∧ w'.cell? ⟨r5, 1, none⟩ = some (.float .f64 q1)) W25v2 := HS.out.1.1.cells
  repeat (first | (refine wpPl_takeL (v := ?_) rfl rfl (fun _ _ _ h => h) rfl (fun w' hSw => ?_) hS ?_; rotate_left; (focus (go_simp; with_reducible rfl)); simp only [List.setIfInBounds_toArray, List.set_cons_zero, List.set_cons_succ]) | (refine wpPl_skipL rfl rfl (fun _ _ _ h => h) rfl hS ?_; simp only [List.setIfInBounds_toArray, List.set_cons_zero, List.set_cons_succ]))
  clear hS
  refine wpPl_goL rfl rfl fun K' hK => ?_
  go_simp
  refine (HFX.out _).mono ?_
  rintro e1 W25v3 ⟨rfl, hb1⟩
  replace HS := Lib.hid (HS.out.later hb1)
  refine hK _ _ HS.out.1.1.cells ?_
  clear hK K' hb1
  try simp only [Act.put, List.setIfInBounds_toArray, List.set_cons_zero, List.set_cons_succ]
  have hS : (fun w' : World => (w'.cell? ⟨r4, 0, none⟩ = some (.float .f64 p0) ∧ w'.cell? ⟨r4, 1, none⟩ = some (.float .f64 p1)) ∧ w'.cell? ⟨r5, 0, none⟩ = some (.float .f64 q0) ∧ w'.cell? ⟨r5, 1, none⟩ = some (.float .f64 q1)) W25v3 := HS.out.1.1.cells
  repeat (first | (refine wpPl_takeL (v := ?_) rfl rfl (fun _ _ _ h => h) rfl (fun w' hSw => ?_) hS ?_; rotate_left; (focus (go_simp; with_reducible rfl)); simp only [List.setIfInBounds_toArray, List.set_cons_zero, List.set_cons_succ]) | (refine wpPl_skipL rfl rfl (fun _ _ _ h => h) rfl hS ?_; simp only [List.setIfInBounds_toArray, List.set_cons_zero, List.set_cons_succ]))
  clear hS
  refine wpPl_goL rfl rfl fun K' hK => ?_
  go_simp
  refine (HHA.out _).mono ?_
  rintro e1 W25v4 ⟨rfl, hb1⟩
  replace HS := Lib.hid (HS.out.later hb1)
  refine hK _ _ HS.out.1.1.cells ?_
  clear hK K' hb1
  try simp only [Act.put, List.setIfInBounds_toArray, List.set_cons_zero, List.set_cons_succ]
  have hS : (fun w' : World => (w'.cell? ⟨r4, 0, none⟩ = some (.float .f64 p0) ∧ w'.cell? ⟨r4, 1, none⟩ = some (.float .f64 p1)) ∧ w'.cell? ⟨r5, 0, none⟩ = some (.float .f64 q0) ∧ w'.cell? ⟨r5, 1, none⟩ = some (.float .f64 q1)) W25v4 := HS.out.1.1.cells
  repeat (first | (refine wpPl_takeL (v := ?_) rfl rfl (fun _ _ _ h => h) rfl (fun w' hSw => ?_) hS ?_; rotate_left; (focus (go_simp; with_reducible rfl)); simp only [List.setIfInBounds_toArray, List.set_cons_zero, List.set_cons_succ]) | (refine wpPl_skipL rfl rfl (fun _ _ _ h => h) rfl hS ?_; simp only [List.setIfInBounds_toArray, List.set_cons_zero, List.set_cons_succ]))
  clear hS
  refine wpPl_goL rfl rfl fun K' hK => ?_
  go_simp
  refine (HFX.out _).mono ?_
  rintro e1 W25v5 ⟨rfl, hb1⟩
  replace HS := Lib.hid (HS.out.later hb1)
  refine hK _ _ HS.out.1.1.cells ?_
  clear hK K' hb1
  try simp only [Act.put, List.setIfInBounds_toArray, List.set_cons_zero, List.set_cons_succ]
  have hS : (fun w' : World => (w'.cell? ⟨r4, 0, none⟩ = some (.float .f64 p0) ∧ w'.cell? ⟨r4, 1, none⟩ = some (.float .f64 p1)) ∧ w'.cell? ⟨r5, 0, none⟩ = some (.float .f64 q0) ∧ w'.cell? ⟨r5, 1, none⟩ = some (.float .f64 q1)) W25v5 := HS.out.1.1.cells
  repeat (first | (refine wpPl_takeL (v := ?_) rfl rfl (fun _ _ _ h => h) rfl (fun w' hSw => ?_) hS ?_; rotate_left; (focus (go_simp; with_reducible rfl)); simp only [List.setIfInBounds_toArray, List.set_cons_zero, List.set_cons_succ]) | (refine wpPl_skipL rfl rfl (fun _ _ _ h => h) rfl hS ?_; simp only [List.setIfInBounds_toArray, List.set_cons_zero, List.set_cons_succ]))
  clear hS
  refine wpPl_goL rfl rfl fun K' hK => ?_
  go_simp
  refine (HRH.out _).mono ?_
  rintro e1 W25v6 ⟨rfl, hb1⟩
  replace HS := Lib.hid (HS.out.later hb1)
  refine hK _ _ HS.out.1.1.cells ?_
  clear hK K' hb1
  try simp only [Act.put, List.setIfInBounds_toArray, List.set_cons_zero, List.set_cons_succ]
  have hS : (fun w' : World => (w'.cell? ⟨r4, 0, none⟩ = some (.float .f64 p0) ∧ w'.cell? ⟨r4, 1, none⟩ = some (.float .f64 p1)) ∧ w'.cell? ⟨r5, 0, none⟩ = some (.float .f64 q0) ∧ w'.cell? ⟨r5, 1, none⟩ = some (.float .f64 q1)) W25v6 := HS.out.1.1.cells
  repeat (first | (refine wpPl_takeL (v := ?_) rfl rfl (fun _ _ _ h => h) rfl (fun w' hSw => ?_) hS ?_; rotate_left; (focus (go_simp; with_reducible rfl)); simp only [List.setIfInBounds_toArray, List.set_cons_zero, List.set_cons_succ]) | (refine wpPl_skipL rfl rfl (fun _ _ _ h => h) rfl hS ?_; simp only [List.setIfInBounds_toArray, List.set_cons_zero, List.set_cons_succ]))
  clear hS
  refine wpPl_goL rfl rfl fun K' hK => ?_
  go_simp
  refine (HPIN.out _).mono ?_
  rintro e1 W25v7 ⟨rfl, hb1⟩
  replace HS := Lib.hid (HS.out.later hb1)
  refine hK _ _ HS.out.1.1.cells ?_
  clear hK K' hb1
  try simp only [Act.put, List.setIfInBounds_toArray, List.set_cons_zero, List.set_cons_succ]
  have hS : (fun w' : World => (w'.cell? ⟨r4, 0, none⟩ = some (.float .f64 p0) ∧ w'.cell? ⟨r4, 1, none⟩ = some (.float .f64 p1)) ∧ w'.cell? ⟨r5, 0, none⟩ = some (.float .f64 q0) ∧ w'.cell? ⟨r5, 1, none⟩ = some (.float .f64 q1)) W25v7 := HS.out.1.1.cells
  repeat (first | (refine wpPl_takeL (v := ?_) rfl rfl (fun _ _ _ h => h) rfl (fun w' hSw => ?_) hS ?_; rotate_left; (focus (go_simp; with_reducible rfl)); simp only [List.setIfInBounds_toArray, List.set_cons_zero, List.set_cons_succ]) | (refine wpPl_skipL rfl rfl (fun _ _ _ h => h) rfl hS ?_; simp only [List.setIfInBounds_toArray, List.set_cons_zero, List.set_cons_succ]))
  clear hS
  refine wpPl_goL rfl rfl fun K' hK => ?_
  go_simp
  refine (HRIN.out _).mono ?_
  rintro e1 W25v8 ⟨rfl, hb1⟩
  replace HS := Lib.hid (HS.out.later hb1)
  refine hK _ _ HS.out.1.1.cells ?_
  clear hK K' hb1
  try simp only [Act.put, List.setIfInBounds_toArray, List.set_cons_zero, List.set_cons_succ]
  have hS : (fun w' : World => (w'.cell? ⟨r4, 0, none⟩ = some (.float .f64 p0) ∧ w'.cell? ⟨r4, 1, none⟩ = some (.float .f64 p1)) ∧ w'.cell? ⟨r5, 0, none⟩ = some (.float .f64 q0) ∧ w'.cell? ⟨r5, 1, none⟩ = some (.float .f64 q1)) W25v8 := HS.out.1.1.cells
  repeat (first | (refine wpPl_takeL (v := ?_) rfl rfl (fun _ _ _ h => h) rfl (fun w' hSw => ?_) hS ?_; rotate_left; (focus (go_simp; with_reducible rfl)); simp only [List.setIfInBounds_toArray, List.set_cons_zero, List.set_cons_succ]) | (refine wpPl_skipL rfl rfl (fun _ _ _ h => h) rfl hS ?_; simp only [List.setIfInBounds_toArray, List.set_cons_zero, List.set_cons_succ]))
  clear hS
  refine wpPl_goL rfl rfl fun K' hK => ?_
  go_simp
  refine (HPME.out _).mono ?_
  rintro e1 W25v9 ⟨rfl, hb1⟩
  replace HS := Lib.hid (HS.out.later hb1)
  refine hK _ _ HS.out.1.1.cells ?_
  clear hK K' hb1
  try simp only [Act.put, List.setIfInBounds_toArray, List.set_cons_zero, List.set_cons_succ]
  have hS : (fun w' : World => (w'.cell? ⟨r4, 0, none⟩ = some (.float .f64 p0) ∧ w'.cell? ⟨r4, 1, none⟩ = some (.float .f64 p1)) ∧ w'.cell? ⟨r5, 0, none⟩ = some (.float .f64 q0) ∧ w'.cell? ⟨r5, 1, none⟩ = some (.float .f64 q1)) W25v9 := HS.out.1.1.cells
  repeat (first | (refine wpPl_takeL (v := ?_) rfl rfl (fun _ _ _ h => h) rfl (fun w' hSw => ?_) hS ?_; rotate_left; (focus (go_simp; with_reducible rfl)); simp only [List.setIfInBounds_toArray, List.set_cons_zero, List.set_cons_succ]) | (refine wpPl_skipL rfl rfl (fun _ _ _ h => h) rfl hS ?_; simp only [List.setIfInBounds_toArray, List.set_cons_zero, List.set_cons_succ]))
  clear hS
  refine wpPl_goL rfl rfl fun K' hK => ?_
  go_simp
  refine (HRME.out _).mono ?_
  rintro e1 W25v10 ⟨rfl, hb1⟩
  replace HS := Lib.hid (HS.out.later hb1)
  refine hK _ _ HS.out.1.1.cells ?_
  clear hK K' hb1
  try simp only [Act.put, List.setIfInBounds_toArray, List.set_cons_zero, List.set_cons_succ]
  have hS : (fun w' : World => (w'.cell? ⟨r4, 0, none⟩ = some (.float .f64 p0) ∧ w'.cell? ⟨r4, 1, none⟩ = some (.float .f64 p1)) ∧ w'.cell? ⟨r5, 0, none⟩ = some (.float .f64 q0) ∧ w'.cell? ⟨r5, 1, none⟩ = some (.float .f64 q1)) W25v10 := HS.out.1.1.cells
  repeat (first | (refine wpPl_takeL (v := ?_) rfl rfl (fun _ _ _ h => h) rfl (fun w' hSw => ?_) hS ?_; rotate_left; (focus (go_simp; with_reducible rfl)); simp only [List.setIfInBounds_toArray, List.set_cons_zero, List.set_cons_succ]) | (refine wpPl_skipL rfl rfl (fun _ _ _ h => h) rfl hS ?_; simp only [List.setIfInBounds_toArray, List.set_cons_zero, List.set_cons_succ]))
  clear hS
  refine wpPl_goL rfl rfl fun K' hK => ?_
  go_simp
  refine (HPBE.out _).mono ?_
  rintro e1 W25v11 ⟨rfl, hb1⟩
  replace HS := Lib.hid (HS.out.later hb1)
  refine hK _ _ HS.out.1.1.cells ?_
  clear hK K' hb1
  try simp only [Act.put, List.setIfInBounds_toArray, List.set_cons_zero, List.set_cons_succ]
  have hS : (fun w' : World => (w'.cell? ⟨r4, 0, none⟩ = some (.float .f64 p0) ∧ w'.cell? ⟨r4, 1, none⟩ = some (.float .f64 p1)) ∧ w'.cell? ⟨r5, 0, none⟩ = some (.float .f64 q0) ∧ w'.cell? ⟨r5, 1, none⟩ = some (.float .f64 q1)) W25v11 := HS.out.1.1.cells
  repeat (first | (refine wpPl_takeL (v := ?_) rfl rfl (fun _ _ _ h => h) rfl (fun w' hSw => ?_) hS ?_; rotate_left; (focus (go_simp; with_reducible rfl)); simp only [List.setIfInBounds_toArray, List.set_cons_zero, List.set_cons_succ]) | (refine wpPl_skipL rfl rfl (fun _ _ _ h => h) rfl hS ?_; simp only [List.setIfInBounds_toArray, List.set_cons_zero, List.set_cons_succ]))
  clear hS
  refine wpPl_goL rfl rfl fun K' hK => ?_
  go_simp
  refine (HRBE.out _).mono ?_
  rintro e1 W25v12 ⟨rfl, hb1⟩
  replace HS := Lib.hid (HS.out.later hb1)
  refine hK _ _ HS.out.1.1.cells ?_
  clear hK K' hb1
  try simp only [Act.put, List.setIfInBounds_toArray, List.set_cons_zero, List.set_cons_succ]
  have hS : (fun w' : World => (w'.cell? ⟨r4, 0, none⟩ = some (.float .f64 p0) ∧ w'.cell? ⟨r4, 1, none⟩ = some (.float .f64 p1)) ∧ w'.cell? ⟨r5, 0, none⟩ = some (.float .f64 q0) ∧ w'.cell? ⟨r5, 1, none⟩ = some (.float .f64 q1)) W25v12 := HS.out.1.1.cells
  repeat (first | (refine wpPl_takeL (v := ?_) rfl rfl (fun _ _ _ h => h) rfl (fun w' hSw => ?_) hS ?_; rotate_left; (focus (go_simp; with_reducible rfl)); simp only [List.setIfInBounds_toArray, List.set_cons_zero, List.set_cons_succ]) | (refine wpPl_skipL rfl rfl (fun _ _ _ h => h) rfl hS ?_; simp only [List.setIfInBounds_toArray, List.set_cons_zero, List.set_cons_succ]))
  clear hS
  refine wpPl_goL rfl rfl fun K' hK => ?_
  go_simp
  refine (HPHU.out _).mono ?_
  rintro e1 W25v13 ⟨rfl, hb1⟩
  replace HS := Lib.hid (HS.out.later hb1)
  refine hK _ _ HS.out.1.1.cells ?_
  clear hK K' hb1
  try simp only [Act.put, List.setIfInBounds_toArray, List.set_cons_zero, List.set_cons_succ]
  have hS : (fun w' : World => (w'.cell? ⟨r4, 0, none⟩ = some (.float .f64 p0) ∧ w'.cell? ⟨r4, 1, none⟩ = some (.float .f64 p1)) ∧ w'.cell? ⟨r5, 0, none⟩ = some (.float .f64 q0) ∧ w'.cell? ⟨r5, 1, none⟩ = some (.float .f64 q1)) W25v13 := HS.out.1.1.cells
  repeat (first | (refine wpPl_takeL (v := ?_) rfl rfl (fun _ _ _ h => h) rfl (fun w' hSw => ?_) hS ?_; rotate_left; (focus (go_simp; with_reducible rfl)); simp only [List.setIfInBounds_toArray, List.set_cons_zero, List.set_cons_succ]) | (refine wpPl_skipL rfl rfl (fun _ _ _ h => h) rfl hS ?_; simp only [List.setIfInBounds_toArray, List.set_cons_zero, List.set_cons_succ]))
  clear hS
  refine wpPl_goL rfl rfl fun K' hK => ?_
  go_simp
  refine (HRHU.out _).mono ?_
  rintro e1 W25v14 ⟨rfl, hb1⟩
  replace HS := Lib.hid (HS.out.later hb1)
  refine hK _ _ HS.out.1.1.cells ?_
  clear hK K' hb1
  try simp only [Act.put, List.setIfInBounds_toArray, List.set_cons_zero, List.set_cons_succ]
  have hS : (fun w' : World => (w'.cell? ⟨r4, 0, none⟩ = some (.float .f64 p0) ∧ w'.cell? ⟨r4, 1, none⟩ = some (.float .f64 p1)) ∧ w'.cell? ⟨r5, 0, none⟩ = some (.float .f64 q0) ∧ w'.cell? ⟨r5, 1, none⟩ = some (.float .f64 q1)) W25v14 := HS.out.1.1.cells
  repeat (first | (refine wpPl_takeL (v := ?_) rfl rfl (fun _ _ _ h => h) rfl (fun w' hSw => ?_) hS ?_; rotate_left; (focus (go_simp; with_reducible rfl)); simp only [List.setIfInBounds_toArray, List.set_cons_zero, List.set_cons_succ]) | (refine wpPl_skipL rfl rfl (fun _ _ _ h => h) rfl hS ?_; simp only [List.setIfInBounds_toArray, List.set_cons_zero, List.set_cons_succ]))
  clear hS
  refine wpPl_goL rfl rfl fun K' hK => ?_
  go_simp
  refine (HSH.out _).mono ?_
  rintro e1 W25v15 ⟨rfl, hb1⟩
  replace HS := Lib.hid (HS.out.later hb1)
  refine hK _ _ HS.out.1.1.cells ?_
  clear hK K' hb1
  try simp only [Act.put, List.setIfInBounds_toArray, List.set_cons_zero, List.set_cons_succ]
  have hS : (fun w' : World => (w'.cell? ⟨r4, 0, none⟩ = some (.float .f64 p0) ∧ w'.cell? ⟨r4, 1, none⟩ = some (.float .f64 p1)) ∧ w'.cell? ⟨r5, 0, none⟩ = some (.float .f64 q0) ∧ w'.cell? ⟨r5, 1, none⟩ = some (.float .f64 q1)) W25v15 := HS.out.1.1.cells
  repeat (first | (refine wpPl_takeL (v := ?_) rfl rfl (fun _ _ _ h => h) rfl (fun w' hSw => ?_) hS ?_; rotate_left; (focus (go_simp; with_reducible rfl)); simp only [List.setIfInBounds_toArray, List.set_cons_zero, List.set_cons_succ]) | (refine wpPl_skipL rfl rfl (fun _ _ _ h => h) rfl hS ?_; simp only [List.setIfInBounds_toArray, List.set_cons_zero, List.set_cons_succ]))
  clear hS
  refine wpPl_goL rfl rfl fun K' hK => ?_
  go_simp
  refine (HPMT.out _).mono ?_
  rintro e1 W25v16 ⟨rfl, hb1⟩
  replace HS := Lib.hid (HS.out.later hb1)
  refine hK _ _ HS.out.1.1.cells ?_
  clear hK K' hb1
  try simp only [Act.put, List.setIfInBounds_toArray, List.set_cons_zero, List.set_cons_succ]
  have hS : (fun w' : World => (w'.cell? ⟨r4, 0, none⟩ = some (.float .f64 p0) ∧ w'.cell? ⟨r4, 1, none⟩ = some (.float .f64 p1)) ∧ w'.cell? ⟨r5, 0, none⟩ = some (.float .f64 q0) ∧ w'.cell? ⟨r5, 1, none⟩ = some (.float .f64 q1)) W25v16 := HS.out.1.1.cells
  repeat (first | (refine wpPl_takeL (v := ?_) rfl rfl (fun _ _ _ h => h) rfl (fun w' hSw => ?_) hS ?_; rotate_left; (focus (go_simp; with_reducible rfl)); simp only [List.setIfInBounds_toArray, List.set_cons_zero, List.set_cons_succ]) | (refine wpPl_skipL rfl rfl (fun _ _ _ h => h) rfl hS ?_; simp only [List.setIfInBounds_toArray, List.set_cons_zero, List.set_cons_succ]))
  clear hS
  refine wpPl_nil ?_
  simp only [List.append_eq, List.cons_append, List.nil_append, List.drop_succ_cons, List.drop_zero]
  obtain ⟨⟨⟨⟨g0, g1⟩, g2, g3⟩, g4, g5, g6, g7⟩, g8, g9, ga, gb⟩ := HS.out.cells
  go_wp2_with fail
  refine (HRMT.out _).mono ?_
  rintro e58 w58 ⟨rfl, hb58⟩
  replace HS := Lib.hid (HS.out.later hb58)
  clear hb58
  clear g0 g1 g2 g3 g4 g5 g6 g7 g8 g9 ga gb
  obtain ⟨⟨⟨⟨g0, g1⟩, g2, g3⟩, g4, g5, g6, g7⟩, g8, g9, ga, gb⟩ := HS.out.cells
  go_wp2_with fail
  refine (HSM.out _).mono ?_
  rintro e59 w59 ⟨rfl, hb59⟩
  replace HS := Lib.hid (HS.out.later hb59)
  clear hb59
  clear g0 g1 g2 g3 g4 g5 g6 g7 g8 g9 ga gb
  obtain ⟨⟨⟨⟨g0, g1⟩, g2, g3⟩, g4, g5, g6, g7⟩, g8, g9, ga, gb⟩ := HS.out.cells
  go_wp2_with fail
  refine (HAW.out _ (HT.out.below HS.out.2.1.2)).mono ?_
  rintro e60 w60 ⟨rfl, hb60⟩
  replace HS := Lib.hid (HS.out.later hb60)
  clear hb60
  clear g0 g1 g2 g3 g4 g5 g6 g7 g8 g9 ga gb
  obtain ⟨⟨⟨⟨g0, g1⟩, g2, g3⟩, g4, g5, g6, g7⟩, g8, g9, ga, gb⟩ := HS.out.cells
  go_wp2
  go_ret
  exact ⟨rfl, HS.out.2.1.2⟩

end Go.Proofs.YtlhebpoiakpkoaaGreatDoor
