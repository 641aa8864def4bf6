/- Walk: DyadOnce. Printed by wip/gen/once.py. -/
import Derived.Test.YtfcddnccmdjhfaaDoorOn5
import Derived.Test.YtfcddnccmdjhfaaDoorRg2
namespace Go.Proofs.YtfcddnccmdjhfaaDoor
open Go.RowKit

theorem FSl.two (w : World) (x y t : Nat) (hx : x < 18446744073709551616) (hy : y < 18446744073709551616) : FSl (w.alloc (.cells #[.float .f64 x, .float .f64 y] t)) (.slice (some ⟨w.heap.size, 0, none⟩) 2 2) [x, y] := by
  refine ⟨_, 2, rfl, Nat.le_refl _, by simp, fun u hu => ?_, fun _ => ⟨w.heap.size, 0, rfl, by simp, fun i hi => ?_⟩⟩
  · simp only [List.mem_cons, List.not_mem_nil, or_false] at hu
    rcases hu with rfl | rfl <;> assumption
  · have : i = 0 ∨ i = 1 := by simp at hi; omega
    rcases this with rfl | rfl
    · rw [show (⟨w.heap.size, 0 + 0, none⟩ : Addr) = ⟨w.heap.size, 0, none⟩ from rfl, World.cell?_alloc_new]; rfl
    · rw [show (⟨w.heap.size, 0 + 1, none⟩ : Addr) = ⟨w.heap.size, 1, none⟩ from rfl, World.cell?_alloc_new]; rfl

theorem plZ_left (e y f : Int) : plZ 0 e y f = y := by unfold plZ; rw [if_pos rfl]
theorem plE_left (e y f : Int) : plE 0 e y f = f := by unfold plE; rw [if_pos rfl]
theorem foldS_two (a b : Int × Int) : foldS [a, b] = (plZ a.1 a.2 b.1 b.2, plE a.1 a.2 b.1 b.2) := by
  show (plZ (plZ 0 0 a.1 a.2) (plE 0 0 a.1 a.2) b.1 b.2, plE (plZ 0 0 a.1 a.2) (plE 0 0 a.1 a.2) b.1 b.2) = _
  rw [plZ_left, plE_left]
theorem foldS_one (a : Int × Int) : foldS [a] = a := by
  show (plZ 0 0 a.1 a.2, plE 0 0 a.1 a.2) = _
  rw [plZ_left, plE_left]
theorem fold_two (x y : Nat) : foldS (prs [x, y]) = (plZ (valZ x) (pE x) (valZ y) (pE y), plE (valZ x) (pE x) (valZ y) (pE y)) := foldS_two _ _
theorem fold_one (x y : Nat) : foldS (dts [x] [y]) = (valZ x * valZ y, pE x + pE y) := foldS_one _

theorem FSl.pair (w : World) (o : _root_.Go.Obj) (x y t : Nat) (hx : x < 18446744073709551616) (hy : y < 18446744073709551616) :
    FSl (((w.alloc o).alloc (.cells #[.float .f64 x] t)).alloc (.cells #[.float .f64 y] t)) (.slice (some ⟨w.heap.size + 1, 0, none⟩) 1 1) [x] ∧
    FSl (((w.alloc o).alloc (.cells #[.float .f64 x] t)).alloc (.cells #[.float .f64 y] t)) (.slice (some ⟨w.heap.size + 1 + 1, 0, none⟩) 1 1) [y] := by
  have h1 := (FSl.one (w.alloc o) x t hx).below (below1 _ (.cells #[.float .f64 y] t))
  have h2 := FSl.one1 (w.alloc o) (.cells #[.float .f64 x] t) y t hy
  rw [show (w.alloc o).heap.size = w.heap.size + 1 by simp] at h1 h2
  exact ⟨h1, h2⟩

set_option maxRecDepth 100000 in
set_option maxHeartbeats 4000000 in
theorem once_bad0 (x y : Nat) (w : World) (hx : x < 18446744073709551616) (hy : y < 18446744073709551616) (hT : Tab64 w) (hTs : 1 < w.heap.size) (fx : finB x = false) :
    Calls Tryd.prog 5 #[.int .u64 x, .int .u64 y] w (Gives (.bool true) w) := by
  have HT := Lib.hid (And.intro hT hTs)
  have hf1 := ffrom_eq x
  have hf2 := ffrom_eq y
  have H0 : Hid (∀ v W, FSl W v [x, y] → Calls Tryd.prog 15 #[v] W (DyErr 4 W)) := Lib.hid fun v W h => Sum_bad v _ W h (by simp [fx])
  have H1 : Hid (∀ v u W, FSl W v [x] → FSl W u [y] → Calls Tryd.prog 16 #[v, u] W (DyErr 4 W)) := Lib.hid fun v u W h h' => Dot_bad0 v u _ _ W h h' rfl (by simp [fx])
  have H2 : Hid (∀ W, Calls Tryd.prog 17 #[.float .f64 x] W (Gives (.bool false) W)) := Lib.hid fun W => by rw [← fx]; exact rFinite_any x W hx
  have HX := Lib.hid (And.intro hx hy)
  clear hx hy hT hTs fx
  have HB := Lib.hid (Below.refl w.heap.size w)
  go_enter Tryd.func5, Tryd.ntmps5
  go_wp2_with fail
  refine (H0.out _ _ (FSl.two w x y 29 HX.out.1 HX.out.2)).mono ?_
  rintro e1 w1 ⟨rfl, hb1⟩
  unfold DyV
  have HBn := Lib.hid (HB.out.trans ((below1 w (.cells #[.float .f64 x, .float .f64 y] 29)).trans (hb1.mono (below1 _ _).size)))
  clear HB
  have HB := HBn
  clear HBn
  clear hb1
  have HBn := Lib.hid (HB.out.alloc HB.out.size (.cells #[.bool false, .slice none 0 0, .int .i64 0] 25))
  clear HB
  have HB := HBn
  clear HBn
  have HPr := Lib.hid (FSl.pair w1 (.cells #[.bool false, .slice none 0 0, .int .i64 0] 25) x y 29 HX.out.1 HX.out.2)
  go_wp2_with fail
  refine (H1.out _ _ _ HPr.out.1 HPr.out.2).mono ?_
  rintro e2 w2 ⟨rfl, hb2⟩
  unfold DyV
  have HBn := Lib.hid (HB.out.trans (((below2 _ (.cells #[.float .f64 x] 29) (.cells #[.float .f64 y] 29)).trans (hb2.mono (below2 _ _ _).size)).mono HB.out.size))
  clear HB
  have HB := HBn
  clear HBn
  clear hb2
  have HBn := Lib.hid (HB.out.alloc HB.out.size (.cells #[.bool false, .slice none 0 0, .int .i64 0] 25))
  clear HB
  have HB := HBn
  clear HBn
  go_wp2_with fail
  refine (H2.out _).mono ?_
  rintro e3 w3 ⟨rfl, hb3⟩
  have HBn := Lib.hid (HB.out.trans (hb3.mono HB.out.size))
  clear HB
  have HB := HBn
  clear HBn
  clear hb3
  go_wp2_with fail
  refine (awake_any _ (HT.out.1.below HT.out.2 HB.out) (Nat.lt_of_lt_of_le HT.out.2 HB.out.size)).mono ?_
  rintro e9 w9 ⟨rfl, hb9⟩
  have HBn := Lib.hid (HB.out.trans (hb9.mono HB.out.size))
  clear HB
  have HB := HBn
  clear HBn
  clear hb9
  go_wp2
  go_ret
  exact ⟨rfl, HB.out⟩

set_option maxRecDepth 100000 in
set_option maxHeartbeats 4000000 in
theorem once_bad1 (x y : Nat) (w : World) (hx : x < 18446744073709551616) (hy : y < 18446744073709551616) (hT : Tab64 w) (hTs : 1 < w.heap.size) (fx : finB x = true) (fy : finB y = false) :
    Calls Tryd.prog 5 #[.int .u64 x, .int .u64 y] w (Gives (.bool true) w) := by
  have HT := Lib.hid (And.intro hT hTs)
  have hf1 := ffrom_eq x
  have hf2 := ffrom_eq y
  have H0 : Hid (∀ v W, FSl W v [x, y] → Calls Tryd.prog 15 #[v] W (DyErr 4 W)) := Lib.hid fun v W h => Sum_bad v _ W h (by simp [fy])
  have H1 : Hid (∀ v u W, FSl W v [x] → FSl W u [y] → Calls Tryd.prog 16 #[v, u] W (DyErr 4 W)) := Lib.hid fun v u W h h' => Dot_bad1 v u _ _ W h h' rfl (by simp [fx]) (by simp [fy])
  have H2 : Hid (∀ W, Calls Tryd.prog 17 #[.float .f64 x] W (Gives (.bool true) W)) := Lib.hid fun W => by rw [← fx]; exact rFinite_any x W hx
  have H3 : Hid (∀ W, Calls Tryd.prog 17 #[.float .f64 y] W (Gives (.bool false) W)) := Lib.hid fun W => by rw [← fy]; exact rFinite_any y W hy
  have HX := Lib.hid (And.intro hx hy)
  clear hx hy hT hTs fx fy
  have HB := Lib.hid (Below.refl w.heap.size w)
  go_enter Tryd.func5, Tryd.ntmps5
  go_wp2_with fail
  refine (H0.out _ _ (FSl.two w x y 29 HX.out.1 HX.out.2)).mono ?_
  rintro e1 w1 ⟨rfl, hb1⟩
  unfold DyV
  have HBn := Lib.hid (HB.out.trans ((below1 w (.cells #[.float .f64 x, .float .f64 y] 29)).trans (hb1.mono (below1 _ _).size)))
  clear HB
  have HB := HBn
  clear HBn
  clear hb1
  have HBn := Lib.hid (HB.out.alloc HB.out.size (.cells #[.bool false, .slice none 0 0, .int .i64 0] 25))
  clear HB
  have HB := HBn
  clear HBn
  have HPr := Lib.hid (FSl.pair w1 (.cells #[.bool false, .slice none 0 0, .int .i64 0] 25) x y 29 HX.out.1 HX.out.2)
  go_wp2_with fail
  refine (H1.out _ _ _ HPr.out.1 HPr.out.2).mono ?_
  rintro e2 w2 ⟨rfl, hb2⟩
  unfold DyV
  have HBn := Lib.hid (HB.out.trans (((below2 _ (.cells #[.float .f64 x] 29) (.cells #[.float .f64 y] 29)).trans (hb2.mono (below2 _ _ _).size)).mono HB.out.size))
  clear HB
  have HB := HBn
  clear HBn
  clear hb2
  have HBn := Lib.hid (HB.out.alloc HB.out.size (.cells #[.bool false, .slice none 0 0, .int .i64 0] 25))
  clear HB
  have HB := HBn
  clear HBn
  go_wp2_with fail
  refine (H2.out _).mono ?_
  rintro e3 w3 ⟨rfl, hb3⟩
  have HBn := Lib.hid (HB.out.trans (hb3.mono HB.out.size))
  clear HB
  have HB := HBn
  clear HBn
  clear hb3
  go_wp2_with fail
  refine (H3.out _).mono ?_
  rintro e4 w4 ⟨rfl, hb4⟩
  have HBn := Lib.hid (HB.out.trans (hb4.mono HB.out.size))
  clear HB
  have HB := HBn
  clear HBn
  clear hb4
  go_wp2_with fail
  refine (awake_any _ (HT.out.1.below HT.out.2 HB.out) (Nat.lt_of_lt_of_le HT.out.2 HB.out.size)).mono ?_
  rintro e9 w9 ⟨rfl, hb9⟩
  have HBn := Lib.hid (HB.out.trans (hb9.mono HB.out.size))
  clear HB
  have HB := HBn
  clear HBn
  clear hb9
  go_wp2
  go_ret
  exact ⟨rfl, HB.out⟩

/-- What a sum that is small is in its one way. -/
theorem good_nr {z e : Int} (h1 : -100000 ≤ e) (h2 : e + bl z.natAbs ≤ 100000) (h3 : bl z.natAbs ≤ 65536) : GoodD (hvZ z) (nrE z e) := by
  have h4 := hvE_bd z e
  refine ⟨nrm_hv z e, Nat.le_trans (bl_hvZ z) h3, ?_, ?_⟩
  · unfold nrE; split <;> omega
  · unfold nrE; split <;> omega

theorem fadd_run {x y r : Nat} (h : FloatKind.f64.format.add x y = some r) (w : World) : (binOp .add 29 (.float .f64 x) (.float .f64 y)).run Tryd.prog w = .ok (.float .f64 r) w := by
  have e : binOp .add 29 (.float .f64 x) (.float .f64 y) = Op.floatArith .add .f64 x y := rfl
  rw [e]
  unfold Op.floatArith
  rw [h]
  rfl

theorem fmul_run {x y r : Nat} (h : FloatKind.f64.format.mul x y = some r) (w : World) : (binOp .mul 29 (.float .f64 x) (.float .f64 y)).run Tryd.prog w = .ok (.float .f64 r) w := by
  have e : binOp .mul 29 (.float .f64 x) (.float .f64 y) = Op.floatArith .mul .f64 x y := rfl
  rw [e]
  unfold Op.floatArith
  rw [h]
  rfl

theorem neq_of_eq {x y : Nat} {b : Bool} (h : (FloatKind.f64.format.order x y == some Ordering.eq) = b) : (FloatKind.f64.format.order x y != some Ordering.eq) = !b := by rw [bne, h]

/-- A call of Round whose answer is known. -/
def RoundsTo (z e mode : Int) (b : Nat) : Prop :=
  ∀ (va : Value) (W : World), DyAt W va z e → Tab64 W → 1 < W.heap.size → Calls Tryd.prog 18 #[va, .int .i64 mode] W (Gives (.tuple #[.float .f64 b, .int .i64 0]) W)

/-- A sum or product to the nearest is what + or * answers. -/
structure Near2 (z e : Int) (S r : Nat) : Prop where
  good : GoodD z e
  round : RoundsTo z e 0 S
  eq : (FloatKind.f64.format.order S r != some Ordering.eq) = false
  same : z ≠ 0 → S = r

theorem near_of {P E : Int} {r : Nat} (hg : GoodD (hvZ P) (nrE P E)) (h1 : P ≠ 0 → r = rndB (hvZ P) (nrE P E) 0) (h0 : P = 0 → r = 0 ∨ r = kSign) : Near2 (hvZ P) (nrE P E) (rndB (hvZ P) (nrE P E) 0) r :=
  ⟨hg, fun va W ha hT hTs => dRound_any va _ _ 0 W ha hg (by decide) (by decide) hT hTs, neq_of_eq (once_order h1 h0), fun h => (h1 fun e => h (by rw [e, hvZ_zero])).symm⟩

theorem once_sum {x y : Nat} (hx : x < 18446744073709551616) (hy : y < 18446744073709551616) (fx : finB x = true) (fy : finB y = true) :
    ∃ z e S r, FloatKind.f64.format.add x y = some r ∧ Near2 z e S r ∧ ∀ v W, FSl W v [x, y] → Tab64 W → 1 < W.heap.size → Calls Tryd.prog 15 #[v] W (DyNew z e W) := by
  have hf : [x, y].all finB = true := by simp [fx, fy]
  obtain ⟨r, h1, h2, h3⟩ := fadd_fin hx hy fx fy
  have hb := prs_small (l := [x, y]) (by simp) hf 2 (by simp)
  have ht : (prs [x, y]).take 2 = prs [x, y] := rfl
  rw [ht, fold_two] at hb
  refine ⟨_, _, _, r, h1, near_of (good_nr ?_ ?_ ?_) h2 h3, fun v W hl hT hTs => ?_⟩
  · have := hb.1; simp only at this; omega
  · have := hb.2; simp only at this; omega
  · have := hb.2.2; simp only at this; omega
  · have := Sum_any v [x, y] W hl hf hT hTs
    rw [fold_two] at this
    exact this

theorem once_dot {x y : Nat} (hx : x < 18446744073709551616) (hy : y < 18446744073709551616) (fx : finB x = true) (fy : finB y = true) :
    ∃ z e S r, FloatKind.f64.format.mul x y = some r ∧ Near2 z e S r ∧ ∀ v u W, FSl W v [x] → FSl W u [y] → Tab64 W → 1 < W.heap.size → Calls Tryd.prog 16 #[v, u] W (DyNew z e W) := by
  have hf : [x].all finB = true := by simp [fx]
  have hf2 : [y].all finB = true := by simp [fy]
  obtain ⟨r, h1, h2, h3⟩ := fmul_fin hx hy fx fy
  have hb := dts_small (l := [x]) (m := [y]) rfl (by simp) hf hf2 1 (by simp)
  have ht : (dts [x] [y]).take 1 = dts [x] [y] := rfl
  rw [ht, fold_one] at hb
  refine ⟨_, _, _, r, h1, near_of (good_nr ?_ ?_ ?_) h2 h3, fun v u W hl hm hT hTs => ?_⟩
  · have := hb.1; simp only at this; omega
  · have := hb.2; simp only at this; omega
  · have := hb.2.2; simp only at this; omega
  · have := Dot_any v u [x] [y] W hl hm rfl hf hf2 hT hTs
    rw [fold_one] at this
    exact this

/-- A number rounds to itself in each mode, but for its zero's sign. -/
theorem once_own {x : Nat} (hx : x < 18446744073709551616) (fx : finB x = true) :
    ∃ V zz, (FloatKind.f64.format.order V x != some Ordering.eq) = false ∧ (FloatKind.f64.format.order x 0 != some Ordering.eq) = !zz ∧ (zz = false → V = x) ∧ ∀ mode, 0 ≤ mode → mode ≤ 4 → RoundsTo (valZ x) (pE x) mode V := by
  have hr : ∀ V, (∀ mode, rndB (valZ x) (pE x) mode = V) → ∀ mode, 0 ≤ mode → mode ≤ 4 → RoundsTo (valZ x) (pE x) mode V := fun V h mode h1 h2 va W ha hT hTs => by
    have := dRound_any va _ _ mode W ha (good_of fx) h1 h2 hT hTs
    rw [h] at this; exact this
  by_cases h : valZ x = 0
  · have he : pE x = 0 := by
      rcases pM_spec x with ⟨-, h2, h3⟩ | ⟨-, h2, -, -⟩
      · exact h3
      · have := valZ_natAbs x; omega
    refine ⟨0, true, neq_of_eq (order_sym0 hx fx h), ?_, (fun h => by cases h), hr 0 (fun mode => by rw [h]; exact rnd_zero _ _ he)⟩
    have := neq_of_eq (order_zero hx fx)
    rw [this, decide_eq_true h]
  · refine ⟨x, false, ?_, ?_, fun _ => rfl, hr x fun mode => rnd_own hx fx h mode⟩
    · have := neq_of_eq (order_self x)
      rw [this, nan_fin fx]; rfl
    · have := neq_of_eq (order_zero hx fx)
      rw [this, decide_eq_false h]

set_option maxRecDepth 100000 in
set_option maxHeartbeats 8000000 in
theorem once_f (x y : Nat) (w : World) (hx : x < 18446744073709551616) (hy : y < 18446744073709551616) (hT : Tab64 w) (hTs : 1 < w.heap.size) (fx : finB x = true) (fy : finB y = true)
    (zs es zd ed : Int) (S r P q V : Nat) (zz : Bool) (hadd : FloatKind.f64.format.add x y = some r) (hmul : FloatKind.f64.format.mul x y = some q) (n1 : Near2 zs es S r) (n2 : Near2 zd ed P q)
    (hsum : ∀ v W, FSl W v [x, y] → Tab64 W → 1 < W.heap.size → Calls Tryd.prog 15 #[v] W (DyNew zs es W))
    (hdot : ∀ v u W, FSl W v [x] → FSl W u [y] → Tab64 W → 1 < W.heap.size → Calls Tryd.prog 16 #[v, u] W (DyNew zd ed W))
    (hv1 : (FloatKind.f64.format.order V x != some Ordering.eq) = false) (hv2 : (FloatKind.f64.format.order x 0 != some Ordering.eq) = !zz) (hv3 : zz = false → V = x) (hv4 : ∀ mode, 0 ≤ mode → mode ≤ 4 → RoundsTo (valZ x) (pE x) mode V) (hc : (FloatKind.f64.format.order P 0 == some Ordering.eq) = false) :
    Calls Tryd.prog 5 #[.int .u64 x, .int .u64 y] w (Gives (.bool true) w) := by
  have HT := Lib.hid (And.intro hT hTs)
  have hf1 := ffrom_eq x
  have hf2 := ffrom_eq y
  have H0 := Lib.hid hsum
  have H1 := Lib.hid hdot
  have H2 : Hid (∀ W, Calls Tryd.prog 17 #[.float .f64 x] W (Gives (.bool true) W)) := Lib.hid fun W => by rw [← fx]; exact rFinite_any x W hx
  have H3 : Hid (∀ W, Calls Tryd.prog 17 #[.float .f64 y] W (Gives (.bool true) W)) := Lib.hid fun W => by rw [← fy]; exact rFinite_any y W hy
  have H4 := Lib.hid n1.round
  have H5 := Lib.hid n2.round
  have H6 := Lib.hid fun W hW => dOf_any x W hx fx hW
  have H7 := Lib.hid hv4
  have H8 := Lib.hid hv3
  have ha1 := fadd_run hadd
  have ha2 := fmul_run hmul
  have ho1 := n1.eq
  have ho2 := n2.eq
  have hm2 := n2.same
  have HX := Lib.hid (And.intro hx hy)
  unfold RoundsTo at *
  clear hx hy hT hTs fx fy n1 n2 hadd hmul hsum hdot hv3 hv4
  generalize valZ x = z0 at *
  generalize pE x = e0 at *
  clear hm2
  have HB := Lib.hid (Below.refl w.heap.size w)
  go_enter Tryd.func5, Tryd.ntmps5
  go_wp2_with fail
  refine (H0.out _ _ (FSl.two w x y 29 HX.out.1 HX.out.2) (HT.out.1.below HT.out.2 (below1 _ _)) (Nat.lt_of_lt_of_le HT.out.2 (below1 _ _).size)).mono ?_
  intro e1 w1 hd
  obtain ⟨ao1, c1, rfl, -, -, hb1, ha1⟩ := hd.at'
  have HBn := Lib.hid (HB.out.trans ((below1 w (.cells #[.float .f64 x, .float .f64 y] 29)).trans (hb1.mono (below1 _ _).size)))
  clear HB
  have HB := HBn
  clear HBn
  have HDs := Lib.hid ha1
  clear hd hb1 ha1
  generalize hn1 : decide (zs < 0) = n1 at *
  generalize hl1 : ln 32 zs.natAbs = l1 at *
  clear hn1 hl1
  replace HDs := Lib.hid (HDs.out.below (below1 w1 (.cells #[.bool n1, .slice ao1 l1 c1, .int .i64 es] 25)))
  have HBs := Lib.hid (BlkT.new w1 #[.bool n1, .slice ao1 l1 c1, .int .i64 es] 25)
  have HPr := Lib.hid (FSl.pair w1 (.cells #[.bool n1, .slice ao1 l1 c1, .int .i64 es] 25) x y 29 HX.out.1 HX.out.2)
  have HBn := Lib.hid (HB.out.alloc HB.out.size (.cells #[.bool n1, .slice ao1 l1 c1, .int .i64 es] 25))
  clear HB
  have HB := HBn
  clear HBn
  have HBp := Lib.hid (below2 (w1.alloc (.cells #[.bool n1, .slice ao1 l1 c1, .int .i64 es] 25)) (.cells #[.float .f64 x] 29) (.cells #[.float .f64 y] 29))
  go_wp2_with fail
  refine (H1.out _ _ _ HPr.out.1 HPr.out.2 ((HT.out.1.below HT.out.2 HB.out).below (Nat.lt_of_lt_of_le HT.out.2 HB.out.size) HBp.out) (Nat.lt_of_lt_of_le (Nat.lt_of_lt_of_le HT.out.2 HB.out.size) HBp.out.size)).mono ?_
  intro e2 w2 hd
  obtain ⟨ao2, c2, rfl, -, -, hb2, ha2⟩ := hd.at'
  replace HBp := Lib.hid (HBp.out.trans (hb2.mono HBp.out.size))
  replace HDs := Lib.hid (HDs.out.below HBp.out)
  replace HBs := Lib.hid (HBs.out.below HBp.out)
  have HBn := Lib.hid (HB.out.trans (HBp.out.mono HB.out.size))
  clear HB
  have HB := HBn
  clear HBn
  have HDd := Lib.hid ha2
  clear hd hb2 ha2 HBp HPr
  generalize hn2 : decide (zd < 0) = n2 at *
  generalize hl2 : ln 32 zd.natAbs = l2 at *
  clear hn2 hl2
  replace HDd := Lib.hid (HDd.out.below (below1 w2 (.cells #[.bool n2, .slice ao2 l2 c2, .int .i64 ed] 25)))
  have HBd := Lib.hid (BlkT.new w2 #[.bool n2, .slice ao2 l2 c2, .int .i64 ed] 25)
  replace HDs := Lib.hid (HDs.out.below (below1 w2 (.cells #[.bool n2, .slice ao2 l2 c2, .int .i64 ed] 25)))
  replace HBs := Lib.hid (HBs.out.below (below1 w2 (.cells #[.bool n2, .slice ao2 l2 c2, .int .i64 ed] 25)))
  have HBn := Lib.hid (HB.out.alloc HB.out.size (.cells #[.bool n2, .slice ao2 l2 c2, .int .i64 ed] 25))
  clear HB
  have HB := HBn
  clear HBn
  go_wp2_with fail
  refine (H2.out _).mono ?_
  rintro e3 w3 ⟨rfl, hb3⟩
  replace HDs := Lib.hid (HDs.out.below hb3)
  replace HBs := Lib.hid (HBs.out.below hb3)
  replace HDd := Lib.hid (HDd.out.below hb3)
  replace HBd := Lib.hid (HBd.out.below hb3)
  have HBn := Lib.hid (HB.out.trans (hb3.mono HB.out.size))
  clear HB
  have HB := HBn
  clear HBn
  clear hb3
  go_wp2_with fail
  refine (H3.out _).mono ?_
  rintro e4 w4 ⟨rfl, hb4⟩
  replace HDs := Lib.hid (HDs.out.below hb4)
  replace HBs := Lib.hid (HBs.out.below hb4)
  replace HDd := Lib.hid (HDd.out.below hb4)
  replace HBd := Lib.hid (HBd.out.below hb4)
  have HBn := Lib.hid (HB.out.trans (hb4.mono HB.out.size))
  clear HB
  have HB := HBn
  clear HBn
  clear hb4
  obtain ⟨s0, s1, s2, s3, s4, s5⟩ := HBs.out.cells3
  go_wp2_with fail
  refine (H4.out _ _ HDs.out (HT.out.1.below HT.out.2 HB.out) (Nat.lt_of_lt_of_le HT.out.2 HB.out.size)).mono ?_
  rintro e5 w5 ⟨rfl, hb5⟩
  replace HDs := Lib.hid (HDs.out.below hb5)
  replace HBs := Lib.hid (HBs.out.below hb5)
  replace HDd := Lib.hid (HDd.out.below hb5)
  replace HBd := Lib.hid (HBd.out.below hb5)
  have HBn := Lib.hid (HB.out.trans (hb5.mono HB.out.size))
  clear HB
  have HB := HBn
  clear HBn
  clear hb5
  clear s0 s1 s2 s3 s4 s5
  obtain ⟨d0, d1, d2, d3, d4, d5⟩ := HBd.out.cells3
  go_wp2_with fail
  refine (H5.out _ _ HDd.out (HT.out.1.below HT.out.2 HB.out) (Nat.lt_of_lt_of_le HT.out.2 HB.out.size)).mono ?_
  rintro e6 w6 ⟨rfl, hb6⟩
  replace HDs := Lib.hid (HDs.out.below hb6)
  replace HBs := Lib.hid (HBs.out.below hb6)
  replace HDd := Lib.hid (HDd.out.below hb6)
  replace HBd := Lib.hid (HBd.out.below hb6)
  have HBn := Lib.hid (HB.out.trans (hb6.mono HB.out.size))
  clear HB
  have HB := HBn
  clear HBn
  clear hb6
  clear d0 d1 d2 d3 d4 d5
  obtain ⟨d0, d1, d2, d3, d4, d5⟩ := HBd.out.cells3
  clear HBd HDd HBs HDs
  go_wp2_with fail
  refine (H6.out _ (HT.out.1.below HT.out.2 HB.out) (Nat.lt_of_lt_of_le HT.out.2 HB.out.size)).mono ?_
  clear ho1 ho2 ha1 ha2 hc
  intro e8 w8 hd
  obtain ⟨ao3, c3, rfl, -, -, hb8, ha8⟩ := hd.at'
  have HBn := Lib.hid (HB.out.trans (hb8.mono HB.out.size))
  clear HB
  have HB := HBn
  clear HBn
  have HDo := Lib.hid ha8
  clear hd hb8 ha8
  generalize hn3 : decide (z0 < 0) = n3 at *
  generalize hl3 : ln 32 z0.natAbs = l3 at *
  clear hn3 hl3
  replace HDo := Lib.hid (HDo.out.below (below1 w8 (.cells #[.bool n3, .slice ao3 l3 c3, .int .i64 e0] 25)))
  have HBo := Lib.hid (BlkT.new w8 #[.bool n3, .slice ao3 l3 c3, .int .i64 e0] 25)
  have HBn := Lib.hid (HB.out.alloc HB.out.size (.cells #[.bool n3, .slice ao3 l3 c3, .int .i64 e0] 25))
  clear HB
  have HB := HBn
  clear HBn
  go_wp2
  have HRef : Hid (Below (w8.alloc (.cells #[.bool n3, .slice ao3 l3 c3, .int .i64 e0] 25)).heap.size (w8.alloc (.cells #[.bool n3, .slice ao3 l3 c3, .int .i64 e0] 25)) (w8.alloc (.cells #[.bool n3, .slice ao3 l3 c3, .int .i64 e0] 25))) := Lib.hid (Below.refl _ _)
  clear H0 H1 H2 H3 H4 H5 H6 HX hf1 hf2
  go_loopw [14] (fun i wr => ∃ k : Nat, k ≤ 5 ∧ i = .int .i64 k ∧ Hid (Below (w8.alloc (.cells #[.bool n3, .slice ao3 l3 c3, .int .i64 e0] 25)).heap.size (w8.alloc (.cells #[.bool n3, .slice ao3 l3 c3, .int .i64 e0] 25)) wr)) (fun i _ => 5 - (intOf i).toNat)
  case atStart => exact ⟨0, by decide, rfl, HRef⟩
  case round =>
    obtain ⟨k, hk, rfl, HR⟩ := hrel
    have HDk := Lib.hid (HDo.out.below HR.out)
    have HBk := Lib.hid (HBo.out.below HR.out)
    have HW := Lib.hid (HB.out.trans (HR.out.mono HB.out.size))
    by_cases hlt : k < 5
    · obtain ⟨s0, s1, s2, s3, s4, s5⟩ := HBk.out.cells3
      have H9 := Lib.hid (H7.out k (by omega) (by omega))
      cases zz
      · have HVx := Lib.hid (H8.out rfl)
        go_wp2_with fail
        refine (H9.out _ _ HDk.out (HT.out.1.below HT.out.2 HW.out) (Nat.lt_of_lt_of_le HT.out.2 HW.out.size)).mono ?_
        rintro e9 w9 ⟨rfl, hb9⟩
        replace HR := Lib.hid (HR.out.trans (hb9.mono HR.out.size))
        clear hb9 s0 s1 s2 s3 s4 s5
        go_wp2_with fail
        refine (lSame_any V x _).mono ?_
        rintro e10 w10 ⟨rfl, hb10⟩
        rw [decide_eq_true HVx.out]
        replace HR := Lib.hid (HR.out.trans (hb10.mono HR.out.size))
        clear hb10
        go_wp2
        go_roundw
        case rel => exact ⟨k + 1, by omega, by go_num, HR⟩
        case measure => simp [intOf]; omega
      · go_wp2_with fail
        refine (H9.out _ _ HDk.out (HT.out.1.below HT.out.2 HW.out) (Nat.lt_of_lt_of_le HT.out.2 HW.out.size)).mono ?_
        rintro e9 w9 ⟨rfl, hb9⟩
        replace HR := Lib.hid (HR.out.trans (hb9.mono HR.out.size))
        clear hb9 s0 s1 s2 s3 s4 s5
        go_wp2
        go_roundw
        case rel => exact ⟨k + 1, by omega, by go_num, HR⟩
        case measure => simp [intOf]; omega
    · obtain rfl : k = 5 := by omega
      go_wp2_with fail
      refine (awake_any _ (HT.out.1.below HT.out.2 HW.out) (Nat.lt_of_lt_of_le HT.out.2 HW.out.size)).mono ?_
      rintro e9 w9 ⟨rfl, hb9⟩
      have HF := Lib.hid (HW.out.trans (hb9.mono HW.out.size))
      clear hb9
      go_wp2
      go_ret
      exact ⟨rfl, HF.out⟩

set_option maxRecDepth 100000 in
set_option maxHeartbeats 8000000 in
theorem once_z (x y : Nat) (w : World) (hx : x < 18446744073709551616) (hy : y < 18446744073709551616) (hT : Tab64 w) (hTs : 1 < w.heap.size) (fx : finB x = true) (fy : finB y = true)
    (zs es zd ed : Int) (S r P q V : Nat) (zz : Bool) (hadd : FloatKind.f64.format.add x y = some r) (hmul : FloatKind.f64.format.mul x y = some q) (n1 : Near2 zs es S r) (n2 : Near2 zd ed P q)
    (hsum : ∀ v W, FSl W v [x, y] → Tab64 W → 1 < W.heap.size → Calls Tryd.prog 15 #[v] W (DyNew zs es W))
    (hdot : ∀ v u W, FSl W v [x] → FSl W u [y] → Tab64 W → 1 < W.heap.size → Calls Tryd.prog 16 #[v, u] W (DyNew zd ed W))
    (hv1 : (FloatKind.f64.format.order V x != some Ordering.eq) = false) (hv2 : (FloatKind.f64.format.order x 0 != some Ordering.eq) = !zz) (hv3 : zz = false → V = x) (hv4 : ∀ mode, 0 ≤ mode → mode ≤ 4 → RoundsTo (valZ x) (pE x) mode V) (hc : (FloatKind.f64.format.order P 0 == some Ordering.eq) = true) (hz : zd = 0) :
    Calls Tryd.prog 5 #[.int .u64 x, .int .u64 y] w (Gives (.bool true) w) := by
  have HT := Lib.hid (And.intro hT hTs)
  have hf1 := ffrom_eq x
  have hf2 := ffrom_eq y
  have H0 := Lib.hid hsum
  have H1 := Lib.hid hdot
  have H2 : Hid (∀ W, Calls Tryd.prog 17 #[.float .f64 x] W (Gives (.bool true) W)) := Lib.hid fun W => by rw [← fx]; exact rFinite_any x W hx
  have H3 : Hid (∀ W, Calls Tryd.prog 17 #[.float .f64 y] W (Gives (.bool true) W)) := Lib.hid fun W => by rw [← fy]; exact rFinite_any y W hy
  have H4 := Lib.hid n1.round
  have H5 := Lib.hid n2.round
  have H6 := Lib.hid fun W hW => dOf_any x W hx fx hW
  have H7 := Lib.hid hv4
  have H8 := Lib.hid hv3
  have ha1 := fadd_run hadd
  have ha2 := fmul_run hmul
  have ho1 := n1.eq
  have ho2 := n2.eq
  have hm2 := n2.same
  have HX := Lib.hid (And.intro hx hy)
  unfold RoundsTo at *
  clear hx hy hT hTs fx fy n1 n2 hadd hmul hsum hdot hv3 hv4
  generalize valZ x = z0 at *
  generalize pE x = e0 at *
  clear hm2
  subst hz
  have HB := Lib.hid (Below.refl w.heap.size w)
  go_enter Tryd.func5, Tryd.ntmps5
  go_wp2_with fail
  refine (H0.out _ _ (FSl.two w x y 29 HX.out.1 HX.out.2) (HT.out.1.below HT.out.2 (below1 _ _)) (Nat.lt_of_lt_of_le HT.out.2 (below1 _ _).size)).mono ?_
  intro e1 w1 hd
  obtain ⟨ao1, c1, rfl, -, -, hb1, ha1⟩ := hd.at'
  have HBn := Lib.hid (HB.out.trans ((below1 w (.cells #[.float .f64 x, .float .f64 y] 29)).trans (hb1.mono (below1 _ _).size)))
  clear HB
  have HB := HBn
  clear HBn
  have HDs := Lib.hid ha1
  clear hd hb1 ha1
  generalize hn1 : decide (zs < 0) = n1 at *
  generalize hl1 : ln 32 zs.natAbs = l1 at *
  clear hn1 hl1
  replace HDs := Lib.hid (HDs.out.below (below1 w1 (.cells #[.bool n1, .slice ao1 l1 c1, .int .i64 es] 25)))
  have HBs := Lib.hid (BlkT.new w1 #[.bool n1, .slice ao1 l1 c1, .int .i64 es] 25)
  have HPr := Lib.hid (FSl.pair w1 (.cells #[.bool n1, .slice ao1 l1 c1, .int .i64 es] 25) x y 29 HX.out.1 HX.out.2)
  have HBn := Lib.hid (HB.out.alloc HB.out.size (.cells #[.bool n1, .slice ao1 l1 c1, .int .i64 es] 25))
  clear HB
  have HB := HBn
  clear HBn
  have HBp := Lib.hid (below2 (w1.alloc (.cells #[.bool n1, .slice ao1 l1 c1, .int .i64 es] 25)) (.cells #[.float .f64 x] 29) (.cells #[.float .f64 y] 29))
  go_wp2_with fail
  refine (H1.out _ _ _ HPr.out.1 HPr.out.2 ((HT.out.1.below HT.out.2 HB.out).below (Nat.lt_of_lt_of_le HT.out.2 HB.out.size) HBp.out) (Nat.lt_of_lt_of_le (Nat.lt_of_lt_of_le HT.out.2 HB.out.size) HBp.out.size)).mono ?_
  intro e2 w2 hd
  obtain ⟨ao2, c2, rfl, -, -, hb2, ha2⟩ := hd.at'
  replace HBp := Lib.hid (HBp.out.trans (hb2.mono HBp.out.size))
  replace HDs := Lib.hid (HDs.out.below HBp.out)
  replace HBs := Lib.hid (HBs.out.below HBp.out)
  have HBn := Lib.hid (HB.out.trans (HBp.out.mono HB.out.size))
  clear HB
  have HB := HBn
  clear HBn
  have HDd := Lib.hid ha2
  clear hd hb2 ha2 HBp HPr
  rw [show (0 : Int).natAbs = 0 from rfl, ln_zero] at *
  generalize hn2 : decide ((0 : Int) < 0) = n2 at *
  clear hn2
  replace HDd := Lib.hid (HDd.out.below (below1 w2 (.cells #[.bool n2, .slice ao2 0 c2, .int .i64 ed] 25)))
  have HBd := Lib.hid (BlkT.new w2 #[.bool n2, .slice ao2 0 c2, .int .i64 ed] 25)
  replace HDs := Lib.hid (HDs.out.below (below1 w2 (.cells #[.bool n2, .slice ao2 0 c2, .int .i64 ed] 25)))
  replace HBs := Lib.hid (HBs.out.below (below1 w2 (.cells #[.bool n2, .slice ao2 0 c2, .int .i64 ed] 25)))
  have HBn := Lib.hid (HB.out.alloc HB.out.size (.cells #[.bool n2, .slice ao2 0 c2, .int .i64 ed] 25))
  clear HB
  have HB := HBn
  clear HBn
  go_wp2_with fail
  refine (H2.out _).mono ?_
  rintro e3 w3 ⟨rfl, hb3⟩
  replace HDs := Lib.hid (HDs.out.below hb3)
  replace HBs := Lib.hid (HBs.out.below hb3)
  replace HDd := Lib.hid (HDd.out.below hb3)
  replace HBd := Lib.hid (HBd.out.below hb3)
  have HBn := Lib.hid (HB.out.trans (hb3.mono HB.out.size))
  clear HB
  have HB := HBn
  clear HBn
  clear hb3
  go_wp2_with fail
  refine (H3.out _).mono ?_
  rintro e4 w4 ⟨rfl, hb4⟩
  replace HDs := Lib.hid (HDs.out.below hb4)
  replace HBs := Lib.hid (HBs.out.below hb4)
  replace HDd := Lib.hid (HDd.out.below hb4)
  replace HBd := Lib.hid (HBd.out.below hb4)
  have HBn := Lib.hid (HB.out.trans (hb4.mono HB.out.size))
  clear HB
  have HB := HBn
  clear HBn
  clear hb4
  obtain ⟨s0, s1, s2, s3, s4, s5⟩ := HBs.out.cells3
  go_wp2_with fail
  refine (H4.out _ _ HDs.out (HT.out.1.below HT.out.2 HB.out) (Nat.lt_of_lt_of_le HT.out.2 HB.out.size)).mono ?_
  rintro e5 w5 ⟨rfl, hb5⟩
  replace HDs := Lib.hid (HDs.out.below hb5)
  replace HBs := Lib.hid (HBs.out.below hb5)
  replace HDd := Lib.hid (HDd.out.below hb5)
  replace HBd := Lib.hid (HBd.out.below hb5)
  have HBn := Lib.hid (HB.out.trans (hb5.mono HB.out.size))
  clear HB
  have HB := HBn
  clear HBn
  clear hb5
  clear s0 s1 s2 s3 s4 s5
  obtain ⟨d0, d1, d2, d3, d4, d5⟩ := HBd.out.cells3
  go_wp2_with fail
  refine (H5.out _ _ HDd.out (HT.out.1.below HT.out.2 HB.out) (Nat.lt_of_lt_of_le HT.out.2 HB.out.size)).mono ?_
  rintro e6 w6 ⟨rfl, hb6⟩
  replace HDs := Lib.hid (HDs.out.below hb6)
  replace HBs := Lib.hid (HBs.out.below hb6)
  replace HDd := Lib.hid (HDd.out.below hb6)
  replace HBd := Lib.hid (HBd.out.below hb6)
  have HBn := Lib.hid (HB.out.trans (hb6.mono HB.out.size))
  clear HB
  have HB := HBn
  clear HBn
  clear hb6
  clear d0 d1 d2 d3 d4 d5
  obtain ⟨d0, d1, d2, d3, d4, d5⟩ := HBd.out.cells3
  clear HBd HDd HBs HDs
  go_wp2_with fail
  refine (H6.out _ (HT.out.1.below HT.out.2 HB.out) (Nat.lt_of_lt_of_le HT.out.2 HB.out.size)).mono ?_
  clear ho1 ho2 ha1 ha2 hc
  intro e8 w8 hd
  obtain ⟨ao3, c3, rfl, -, -, hb8, ha8⟩ := hd.at'
  have HBn := Lib.hid (HB.out.trans (hb8.mono HB.out.size))
  clear HB
  have HB := HBn
  clear HBn
  have HDo := Lib.hid ha8
  clear hd hb8 ha8
  generalize hn3 : decide (z0 < 0) = n3 at *
  generalize hl3 : ln 32 z0.natAbs = l3 at *
  clear hn3 hl3
  replace HDo := Lib.hid (HDo.out.below (below1 w8 (.cells #[.bool n3, .slice ao3 l3 c3, .int .i64 e0] 25)))
  have HBo := Lib.hid (BlkT.new w8 #[.bool n3, .slice ao3 l3 c3, .int .i64 e0] 25)
  have HBn := Lib.hid (HB.out.alloc HB.out.size (.cells #[.bool n3, .slice ao3 l3 c3, .int .i64 e0] 25))
  clear HB
  have HB := HBn
  clear HBn
  go_wp2
  have HRef : Hid (Below (w8.alloc (.cells #[.bool n3, .slice ao3 l3 c3, .int .i64 e0] 25)).heap.size (w8.alloc (.cells #[.bool n3, .slice ao3 l3 c3, .int .i64 e0] 25)) (w8.alloc (.cells #[.bool n3, .slice ao3 l3 c3, .int .i64 e0] 25))) := Lib.hid (Below.refl _ _)
  clear H0 H1 H2 H3 H4 H5 H6 HX hf1 hf2
  go_loopw [14] (fun i wr => ∃ k : Nat, k ≤ 5 ∧ i = .int .i64 k ∧ Hid (Below (w8.alloc (.cells #[.bool n3, .slice ao3 l3 c3, .int .i64 e0] 25)).heap.size (w8.alloc (.cells #[.bool n3, .slice ao3 l3 c3, .int .i64 e0] 25)) wr)) (fun i _ => 5 - (intOf i).toNat)
  case atStart => exact ⟨0, by decide, rfl, HRef⟩
  case round =>
    obtain ⟨k, hk, rfl, HR⟩ := hrel
    have HDk := Lib.hid (HDo.out.below HR.out)
    have HBk := Lib.hid (HBo.out.below HR.out)
    have HW := Lib.hid (HB.out.trans (HR.out.mono HB.out.size))
    by_cases hlt : k < 5
    · obtain ⟨s0, s1, s2, s3, s4, s5⟩ := HBk.out.cells3
      have H9 := Lib.hid (H7.out k (by omega) (by omega))
      cases zz
      · have HVx := Lib.hid (H8.out rfl)
        go_wp2_with fail
        refine (H9.out _ _ HDk.out (HT.out.1.below HT.out.2 HW.out) (Nat.lt_of_lt_of_le HT.out.2 HW.out.size)).mono ?_
        rintro e9 w9 ⟨rfl, hb9⟩
        replace HR := Lib.hid (HR.out.trans (hb9.mono HR.out.size))
        clear hb9 s0 s1 s2 s3 s4 s5
        go_wp2_with fail
        refine (lSame_any V x _).mono ?_
        rintro e10 w10 ⟨rfl, hb10⟩
        rw [decide_eq_true HVx.out]
        replace HR := Lib.hid (HR.out.trans (hb10.mono HR.out.size))
        clear hb10
        go_wp2
        go_roundw
        case rel => exact ⟨k + 1, by omega, by go_num, HR⟩
        case measure => simp [intOf]; omega
      · go_wp2_with fail
        refine (H9.out _ _ HDk.out (HT.out.1.below HT.out.2 HW.out) (Nat.lt_of_lt_of_le HT.out.2 HW.out.size)).mono ?_
        rintro e9 w9 ⟨rfl, hb9⟩
        replace HR := Lib.hid (HR.out.trans (hb9.mono HR.out.size))
        clear hb9 s0 s1 s2 s3 s4 s5
        go_wp2
        go_roundw
        case rel => exact ⟨k + 1, by omega, by go_num, HR⟩
        case measure => simp [intOf]; omega
    · obtain rfl : k = 5 := by omega
      go_wp2_with fail
      refine (awake_any _ (HT.out.1.below HT.out.2 HW.out) (Nat.lt_of_lt_of_le HT.out.2 HW.out.size)).mono ?_
      rintro e9 w9 ⟨rfl, hb9⟩
      have HF := Lib.hid (HW.out.trans (hb9.mono HW.out.size))
      clear hb9
      go_wp2
      go_ret
      exact ⟨rfl, HF.out⟩

set_option maxRecDepth 100000 in
set_option maxHeartbeats 8000000 in
theorem once_n (x y : Nat) (w : World) (hx : x < 18446744073709551616) (hy : y < 18446744073709551616) (hT : Tab64 w) (hTs : 1 < w.heap.size) (fx : finB x = true) (fy : finB y = true)
    (zs es zd ed : Int) (S r P q V : Nat) (zz : Bool) (hadd : FloatKind.f64.format.add x y = some r) (hmul : FloatKind.f64.format.mul x y = some q) (n1 : Near2 zs es S r) (n2 : Near2 zd ed P q)
    (hsum : ∀ v W, FSl W v [x, y] → Tab64 W → 1 < W.heap.size → Calls Tryd.prog 15 #[v] W (DyNew zs es W))
    (hdot : ∀ v u W, FSl W v [x] → FSl W u [y] → Tab64 W → 1 < W.heap.size → Calls Tryd.prog 16 #[v, u] W (DyNew zd ed W))
    (hv1 : (FloatKind.f64.format.order V x != some Ordering.eq) = false) (hv2 : (FloatKind.f64.format.order x 0 != some Ordering.eq) = !zz) (hv3 : zz = false → V = x) (hv4 : ∀ mode, 0 ≤ mode → mode ≤ 4 → RoundsTo (valZ x) (pE x) mode V) (hc : (FloatKind.f64.format.order P 0 == some Ordering.eq) = true) (hz : zd ≠ 0) :
    Calls Tryd.prog 5 #[.int .u64 x, .int .u64 y] w (Gives (.bool true) w) := by
  have HT := Lib.hid (And.intro hT hTs)
  have hf1 := ffrom_eq x
  have hf2 := ffrom_eq y
  have H0 := Lib.hid hsum
  have H1 := Lib.hid hdot
  have H2 : Hid (∀ W, Calls Tryd.prog 17 #[.float .f64 x] W (Gives (.bool true) W)) := Lib.hid fun W => by rw [← fx]; exact rFinite_any x W hx
  have H3 : Hid (∀ W, Calls Tryd.prog 17 #[.float .f64 y] W (Gives (.bool true) W)) := Lib.hid fun W => by rw [← fy]; exact rFinite_any y W hy
  have H4 := Lib.hid n1.round
  have H5 := Lib.hid n2.round
  have H6 := Lib.hid fun W hW => dOf_any x W hx fx hW
  have H7 := Lib.hid hv4
  have H8 := Lib.hid hv3
  have ha1 := fadd_run hadd
  have ha2 := fmul_run hmul
  have ho1 := n1.eq
  have ho2 := n2.eq
  have hm2 := n2.same
  have HX := Lib.hid (And.intro hx hy)
  unfold RoundsTo at *
  clear hx hy hT hTs fx fy n1 n2 hadd hmul hsum hdot hv3 hv4
  generalize valZ x = z0 at *
  generalize pE x = e0 at *
  have HSm := Lib.hid (hm2 hz)
  have hlen : 0 < ln 32 zd.natAbs := by
    have := (ln_eq_zero (s := 32) (N := zd.natAbs) (by decide)).1
    rcases Nat.eq_zero_or_pos (ln 32 zd.natAbs) with h | h
    · exact absurd (this h) (by omega)
    · exact h
  clear hm2 hz
  have HB := Lib.hid (Below.refl w.heap.size w)
  go_enter Tryd.func5, Tryd.ntmps5
  go_wp2_with fail
  refine (H0.out _ _ (FSl.two w x y 29 HX.out.1 HX.out.2) (HT.out.1.below HT.out.2 (below1 _ _)) (Nat.lt_of_lt_of_le HT.out.2 (below1 _ _).size)).mono ?_
  intro e1 w1 hd
  obtain ⟨ao1, c1, rfl, -, -, hb1, ha1⟩ := hd.at'
  have HBn := Lib.hid (HB.out.trans ((below1 w (.cells #[.float .f64 x, .float .f64 y] 29)).trans (hb1.mono (below1 _ _).size)))
  clear HB
  have HB := HBn
  clear HBn
  have HDs := Lib.hid ha1
  clear hd hb1 ha1
  generalize hn1 : decide (zs < 0) = n1 at *
  generalize hl1 : ln 32 zs.natAbs = l1 at *
  clear hn1 hl1
  replace HDs := Lib.hid (HDs.out.below (below1 w1 (.cells #[.bool n1, .slice ao1 l1 c1, .int .i64 es] 25)))
  have HBs := Lib.hid (BlkT.new w1 #[.bool n1, .slice ao1 l1 c1, .int .i64 es] 25)
  have HPr := Lib.hid (FSl.pair w1 (.cells #[.bool n1, .slice ao1 l1 c1, .int .i64 es] 25) x y 29 HX.out.1 HX.out.2)
  have HBn := Lib.hid (HB.out.alloc HB.out.size (.cells #[.bool n1, .slice ao1 l1 c1, .int .i64 es] 25))
  clear HB
  have HB := HBn
  clear HBn
  have HBp := Lib.hid (below2 (w1.alloc (.cells #[.bool n1, .slice ao1 l1 c1, .int .i64 es] 25)) (.cells #[.float .f64 x] 29) (.cells #[.float .f64 y] 29))
  go_wp2_with fail
  refine (H1.out _ _ _ HPr.out.1 HPr.out.2 ((HT.out.1.below HT.out.2 HB.out).below (Nat.lt_of_lt_of_le HT.out.2 HB.out.size) HBp.out) (Nat.lt_of_lt_of_le (Nat.lt_of_lt_of_le HT.out.2 HB.out.size) HBp.out.size)).mono ?_
  intro e2 w2 hd
  obtain ⟨ao2, c2, rfl, -, -, hb2, ha2⟩ := hd.at'
  replace HBp := Lib.hid (HBp.out.trans (hb2.mono HBp.out.size))
  replace HDs := Lib.hid (HDs.out.below HBp.out)
  replace HBs := Lib.hid (HBs.out.below HBp.out)
  have HBn := Lib.hid (HB.out.trans (HBp.out.mono HB.out.size))
  clear HB
  have HB := HBn
  clear HBn
  have HDd := Lib.hid ha2
  clear hd hb2 ha2 HBp HPr
  generalize hn2 : decide (zd < 0) = n2 at *
  generalize hl2 : ln 32 zd.natAbs = l2 at *
  clear hn2 hl2
  replace HDd := Lib.hid (HDd.out.below (below1 w2 (.cells #[.bool n2, .slice ao2 l2 c2, .int .i64 ed] 25)))
  have HBd := Lib.hid (BlkT.new w2 #[.bool n2, .slice ao2 l2 c2, .int .i64 ed] 25)
  replace HDs := Lib.hid (HDs.out.below (below1 w2 (.cells #[.bool n2, .slice ao2 l2 c2, .int .i64 ed] 25)))
  replace HBs := Lib.hid (HBs.out.below (below1 w2 (.cells #[.bool n2, .slice ao2 l2 c2, .int .i64 ed] 25)))
  have HBn := Lib.hid (HB.out.alloc HB.out.size (.cells #[.bool n2, .slice ao2 l2 c2, .int .i64 ed] 25))
  clear HB
  have HB := HBn
  clear HBn
  go_wp2_with fail
  refine (H2.out _).mono ?_
  rintro e3 w3 ⟨rfl, hb3⟩
  replace HDs := Lib.hid (HDs.out.below hb3)
  replace HBs := Lib.hid (HBs.out.below hb3)
  replace HDd := Lib.hid (HDd.out.below hb3)
  replace HBd := Lib.hid (HBd.out.below hb3)
  have HBn := Lib.hid (HB.out.trans (hb3.mono HB.out.size))
  clear HB
  have HB := HBn
  clear HBn
  clear hb3
  go_wp2_with fail
  refine (H3.out _).mono ?_
  rintro e4 w4 ⟨rfl, hb4⟩
  replace HDs := Lib.hid (HDs.out.below hb4)
  replace HBs := Lib.hid (HBs.out.below hb4)
  replace HDd := Lib.hid (HDd.out.below hb4)
  replace HBd := Lib.hid (HBd.out.below hb4)
  have HBn := Lib.hid (HB.out.trans (hb4.mono HB.out.size))
  clear HB
  have HB := HBn
  clear HBn
  clear hb4
  obtain ⟨s0, s1, s2, s3, s4, s5⟩ := HBs.out.cells3
  go_wp2_with fail
  refine (H4.out _ _ HDs.out (HT.out.1.below HT.out.2 HB.out) (Nat.lt_of_lt_of_le HT.out.2 HB.out.size)).mono ?_
  rintro e5 w5 ⟨rfl, hb5⟩
  replace HDs := Lib.hid (HDs.out.below hb5)
  replace HBs := Lib.hid (HBs.out.below hb5)
  replace HDd := Lib.hid (HDd.out.below hb5)
  replace HBd := Lib.hid (HBd.out.below hb5)
  have HBn := Lib.hid (HB.out.trans (hb5.mono HB.out.size))
  clear HB
  have HB := HBn
  clear HBn
  clear hb5
  clear s0 s1 s2 s3 s4 s5
  obtain ⟨d0, d1, d2, d3, d4, d5⟩ := HBd.out.cells3
  go_wp2_with fail
  refine (H5.out _ _ HDd.out (HT.out.1.below HT.out.2 HB.out) (Nat.lt_of_lt_of_le HT.out.2 HB.out.size)).mono ?_
  rintro e6 w6 ⟨rfl, hb6⟩
  replace HDs := Lib.hid (HDs.out.below hb6)
  replace HBs := Lib.hid (HBs.out.below hb6)
  replace HDd := Lib.hid (HDd.out.below hb6)
  replace HBd := Lib.hid (HBd.out.below hb6)
  have HBn := Lib.hid (HB.out.trans (hb6.mono HB.out.size))
  clear HB
  have HB := HBn
  clear HBn
  clear hb6
  clear d0 d1 d2 d3 d4 d5
  obtain ⟨d0, d1, d2, d3, d4, d5⟩ := HBd.out.cells3
  go_wp2_with fail
  refine (lSame_any P q _).mono ?_
  rintro e7 w7 ⟨rfl, hb7⟩
  rw [decide_eq_true HSm.out]
  have HBn := Lib.hid (HB.out.trans (hb7.mono HB.out.size))
  clear HB
  have HB := HBn
  clear HBn
  clear hb7 d0 d1 d2 d3 d4 d5 HBd HDd HBs HDs
  go_wp2_with fail
  refine (H6.out _ (HT.out.1.below HT.out.2 HB.out) (Nat.lt_of_lt_of_le HT.out.2 HB.out.size)).mono ?_
  clear ho1 ho2 ha1 ha2 hc
  intro e8 w8 hd
  obtain ⟨ao3, c3, rfl, -, -, hb8, ha8⟩ := hd.at'
  have HBn := Lib.hid (HB.out.trans (hb8.mono HB.out.size))
  clear HB
  have HB := HBn
  clear HBn
  have HDo := Lib.hid ha8
  clear hd hb8 ha8
  generalize hn3 : decide (z0 < 0) = n3 at *
  generalize hl3 : ln 32 z0.natAbs = l3 at *
  clear hn3 hl3
  replace HDo := Lib.hid (HDo.out.below (below1 w8 (.cells #[.bool n3, .slice ao3 l3 c3, .int .i64 e0] 25)))
  have HBo := Lib.hid (BlkT.new w8 #[.bool n3, .slice ao3 l3 c3, .int .i64 e0] 25)
  have HBn := Lib.hid (HB.out.alloc HB.out.size (.cells #[.bool n3, .slice ao3 l3 c3, .int .i64 e0] 25))
  clear HB
  have HB := HBn
  clear HBn
  go_wp2
  have HRef : Hid (Below (w8.alloc (.cells #[.bool n3, .slice ao3 l3 c3, .int .i64 e0] 25)).heap.size (w8.alloc (.cells #[.bool n3, .slice ao3 l3 c3, .int .i64 e0] 25)) (w8.alloc (.cells #[.bool n3, .slice ao3 l3 c3, .int .i64 e0] 25))) := Lib.hid (Below.refl _ _)
  clear H0 H1 H2 H3 H4 H5 H6 HX hf1 hf2
  go_loopw [14] (fun i wr => ∃ k : Nat, k ≤ 5 ∧ i = .int .i64 k ∧ Hid (Below (w8.alloc (.cells #[.bool n3, .slice ao3 l3 c3, .int .i64 e0] 25)).heap.size (w8.alloc (.cells #[.bool n3, .slice ao3 l3 c3, .int .i64 e0] 25)) wr)) (fun i _ => 5 - (intOf i).toNat)
  case atStart => exact ⟨0, by decide, rfl, HRef⟩
  case round =>
    obtain ⟨k, hk, rfl, HR⟩ := hrel
    have HDk := Lib.hid (HDo.out.below HR.out)
    have HBk := Lib.hid (HBo.out.below HR.out)
    have HW := Lib.hid (HB.out.trans (HR.out.mono HB.out.size))
    by_cases hlt : k < 5
    · obtain ⟨s0, s1, s2, s3, s4, s5⟩ := HBk.out.cells3
      have H9 := Lib.hid (H7.out k (by omega) (by omega))
      cases zz
      · have HVx := Lib.hid (H8.out rfl)
        go_wp2_with fail
        refine (H9.out _ _ HDk.out (HT.out.1.below HT.out.2 HW.out) (Nat.lt_of_lt_of_le HT.out.2 HW.out.size)).mono ?_
        rintro e9 w9 ⟨rfl, hb9⟩
        replace HR := Lib.hid (HR.out.trans (hb9.mono HR.out.size))
        clear hb9 s0 s1 s2 s3 s4 s5
        go_wp2_with fail
        refine (lSame_any V x _).mono ?_
        rintro e10 w10 ⟨rfl, hb10⟩
        rw [decide_eq_true HVx.out]
        replace HR := Lib.hid (HR.out.trans (hb10.mono HR.out.size))
        clear hb10
        go_wp2
        go_roundw
        case rel => exact ⟨k + 1, by omega, by go_num, HR⟩
        case measure => simp [intOf]; omega
      · go_wp2_with fail
        refine (H9.out _ _ HDk.out (HT.out.1.below HT.out.2 HW.out) (Nat.lt_of_lt_of_le HT.out.2 HW.out.size)).mono ?_
        rintro e9 w9 ⟨rfl, hb9⟩
        replace HR := Lib.hid (HR.out.trans (hb9.mono HR.out.size))
        clear hb9 s0 s1 s2 s3 s4 s5
        go_wp2
        go_roundw
        case rel => exact ⟨k + 1, by omega, by go_num, HR⟩
        case measure => simp [intOf]; omega
    · obtain rfl : k = 5 := by omega
      go_wp2_with fail
      refine (awake_any _ (HT.out.1.below HT.out.2 HW.out) (Nat.lt_of_lt_of_le HT.out.2 HW.out.size)).mono ?_
      rintro e9 w9 ⟨rfl, hb9⟩
      have HF := Lib.hid (HW.out.trans (hb9.mono HW.out.size))
      clear hb9
      go_wp2
      go_ret
      exact ⟨rfl, HF.out⟩

/-- DyadOnce is true of every two numbers. -/
theorem once_any (x y : Nat) (w : World) (hx : x < 18446744073709551616) (hy : y < 18446744073709551616) (hT : Tab64 w) (hTs : 1 < w.heap.size) :
    Calls Tryd.prog 5 #[.int .u64 x, .int .u64 y] w (Gives (.bool true) w) := by
  cases fx : finB x
  · exact once_bad0 x y w hx hy hT hTs fx
  · cases fy : finB y
    · exact once_bad1 x y w hx hy hT hTs fx fy
    · obtain ⟨zs, es, S, r, hadd, n1, hsum⟩ := once_sum hx hy fx fy
      obtain ⟨zd, ed, P, q, hmul, n2, hdot⟩ := once_dot hx hy fx fy
      obtain ⟨V, zz, hv1, hv2, hv3, hv4⟩ := once_own hx fx
      cases hc : (FloatKind.f64.format.order P 0 == some Ordering.eq)
      · exact once_f x y w hx hy hT hTs fx fy zs es zd ed S r P q V zz hadd hmul n1 n2 hsum hdot hv1 hv2 hv3 hv4 hc
      · by_cases hz : zd = 0
        · exact once_z x y w hx hy hT hTs fx fy zs es zd ed S r P q V zz hadd hmul n1 n2 hsum hdot hv1 hv2 hv3 hv4 hc hz
        · exact once_n x y w hx hy hT hTs fx fy zs es zd ed S r P q V zz hadd hmul n1 n2 hsum hdot hv1 hv2 hv3 hv4 hc hz

end Go.Proofs.YtfcddnccmdjhfaaDoor
