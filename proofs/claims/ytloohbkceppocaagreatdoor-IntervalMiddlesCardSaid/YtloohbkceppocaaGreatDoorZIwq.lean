/- Walks: the middle, the radius and the width of an interval. Printed by wip/gen/iv17.py. -/
import Derived.Test.YtloohbkceppocaaGreatDoorZIwp
import Derived.Test.YtloohbkceppocaaGreatDoorZBks
import Derived.Test.YtloohbkceppocaaGreatDoorZRk4
import Derived.Test.YtloohbkceppocaaGreatDoorGV
namespace Go.Proofs.YtloohbkceppocaaGreatDoor
open Go.RowKit
attribute [local go_sem] run_store_f

set_option maxRecDepth 100000 in
theorem inan_any (w : World) : Calls Tryz.prog 83 #[] w (Gives (.float .f64 9221120237041090561) w) := by
  have h1 : ∀ w, (callFunc 48 #[.int .u64 9221120237041090561]).run Tryz.prog w = .ok (.value (.float .f64 9221120237041090561)) w := ffrom_eq 9221120237041090561
  go_enter Tryz.func83, Tryz.ntmps83
  go_wp2
  go_ret
  exact ⟨rfl, Below.refl _ _⟩

/-- Half a dyad. -/
def DyHalf (z e : Int) (w : World) (en : Ending) (w' : World) : Prop :=
  ∃ (ao : Option Addr) (l cs : Nat) (ng : Bool), en = .returned (.tuple #[.agg #[.bool ng, .slice ao l cs, .int .i64 e], .int .i64 0]) ∧ DyAt w' (.agg #[.bool ng, .slice ao l cs, .int .i64 e]) z e ∧ Below w.heap.size w w'

theorem dHalf_at (v : Value) (z e : Int) (w : World) (ha : DyAt w v z e) (hg : GoodD z e) (h1 : bl z.natAbs ≤ 60000) (h2 : -20000 ≤ e) (h3 : e ≤ 20000) (hT : TabB w) :
    Calls Tryz.prog 86 #[v, .int .i64 (-1)] w (DyHalf (hvZ z) (nrE z (e - 1)) w) := by
  have h := dShift_ok v _ _ _ e (-1) w (ha.raw hg) (may_good hg) hT.1 hT.2
  rw [sgZ_own, show e + shN (-1) = e - 1 by unfold shN; omega] at h
  refine h.mono ?_
  rintro en w' ⟨n9, ao9, l9, c9, x9, k9, rfl, hi9, hb9⟩
  have hl : lngB z (e - 1) = false := lng_small (by omega) (by omega) (by omega)
  rcases hi9 with ⟨-, hi9⟩ | ⟨hi9, -⟩
  · rcases hi9 with ⟨-, ha9, rfl⟩ | ⟨-, hc, -⟩
    · have hx : x9 = nrE z (e - 1) := by
        obtain ⟨sl, hs, -⟩ := ha9
        unfold DyV at hs
        simp only [Value.agg.injEq, Array.mk.injEq, List.cons.injEq, Value.int.injEq, true_and, and_true] at hs
        exact hs.2.2
      subst hx
      exact ⟨ao9, l9, c9, n9, rfl, ha9, hb9⟩
    · rw [hl] at hc; cases hc
  · exact absurd rfl hi9

/-- What the middle's dyad is rounded to. -/
theorem mid_word {x y : Nat} (fx : finB x = true) (fy : finB y = true) :
    ∃ Z E, hvZ (mdZ x y) = Z ∧ nrE (mdZ x y) (plE (valZ x) (pE x) (valZ y) (pE y)) = E ∧ GoodD Z E ∧ bl Z.natAbs ≤ 60000 ∧ (-20000 ≤ E ∧ E ≤ 20000) ∧ GoodD (hvZ Z) (nrE Z (E - 1)) ∧
      ∃ R, rndB (hvZ Z) (nrE Z (E - 1)) 0 = R ∧ W64 R ∧ nanB R = false ∧ ky R = mdK x y := by
  have e1 := pE_bd fx
  have e2 := pE_bd fy
  have b1 := val_bl (b := x)
  have b2 := val_bl (b := y)
  have b3 := bl_plZ (z := valZ x) (e := pE x) (y := valZ y) (f := pE y)
  have b4 := bl_hvZ (mdZ x y)
  have b5 := hvE_bd (mdZ x y) (plE (valZ x) (pE x) (valZ y) (pE y))
  have b6 : -1074 ≤ plE (valZ x) (pE x) (valZ y) (pE y) ∧ plE (valZ x) (pE x) (valZ y) (pE y) ≤ 1023 := by unfold plE; split; omega; split <;> omega
  have b7 : bl (mdZ x y).natAbs ≤ 2300 := by unfold mdZ; omega
  have hg : GoodD (hvZ (mdZ x y)) (nrE (mdZ x y) (plE (valZ x) (pE x) (valZ y) (pE y))) := good_add fx fy
  have hE : -20000 ≤ nrE (mdZ x y) (plE (valZ x) (pE x) (valZ y) (pE y)) ∧ nrE (mdZ x y) (plE (valZ x) (pE x) (valZ y) (pE y)) ≤ 20000 := by unfold nrE; split <;> omega
  refine ⟨_, _, rfl, rfl, hg, by omega, hE, good_of_lng (.inr (lng_small (by omega) (by omega) (by omega))), ?_⟩
  obtain ⟨R, r1, r2, r3, r4⟩ := rnd_word (hvZ (mdZ x y)) (nrE (mdZ x y) (plE (valZ x) (pE x) (valZ y) (pE y)) - 1) 0
  refine ⟨R, r1, r2, r3, r4.trans ?_⟩
  have s1 := md_sum fx fy
  have s2 : 0 ≤ plE (valZ x) (pE x) (valZ y) (pE y) + 1074 := by omega
  have s3 : sc 1075 (hvZ (mdZ x y)) (nrE (mdZ x y) (plE (valZ x) (pE x) (valZ y) (pE y)) - 1) = sc 1075 (mdZ x y) (mdE x y) := by
    unfold mdE
    rw [show (1075 : Int) = 1074 + 1 from rfl, sc_half, sc_half, sc_nr s2]
  have s4 : 0 ≤ nrE (mdZ x y) (plE (valZ x) (pE x) (valZ y) (pE y)) - 1 + 1075 := by
    have := nrE_ge (M := 1074) (z := mdZ x y) (by omega) s2
    omega
  exact Int.le_antisymm (rndX_rises (M := 1075) 0 (by omega) s4 s1.1 (Int.le_of_eq s3)) (rndX_rises (M := 1075) 0 (by omega) s1.1 s4 (Int.le_of_eq s3.symm))

theorem add_nought {R : Nat} (hR : W64 R) (hn : nanB R = false) : ∀ t w, (binOp .add t (.float .f64 R) (.float .f64 0)).run Tryz.prog w = .ok (.float .f64 (kb (ky R))) w :=
  fun t w => run_float_arith w .add t .f64 _ _ _ (add_zero_any hR (num_of hn))

def midV (x y : Nat) : Nat := if (ivK x y).isSome then midB x y else 9221120237041090561
def radV (x y : Nat) : Nat := if (ivK x y).isSome then radB x y else 9221120237041090561
def widV (x y : Nat) : Nat := if (ivK x y).isSome then widB x y else 9221120237041090561

set_option maxRecDepth 100000 in
set_option maxHeartbeats 3200000 in
theorem iMid_any (x y : Nat) (w : World) (hx : W64 x) (hy : W64 y) (hT : TabB w) : Calls Tryz.prog 35 #[.agg #[.float .f64 x, .float .f64 y]] w (Gives (.float .f64 (midV x y)) w) := by
  have HFX := Lib.hid fun W => finite_any x W hx
  have HFY := Lib.hid fun W => finite_any y W hy
  have HFU := Lib.hid fun W => full_any x y W hx hy
  have HN := Lib.hid fun W => inan_any W
  have HT := Lib.hid hT
  have HW := Lib.hid (IBox.new w x y)
  unfold midV
  cases hs : (ivK x y).isSome
  · rw [hs] at HFU
    rw [if_neg (by decide)]
    clear hs hx hy hT
    generalize finB x = fx at *
    generalize finB y = fy at *
    go_enter Tryz.func35, Tryz.ntmps35
    go_wp2
    refine wp_region_pl (fun w' : World => w'.cell? ⟨w.heap.size, 0, none⟩ = some (.float .f64 x) ∧ w'.cell? ⟨w.heap.size, 1, none⟩ = some (.float .f64 y)) 5 (.take 0 (.take 1 (.take 3 (.take 4 (.run 2 (.nil)))))) (by kernel_rfl) (by kernel_rfl) ?_
    replace HW := Lib.hid (HW.out.later (drew_below _))
    generalize World.drew _ = W0 at HW ⊢
    repeat (first | (refine wpPl_takeL (v := ?_) rfl rfl (fun _ _ _ h => h) rfl (fun w' hSw => ?_) HW.out.cells ?_; rotate_left; (focus (go_simp; with_reducible rfl)); simp only [setL]) | (refine wpPl_skipL rfl rfl (fun _ _ _ h => h) rfl HW.out.cells ?_; simp only [setL]))
    refine wpPl_goL rfl rfl fun K' hK => ?_
    go_simp
    refine (HFX.out _).mono ?_
    rintro e1 W0v1 ⟨rfl, hb1⟩
    replace HW := Lib.hid (HW.out.later hb1)
    refine hK _ _ HW.out.cells ?_
    clear hK K' hb1
    try simp only [Act.put, setL]
    repeat (first | (refine wpPl_takeL (v := ?_) rfl rfl (fun _ _ _ h => h) rfl (fun w' hSw => ?_) HW.out.cells ?_; rotate_left; (focus (go_simp; with_reducible rfl)); simp only [setL]) | (refine wpPl_skipL rfl rfl (fun _ _ _ h => h) rfl HW.out.cells ?_; simp only [setL]))
    refine wpPl_nil ?_
    simp only [List.drop_succ_cons, List.drop_zero]
    obtain ⟨g0, g1⟩ := HW.out.cells
    go_wp2_with fail
    refine (HFY.out _).mono ?_
    rintro e1 w1 ⟨rfl, hb1⟩
    replace HW := Lib.hid (HW.out.later hb1)
    clear hb1
    clear g0 g1
    obtain ⟨g0, g1⟩ := HW.out.cells
    go_wp2_with fail
    refine (HFU.out _).mono ?_
    rintro e2 w2 ⟨rfl, hb2⟩
    replace HW := Lib.hid (HW.out.later hb2)
    clear hb2
    clear g0 g1
    obtain ⟨g0, g1⟩ := HW.out.cells
    go_wp2_with fail
    refine (HN.out _).mono ?_
    rintro e3 w3 ⟨rfl, hb3⟩
    replace HW := Lib.hid (HW.out.later hb3)
    clear hb3
    clear g0 g1
    obtain ⟨g0, g1⟩ := HW.out.cells
    go_wp2
    go_ret
    exact ⟨rfl, HW.out.2⟩
  rw [hs] at HFU
  rw [if_pos rfl]
  unfold midB
  cases fx : finB x
  · rw [fx] at HFX
    rw [if_pos rfl]
    cases fy : finB y
    · rw [fy] at HFY
      rw [if_pos rfl]
      clear hs hx hy hT fx fy
      go_enter Tryz.func35, Tryz.ntmps35
      go_wp2
      refine wp_region_pl (fun w' : World => w'.cell? ⟨w.heap.size, 0, none⟩ = some (.float .f64 x) ∧ w'.cell? ⟨w.heap.size, 1, none⟩ = some (.float .f64 y)) 5 (.take 0 (.take 1 (.take 3 (.take 4 (.run 2 (.nil)))))) (by kernel_rfl) (by kernel_rfl) ?_
      replace HW := Lib.hid (HW.out.later (drew_below _))
      generalize World.drew _ = W0 at HW ⊢
      repeat (first | (refine wpPl_takeL (v := ?_) rfl rfl (fun _ _ _ h => h) rfl (fun w' hSw => ?_) HW.out.cells ?_; rotate_left; (focus (go_simp; with_reducible rfl)); simp only [setL]) | (refine wpPl_skipL rfl rfl (fun _ _ _ h => h) rfl HW.out.cells ?_; simp only [setL]))
      refine wpPl_goL rfl rfl fun K' hK => ?_
      go_simp
      refine (HFX.out _).mono ?_
      rintro e1 W0v1 ⟨rfl, hb1⟩
      replace HW := Lib.hid (HW.out.later hb1)
      refine hK _ _ HW.out.cells ?_
      clear hK K' hb1
      try simp only [Act.put, setL]
      repeat (first | (refine wpPl_takeL (v := ?_) rfl rfl (fun _ _ _ h => h) rfl (fun w' hSw => ?_) HW.out.cells ?_; rotate_left; (focus (go_simp; with_reducible rfl)); simp only [setL]) | (refine wpPl_skipL rfl rfl (fun _ _ _ h => h) rfl HW.out.cells ?_; simp only [setL]))
      refine wpPl_nil ?_
      simp only [List.drop_succ_cons, List.drop_zero]
      obtain ⟨g0, g1⟩ := HW.out.cells
      go_wp2_with fail
      refine (HFY.out _).mono ?_
      rintro e1 w1 ⟨rfl, hb1⟩
      replace HW := Lib.hid (HW.out.later hb1)
      clear hb1
      clear g0 g1
      obtain ⟨g0, g1⟩ := HW.out.cells
      go_wp2_with fail
      refine (HFU.out _).mono ?_
      rintro e2 w2 ⟨rfl, hb2⟩
      replace HW := Lib.hid (HW.out.later hb2)
      clear hb2
      clear g0 g1
      obtain ⟨g0, g1⟩ := HW.out.cells
      go_wp2
      go_ret
      exact ⟨rfl, HW.out.2⟩
    · rw [fy] at HFY
      rw [if_neg (by decide)]
      clear hs hx hy hT fx fy
      go_enter Tryz.func35, Tryz.ntmps35
      go_wp2
      refine wp_region_pl (fun w' : World => w'.cell? ⟨w.heap.size, 0, none⟩ = some (.float .f64 x) ∧ w'.cell? ⟨w.heap.size, 1, none⟩ = some (.float .f64 y)) 5 (.take 0 (.take 1 (.take 3 (.take 4 (.run 2 (.nil)))))) (by kernel_rfl) (by kernel_rfl) ?_
      replace HW := Lib.hid (HW.out.later (drew_below _))
      generalize World.drew _ = W0 at HW ⊢
      repeat (first | (refine wpPl_takeL (v := ?_) rfl rfl (fun _ _ _ h => h) rfl (fun w' hSw => ?_) HW.out.cells ?_; rotate_left; (focus (go_simp; with_reducible rfl)); simp only [setL]) | (refine wpPl_skipL rfl rfl (fun _ _ _ h => h) rfl HW.out.cells ?_; simp only [setL]))
      refine wpPl_goL rfl rfl fun K' hK => ?_
      go_simp
      refine (HFX.out _).mono ?_
      rintro e1 W0v1 ⟨rfl, hb1⟩
      replace HW := Lib.hid (HW.out.later hb1)
      refine hK _ _ HW.out.cells ?_
      clear hK K' hb1
      try simp only [Act.put, setL]
      repeat (first | (refine wpPl_takeL (v := ?_) rfl rfl (fun _ _ _ h => h) rfl (fun w' hSw => ?_) HW.out.cells ?_; rotate_left; (focus (go_simp; with_reducible rfl)); simp only [setL]) | (refine wpPl_skipL rfl rfl (fun _ _ _ h => h) rfl HW.out.cells ?_; simp only [setL]))
      refine wpPl_nil ?_
      simp only [List.drop_succ_cons, List.drop_zero]
      obtain ⟨g0, g1⟩ := HW.out.cells
      go_wp2_with fail
      refine (HFY.out _).mono ?_
      rintro e1 w1 ⟨rfl, hb1⟩
      replace HW := Lib.hid (HW.out.later hb1)
      clear hb1
      clear g0 g1
      obtain ⟨g0, g1⟩ := HW.out.cells
      go_wp2_with fail
      refine (HFU.out _).mono ?_
      rintro e2 w2 ⟨rfl, hb2⟩
      replace HW := Lib.hid (HW.out.later hb2)
      clear hb2
      clear g0 g1
      obtain ⟨g0, g1⟩ := HW.out.cells
      go_wp2
      go_ret
      exact ⟨rfl, HW.out.2⟩
  rw [fx] at HFX
  rw [if_neg (by decide)]
  cases fy : finB y
  · rw [fy] at HFY
    rw [if_pos rfl]
    clear hs hx hy hT fx fy
    go_enter Tryz.func35, Tryz.ntmps35
    go_wp2
    refine wp_region_pl (fun w' : World => w'.cell? ⟨w.heap.size, 0, none⟩ = some (.float .f64 x) ∧ w'.cell? ⟨w.heap.size, 1, none⟩ = some (.float .f64 y)) 5 (.take 0 (.take 1 (.take 3 (.take 4 (.run 2 (.nil)))))) (by kernel_rfl) (by kernel_rfl) ?_
    replace HW := Lib.hid (HW.out.later (drew_below _))
    generalize World.drew _ = W0 at HW ⊢
    repeat (first | (refine wpPl_takeL (v := ?_) rfl rfl (fun _ _ _ h => h) rfl (fun w' hSw => ?_) HW.out.cells ?_; rotate_left; (focus (go_simp; with_reducible rfl)); simp only [setL]) | (refine wpPl_skipL rfl rfl (fun _ _ _ h => h) rfl HW.out.cells ?_; simp only [setL]))
    refine wpPl_goL rfl rfl fun K' hK => ?_
    go_simp
    refine (HFX.out _).mono ?_
    rintro e1 W0v1 ⟨rfl, hb1⟩
    replace HW := Lib.hid (HW.out.later hb1)
    refine hK _ _ HW.out.cells ?_
    clear hK K' hb1
    try simp only [Act.put, setL]
    repeat (first | (refine wpPl_takeL (v := ?_) rfl rfl (fun _ _ _ h => h) rfl (fun w' hSw => ?_) HW.out.cells ?_; rotate_left; (focus (go_simp; with_reducible rfl)); simp only [setL]) | (refine wpPl_skipL rfl rfl (fun _ _ _ h => h) rfl HW.out.cells ?_; simp only [setL]))
    refine wpPl_nil ?_
    simp only [List.drop_succ_cons, List.drop_zero]
    obtain ⟨g0, g1⟩ := HW.out.cells
    go_wp2_with fail
    refine (HFY.out _).mono ?_
    rintro e1 w1 ⟨rfl, hb1⟩
    replace HW := Lib.hid (HW.out.later hb1)
    clear hb1
    clear g0 g1
    obtain ⟨g0, g1⟩ := HW.out.cells
    go_wp2_with fail
    refine (HFU.out _).mono ?_
    rintro e2 w2 ⟨rfl, hb2⟩
    replace HW := Lib.hid (HW.out.later hb2)
    clear hb2
    clear g0 g1
    obtain ⟨g0, g1⟩ := HW.out.cells
    go_wp2
    go_ret
    exact ⟨rfl, HW.out.2⟩
  rw [fy] at HFY
  rw [if_neg (by decide)]
  obtain ⟨Z, E, hZ, hE, hg, hbz, hbe, hg2, R, hR, wR, nR, kR⟩ := mid_word fx fy
  have HO1 := Lib.hid fun W ht => iOf_any x W hx fx ht
  have HO2 := Lib.hid fun W ht => iOf_any y W hy fy ht
  have HAD := Lib.hid fun va vb W h1 h2 (ht : TabB W) => dAdd_any va vb (valZ x) (pE x) (valZ y) (pE y) W h1 h2 (good_of fx) (good_of fy) ht.1 ht.2 (num_add fx fy)
  rw [show hvZ (plZ (valZ x) (pE x) (valZ y) (pE y)) = Z from hZ, show nrE (plZ (valZ x) (pE x) (valZ y) (pE y)) (plE (valZ x) (pE x) (valZ y) (pE y)) = E from hE] at HAD
  have HSH := Lib.hid fun v W h ht => dHalf_at v Z E W h hg hbz hbe.1 hbe.2 ht
  have HRO := Lib.hid fun v W h1 ht => iRounded_at v (hvZ Z) (nrE Z (E - 1)) 0 W h1 hg2 (by omega) (by omega) ht
  rw [hR] at HRO
  have hadd := add_nought wR nR
  rw [kR] at hadd
  generalize kb (mdK x y) = KK at *
  generalize nrE Z (E - 1) = E2 at *
  generalize hvZ Z = Z2 at *
  clear hs hx hy hT hZ hE hg hbz hbe hg2 hR wR nR kR fx fy
  generalize valZ x = zx at *
  generalize pE x = ex at *
  generalize valZ y = zy at *
  generalize pE y = ey at *
  go_enter Tryz.func35, Tryz.ntmps35
  go_wp2
  refine wp_region_pl (fun w' : World => w'.cell? ⟨w.heap.size, 0, none⟩ = some (.float .f64 x) ∧ w'.cell? ⟨w.heap.size, 1, none⟩ = some (.float .f64 y)) 5 (.take 0 (.take 1 (.take 3 (.take 4 (.run 2 (.nil)))))) (by kernel_rfl) (by kernel_rfl) ?_
  replace HW := Lib.hid (HW.out.later (drew_below _))
  generalize World.drew _ = W0 at HW ⊢
  repeat (first | (refine wpPl_takeL (v := ?_) rfl rfl (fun _ _ _ h => h) rfl (fun w' hSw => ?_) HW.out.cells ?_; rotate_left; (focus (go_simp; with_reducible rfl)); simp only [setL]) | (refine wpPl_skipL rfl rfl (fun _ _ _ h => h) rfl HW.out.cells ?_; simp only [setL]))
  refine wpPl_goL rfl rfl fun K' hK => ?_
  go_simp
  refine (HFX.out _).mono ?_
  rintro e1 W0v1 ⟨rfl, hb1⟩
  replace HW := Lib.hid (HW.out.later hb1)
  refine hK _ _ HW.out.cells ?_
  clear hK K' hb1
  try simp only [Act.put, setL]
  repeat (first | (refine wpPl_takeL (v := ?_) rfl rfl (fun _ _ _ h => h) rfl (fun w' hSw => ?_) HW.out.cells ?_; rotate_left; (focus (go_simp; with_reducible rfl)); simp only [setL]) | (refine wpPl_skipL rfl rfl (fun _ _ _ h => h) rfl HW.out.cells ?_; simp only [setL]))
  refine wpPl_nil ?_
  simp only [List.drop_succ_cons, List.drop_zero]
  obtain ⟨g0, g1⟩ := HW.out.cells
  go_wp2_with fail
  refine (HFY.out _).mono ?_
  rintro e1 w1 ⟨rfl, hb1⟩
  replace HW := Lib.hid (HW.out.later hb1)
  clear hb1
  clear g0 g1
  obtain ⟨g0, g1⟩ := HW.out.cells
  go_wp2_with fail
  refine (HFU.out _).mono ?_
  rintro e2 w2 ⟨rfl, hb2⟩
  replace HW := Lib.hid (HW.out.later hb2)
  clear hb2
  clear g0 g1
  obtain ⟨g0, g1⟩ := HW.out.cells
  go_upto_region 10 with fail
  clear g0 g1
  refine wp_region_q (fun w' : World => w'.cell? ⟨w.heap.size, 0, none⟩ = some (.float .f64 x) ∧ w'.cell? ⟨w.heap.size, 1, none⟩ = some (.float .f64 y)) 12 (.take 0 (.take 1 (.take 3 (.take 4 (.bag [(2, 35, []), (5, 38, []), (6, 39, [(7, 32), (8, 40), (9, 41)]), (10, 5, [])] (.run 11 .nil)))))) (by kernel_rfl) (by kernel_rfl) ?_
  replace HW := Lib.hid (HW.out.later (drew_below _))
  generalize World.drew _ = W4 at HW ⊢
  have HSZ : Hid (SzLe W4 W4.heap.size) := Lib.hid (Nat.le_refl _)
  have HLT : Hid (w.heap.size < W4.heap.size) := Lib.hid HW.out.1.lt
  generalize W4.heap.size = nB at HSZ HLT
  have hS : (fun w' : World => w'.cell? ⟨w.heap.size, 0, none⟩ = some (.float .f64 x) ∧ w'.cell? ⟨w.heap.size, 1, none⟩ = some (.float .f64 y)) W4 := HW.out.cells
  repeat (refine wpPq_takeL (v := ?_) rfl rfl (fun _ _ _ h => h) rfl (fun w' hSw => ?_) hS ?_; rotate_left; (focus (go_simp; with_reducible rfl)); simp only [setL])
  clear hS
  refine wpPq_bag (pick [(2, fun v w' => ∃ (ao : Option Addr) (l cs : Nat) (ng : Bool), v = .agg #[.bool ng, .slice ao l cs, .int .i64 ex] ∧ DyAt w' (.agg #[.bool ng, .slice ao l cs, .int .i64 ex]) zx ex), (5, fun v w' => ∃ (ao : Option Addr) (l cs : Nat) (ng : Bool), v = .agg #[.bool ng, .slice ao l cs, .int .i64 ey] ∧ DyAt w' (.agg #[.bool ng, .slice ao l cs, .int .i64 ey]) zy ey), (6, fun v w' => ∃ (ao : Option Addr) (l cs : Nat) (ng : Bool), v = .tuple #[.agg #[.bool ng, .slice ao l cs, .int .i64 E], .int .i64 0] ∧ DyAt w' (.agg #[.bool ng, .slice ao l cs, .int .i64 E]) Z E), (7, fun v w' => ∃ (ao : Option Addr) (l cs : Nat) (ng : Bool), v = .tuple #[.agg #[.bool ng, .slice ao l cs, .int .i64 E], .int .i64 0] ∧ DyAt w' (.agg #[.bool ng, .slice ao l cs, .int .i64 E]) Z E), (8, fun v w' => ∃ (ao : Option Addr) (l cs : Nat) (ng : Bool), v = .agg #[.bool ng, .slice ao l cs, .int .i64 E] ∧ DyAt w' (.agg #[.bool ng, .slice ao l cs, .int .i64 E]) Z E), (9, fun v w' => v = .int .i64 0), (10, fun v w' => ∃ r, v = .pointer (some ⟨r, 0, none⟩) ∧ nB ≤ r ∧ BlkT w' r 98 #[.bool false, .slice none 0 0, .int .i64 0])]) (pick_mono (bag_cons (fun v w1 w2 ⟨a2, l2, c2, n2, hv2, hd2⟩ hb => ⟨a2, l2, c2, n2, hv2, hd2.below hb⟩) (bag_cons (fun v w1 w2 ⟨a5, l5, c5, n5, hv5, hd5⟩ hb => ⟨a5, l5, c5, n5, hv5, hd5.below hb⟩) (bag_cons (fun v w1 w2 ⟨a6, l6, c6, n6, hv6, hd6⟩ hb => ⟨a6, l6, c6, n6, hv6, hd6.below hb⟩) (bag_cons (fun v w1 w2 ⟨a7, l7, c7, n7, hv7, hd7⟩ hb => ⟨a7, l7, c7, n7, hv7, hd7.below hb⟩) (bag_cons (fun v w1 w2 ⟨a8, l8, c8, n8, hv8, hd8⟩ hb => ⟨a8, l8, c8, n8, hv8, hd8.below hb⟩) (bag_cons (fun v w1 w2 hv9 hb => hv9) (bag_cons (fun v w1 w2 ⟨r5, hv10, hl10, hB10⟩ hb => ⟨r5, hv10, hl10, hB10.below hb⟩) bag_nil)))))))) (fun w' hb => (HW.out.later hb).cells) (by simp [prE]) (fun _ _ _ _ _ h => h) (bag_cons (bag_one rfl ?_) (bag_cons (bag_one rfl ?_) (bag_cons (bag_one rfl ?_) (bag_cons (bag_one rfl ?_) bag_nil)))) (bag_cons (read_one rfl ?_) (bag_cons (read_one rfl ?_) (bag_cons (read_one rfl ?_) bag_nil))) ?_
  · intro a' V hdf hin hdep hb1 K hK
    have i34 : a'.tmps[34]?.getD undef = .float .f64 x := evT (hin 34 (by decide))
    clear hin hdep hdf
    have HW := Lib.hid (HW.out.later hb1)
    have HSZ := Lib.hid (HSZ.out.below hb1)
    go_simp
    refine (HO1.out _ (HT.out.below HW.out.2)).mono ?_
    rintro e1 V2 h1
    obtain ⟨a1, l1, c1, n1, rfl, ha1, hb2⟩ := h1.at
    exact hK _ _ ⟨a1, l1, c1, n1, rfl, ha1⟩ hb2
  · intro a' V hdf hin hdep hb1 K hK
    have i37 : a'.tmps[37]?.getD undef = .float .f64 y := evT (hin 37 (by decide))
    clear hin hdep hdf
    have HW := Lib.hid (HW.out.later hb1)
    have HSZ := Lib.hid (HSZ.out.below hb1)
    go_simp
    refine (HO2.out _ (HT.out.below HW.out.2)).mono ?_
    rintro e1 V2 h1
    obtain ⟨a1, l1, c1, n1, rfl, ha1, hb2⟩ := h1.at
    exact hK _ _ ⟨a1, l1, c1, n1, rfl, ha1⟩ hb2
  · intro a' V hdf hin hdep hb1 K hK
    obtain ⟨a2, l2, c2, n2, hv2, hd2⟩ : (fun (v : Value) (w' : World) => ∃ (ao : Option Addr) (l cs : Nat) (ng : Bool), v = .agg #[.bool ng, .slice ao l cs, .int .i64 ex] ∧ DyAt w' (.agg #[.bool ng, .slice ao l cs, .int .i64 ex]) zx ex) (a'.tmps.getD 35 undef) V := hdep ⟨2, .data⟩ (by simp) rfl 35 (by decide)
    replace hv2 := evT hv2
    obtain ⟨a5, l5, c5, n5, hv5, hd5⟩ : (fun (v : Value) (w' : World) => ∃ (ao : Option Addr) (l cs : Nat) (ng : Bool), v = .agg #[.bool ng, .slice ao l cs, .int .i64 ey] ∧ DyAt w' (.agg #[.bool ng, .slice ao l cs, .int .i64 ey]) zy ey) (a'.tmps.getD 38 undef) V := hdep ⟨5, .data⟩ (by simp) rfl 38 (by decide)
    replace hv5 := evT hv5
    clear hin hdep hdf
    have HW := Lib.hid (HW.out.later hb1)
    have HSZ := Lib.hid (HSZ.out.below hb1)
    go_simp
    refine (HAD.out _ _ _ hd2 hd5 (HT.out.below HW.out.2)).mono ?_
    rintro e1 V2 h1
    obtain ⟨a1, l1, c1, n1, rfl, ha1, hb2⟩ := h1.got
    exact hK _ _ ⟨a1, l1, c1, n1, rfl, ha1⟩ hb2
  · intro a' V hdf hin hdep hb1 K hK
    clear hin hdep hdf
    have HW := Lib.hid (HW.out.later hb1)
    have HSZ := Lib.hid (HSZ.out.below hb1)
    go_simp
    exact hK _ _ ⟨_, rfl, HSZ.out, BlkT.new V _ _⟩ (Below.alloc_self _ _)
  · intro a' V hdf hin hdep hb1
    obtain ⟨a6, l6, c6, n6, hv6, hd6⟩ : (fun (v : Value) (w' : World) => ∃ (ao : Option Addr) (l cs : Nat) (ng : Bool), v = .tuple #[.agg #[.bool ng, .slice ao l cs, .int .i64 E], .int .i64 0] ∧ DyAt w' (.agg #[.bool ng, .slice ao l cs, .int .i64 E]) Z E) (a'.tmps.getD 39 undef) V := hdep ⟨6, .data⟩ (by simp) rfl 39 (by decide)
    replace hv6 := evT hv6
    clear hin hdep hdf
    have HW := Lib.hid (HW.out.later hb1)
    have HSZ := Lib.hid (HSZ.out.below hb1)
    refine ⟨.tuple #[.agg #[.bool n6, .slice a6 l6 c6, .int .i64 E], .int .i64 0], fun W hSw => ?_, ⟨_, _, _, _, rfl, hd6⟩⟩
    go_simp
  · intro a' V hdf hin hdep hb1
    obtain ⟨a7, l7, c7, n7, hv7, hd7⟩ : (fun (v : Value) (w' : World) => ∃ (ao : Option Addr) (l cs : Nat) (ng : Bool), v = .tuple #[.agg #[.bool ng, .slice ao l cs, .int .i64 E], .int .i64 0] ∧ DyAt w' (.agg #[.bool ng, .slice ao l cs, .int .i64 E]) Z E) (a'.tmps.getD 32 undef) V := hdep ⟨7, .data⟩ (by simp) rfl 32 (by decide)
    replace hv7 := evT hv7
    clear hin hdep hdf
    have HW := Lib.hid (HW.out.later hb1)
    have HSZ := Lib.hid (HSZ.out.below hb1)
    refine ⟨.agg #[.bool n7, .slice a7 l7 c7, .int .i64 E], fun W hSw => ?_, ⟨_, _, _, _, rfl, hd7⟩⟩
    go_simp
  · intro a' V hdf hin hdep hb1
    obtain ⟨a7, l7, c7, n7, hv7, hd7⟩ : (fun (v : Value) (w' : World) => ∃ (ao : Option Addr) (l cs : Nat) (ng : Bool), v = .tuple #[.agg #[.bool ng, .slice ao l cs, .int .i64 E], .int .i64 0] ∧ DyAt w' (.agg #[.bool ng, .slice ao l cs, .int .i64 E]) Z E) (a'.tmps.getD 32 undef) V := hdep ⟨7, .data⟩ (by simp) rfl 32 (by decide)
    replace hv7 := evT hv7
    clear hin hdep hdf
    have HW := Lib.hid (HW.out.later hb1)
    have HSZ := Lib.hid (HSZ.out.below hb1)
    refine ⟨.int .i64 0, fun W hSw => ?_, rfl⟩
    go_simp
  intro vals B1 hb1 hR
  replace HW := Lib.hid (HW.out.later hb1)
  replace HSZ := Lib.hid (HSZ.out.below hb1)
  obtain ⟨a2, l2, c2, n2, hv2, hd2⟩ : (fun (v : Value) (w' : World) => ∃ (ao : Option Addr) (l cs : Nat) (ng : Bool), v = .agg #[.bool ng, .slice ao l cs, .int .i64 ex] ∧ DyAt w' (.agg #[.bool ng, .slice ao l cs, .int .i64 ex]) zx ex) (vals 2) B1 := hR (2, 35) (by decide)
  obtain ⟨a5, l5, c5, n5, hv5, hd5⟩ : (fun (v : Value) (w' : World) => ∃ (ao : Option Addr) (l cs : Nat) (ng : Bool), v = .agg #[.bool ng, .slice ao l cs, .int .i64 ey] ∧ DyAt w' (.agg #[.bool ng, .slice ao l cs, .int .i64 ey]) zy ey) (vals 5) B1 := hR (5, 38) (by decide)
  obtain ⟨a6, l6, c6, n6, hv6, hd6⟩ : (fun (v : Value) (w' : World) => ∃ (ao : Option Addr) (l cs : Nat) (ng : Bool), v = .tuple #[.agg #[.bool ng, .slice ao l cs, .int .i64 E], .int .i64 0] ∧ DyAt w' (.agg #[.bool ng, .slice ao l cs, .int .i64 E]) Z E) (vals 6) B1 := hR (6, 39) (by decide)
  obtain ⟨a7, l7, c7, n7, hv7, hd7⟩ : (fun (v : Value) (w' : World) => ∃ (ao : Option Addr) (l cs : Nat) (ng : Bool), v = .tuple #[.agg #[.bool ng, .slice ao l cs, .int .i64 E], .int .i64 0] ∧ DyAt w' (.agg #[.bool ng, .slice ao l cs, .int .i64 E]) Z E) (vals 7) B1 := hR (7, 32) (by decide)
  obtain ⟨a8, l8, c8, n8, hv8, hd8⟩ : (fun (v : Value) (w' : World) => ∃ (ao : Option Addr) (l cs : Nat) (ng : Bool), v = .agg #[.bool ng, .slice ao l cs, .int .i64 E] ∧ DyAt w' (.agg #[.bool ng, .slice ao l cs, .int .i64 E]) Z E) (vals 8) B1 := hR (8, 40) (by decide)
  obtain hv9 : (fun (v : Value) (w' : World) => v = .int .i64 0) (vals 9) B1 := hR (9, 41) (by decide)
  dsimp only at hv9
  obtain ⟨r5, hv10, hl10, hB10⟩ : (fun (v : Value) (w' : World) => ∃ r, v = .pointer (some ⟨r, 0, none⟩) ∧ nB ≤ r ∧ BlkT w' r 98 #[.bool false, .slice none 0 0, .int .i64 0]) (vals 10) B1 := hR (10, 5) (by decide)
  obtain ⟨k0, k1, k2, k3, k4, k5⟩ := hB10.cells3
  clear hb1 hR
  simp only [prE, List.flatMap_cons, List.flatMap_nil, List.cons_append, List.nil_append, List.append_nil, setD, List.setIfInBounds_toArray, List.set_cons_zero, List.set_cons_succ, hv2, hv5, hv6, hv7, hv8, hv9, hv10]
  clear vals hv2 hv5 hv6 hv7 hv8 hv9 hv10
  refine wpPq_goL rfl rfl fun K' hK => ?_
  go_simp
  have HA3 := Lib.hid (hd8.set3 hB10 (.bool n8) (.slice a8 l8 c8) (.int .i64 E))
  have HNE : Hid (w.heap.size ≠ r5 ∧ w.heap.size ≤ r5) := Lib.hid (by have := HLT.out; omega)
  have HS := Lib.hid ((((((Bks.nil w).later HW.out.2).cons hB10).set HNE.out.2 (fun q m => by cases m) 0 (.bool n8)).set HNE.out.2 (fun q m => by cases m) 1 (.slice a8 l8 c8)).set HNE.out.2 (fun q m => by cases m) 2 (.int .i64 E))
  have HW2 : Hid (IBox w (((B1.setCell ⟨r5, 0, none⟩ (.bool n8)).setCell ⟨r5, 1, none⟩ (.slice a8 l8 c8)).setCell ⟨r5, 2, none⟩ (.int .i64 E)) w.heap.size x y) := Lib.hid ⟨((HW.out.1.setOther HNE.out.1 _).setOther HNE.out.1 _).setOther HNE.out.1 _, HS.out.2⟩
  have hm1 := trivial
  clear hd2 hd5 hd6 hd7 hd8 hB10 hl10 k0 k1 k2 k3 k4 k5 HW HSZ
  generalize World.setCell (World.setCell (World.setCell B1 _ _) _ _) _ _ = V2 at HA3 HS HW2 ⊢
  have HW := HW2
  clear HW2
  refine hK _ _ HW.out.cells ?_
  clear hK K' hm1
  refine wpPq_nil ?_
  simp only [List.drop_succ_cons, List.drop_zero]
  skip
  have HLE : Hid (w.heap.size ≤ r5) := Lib.hid HNE.out.2
  clear HW HLT HNE
  obtain ⟨k0, k1, k2, k3, k4, k5⟩ : V2.cell? ⟨r5, 0, none⟩ = some (.bool n8) ∧ V2.cell? ⟨r5, 1, none⟩ = some (.slice a8 l8 c8) ∧ V2.cell? ⟨r5, 2, none⟩ = some (.int .i64 E) ∧ V2.frozen? ⟨r5, 0, none⟩ = false ∧ V2.frozen? ⟨r5, 1, none⟩ = false ∧ V2.frozen? ⟨r5, 2, none⟩ = false := (HS.out.get (.head _)).cells3
  go_wp2_with fail
  refine (HSH.out _ _ HA3.out (HT.out.below HS.out.2)).mono ?_
  rintro e7 w7 ⟨a7, l7, c7, n7, rfl, ha7, hb7⟩
  have HA7 := Lib.hid ha7
  replace HS := Lib.hid (HS.out.later hb7)
  clear ha7 hb7 HA3 k0 k1 k2 k3 k4 k5
  obtain ⟨k0, k1, k2, k3, k4, k5⟩ : w7.cell? ⟨r5, 0, none⟩ = some (.bool n8) ∧ w7.cell? ⟨r5, 1, none⟩ = some (.slice a8 l8 c8) ∧ w7.cell? ⟨r5, 2, none⟩ = some (.int .i64 E) ∧ w7.frozen? ⟨r5, 0, none⟩ = false ∧ w7.frozen? ⟨r5, 1, none⟩ = false ∧ w7.frozen? ⟨r5, 2, none⟩ = false := (HS.out.get (.head _)).cells3
  go_upto_region 12 with fail
  replace HA7 := Lib.hid (HA7.out.set3 (HS.out.get (.head _)) (.bool n7) (.slice a7 l7 c7) (.int .i64 E2))
  replace HS := Lib.hid (((HS.out.set HLE.out (fun q m => by cases m) 0 (.bool n7)).set HLE.out (fun q m => by cases m) 1 (.slice a7 l7 c7)).set HLE.out (fun q m => by cases m) 2 (.int .i64 E2))
  clear k0 k1 k2 k3 k4 k5
  generalize World.setCell (World.setCell (World.setCell w7 _ _) _ _) _ _ = W8 at HS HA7 ⊢
  obtain ⟨k0, k1, k2, k3, k4, k5⟩ : W8.cell? ⟨r5, 0, none⟩ = some (.bool n7) ∧ W8.cell? ⟨r5, 1, none⟩ = some (.slice a7 l7 c7) ∧ W8.cell? ⟨r5, 2, none⟩ = some (.int .i64 E2) ∧ W8.frozen? ⟨r5, 0, none⟩ = false ∧ W8.frozen? ⟨r5, 1, none⟩ = false ∧ W8.frozen? ⟨r5, 2, none⟩ = false := (HS.out.get (.head _)).cells3
  go_wp2_with fail
  refine (HRO.out _ _ HA7.out (HT.out.below HS.out.2)).mono ?_
  rintro e9 w9 ⟨rfl, hb9⟩
  replace HS := Lib.hid (HS.out.later hb9)
  clear hb9 k0 k1 k2 k3 k4 k5
  go_wp2
  go_ret
  exact ⟨rfl, HS.out.2⟩

set_option maxRecDepth 100000 in
set_option maxHeartbeats 3200000 in
theorem iRadius_any (x y : Nat) (w : World) (hx : W64 x) (hy : W64 y) (hT : TabB w) : Calls Tryz.prog 37 #[.agg #[.float .f64 x, .float .f64 y]] w (Gives (.float .f64 (radV x y)) w) := by
  have HFX := Lib.hid fun W => finite_any x W hx
  have HFY := Lib.hid fun W => finite_any y W hy
  have HFU := Lib.hid fun W => full_any x y W hx hy
  have HN := Lib.hid fun W => inan_any W
  have HT := Lib.hid hT
  have HW := Lib.hid (IBox.new w x y)
  have HI := Lib.hid fun W => inf_any W
  have HM := Lib.hid fun W ht => iMid_any x y W hx hy ht
  unfold radV
  unfold midV at HM
  rcases hs : ivK x y with _ | p
  · rw [hs] at HFU HM
    rw [if_neg (by decide)]
    rw [Option.isSome_none] at HFU
    clear hs hx hy hT
    generalize finB x = fx at *
    generalize finB y = fy at *
    go_enter Tryz.func37, Tryz.ntmps37
    have ⟨g0, g1⟩ := HW.out.cells
    go_wp2_with fail
    refine (HFU.out _).mono ?_
    rintro e1 w1 ⟨rfl, hb1⟩
    replace HW := Lib.hid (HW.out.later hb1)
    clear hb1
    clear g0 g1
    obtain ⟨g0, g1⟩ := HW.out.cells
    go_wp2_with fail
    refine (HN.out _).mono ?_
    rintro e3 w3 ⟨rfl, hb3⟩
    replace HW := Lib.hid (HW.out.later hb3)
    clear hb3
    clear g0 g1
    obtain ⟨g0, g1⟩ := HW.out.cells
    go_wp2
    go_ret
    exact ⟨rfl, HW.out.2⟩
  have hok := mid_ok hx hy hs
  rw [hs] at HFU HM
  rw [Option.isSome_some] at HFU HM ⊢
  rw [if_pos rfl] at HM ⊢
  unfold radB
  cases fx : finB x
  · rw [fx] at HFX
    rw [if_neg (by simp)]
    clear hs hx hy hT fx hok
    generalize finB y = fy at *
    rw [show kInf = 9218868437227405312 from rfl]
    go_enter Tryz.func37, Tryz.ntmps37
    have ⟨g0, g1⟩ := HW.out.cells
    go_wp2_with fail
    refine (HFU.out _).mono ?_
    rintro e1 w1 ⟨rfl, hb1⟩
    replace HW := Lib.hid (HW.out.later hb1)
    clear hb1
    clear g0 g1
    obtain ⟨g0, g1⟩ := HW.out.cells
    go_wp2_with fail
    refine (HFX.out _).mono ?_
    rintro e2 w2 ⟨rfl, hb2⟩
    replace HW := Lib.hid (HW.out.later hb2)
    clear hb2
    clear g0 g1
    obtain ⟨g0, g1⟩ := HW.out.cells
    go_wp2_with fail
    refine (HI.out _).mono ?_
    rintro e3 w3 ⟨rfl, hb3⟩
    replace HW := Lib.hid (HW.out.later hb3)
    clear hb3
    clear g0 g1
    obtain ⟨g0, g1⟩ := HW.out.cells
    go_wp2
    go_ret
    exact ⟨rfl, HW.out.2⟩
  rw [fx] at HFX
  cases fy : finB y
  · rw [fy] at HFY
    rw [if_neg (by simp)]
    clear hs hx hy hT fx fy hok
    rw [show kInf = 9218868437227405312 from rfl]
    go_enter Tryz.func37, Tryz.ntmps37
    have ⟨g0, g1⟩ := HW.out.cells
    go_wp2_with fail
    refine (HFU.out _).mono ?_
    rintro e1 w1 ⟨rfl, hb1⟩
    replace HW := Lib.hid (HW.out.later hb1)
    clear hb1
    clear g0 g1
    obtain ⟨g0, g1⟩ := HW.out.cells
    go_wp2_with fail
    refine (HFX.out _).mono ?_
    rintro e2 w2 ⟨rfl, hb2⟩
    replace HW := Lib.hid (HW.out.later hb2)
    clear hb2
    clear g0 g1
    obtain ⟨g0, g1⟩ := HW.out.cells
    go_wp2_with fail
    refine (HFY.out _).mono ?_
    rintro e3 w3 ⟨rfl, hb3⟩
    replace HW := Lib.hid (HW.out.later hb3)
    clear hb3
    clear g0 g1
    obtain ⟨g0, g1⟩ := HW.out.cells
    go_wp2_with fail
    refine (HI.out _).mono ?_
    rintro e4 w4 ⟨rfl, hb4⟩
    replace HW := Lib.hid (HW.out.later hb4)
    clear hb4
    clear g0 g1
    obtain ⟨g0, g1⟩ := HW.out.cells
    go_wp2
    go_ret
    exact ⟨rfl, HW.out.2⟩
  rw [fy] at HFY
  rw [if_pos ⟨rfl, rfl⟩]
  unfold rdK
  obtain ⟨wm, fm, -⟩ := hok
  have HA1 := Lib.hid fun W ht => iAdd_any (midB x y) (flipB x) 3 W wm (flip_lt hx) fm (flip_ok hx fx).2.1 (.inl rfl) ht
  have HA2 := Lib.hid fun W ht => iAdd_any y (flipB (midB x y)) 3 W hy (flip_lt wm) fy (flip_ok wm fm).2.1 (.inl rfl) ht
  have hng1 : ∀ w, (Op.unary .neg (.float .f64 x)).run Tryz.prog w = .ok (.float .f64 (flipB x)) w := fun w => by rw [← neg_flip hx]; rfl
  have hng2 : ∀ w, (Op.unary .neg (.float .f64 (midB x y))).run Tryz.prog w = .ok (.float .f64 (flipB (midB x y))) w := fun w => by rw [← neg_flip wm]; rfl
  generalize adK (midB x y) (flipB x) 3 = K1 at *
  generalize adK y (flipB (midB x y)) 3 = K2 at *
  generalize flipB (midB x y) = m2 at *
  generalize midB x y = m at *
  generalize flipB x = x2 at *
  clear hs hx hy hT wm fm fx fy
  go_enter Tryz.func37, Tryz.ntmps37
  have ⟨g0, g1⟩ := HW.out.cells
  go_wp2_with fail
  refine (HFU.out _).mono ?_
  rintro e1 w1 ⟨rfl, hb1⟩
  replace HW := Lib.hid (HW.out.later hb1)
  clear hb1
  clear g0 g1
  obtain ⟨g0, g1⟩ := HW.out.cells
  go_wp2_with fail
  refine (HFX.out _).mono ?_
  rintro e2 w2 ⟨rfl, hb2⟩
  replace HW := Lib.hid (HW.out.later hb2)
  clear hb2
  clear g0 g1
  obtain ⟨g0, g1⟩ := HW.out.cells
  go_wp2_with fail
  refine (HFY.out _).mono ?_
  rintro e3 w3 ⟨rfl, hb3⟩
  replace HW := Lib.hid (HW.out.later hb3)
  clear hb3
  clear g0 g1
  obtain ⟨g0, g1⟩ := HW.out.cells
  go_wp2_with fail
  refine (HM.out _ (HT.out.below HW.out.2)).mono ?_
  rintro e4 w4 ⟨rfl, hb4⟩
  replace HW := Lib.hid (HW.out.later hb4)
  clear hb4
  clear g0 g1
  obtain ⟨g0, g1⟩ := HW.out.cells
  go_upto_region 6 with fail
  clear g0 g1
  refine wp_region_pl (fun w' : World => w'.cell? ⟨w.heap.size, 0, none⟩ = some (.float .f64 x) ∧ w'.cell? ⟨w.heap.size, 1, none⟩ = some (.float .f64 y)) 9 (.take 0 (.take 1 (.take 2 (.take 3 (.take 5 (.take 6 (.take 7 (.take 8 (.run 4 (.nil)))))))))) (by kernel_rfl) (by kernel_rfl) ?_
  replace HW := Lib.hid (HW.out.later (drew_below _))
  generalize World.drew _ = W6 at HW ⊢
  repeat (first | (refine wpPl_takeL (v := ?_) rfl rfl (fun _ _ _ h => h) rfl (fun w' hSw => ?_) HW.out.cells ?_; rotate_left; (focus (go_simp; with_reducible rfl)); simp only [setL]) | (refine wpPl_skipL rfl rfl (fun _ _ _ h => h) rfl HW.out.cells ?_; simp only [setL]))
  refine wpPl_goL rfl rfl fun K' hK => ?_
  go_simp
  refine (HA1.out _ (HT.out.below HW.out.2)).mono ?_
  rintro e1 W6v1 ⟨r1, rfl, wr1, nr1, kr1, hb1⟩
  replace HW := Lib.hid (HW.out.later hb1)
  have HR1 := Lib.hid (And.intro wr1 (And.intro nr1 kr1))
  clear wr1 nr1 kr1
  refine hK _ _ HW.out.cells ?_
  clear hK K' hb1
  try simp only [Act.put, setL]
  repeat (first | (refine wpPl_takeL (v := ?_) rfl rfl (fun _ _ _ h => h) rfl (fun w' hSw => ?_) HW.out.cells ?_; rotate_left; (focus (go_simp; with_reducible rfl)); simp only [setL]) | (refine wpPl_skipL rfl rfl (fun _ _ _ h => h) rfl HW.out.cells ?_; simp only [setL]))
  refine wpPl_nil ?_
  simp only [List.drop_succ_cons, List.drop_zero]
  obtain ⟨g0, g1⟩ := HW.out.cells
  go_wp2_with fail
  refine (HA2.out _ (HT.out.below HW.out.2)).mono ?_
  rintro e9 w9 ⟨r2, rfl, wr2, nr2, kr2, hb9⟩
  replace HW := Lib.hid (HW.out.later hb9)
  clear hb9
  clear g0 g1
  obtain ⟨r3, hmx, wr3, nr3, kr3⟩ := run_max_f HR1.out.1 wr2 HR1.out.2.1 nr2
  have hadd := add_nought wr3 nr3
  rw [kr3, HR1.out.2.2, kr2] at hadd
  generalize kb (max K1 K2) = KK at *
  clear wr2 nr2 kr2 wr3 nr3 kr3 HR1
  go_wp2
  go_ret
  exact ⟨rfl, HW.out.2⟩

set_option maxRecDepth 100000 in
set_option maxHeartbeats 3200000 in
theorem iWidth_any (x y : Nat) (w : World) (hx : W64 x) (hy : W64 y) (hT : TabB w) : Calls Tryz.prog 39 #[.agg #[.float .f64 x, .float .f64 y]] w (Gives (.float .f64 (widV x y)) w) := by
  have HFX := Lib.hid fun W => finite_any x W hx
  have HFY := Lib.hid fun W => finite_any y W hy
  have HFU := Lib.hid fun W => full_any x y W hx hy
  have HN := Lib.hid fun W => inan_any W
  have HT := Lib.hid hT
  have HW := Lib.hid (IBox.new w x y)
  have HI := Lib.hid fun W => inf_any W
  unfold widV
  rcases hs : ivK x y with _ | p
  · rw [hs] at HFU
    rw [if_neg (by decide)]
    rw [Option.isSome_none] at HFU
    clear hs hx hy hT
    generalize finB x = fx at *
    generalize finB y = fy at *
    go_enter Tryz.func39, Tryz.ntmps39
    have ⟨g0, g1⟩ := HW.out.cells
    go_wp2_with fail
    refine (HFU.out _).mono ?_
    rintro e1 w1 ⟨rfl, hb1⟩
    replace HW := Lib.hid (HW.out.later hb1)
    clear hb1
    clear g0 g1
    obtain ⟨g0, g1⟩ := HW.out.cells
    go_wp2_with fail
    refine (HN.out _).mono ?_
    rintro e3 w3 ⟨rfl, hb3⟩
    replace HW := Lib.hid (HW.out.later hb3)
    clear hb3
    clear g0 g1
    obtain ⟨g0, g1⟩ := HW.out.cells
    go_wp2
    go_ret
    exact ⟨rfl, HW.out.2⟩
  rw [hs] at HFU
  rw [Option.isSome_some] at HFU ⊢
  rw [if_pos rfl]
  unfold widB
  cases fx : finB x
  · rw [fx] at HFX
    rw [if_neg (by simp)]
    clear hs hx hy hT fx
    generalize finB y = fy at *
    rw [show kInf = 9218868437227405312 from rfl]
    go_enter Tryz.func39, Tryz.ntmps39
    have ⟨g0, g1⟩ := HW.out.cells
    go_wp2_with fail
    refine (HFU.out _).mono ?_
    rintro e1 w1 ⟨rfl, hb1⟩
    replace HW := Lib.hid (HW.out.later hb1)
    clear hb1
    clear g0 g1
    obtain ⟨g0, g1⟩ := HW.out.cells
    go_wp2_with fail
    refine (HFX.out _).mono ?_
    rintro e2 w2 ⟨rfl, hb2⟩
    replace HW := Lib.hid (HW.out.later hb2)
    clear hb2
    clear g0 g1
    obtain ⟨g0, g1⟩ := HW.out.cells
    go_wp2_with fail
    refine (HI.out _).mono ?_
    rintro e3 w3 ⟨rfl, hb3⟩
    replace HW := Lib.hid (HW.out.later hb3)
    clear hb3
    clear g0 g1
    obtain ⟨g0, g1⟩ := HW.out.cells
    go_wp2
    go_ret
    exact ⟨rfl, HW.out.2⟩
  rw [fx] at HFX
  cases fy : finB y
  · rw [fy] at HFY
    rw [if_neg (by simp)]
    clear hs hx hy hT fx fy
    rw [show kInf = 9218868437227405312 from rfl]
    go_enter Tryz.func39, Tryz.ntmps39
    have ⟨g0, g1⟩ := HW.out.cells
    go_wp2_with fail
    refine (HFU.out _).mono ?_
    rintro e1 w1 ⟨rfl, hb1⟩
    replace HW := Lib.hid (HW.out.later hb1)
    clear hb1
    clear g0 g1
    obtain ⟨g0, g1⟩ := HW.out.cells
    go_wp2_with fail
    refine (HFX.out _).mono ?_
    rintro e2 w2 ⟨rfl, hb2⟩
    replace HW := Lib.hid (HW.out.later hb2)
    clear hb2
    clear g0 g1
    obtain ⟨g0, g1⟩ := HW.out.cells
    go_wp2_with fail
    refine (HFY.out _).mono ?_
    rintro e3 w3 ⟨rfl, hb3⟩
    replace HW := Lib.hid (HW.out.later hb3)
    clear hb3
    clear g0 g1
    obtain ⟨g0, g1⟩ := HW.out.cells
    go_wp2_with fail
    refine (HI.out _).mono ?_
    rintro e4 w4 ⟨rfl, hb4⟩
    replace HW := Lib.hid (HW.out.later hb4)
    clear hb4
    clear g0 g1
    obtain ⟨g0, g1⟩ := HW.out.cells
    go_wp2
    go_ret
    exact ⟨rfl, HW.out.2⟩
  rw [fy] at HFY
  rw [if_pos ⟨rfl, rfl⟩]
  unfold wdK
  have HA1 := Lib.hid fun W ht => iAdd_any y (flipB x) 3 W hy (flip_lt hx) fy (flip_ok hx fx).2.1 (.inl rfl) ht
  have hng1 : ∀ w, (Op.unary .neg (.float .f64 x)).run Tryz.prog w = .ok (.float .f64 (flipB x)) w := fun w => by rw [← neg_flip hx]; rfl
  generalize adK y (flipB x) 3 = K1 at *
  generalize flipB x = x2 at *
  clear hs hx hy hT fx fy
  go_enter Tryz.func39, Tryz.ntmps39
  have ⟨g0, g1⟩ := HW.out.cells
  go_wp2_with fail
  refine (HFU.out _).mono ?_
  rintro e1 w1 ⟨rfl, hb1⟩
  replace HW := Lib.hid (HW.out.later hb1)
  clear hb1
  clear g0 g1
  obtain ⟨g0, g1⟩ := HW.out.cells
  go_wp2_with fail
  refine (HFX.out _).mono ?_
  rintro e2 w2 ⟨rfl, hb2⟩
  replace HW := Lib.hid (HW.out.later hb2)
  clear hb2
  clear g0 g1
  obtain ⟨g0, g1⟩ := HW.out.cells
  go_wp2_with fail
  refine (HFY.out _).mono ?_
  rintro e3 w3 ⟨rfl, hb3⟩
  replace HW := Lib.hid (HW.out.later hb3)
  clear hb3
  clear g0 g1
  obtain ⟨g0, g1⟩ := HW.out.cells
  go_wp2_with fail
  refine (HA1.out _ (HT.out.below HW.out.2)).mono ?_
  rintro e9 w9 ⟨r2, rfl, wr2, nr2, kr2, hb9⟩
  replace HW := Lib.hid (HW.out.later hb9)
  clear hb9
  clear g0 g1
  have hadd := add_nought wr2 nr2
  rw [kr2] at hadd
  generalize kb K1 = KK at *
  clear wr2 nr2 kr2
  go_wp2
  go_ret
  exact ⟨rfl, HW.out.2⟩

end Go.Proofs.YtloohbkceppocaaGreatDoor
