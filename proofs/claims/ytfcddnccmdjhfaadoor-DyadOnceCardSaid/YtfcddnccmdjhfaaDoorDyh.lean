/- Walks: that the package is awake. -/
import Derived.Test.YtfcddnccmdjhfaaDoorDyg
namespace Go.Proofs.YtfcddnccmdjhfaaDoor
open Go.RowKit

theorem awake_of : finB 4602678819172646912 = true ∧ valZ 4602678819172646912 = 1 ∧ pE 4602678819172646912 = -1 := by decide
theorem awake_add : plZ 1 (-1) 1 (-1) = 2 ∧ plE 1 (-1) 1 (-1) = -1 ∧ lngB 2 (-1) = false ∧ hvZ 2 = 1 ∧ nrE 2 (-1) = 0 := by decide
theorem awake_round : lastE 1 0 53 (-1074) + bl (roundZ 1 0 53 (-1074) 0) ≤ 1024 ∧ mkB (decide ((1 : Int) < 0)) (roundZ 1 0 53 (-1074) 0) (lastE 1 0 53 (-1074)) = 4607182418800017408 := by decide
theorem good_one (e : Int) (h1 : -100000 ≤ e) (h2 : e ≤ 100000) : GoodD 1 e := ⟨.inr (by decide), by decide, h1, h2⟩

theorem DyNew.at {z e : Int} {w : World} {en : Ending} {w' : World} (h : DyNew z e w en w') :
    ∃ ao cap, en = .returned (.tuple #[.agg #[.bool (decide (z < 0)), .slice ao (ln 32 z.natAbs) cap, .int .i64 e], .int .i64 0]) ∧ Raw .u32 32 w' (.slice ao (ln 32 z.natAbs) cap) (ln 32 z.natAbs) z.natAbs ∧ OwnS w' w.heap.size 36 (.slice ao (ln 32 z.natAbs) cap) ∧ Below w.heap.size w w' := by
  obtain ⟨sl, h1, h2, h3, h4⟩ := h
  have h5 := h2
  obtain ⟨ao, cap, rfl, -⟩ := h5
  exact ⟨ao, cap, h1, h2, h3, h4⟩

theorem DyNew.one {e : Int} {w : World} {en : Ending} {w' : World} (h : DyNew 1 e w en w') :
    ∃ ao cap, en = .returned (.tuple #[.agg #[.bool false, .slice ao 1 cap, .int .i64 e], .int .i64 0]) ∧ Raw .u32 32 w' (.slice ao 1 cap) 1 1 ∧ Below w.heap.size w w' ∧ DyAt w' (.agg #[.bool false, .slice ao 1 cap, .int .i64 e]) 1 e := by
  obtain ⟨ao, cap, h1, h2, h3, h4⟩ := h.at
  have e1 : ln 32 (1 : Int).natAbs = 1 := by decide
  have e2 : decide ((1 : Int) < 0) = false := rfl
  rw [e1] at h1 h2
  rw [e2] at h1
  exact ⟨ao, cap, h1, h2, h4, .slice ao 1 cap, by rw [e2]; rfl, by rw [e1]; exact h2⟩

theorem Raw.one32 (w : World) : Raw .u32 32 (w.alloc (.cells #[.int .u32 1] 36)) (.slice (some ⟨w.heap.size, 0, none⟩) 1 1) 1 1 := by
  refine ⟨_, 1, rfl, by omega, by decide, by omega, fun _ => ⟨w.heap.size, 0, rfl, by simp, Elem.new _ _ _, fun i hi => ?_⟩⟩
  obtain rfl : i = 0 := by omega
  rw [show (⟨w.heap.size, 0 + 0, none⟩ : Addr) = ⟨w.heap.size, 0, none⟩ from rfl, World.cell?_alloc_new]
  rfl

theorem one_eq_one : (FloatKind.f64.format.order 4607182418800017408 4607182418800017408 == some Ordering.eq) = true := by kernel_rfl

set_option maxRecDepth 100000 in
set_option maxHeartbeats 1600000 in
theorem awake_any (w : World) (hT : Tab64 w) (hTs : 1 < w.heap.size) :
    Calls Tryd.prog 8 #[] w (Gives (.bool true) w) := by
  have HT := Lib.hid (And.intro hT hTs)
  have HOF : Hid (∀ W, Tab64 W → 1 < W.heap.size → Calls Tryd.prog 6 #[.float .f64 4602678819172646912] W (DyNew 1 (-1) W)) := by
    refine Lib.hid fun W h1 h2 => ?_
    have := dOf_any 4602678819172646912 W (by decide) awake_of.1 h1 h2
    rw [awake_of.2.1, awake_of.2.2] at this
    exact this
  have HAD : Hid (∀ va W, DyAt W va 1 (-1) → Tab64 W → 1 < W.heap.size → Calls Tryd.prog 10 #[va, va] W (DyNew 1 0 W)) := by
    refine Lib.hid fun va W ha h1 h2 => ?_
    have := dAdd_any va va 1 (-1) 1 (-1) W ha ha (good_one _ (by decide) (by decide)) (good_one _ (by decide) (by decide)) h1 h2 (by rw [awake_add.1, awake_add.2.1]; exact .inr awake_add.2.2.1)
    rw [awake_add.1, awake_add.2.1, awake_add.2.2.2.1, awake_add.2.2.2.2] at this
    exact this
  have HRO : Hid (∀ va W, DyAt W va 1 0 → Tab64 W → 1 < W.heap.size → Calls Tryd.prog 18 #[va, .int .i64 0] W (Gives (.tuple #[.float .f64 4607182418800017408, .int .i64 0]) W)) := by
    refine Lib.hid fun va W ha h1 h2 => ?_
    have := dRound_norm va 1 0 0 W ha (good_one _ (by decide) (by decide)) (by decide) (by decide) h1 h2 awake_round.1
    rw [awake_round.2] at this
    exact this
  clear hT hTs
  go_enter Tryd.func8, Tryd.ntmps8
  go_wp2_with fail
  refine (HOF.out _ HT.out.1 HT.out.2).mono ?_
  intro e1 w1 hd
  obtain ⟨ao, cap, rfl, hr1, hb1, ha1⟩ := hd.one
  have HB1 := Lib.hid hb1
  have HR1 := Lib.hid hr1
  have HD1 := Lib.hid (BlkT.new w1 #[.bool false, .slice ao 1 cap, .int .i64 (-1)] 25)
  have HA1 := Lib.hid ha1
  clear hd hr1 hb1 ha1
  go_wp2_with fail
  refine (HAD.out _ _ (HA1.out.below (below1 _ _)) (HT.out.1.below HT.out.2 (HB1.out.alloc HB1.out.size _)) (Nat.lt_of_lt_of_le HT.out.2 (HB1.out.alloc HB1.out.size _).size)).mono ?_
  intro e2 w2 hd
  obtain ⟨ao2, cap2, rfl, hr2, hb2, ha2⟩ := hd.one
  have HB2 := Lib.hid ((HB1.out.alloc HB1.out.size (.cells #[.bool false, .slice ao 1 cap, .int .i64 (-1)] 25)).trans (hb2.mono (HB1.out.alloc HB1.out.size _).size))
  have HR2 := Lib.hid ((HR1.out.below (below1 _ (.cells #[.bool false, .slice ao 1 cap, .int .i64 (-1)] 25))).below hb2)
  have HD2 := Lib.hid (HD1.out.below hb2)
  have HA2 := Lib.hid ha2
  clear hd hr2 hb2 ha2 HD1 HR1
  go_wp2_with fail
  refine (HRO.out _ _ (HA2.out.below (below1 _ _)) (HT.out.1.below HT.out.2 (HB2.out.alloc HB2.out.size _)) (Nat.lt_of_lt_of_le HT.out.2 (HB2.out.alloc HB2.out.size _).size)).mono ?_
  rintro e3 w3 ⟨rfl, hb3⟩
  have HB3 := Lib.hid ((HB2.out.alloc HB2.out.size (.cells #[.bool false, .slice ao2 1 cap2, .int .i64 0] 25)).trans (hb3.mono (HB2.out.alloc HB2.out.size _).size))
  have HR3 := Lib.hid ((HR2.out.below (below1 _ (.cells #[.bool false, .slice ao2 1 cap2, .int .i64 0] 25))).below hb3)
  have HD3 := Lib.hid ((HD2.out.alloc (.cells #[.bool false, .slice ao2 1 cap2, .int .i64 0] 25)).below hb3)
  obtain ⟨x0, x1, x2, x3, x4, x5⟩ := HD3.out.cells3
  clear hb3 HD2 HR2
  go_wp2_with fail
  refine (same_true _ _ false 1 1 (-1) (.slice ao 1 cap) (.slice (some ⟨w3.heap.size, 0, none⟩) 1 1) _ rfl rfl (HR3.out.below (below1 _ _)) (Raw.one32 w3) (by omega)).mono ?_
  rintro e4 w4 ⟨rfl, hb4⟩
  have HB4 := Lib.hid ((HB3.out.alloc HB3.out.size _).trans (hb4.mono (HB3.out.alloc HB3.out.size _).size))
  clear hb4
  have hfe := one_eq_one
  go_wp2
  go_ret
  exact ⟨rfl, HB4.out⟩

end Go.Proofs.YtfcddnccmdjhfaaDoor
