/- Walk: SumWays. Printed by wip/gen/fw2.py. -/
import Derived.Test.YtjoajbbapfgaoaaGreatDoorZFw1
import Derived.Test.YtjoajbbapfgaoaaGreatDoorGR
namespace Go.Proofs.YtjoajbbapfgaoaaGreatDoor
open Go.RowKit

set_option maxRecDepth 100000 in
set_option maxHeartbeats 4000000 in
theorem sumWays_any (v : Value) (l : List Nat) (way : Int) (w : World) (hl : USl w v l) (hw : (Lit.int .i64 way).wf = true)
    (hT : Tab64 w) (hTs : 1 < w.heap.size) (hT2 : Tab32 w) (hTs2 : 2 < w.heap.size) :
    Calls Tryz.prog 8 #[v, .int .i64 way] w (Gives (.bool true) w) := by
  have HT := Lib.hid (And.intro (And.intro hT hTs) (And.intro hT2 hTs2))
  have HL := Lib.hid hl
  have HWF := Lib.hid hw
  have HTA : Hid (∀ W, Below w.heap.size w W → Tab64 W ∧ 1 < W.heap.size) := Lib.hid fun W hb => ⟨HT.out.1.1.below HT.out.1.2 hb, Nat.lt_of_lt_of_le HT.out.1.2 hb.size⟩
  have HTB : Hid (∀ W, Below w.heap.size w W → Tab32 W ∧ 2 < W.heap.size) := Lib.hid fun W hb => ⟨HT.out.2.1.below HT.out.2.2 hb, Nat.lt_of_lt_of_le HT.out.2.2 hb.size⟩
  clear hT hTs hT2 hTs2 hw HT
  have HC1 := Lib.hid (canon_cO (leftO l))
  have HC2 := Lib.hid (canon_prB l.length l)
  have HC3 := Lib.hid (canon_cO (kahF l).1)
  have HC4 := Lib.hid (canon_cO (oA .add (neuF l).1 (neuF l).2))
  have HC5 := Lib.hid (canon_wayB 5 l)
  have HC6 := Lib.hid (canon_wayB way l)
  have HXL : Hid (exL l = .tuple #[.float .f64 (wayB 5 l), .int .i64 (wayE 5 l)]) := Lib.hid rfl
  have K1 := Lib.hid fun v W (h : FSl W v l) => sumLeft_any v l W h
  have K1r := Lib.hid fun v W (h : FSl W v l) => rLeft_any v l W h
  have K2 := Lib.hid fun v W (h : FSl W v l) => pairs_any l.length v l W (Nat.le_refl _) h
  have K2r := Lib.hid fun v W (h : FSl W v l) => rPairs_any l.length v l W (Nat.le_refl _) h
  have K3 := Lib.hid fun v W (h : FSl W v l) => kahan_any v l W h
  have K3r := Lib.hid fun v W (h : FSl W v l) => rKahan_any v l W h
  have K4 := Lib.hid fun v W (h : FSl W v l) => neumaier_any v l W h
  have K4r := Lib.hid fun v W (h : FSl W v l) => rNeumaier_any v l W h
  have K5 := Lib.hid fun v W (h : FSl W v l) => exact_any v l W h
  have K5r := Lib.hid fun v W (h : FSl W v l) => rExact_any v l W h
  rw [HXL.out] at K5 K5r
  have K6 := Lib.hid fun v W (h : FSl W v l) => sumWay_any v l way W h HWF.out
  have K6r := Lib.hid fun v W (h : FSl W v l) => rSumWay_any v l way W h
  clear HXL
  generalize cO (leftO l) = y1 at *
  generalize prB l.length l = y2 at *
  generalize cO (kahF l).1 = y3 at *
  generalize cO (oA .add (neuF l).1 (neuF l).2) = y4 at *
  generalize wayB 5 l = y5 at *
  generalize wayE 5 l = e5 at *
  generalize wayB way l = y6 at *
  generalize wayE way l = e6 at *
  obtain ⟨ao, cap, rfl, -⟩ := hl
  go_enter Tryz.func8, Tryz.ntmps8
  go_wp2_with fail
  refine (rOf64_any _ l _ HL.out).mono ?_
  rintro z1 w1 ⟨u, rfl, hfl, hb1⟩
  have HF := Lib.hid hfl
  have HB := Lib.hid hb1
  obtain ⟨fa, fc, rfl, -⟩ := hfl
  clear hb1
  go_wp2_with fail
  refine (K5r.out _ _ HF.out (HTB.out _ HB.out).1 (HTB.out _ HB.out).2).mono ?_
  rintro z2 w2 ⟨rfl, hb2⟩
  replace HF := Lib.hid (HF.out.below hb2)
  replace HB := Lib.hid (HB.out.trans (hb2.mono HB.out.size))
  clear hb2
  go_wp2_with fail
  refine (K5.out _ _ HF.out (HTA.out _ HB.out).1 (HTA.out _ HB.out).2).mono ?_
  rintro z3 w3 ⟨rfl, hb3⟩
  replace HF := Lib.hid (HF.out.below hb3)
  replace HB := Lib.hid (HB.out.trans (hb3.mono HB.out.size))
  clear hb3
  go_wp2_with fail
  refine (K6r.out _ _ HF.out (HTB.out _ HB.out).1 (HTB.out _ HB.out).2).mono ?_
  rintro z4 w4 ⟨rfl, hb4⟩
  replace HF := Lib.hid (HF.out.below hb4)
  replace HB := Lib.hid (HB.out.trans (hb4.mono HB.out.size))
  clear hb4
  go_wp2_with fail
  refine (K6.out _ _ HF.out (HTA.out _ HB.out).1 (HTA.out _ HB.out).2).mono ?_
  rintro z5 w5 ⟨rfl, hb5⟩
  replace HF := Lib.hid (HF.out.below hb5)
  replace HB := Lib.hid (HB.out.trans (hb5.mono HB.out.size))
  clear hb5
  go_wp2_with fail
  refine (K1.out _ _ HF.out).mono ?_
  rintro z6 w6 ⟨rfl, hb6⟩
  replace HF := Lib.hid (HF.out.below hb6)
  replace HB := Lib.hid (HB.out.trans (hb6.mono HB.out.size))
  clear hb6
  go_wp2_with fail
  refine (K1r.out _ _ HF.out).mono ?_
  rintro z7 w7 ⟨rfl, hb7⟩
  replace HF := Lib.hid (HF.out.below hb7)
  replace HB := Lib.hid (HB.out.trans (hb7.mono HB.out.size))
  clear hb7
  go_wp2_with fail
  refine (same5_any y1 y1 _).mono ?_
  rintro z8 w8 ⟨rfl, hb8⟩
  replace HF := Lib.hid (HF.out.below hb8)
  replace HB := Lib.hid (HB.out.trans (hb8.mono HB.out.size))
  clear hb8
  rw [HC1.out, decide_eq_true (rfl : y1 = y1)]
  go_wp2_with fail
  refine (K2.out _ _ HF.out).mono ?_
  rintro z9 w9 ⟨rfl, hb9⟩
  replace HF := Lib.hid (HF.out.below hb9)
  replace HB := Lib.hid (HB.out.trans (hb9.mono HB.out.size))
  clear hb9
  go_wp2_with fail
  refine (K2r.out _ _ HF.out).mono ?_
  rintro z10 w10 ⟨rfl, hb10⟩
  replace HF := Lib.hid (HF.out.below hb10)
  replace HB := Lib.hid (HB.out.trans (hb10.mono HB.out.size))
  clear hb10
  go_wp2_with fail
  refine (same5_any y2 y2 _).mono ?_
  rintro z11 w11 ⟨rfl, hb11⟩
  replace HF := Lib.hid (HF.out.below hb11)
  replace HB := Lib.hid (HB.out.trans (hb11.mono HB.out.size))
  clear hb11
  rw [HC2.out, decide_eq_true (rfl : y2 = y2)]
  go_wp2_with fail
  refine (K3.out _ _ HF.out).mono ?_
  rintro z12 w12 ⟨rfl, hb12⟩
  replace HF := Lib.hid (HF.out.below hb12)
  replace HB := Lib.hid (HB.out.trans (hb12.mono HB.out.size))
  clear hb12
  go_wp2_with fail
  refine (K3r.out _ _ HF.out).mono ?_
  rintro z13 w13 ⟨rfl, hb13⟩
  replace HF := Lib.hid (HF.out.below hb13)
  replace HB := Lib.hid (HB.out.trans (hb13.mono HB.out.size))
  clear hb13
  go_wp2_with fail
  refine (same5_any y3 y3 _).mono ?_
  rintro z14 w14 ⟨rfl, hb14⟩
  replace HF := Lib.hid (HF.out.below hb14)
  replace HB := Lib.hid (HB.out.trans (hb14.mono HB.out.size))
  clear hb14
  rw [HC3.out, decide_eq_true (rfl : y3 = y3)]
  go_wp2_with fail
  refine (K4.out _ _ HF.out).mono ?_
  rintro z15 w15 ⟨rfl, hb15⟩
  replace HF := Lib.hid (HF.out.below hb15)
  replace HB := Lib.hid (HB.out.trans (hb15.mono HB.out.size))
  clear hb15
  go_wp2_with fail
  refine (K4r.out _ _ HF.out).mono ?_
  rintro z16 w16 ⟨rfl, hb16⟩
  replace HF := Lib.hid (HF.out.below hb16)
  replace HB := Lib.hid (HB.out.trans (hb16.mono HB.out.size))
  clear hb16
  go_wp2_with fail
  refine (same5_any y4 y4 _).mono ?_
  rintro z17 w17 ⟨rfl, hb17⟩
  replace HF := Lib.hid (HF.out.below hb17)
  replace HB := Lib.hid (HB.out.trans (hb17.mono HB.out.size))
  clear hb17
  rw [HC4.out, decide_eq_true (rfl : y4 = y4)]
  go_wp2_with fail
  refine (told5_yes y5 y5 e5 _ HC5.out.symm).mono ?_
  rintro z18 w18 ⟨rfl, hb18⟩
  replace HF := Lib.hid (HF.out.below hb18)
  replace HB := Lib.hid (HB.out.trans (hb18.mono HB.out.size))
  clear hb18
  go_wp2_with fail
  refine (told5_yes y6 y6 e6 _ HC6.out.symm).mono ?_
  rintro z19 w19 ⟨rfl, hb19⟩
  replace HF := Lib.hid (HF.out.below hb19)
  replace HB := Lib.hid (HB.out.trans (hb19.mono HB.out.size))
  clear hb19
  go_wp2_with fail
  refine (awake5_any _ (HTA.out _ HB.out).1 (HTA.out _ HB.out).2).mono ?_
  rintro z20 w20 ⟨rfl, hb20⟩
  replace HB := Lib.hid (HB.out.trans (hb20.mono HB.out.size))
  clear hb20
  go_wp2
  go_ret
  exact ⟨rfl, HB.out⟩

end Go.Proofs.YtjoajbbapfgaoaaGreatDoor
