/- Walk: SumMeans. Printed by wip/gen/nm8.py. -/
import Derived.Test.YthkhignbmefmjaaGreatDoorZNm7
import Derived.Test.YthkhignbmefmjaaGreatDoorGX
import Derived.Test.YthkhignbmefmjaaGreatDoorZFw1
import Derived.Test.YthkhignbmefmjaaGreatDoorGR
namespace Go.Proofs.YthkhignbmefmjaaGreatDoor
open Go.RowKit
theorem canon_nn {x : Nat} (h : nanB x = false) : canonB x = x := by unfold canonB; rw [h]; rfl
theorem nan_rndX0 (z e : Int) : nanB (rndX z e 0) = false := num_iff.2 (rndX_lt z e 0).2
theorem canon_meanB (l : List Nat) : canonB (meanB l).1 = (meanB l).1 := by
 refine canon_nn ?_
 unfold meanB
 split
 ·decide
 ·split
  ·decide
  ·split
   ·decide
   ·split
    ·decide
    ·show nanB (mnQ _ _ _) = false
     unfold mnQ mnB
     split
     ·rw [rndX_hv]; exact nan_rndX0 _ _
     ·decide
theorem canon_nrmB (l : List Nat) : canonB (nrmB l).1 = (nrmB l).1 := by
 refine canon_nn ?_
 unfold nrmB
 split
 ·decide
 ·split
  ·decide
  ·split
   ·decide
   ·split
    ·rename_i h; exact nan_fin h
    ·decide
set_option maxRecDepth 100000 in
set_option maxHeartbeats 4000000 in
theorem sumMeans_any (v : Value) (l : List Nat) (w : World) (hl : USl w v l)
  (hT : Tab64 w) (hTs : 1 < w.heap.size) (hT2 : Tab32 w) (hTs2 : 2 < w.heap.size) :
  Calls Tryz.prog 3 #[v] w (Gives (.bool true) w) := by
 have HL := Lib.hid hl
 have HTA : Hid (∀ W, Below w.heap.size w W → Tab64 W ∧ 1 < W.heap.size) := Lib.hid fun W hb => ⟨hT.below hTs hb, Nat.lt_of_lt_of_le hTs hb.size⟩
 have HTB : Hid (∀ W, Below w.heap.size w W → Tab32 W ∧ 2 < W.heap.size) := Lib.hid fun W hb => ⟨hT2.below hTs2 hb, Nat.lt_of_lt_of_le hTs2 hb.size⟩
 clear hT hTs hT2 hTs2
 have HC1 := Lib.hid (canon_meanB l)
 have HC2 := Lib.hid (canon_nrmB l)
 have K1 := Lib.hid fun v W (h : FSl W v l) => Mean_any v l W h
 have K1r := Lib.hid fun v W (h : FSl W v l) => rMean_any v l W h
 have K2 := Lib.hid fun v W (h : FSl W v l) => sNorm_any v l W h
 have K2r := Lib.hid fun v W (h : FSl W v l) => rNorm_any v l W h
 generalize meanB l = m at *
 generalize nrmB l = q at *
 obtain ⟨y1, e1⟩ := m
 obtain ⟨y2, e2⟩ := q
 dsimp only at *
 obtain ⟨ao, cap, rfl, -⟩ := hl
 go_enter Tryz.func3, Tryz.ntmps3
 go_wp2_with fail
 refine (rOf64_any _ l _ HL.out).mono ?_
 rintro z1 w1 ⟨u, rfl, hfl, hb1⟩
 have HF := Lib.hid hfl
 have HB := Lib.hid hb1
 obtain ⟨fa, fc, rfl, -⟩ := hfl
 clear hb1
 go_wp2_with fail
 refine (K1.out _ _ HF.out (HTA.out _ HB.out).1 (HTA.out _ HB.out).2).mono ?_
 rintro z2 w2 ⟨rfl, hb2⟩
 replace HF := Lib.hid (HF.out.below hb2)
 replace HB := Lib.hid (HB.out.trans (hb2.mono HB.out.size))
 clear hb2
 go_wp2_with fail
 refine (K1r.out _ _ HF.out (HTB.out _ HB.out).1 (HTB.out _ HB.out).2).mono ?_
 rintro z3 w3 ⟨rfl, hb3⟩
 replace HF := Lib.hid (HF.out.below hb3)
 replace HB := Lib.hid (HB.out.trans (hb3.mono HB.out.size))
 clear hb3
 go_wp2_with fail
 refine (K2.out _ _ HF.out).mono ?_
 rintro z4 w4 ⟨rfl, hb4⟩
 replace HF := Lib.hid (HF.out.below hb4)
 replace HB := Lib.hid (HB.out.trans (hb4.mono HB.out.size))
 clear hb4
 go_wp2_with fail
 refine (K2r.out _ _ HF.out (HTB.out _ HB.out).1 (HTB.out _ HB.out).2).mono ?_
 rintro z5 w5 ⟨rfl, hb5⟩
 replace HF := Lib.hid (HF.out.below hb5)
 replace HB := Lib.hid (HB.out.trans (hb5.mono HB.out.size))
 clear hb5
 go_wp2_with fail
 refine (told5_yes y1 y1 e1 _ HC1.out.symm).mono ?_
 rintro z6 w6 ⟨rfl, hb6⟩
 replace HF := Lib.hid (HF.out.below hb6)
 replace HB := Lib.hid (HB.out.trans (hb6.mono HB.out.size))
 clear hb6
 go_wp2_with fail
 refine (told5_yes y2 y2 e2 _ HC2.out.symm).mono ?_
 rintro z7 w7 ⟨rfl, hb7⟩
 replace HF := Lib.hid (HF.out.below hb7)
 replace HB := Lib.hid (HB.out.trans (hb7.mono HB.out.size))
 clear hb7
 go_wp2_with fail
 refine (awake5_any _ (HTA.out _ HB.out).1 (HTA.out _ HB.out).2).mono ?_
 rintro z8 w8 ⟨rfl, hb8⟩
 replace HF := Lib.hid (HF.out.below hb8)
 replace HB := Lib.hid (HB.out.trans (hb8.mono HB.out.size))
 clear hb8
 go_wp2
 go_ret
 exact ⟨rfl, HB.out⟩
end Go.Proofs.YthkhignbmefmjaaGreatDoor
