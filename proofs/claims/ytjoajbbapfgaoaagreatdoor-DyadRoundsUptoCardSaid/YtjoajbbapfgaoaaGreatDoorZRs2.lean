/- Walks: Round, Round32, Whole of any dyad by any mode. Printed by wip/gen/whole.py. -/
import Derived.Test.YtjoajbbapfgaoaaGreatDoorZRs1
import Derived.Test.YtjoajbbapfgaoaaGreatDoorZRk3
namespace Go.Proofs.YtjoajbbapfgaoaaGreatDoor
open Go.RowKit

/-- Whether a number is a mode. -/
def modB (mode : Int) : Bool := decide (0 ≤ mode) && decide (mode ≤ 4)
/-- The error of a rounding. -/
def rdE (na : Bool) (n N : Nat) (e mode : Int) : Int := if mayB na n N e = true then (if modB mode = true then 0 else 20) else 30

theorem known_all (mode : Int) (w : World) :
    Calls Tryz.prog 96 #[.int .i64 mode] w fun e w' => e = .returned (.bool (modB mode)) ∧ w = w' := by
  have HR : Hid (modB mode = (decide (0 ≤ mode) && decide (mode ≤ 4))) := Lib.hid rfl
  rw [HR.out]
  clear HR
  by_cases h : 0 ≤ mode
  · have h1 : decide (0 ≤ mode) = true := decide_eq_true h
    rw [h1, Bool.true_and]
    clear h
    generalize h2 : decide (mode ≤ 4) = R
    go_enter Tryz.func96, Tryz.ntmps96
    go_wp2
    go_ret
    exact ⟨rfl, rfl⟩
  · have h1 : decide (0 ≤ mode) = false := decide_eq_false h
    rw [h1, Bool.false_and]
    clear h
    go_enter Tryz.func96, Tryz.ntmps96
    go_wp2
    go_ret
    exact ⟨rfl, rfl⟩


set_option maxRecDepth 100000 in
set_option maxHeartbeats 800000 in
theorem dRound_bad (va : Value) (na : Bool) (n N : Nat) (e mode : Int) (w : World) (ha : DyRaw w va na n N e) (hm : rdE na n N e mode ≠ 0) :
    Calls Tryz.prog 27 #[va, .int .i64 mode] w (Gives (.tuple #[.float .f64 0, .int .i64 (rdE na n N e mode)]) w) := by
  have HA := Lib.hid ha
  obtain ⟨sa, rfl, ⟨aa, ca, rfl, -⟩, -⟩ := ha
  unfold DyV at *
  have HR : Hid (rdE na n N e mode = if mayB na n N e = true then (if modB mode = true then 0 else 20) else 30) := Lib.hid rfl
  have HM := Lib.hid hm
  have HD := Lib.hid fun v W (h : DyRaw W v na n N e) => dMay_any v na n N e W h
  have HK := Lib.hid fun W => known_all mode W
  generalize rdE na n N e mode = R at *
  generalize mayB na n N e = m at *
  generalize modB mode = k at *
  clear hm
  have HW0 := Lib.hid (BlkT.new w #[.bool na, .slice aa n ca, .int .i64 e] 24)
  cases m
  · obtain rfl : R = 30 := HR.out
    clear HR HM HK
    go_enter Tryz.func27, Tryz.ntmps27
    go_wp2_with fail
    refine (HD.out _ _ (HA.out.below (below1 _ _))).mono ?_
    rintro e1 w1 ⟨rfl, hb1⟩
    have HB := Lib.hid ((below1 w _).trans (hb1.mono (below1 w _).size))
    clear hb1 HA HD HW0
    go_wp2
    go_ret2
    exact ⟨rfl, HB.out⟩
  · cases k
    · obtain rfl : R = 20 := HR.out
      clear HR HM
      go_enter Tryz.func27, Tryz.ntmps27
      go_wp2_with fail
      refine (HD.out _ _ (HA.out.below (below1 _ _))).mono ?_
      rintro e1 w1 ⟨rfl, hb1⟩
      have HB := Lib.hid ((below1 w _).trans (hb1.mono (below1 w _).size))
      clear hb1 HA HD HW0
      go_wp2_with fail
      refine (HK.out _).mono ?_
      rintro e2 w2 ⟨rfl, rfl⟩
      go_wp2
      go_ret2
      exact ⟨rfl, HB.out⟩
    · exact absurd HR.out HM.out


set_option maxRecDepth 100000 in
set_option maxHeartbeats 800000 in
theorem dRound32_bad (va : Value) (na : Bool) (n N : Nat) (e mode : Int) (w : World) (ha : DyRaw w va na n N e) (hm : rdE na n N e mode ≠ 0) :
    Calls Tryz.prog 28 #[va, .int .i64 mode] w (Gives (.tuple #[.float .f32 0, .int .i64 (rdE na n N e mode)]) w) := by
  have HA := Lib.hid ha
  obtain ⟨sa, rfl, ⟨aa, ca, rfl, -⟩, -⟩ := ha
  unfold DyV at *
  have HR : Hid (rdE na n N e mode = if mayB na n N e = true then (if modB mode = true then 0 else 20) else 30) := Lib.hid rfl
  have HM := Lib.hid hm
  have HD := Lib.hid fun v W (h : DyRaw W v na n N e) => dMay_any v na n N e W h
  have HK := Lib.hid fun W => known_all mode W
  generalize rdE na n N e mode = R at *
  generalize mayB na n N e = m at *
  generalize modB mode = k at *
  clear hm
  have HW0 := Lib.hid (BlkT.new w #[.bool na, .slice aa n ca, .int .i64 e] 24)
  cases m
  · obtain rfl : R = 30 := HR.out
    clear HR HM HK
    go_enter Tryz.func28, Tryz.ntmps28
    go_wp2_with fail
    refine (HD.out _ _ (HA.out.below (below1 _ _))).mono ?_
    rintro e1 w1 ⟨rfl, hb1⟩
    have HB := Lib.hid ((below1 w _).trans (hb1.mono (below1 w _).size))
    clear hb1 HA HD HW0
    go_wp2
    go_ret2
    exact ⟨rfl, HB.out⟩
  · cases k
    · obtain rfl : R = 20 := HR.out
      clear HR HM
      go_enter Tryz.func28, Tryz.ntmps28
      go_wp2_with fail
      refine (HD.out _ _ (HA.out.below (below1 _ _))).mono ?_
      rintro e1 w1 ⟨rfl, hb1⟩
      have HB := Lib.hid ((below1 w _).trans (hb1.mono (below1 w _).size))
      clear hb1 HA HD HW0
      go_wp2_with fail
      refine (HK.out _).mono ?_
      rintro e2 w2 ⟨rfl, rfl⟩
      go_wp2
      go_ret2
      exact ⟨rfl, HB.out⟩
    · exact absurd HR.out HM.out


set_option maxRecDepth 100000 in
set_option maxHeartbeats 800000 in
theorem dWhole_bad (va : Value) (na : Bool) (n N : Nat) (e mode z f : Int) (w : World) (ha : DyRaw w va na n N e) (hm : rdE na n N e mode ≠ 0) :
    Calls Tryz.prog 29 #[va, .int .i64 mode] w (ResOf (rdE na n N e mode) z f w) := by
  have HA := Lib.hid ha
  obtain ⟨sa, rfl, ⟨aa, ca, rfl, -⟩, -⟩ := ha
  unfold DyV at *
  have HR : Hid (rdE na n N e mode = if mayB na n N e = true then (if modB mode = true then 0 else 20) else 30) := Lib.hid rfl
  have HM := Lib.hid hm
  have HD := Lib.hid fun v W (h : DyRaw W v na n N e) => dMay_any v na n N e W h
  have HK := Lib.hid fun W => known_all mode W
  generalize rdE na n N e mode = R at *
  generalize mayB na n N e = m at *
  generalize modB mode = k at *
  clear hm
  have HW0 : Hid (BlkT ((w.alloc (.cells #[.bool na, .slice aa n ca, .int .i64 e] 24)).alloc (.cells #[.bool false, .slice none 0 0, .int .i64 0] 24)) w.heap.size 24 #[.bool na, .slice aa n ca, .int .i64 e]) := Lib.hid ((BlkT.new w _ _).alloc _)
  have HW1 := Lib.hid (BlkT.new1 w (.cells #[.bool na, .slice aa n ca, .int .i64 e] 24) #[.bool false, .slice none 0 0, .int .i64 0] 24)
  cases m
  · obtain rfl : R = 30 := HR.out
    clear HR HM HK
    go_enter Tryz.func29, Tryz.ntmps29
    go_wp2_with fail
    refine (HD.out _ _ (HA.out.below (below2 _ _ _))).mono ?_
    rintro e1 W7 ⟨rfl, hb1⟩
    have HW7 := Lib.hid (HW1.out.below hb1)
    have HN : Hid (ResOf 30 z f w (.returned (.tuple #[.agg #[.bool false, .slice none 0 0, .int .i64 0], .int .i64 30])) (((W7.setCell ⟨w.heap.size + 1, 0, none⟩ (.bool false)).setCell ⟨w.heap.size + 1, 1, none⟩ (.slice none 0 0)).setCell ⟨w.heap.size + 1, 2, none⟩ (.int .i64 0))) :=
      Lib.hid (res_store1 HW7.out ((below2 _ _ _).trans (hb1.mono (below2 _ _ _).size)) (by omega) (.inr ⟨by decide, rfl, rfl⟩))
    obtain ⟨q0, q1, q2, q3, q4, q5⟩ := HW7.out.cells3
    clear HW7 HW0 HW1 hb1 HA HD
    generalize hP : ResOf 30 z f w = P at *
    clear hP
    go_wp2
    refine bodyPost_ret (v := .tuple #[.agg #[.bool false, .slice none 0 0, .int .i64 0], .int .i64 30]) (by simp [results, Tryz.results29, go_sem, q0, q1, q2]) rfl HN.out
  · cases k
    · obtain rfl : R = 20 := HR.out
      clear HR HM
      go_enter Tryz.func29, Tryz.ntmps29
      go_wp2_with fail
      refine (HD.out _ _ (HA.out.below (below2 _ _ _))).mono ?_
      rintro e1 W7 ⟨rfl, hb1⟩
      have HW7 := Lib.hid (HW1.out.below hb1)
      have HN : Hid (ResOf 20 z f w (.returned (.tuple #[.agg #[.bool false, .slice none 0 0, .int .i64 0], .int .i64 20])) (((W7.setCell ⟨w.heap.size + 1, 0, none⟩ (.bool false)).setCell ⟨w.heap.size + 1, 1, none⟩ (.slice none 0 0)).setCell ⟨w.heap.size + 1, 2, none⟩ (.int .i64 0))) :=
        Lib.hid (res_store1 HW7.out ((below2 _ _ _).trans (hb1.mono (below2 _ _ _).size)) (by omega) (.inr ⟨by decide, rfl, rfl⟩))
      obtain ⟨q0, q1, q2, q3, q4, q5⟩ := HW7.out.cells3
      clear HW7 HW0 HW1 hb1 HA HD
      generalize hP : ResOf 20 z f w = P at *
      clear hP
      go_wp2_with fail
      refine (HK.out _).mono ?_
      rintro e2 w2 ⟨rfl, rfl⟩
      go_wp2
      refine bodyPost_ret (v := .tuple #[.agg #[.bool false, .slice none 0 0, .int .i64 0], .int .i64 20]) (by simp [results, Tryz.results29, go_sem, q0, q1, q2]) rfl HN.out
    · exact absurd HR.out HM.out

end Go.Proofs.YtjoajbbapfgaoaaGreatDoor
