/- Walks: the references' Abs, Power. -/
import Derived.Test.YthkhignbmefmjaaGreatDoorGR
namespace Go.Proofs.YthkhignbmefmjaaGreatDoor
open Go.RowKit
set_option maxRecDepth 100000 in
set_option maxHeartbeats 600000 in
theorem rPower_any (e : Int) (w : World) : Calls Tryz.prog 28 #[.int .i64 e] w (RxNew 1 e w) := by
 have HW0 := Lib.hid (BlkT.new w #[.pointer none, .int .i64 0] 48)
 go_enter Tryz.func28, Tryz.ntmps28
 go_wp2_with fail
 refine (rNewInt_any 1 _ (by omega) (by omega)).mono ?_
 rintro e1 w1 ⟨ib, rfl, hib, hi, hb⟩
 have HB := Lib.hid ((below1 w _).trans (hb.mono (below1 w _).size))
 have HW1 := Lib.hid (HW0.out.below hb)
 have HI := Lib.hid hi
 have HLT : Hid (w.heap.size < ib) := Lib.hid (by simp at hib; omega)
 obtain ⟨r0, r1, r2, r3⟩ := HW1.out.cells2
 have HF := Lib.hid (rstore2 HI.out HW1.out objT_rexact HB.out (by have := HLT.out; omega) (Nat.le_refl _))
 clear hib hi hb HW0
 go_wp2
 refine bodyPost_ret (v := ExV ib e) (by simp [results, Tryz.results28, go_sem, ExV, r0, r1]) rfl ⟨ib, rfl, Nat.le_of_lt HLT.out, (HF.out _ _).1, (HF.out _ _).2⟩
end Go.Proofs.YthkhignbmefmjaaGreatDoor
