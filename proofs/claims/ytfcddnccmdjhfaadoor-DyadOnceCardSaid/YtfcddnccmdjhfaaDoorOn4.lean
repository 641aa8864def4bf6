/- Walks: the exact sum of products; lists that hold no number. Turned from On3. -/
import Derived.Test.YtfcddnccmdjhfaaDoorOn3
namespace Go.Proofs.YtfcddnccmdjhfaaDoor
open Go.RowKit

set_option maxRecDepth 100000 in
set_option maxHeartbeats 400000 in
theorem Sum_bad (v : Value) (l : List Nat) (w : World) (hl : FSl w v l) (hf : l.all finB = false) :
    Calls Tryd.prog 15 #[v] w (DyErr 4 w) := by
  have HS := Lib.hid hl
  obtain ⟨ao, cap, rfl, hcap, hn, hx, hc⟩ := hl
  have HF := Lib.hid hf
  clear hc hx hf
  have HW0 := Lib.hid (BlkT.new w #[.bool false, .slice none 0 0, .int .i64 0] 25)
  go_enter Tryd.func15, Tryd.ntmps15
  go_wp2_with fail
  refine (Finite_any _ l _ (HS.out.below (below1 w _))).mono ?_
  rintro e1 w1 ⟨rfl, hb1⟩
  rw [HF.out]
  have HB1 := Lib.hid ((below1 w _).trans (hb1.mono (below1 w _).size))
  have HW1 := Lib.hid (HW0.out.below hb1)
  clear hb1
  obtain ⟨q0, q1, q2, q3, q4, q5⟩ := HW1.out.cells3
  go_wp2
  refine bodyPost_ret (v := .tuple #[DyV false (.slice none 0 0) 0, .int .i64 4]) (by simp [results, Tryd.results15, go_sem, DyV, q0, q1, q2]) rfl ⟨rfl, ?_⟩
  exact ((HB1.out.setCell (Nat.le_refl _) _).setCell (Nat.le_refl _) _).setCell (Nat.le_refl _) _

set_option maxRecDepth 100000 in
set_option maxHeartbeats 400000 in
theorem Dot_bad0 (va vb : Value) (l m : List Nat) (w : World) (hl : FSl w va l) (hm : FSl w vb m) (hlm : l.length = m.length) (hf : l.all finB = false) :
    Calls Tryd.prog 16 #[va, vb] w (DyErr 4 w) := by
  have HS := Lib.hid hl
  have HS2 := Lib.hid hm
  obtain ⟨ao, cap, rfl, hcap, hn, hx, hc⟩ := hl
  obtain ⟨ao2, cap2, rfl, hcap2, hn2, hx2, hc2⟩ := hm
  have HF := Lib.hid hf
  clear hc hx hc2 hx2 hf
  rw [← hlm] at HS2 hcap2 ⊢
  clear hn hn2
  have hne : ((l.length : Int) != (l.length : Int)) = false := by simp
  generalize l.length = n at *
  clear hlm
  have HW0 := Lib.hid (BlkT.new w #[.bool false, .slice none 0 0, .int .i64 0] 25)
  go_enter Tryd.func16, Tryd.ntmps16
  go_wp2_with fail
  refine (Finite_any _ l _ (HS.out.below (below1 w _))).mono ?_
  rintro e1 w1 ⟨rfl, hb1⟩
  rw [HF.out]
  have HB1 := Lib.hid ((below1 w _).trans (hb1.mono (below1 w _).size))
  have HW1 := Lib.hid (HW0.out.below hb1)
  clear hb1
  obtain ⟨q0, q1, q2, q3, q4, q5⟩ := HW1.out.cells3
  go_wp2
  refine bodyPost_ret (v := .tuple #[DyV false (.slice none 0 0) 0, .int .i64 4]) (by simp [results, Tryd.results16, go_sem, DyV, q0, q1, q2]) rfl ⟨rfl, ?_⟩
  exact ((HB1.out.setCell (Nat.le_refl _) _).setCell (Nat.le_refl _) _).setCell (Nat.le_refl _) _

set_option maxRecDepth 100000 in
set_option maxHeartbeats 400000 in
theorem Dot_bad1 (va vb : Value) (l m : List Nat) (w : World) (hl : FSl w va l) (hm : FSl w vb m) (hlm : l.length = m.length) (hf : l.all finB = true) (hf2 : m.all finB = false) :
    Calls Tryd.prog 16 #[va, vb] w (DyErr 4 w) := by
  have HS := Lib.hid hl
  have HS2 := Lib.hid hm
  obtain ⟨ao, cap, rfl, hcap, hn, hx, hc⟩ := hl
  obtain ⟨ao2, cap2, rfl, hcap2, hn2, hx2, hc2⟩ := hm
  have HF := Lib.hid hf
  have HF2 := Lib.hid hf2
  clear hc hx hc2 hx2 hf hf2
  rw [← hlm] at HS2 hcap2 ⊢
  clear hn hn2
  have hne : ((l.length : Int) != (l.length : Int)) = false := by simp
  generalize l.length = n at *
  clear hlm
  have HW0 := Lib.hid (BlkT.new w #[.bool false, .slice none 0 0, .int .i64 0] 25)
  go_enter Tryd.func16, Tryd.ntmps16
  go_wp2_with fail
  refine (Finite_any _ l _ (HS.out.below (below1 w _))).mono ?_
  rintro e1 w1 ⟨rfl, hb1⟩
  rw [HF.out]
  have HB1 := Lib.hid ((below1 w _).trans (hb1.mono (below1 w _).size))
  have HW1 := Lib.hid (HW0.out.below hb1)
  clear hb1
  go_wp2_with fail
  refine (Finite_any _ m _ (HS2.out.below HB1.out)).mono ?_
  rintro e2 w2 ⟨rfl, hb2⟩
  rw [HF2.out]
  have HB1' := Lib.hid (HB1.out.trans (hb2.mono HB1.out.size))
  have HW1' := Lib.hid (HW1.out.below hb2)
  clear hb2 HB1 HW1
  have HB1 := HB1'
  have HW1 := HW1'
  clear HB1' HW1'
  obtain ⟨q0, q1, q2, q3, q4, q5⟩ := HW1.out.cells3
  go_wp2
  refine bodyPost_ret (v := .tuple #[DyV false (.slice none 0 0) 0, .int .i64 4]) (by simp [results, Tryd.results16, go_sem, DyV, q0, q1, q2]) rfl ⟨rfl, ?_⟩
  exact ((HB1.out.setCell (Nat.le_refl _) _).setCell (Nat.le_refl _) _).setCell (Nat.le_refl _) _

end Go.Proofs.YtfcddnccmdjhfaaDoor
