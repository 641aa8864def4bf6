/- Walks: the references' Abs, Power. -/
import Derived.Test.YtjokekmbnffpfaaGreatDoorGR
namespace Go.Proofs.YtjokekmbnffpfaaGreatDoor
open Go.RowKit

set_option maxRecDepth 100000 in
set_option maxHeartbeats 600000 in
theorem rAbsX_any (b : Nat) (z e : Int) (w : World) (hx : RInt w b z) : Calls Tryz.prog 36 #[ExV b e] w (RxNew (z.natAbs : Int) e w) := by
  have HX := Lib.hid hx
  clear hx
  unfold ExV
  go_enter Tryz.func36, Tryz.ntmps36
  go_wp2
  refine wp_region_pl (fun w' : World => w'.cell? ⟨w.heap.size, 0, none⟩ = some (.pointer (some ⟨b, 0, none⟩)) ∧ w'.cell? ⟨w.heap.size, 1, none⟩ = some (.int .i64 e)) 6 (.take 1 (.take 2 (.take 4 (.take 5 (.run 0 (.run 3 .nil)))))) (by kernel_rfl) (by kernel_rfl) ?_
  have HW := Lib.hid (XB1.start 27 w b e)
  obtain ⟨W0, hW0⟩ : ∃ v, ((w.alloc (.cells #[.pointer (some ⟨b, 0, none⟩), .int .i64 e] 27)).alloc (.cells #[.pointer none, .int .i64 0] 27)).drew = v := ⟨_, rfl⟩
  rw [hW0] at HW ⊢
  clear hW0
  have hS : (fun w' : World => w'.cell? ⟨w.heap.size, 0, none⟩ = some (.pointer (some ⟨b, 0, none⟩)) ∧ w'.cell? ⟨w.heap.size, 1, none⟩ = some (.int .i64 e)) W0 := HW.out.cells
  repeat (refine wpPl_takeL (v := ?_) rfl rfl (fun _ _ _ h => h) rfl (fun w' hSw => ?_) hS ?_; rotate_left; (focus (go_simp; with_reducible rfl)); simp only [List.setIfInBounds_toArray, List.set_cons_zero, List.set_cons_succ])
  clear hS
  refine wpPl_goL rfl rfl fun K' hK => ?_
  go_simp
  have hb1 := Below.alloc_self W0 (.cells #[.bool false, .slice none 0 0] 71)
  have HZ := Lib.hid (IntK.zero (k := .u32) (s := 32) W0 _ objT_rint)
  have iblt := HW.out.lt
  obtain ⟨ib, hib⟩ : ∃ i, W0.heap.size = i := ⟨_, rfl⟩
  obtain ⟨V1, hV1⟩ : ∃ v, W0.alloc (.cells #[.bool false, .slice none 0 0] 71) = v := ⟨_, rfl⟩
  rw [hV1] at hb1 HZ
  rw [hib] at HZ iblt
  rw [hV1]
  try rw [hib]
  clear hV1 hib
  replace HW := Lib.hid (HW.out.later hb1)
  refine hK _ _ HW.out.cells ?_
  clear hK K' hb1
  refine wpPl_goL rfl rfl fun K' hK => ?_
  go_simp
  refine (rAbs_any ib 0 b 0 z _ HZ.out.1 (HX.out.below HW.out.2.2)).mono ?_
  rintro e1 V2 ⟨rfl, hi1, hm1⟩
  have HI := Lib.hid hi1
  clear hi1
  replace HW := Lib.hid (HW.out.mod hm1 (by omega))
  refine hK _ _ HW.out.cells ?_
  clear hK K' hm1
  refine wpPl_nil ?_
  simp only [List.drop_succ_cons, List.drop_zero]
  obtain ⟨r0, r1, r2, r3⟩ := HW.out.2.1.cells2
  have HF := Lib.hid (rstore2 HI.out HW.out.2.1 objT_rexact HW.out.2.2 (by omega) (by omega))
  have hib0 : w.heap.size ≤ ib := by omega
  clear HZ HI
  generalize (z.natAbs : Int) = R at *
  go_wp2
  refine bodyPost_ret (v := ExV ib e) (by simp [results, Tryz.results36, go_sem, ExV, r0, r1]) rfl ⟨ib, rfl, hib0, (HF.out _ _).1, (HF.out _ _).2⟩

end Go.Proofs.YtjokekmbnffpfaaGreatDoor
