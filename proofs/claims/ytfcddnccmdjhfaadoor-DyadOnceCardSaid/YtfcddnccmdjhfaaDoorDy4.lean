/- Walks: products and differences of exact numbers. Printed by wip/gen/dy4.py. -/
import Derived.Test.YtfcddnccmdjhfaaDoorDy3
namespace Go.Proofs.YtfcddnccmdjhfaaDoor
open Go.RowKit

set_option maxRecDepth 100000 in
set_option maxHeartbeats 800000 in
theorem dytimes_any (b c : Nat) (z e y f : Int) (w : World) (hx : IntAt w b 0 z) (hy : IntAt w c 0 y)
    (hl : bl z.natAbs ≤ 34359738368) (hl2 : bl y.natAbs ≤ 34359738368) (he1 : -8589934592 ≤ e) (he2 : e ≤ 8589934592) (hf1 : -8589934592 ≤ f) (hf2 : f ≤ 8589934592) :
    Calls Tryd.prog 25 #[ExV b e, ExV c f] w (ExNew (z * y) (e + f) w) := by
  have HX := Lib.hid hx
  have HY := Lib.hid hy
  have HL := Lib.hid hl
  have HL2 := Lib.hid hl2
  clear hx hy hl hl2
  unfold ExV
  go_enter Tryd.func25, Tryd.ntmps25
  go_wp2
  refine wp_region_pl (fun w' : World => (w'.cell? ⟨w.heap.size, 0, none⟩ = some (.pointer (some ⟨b, 0, none⟩)) ∧ w'.cell? ⟨w.heap.size, 1, none⟩ = some (.int .i64 e)) ∧ w'.cell? ⟨w.heap.size + 1, 0, none⟩ = some (.pointer (some ⟨c, 0, none⟩)) ∧ w'.cell? ⟨w.heap.size + 1, 1, none⟩ = some (.int .i64 f)) 12 (.take 1 (.take 2 (.take 3 (.take 4 (.take 6 (.take 7 (.take 8 (.take 9 (.take 10 (.run 0 (.run 5 (.take 11 .nil)))))))))))) (by kernel_rfl) (by kernel_rfl) ?_
  generalize hW : (((w.alloc (.cells #[.pointer (some ⟨b, 0, none⟩), .int .i64 e] 51)).alloc (.cells #[.pointer (some ⟨c, 0, none⟩), .int .i64 f] 51)).alloc (.cells #[.pointer none, .int .i64 0] 51)).drew = W0
  have HW : Hid (Box2 w.heap.size w W0 b c e f) := by subst hW; exact Lib.hid (Box2.start w b c e f)
  have hS : (fun w' : World => (w'.cell? ⟨w.heap.size, 0, none⟩ = some (.pointer (some ⟨b, 0, none⟩)) ∧ w'.cell? ⟨w.heap.size, 1, none⟩ = some (.int .i64 e)) ∧ w'.cell? ⟨w.heap.size + 1, 0, none⟩ = some (.pointer (some ⟨c, 0, none⟩)) ∧ w'.cell? ⟨w.heap.size + 1, 1, none⟩ = some (.int .i64 f)) W0 := HW.out.cells.2
  clear hW
  repeat (refine wpPl_take (v := ?_) rfl (fun _ _ _ h => h) rfl (fun w' hSw => ?_) hS ?_; rotate_left; focus (go_simp; with_reducible rfl); try simp only [Act.put, List.setIfInBounds_toArray, List.set_cons_zero, List.set_cons_succ])
  clear hS
  refine wpPl_run rfl fun K' hK => ?_
  go_simp
  have HV := Lib.hid (HW.out.later (Below.alloc_self W0 (.cells #[.bool false, .slice none 0 0] 60)))
  refine hK _ _ HV.out.cells.2 ?_
  clear hK K'
  have HZ := Lib.hid (IntK.zero (k := .u64) (s := 64) W0 _ objT_int)
  have HI := Lib.hid (HW.out.2.2.1.lt)
  have HI0 := Lib.hid (HW.out.2.2.2.size)
  clear HW
  generalize hWn : W0.alloc (.cells #[.bool false, .slice none 0 0] 60) = W1 at *
  generalize W0.heap.size = ib at *
  clear hWn
  refine wpPl_run rfl fun K' hK => ?_
  go_simp
  refine (Mul_any ib 0 _ 0 _ 0 z y _ HZ.out.1 (HX.out.below HV.out.2.2.2) (HY.out.below HV.out.2.2.2) (ln_of_bl (Nat.le_trans HL.out (by omega))) (ln_of_bl (Nat.le_trans HL2.out (by omega)))).mono ?_
  rintro e1 wf ⟨rfl, hi3, hm3⟩
  have HO : Hid (Own2 w wf (w.heap.size + 1 + 1) 51 #[.pointer none, .int .i64 0] ib (z * y)) := by
    have h4 := HV.out.mod hm3 HI.out HI0.out
    exact Lib.hid ⟨hi3, h4.2.2.1, objT_exact, h4.2.2.2, by have := HI.out; omega, by omega, HI0.out⟩
  have HC3 := (HV.out.mod hm3 HI.out HI0.out).cells.2
  have hS : (fun w' : World => (w'.cell? ⟨w.heap.size, 0, none⟩ = some (.pointer (some ⟨b, 0, none⟩)) ∧ w'.cell? ⟨w.heap.size, 1, none⟩ = some (.int .i64 e)) ∧ w'.cell? ⟨w.heap.size + 1, 0, none⟩ = some (.pointer (some ⟨c, 0, none⟩)) ∧ w'.cell? ⟨w.heap.size + 1, 1, none⟩ = some (.int .i64 f)) wf := HC3
  refine hK _ _ HC3 ?_
  clear hK K' hi3 hm3 HC3
  repeat (refine wpPl_take (v := ?_) rfl (fun _ _ _ h => h) rfl (fun w' hSw => ?_) hS ?_; rotate_left; focus (go_simp; with_reducible rfl); try simp only [Act.put, List.setIfInBounds_toArray, List.set_cons_zero, List.set_cons_succ])
  clear hS
  refine wpPl_nil ?_
  simp only [List.drop_succ_cons, List.drop_zero]
  obtain ⟨r0, r1, r2, r3⟩ := HO.out.res.cells2
  generalize z * y = R at *
  clear HV HZ
  go_wp2
  refine bodyPost_ret (v := ExV ib (e + f)) (by simp [results, Tryd.results25, go_sem, ExV, r0, r1]) rfl ⟨ib, rfl, HI0.out, (HO.out.store2 _ _).1, (HO.out.store2 _ _).2⟩

set_option maxRecDepth 100000 in
set_option maxHeartbeats 800000 in
theorem dyless_any (b c : Nat) (z e y f : Int) (w : World) (hx : IntAt w b 0 z) (hy : IntAt w c 0 y)
    (hl : bl z.natAbs ≤ 34359738368) (hl2 : bl y.natAbs ≤ 34359738368) (he1 : -8589934592 ≤ e) (he2 : e ≤ 8589934592) (hf1 : -8589934592 ≤ f) (hf2 : f ≤ 8589934592) :
    Calls Tryd.prog 26 #[ExV b e, ExV c f] w (ExAny (plZ z e (-y) f) (plE z e (-y) f) w) := by
  have HX := Lib.hid hx
  have HY := Lib.hid hy
  have HL := Lib.hid hl
  have HL2 := Lib.hid hl2
  clear hx hy hl hl2
  unfold ExV
  go_enter Tryd.func26, Tryd.ntmps26
  go_wp2
  refine wp_region_pl (fun w' : World => (w'.cell? ⟨w.heap.size, 0, none⟩ = some (.pointer (some ⟨b, 0, none⟩)) ∧ w'.cell? ⟨w.heap.size, 1, none⟩ = some (.int .i64 e)) ∧ w'.cell? ⟨w.heap.size + 1, 0, none⟩ = some (.pointer (some ⟨c, 0, none⟩)) ∧ w'.cell? ⟨w.heap.size + 1, 1, none⟩ = some (.int .i64 f)) 9 (.take 0 (.take 2 (.take 3 (.take 5 (.take 6 (.run 1 (.run 4 (.take 7 (.run 8 .nil))))))))) (by kernel_rfl) (by kernel_rfl) ?_
  generalize hW : (((w.alloc (.cells #[.pointer (some ⟨b, 0, none⟩), .int .i64 e] 51)).alloc (.cells #[.pointer (some ⟨c, 0, none⟩), .int .i64 f] 51)).alloc (.cells #[.pointer none, .int .i64 0] 51)).drew = W0
  have HW : Hid (Box2 w.heap.size w W0 b c e f) := by subst hW; exact Lib.hid (Box2.start w b c e f)
  have hS : (fun w' : World => (w'.cell? ⟨w.heap.size, 0, none⟩ = some (.pointer (some ⟨b, 0, none⟩)) ∧ w'.cell? ⟨w.heap.size, 1, none⟩ = some (.int .i64 e)) ∧ w'.cell? ⟨w.heap.size + 1, 0, none⟩ = some (.pointer (some ⟨c, 0, none⟩)) ∧ w'.cell? ⟨w.heap.size + 1, 1, none⟩ = some (.int .i64 f)) W0 := HW.out.cells.2
  clear hW
  repeat (refine wpPl_take (v := ?_) rfl (fun _ _ _ h => h) rfl (fun w' hSw => ?_) hS ?_; rotate_left; focus (go_simp; with_reducible rfl); try simp only [Act.put, List.setIfInBounds_toArray, List.set_cons_zero, List.set_cons_succ])
  clear hS
  refine wpPl_run rfl fun K' hK => ?_
  go_simp
  have HV := Lib.hid (HW.out.later (Below.alloc_self W0 (.cells #[.bool false, .slice none 0 0] 60)))
  refine hK _ _ HV.out.cells.2 ?_
  clear hK K'
  have HZ := Lib.hid (IntK.zero (k := .u64) (s := 64) W0 _ objT_int)
  have HI := Lib.hid (HW.out.2.2.1.lt)
  have HI0 := Lib.hid (HW.out.2.2.2.size)
  clear HW
  generalize hWn : W0.alloc (.cells #[.bool false, .slice none 0 0] 60) = W1 at *
  generalize W0.heap.size = ib at *
  clear hWn
  refine wpPl_run rfl fun K' hK => ?_
  go_simp
  refine (Neg_any ib 0 _ 0 y _ HZ.out.1 (HY.out.below HV.out.2.2.2) (ln_of_bl (Nat.le_trans HL2.out (by omega)))).mono ?_
  rintro e1 wg ⟨rfl, hi3, hm3⟩
  have HW2 := Lib.hid (HV.out.mod hm3 HI.out HI0.out)
  have HN := Lib.hid hi3
  have HC3 := HW2.out.cells.2
  have hS : (fun w' : World => (w'.cell? ⟨w.heap.size, 0, none⟩ = some (.pointer (some ⟨b, 0, none⟩)) ∧ w'.cell? ⟨w.heap.size, 1, none⟩ = some (.int .i64 e)) ∧ w'.cell? ⟨w.heap.size + 1, 0, none⟩ = some (.pointer (some ⟨c, 0, none⟩)) ∧ w'.cell? ⟨w.heap.size + 1, 1, none⟩ = some (.int .i64 f)) wg := HC3
  refine hK _ _ HC3 ?_
  clear hK K' hi3 hm3 HC3
  repeat (refine wpPl_take (v := ?_) rfl (fun _ _ _ h => h) rfl (fun w' hSw => ?_) hS ?_; rotate_left; focus (go_simp; with_reducible rfl); try simp only [Act.put, List.setIfInBounds_toArray, List.set_cons_zero, List.set_cons_succ])
  clear hS
  refine wpPl_run rfl fun K' hK => ?_
  go_simp
  refine (dyplus_any b ib z e (-y) f _ (HX.out.below HW2.out.2.2.2) HN.out HL.out (by rw [Int.natAbs_neg]; exact HL2.out) he1 he2 hf1 hf2).mono ?_
  rintro e1 wf ⟨d, rfl, hi4, hb4⟩
  have HW3 := Lib.hid (HW2.out.later hb4)
  have HD := Lib.hid hi4
  refine hK _ _ HW3.out.cells.2 ?_
  clear hK K' hi4 hb4
  refine wpPl_nil ?_
  simp only [List.drop_succ_cons, List.drop_zero]
  obtain ⟨r0, r1, r2, r3⟩ := HW3.out.2.2.1.cells2
  generalize plZ z e (-y) f = R at *
  generalize plE z e (-y) f = R2 at *
  have hne : w.heap.size + 1 + 1 ≠ d := ?_
  · clear HV HZ
    unfold ExV
    go_wp2
    refine bodyPost_ret (v := ExV d R2) (by simp [results, Tryd.results26, go_sem, ExV, r0, r1]) rfl ⟨d, rfl, ?_, ?_⟩
    · exact (HD.out.setOther HW3.out.2.2.1 objT_exact hne.symm _).setOther (HW3.out.2.2.1.set _) objT_exact hne.symm _
    · exact (HW3.out.2.2.2.setCell (show w.heap.size ≤ w.heap.size + 1 + 1 by omega) _).setCell (show w.heap.size ≤ w.heap.size + 1 + 1 by omega) _
  · intro h
    subst h
    have h1 := HD.out.2.1.symm.trans r0
    simp at h1

end Go.Proofs.YtfcddnccmdjhfaaDoor
