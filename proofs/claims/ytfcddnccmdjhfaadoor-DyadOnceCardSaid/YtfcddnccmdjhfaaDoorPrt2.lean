/- Walks: anatomy's parts of a normal number. Printed by wip/gen/prt.py. -/
import Derived.Test.YtfcddnccmdjhfaaDoorPrt
namespace Go.Proofs.YtfcddnccmdjhfaaDoor
open Go.RowKit

set_option maxRecDepth 100000 in
set_option maxHeartbeats 400000 in
theorem parts_norm (b : Nat) (w : World) (h : b < 18446744073709551616) (hc : clsB b = 5) (hT : Tab64 w) (hTs : 1 < w.heap.size) :
    Calls Tryd.prog 65 #[.int .u64 b, F64] w (Gives (.tuple #[.agg #[.bool (sgnB (canonB b)), .int .u64 ((fracF (canonB b) + kHid) / 2 ^ Lib.ctz 64 (fracF (canonB b) + kHid) : Nat), .int .i64 ((expF (canonB b) : Int) - 1075 + Lib.ctz 64 (fracF (canonB b) + kHid))], .int .i64 0]) w) := by
  have H0 := Lib.hid (Fmt3.new w 99)
  have HS := Lib.hid fun w => split_any b w h
  have HC := Lib.hid fun w => class_any b w h
  rw [hc] at HC
  unfold F64 at HS HC ⊢
  obtain ⟨c0, c1, c2⟩ := H0.out.2
  have hl : expF (canonB b) < 2048 := Nat.mod_lt _ (by decide)
  obtain ⟨he, he2⟩ := (clsOf_cases _ _).2.2.1 hc
  have hf1 : fracF (canonB b) < kHid := Nat.mod_lt _ (by decide)
  have HHid := Lib.hid fun w => hidden_any w
  unfold F64 at HHid
  generalize sgnB (canonB b) = s at *
  generalize expF (canonB b) = e at *
  generalize fracF (canonB b) = f at *
  have hor := or_hid hf1
  have hm0 : f + kHid ≠ 0 := by unfold kHid; omega
  have hm1 : f + kHid < 18446744073709551616 := by unfold kHid at hf1 ⊢; omega
  generalize f + kHid = m at *
  have hct : Lib.ctz 64 m < 64 := (Lib.lowest_bit 64 m hm0 hm1).2
  generalize htq : Lib.ctz 64 m = t at *
  have HTZ : Hid (∀ W : World, Tab64 W → Calls Tryd.prog 83 #[.int .u64 m] W fun e W' => e = .returned (.int .i64 t) ∧ W = W') :=
    Lib.hid fun W hW => by rw [← htq]; exact tz64_any m hm1 hm0 W hW
  obtain ⟨q, hq⟩ : ∃ q : Int, ((m / 2 ^ t : Nat) : Int) = q := ⟨_, rfl⟩
  rw [hq]
  have HQ : Hid ((m : Int) / 2 ^ t = q) := Lib.hid (by rw [← hq, Int.natCast_ediv, Int.natCast_pow]; rfl)
  have HT := Lib.hid hT
  have HTs := Lib.hid hTs
  clear h hc hf1 htq hT hTs hm0 hm1 hq
  go_enter Tryd.func65, Tryd.ntmps65
  go_wp2_with fail
  refine (HS.out _).mono ?_
  rintro e1 w1 ⟨rfl, hb1⟩
  have HB1 := Lib.hid (((Below.alloc_self w _).alloc (by simp) _).trans (hb1.mono (by simp; omega)))
  have HF1 := Lib.hid ((H0.out.below (Below.alloc_self _ _)).below hb1)
  have HR1 : Hid (Blk w1 (w.heap.size + 1) #[.bool false, .int .u64 0, .int .i64 0]) := Lib.hid ((by have := Blk.new (w.alloc (.cells #[.int .u64 52, .int .i64 2047, .int .i64 1075] 99)) #[.bool false, .int .u64 0, .int .i64 0] 75; simpa using this : Blk _ (w.heap.size + 1) _).below hb1)
  obtain ⟨-, d0, d1, d2⟩ := HF1.out
  have hsz := HR1.out.lt
  have hsz0 : w.heap.size < w1.heap.size := by omega
  have e0 := fun o => (World.cell?_alloc_lt w1 o ⟨w.heap.size, 0, none⟩ hsz0).trans d0
  have e1 := fun o => (World.cell?_alloc_lt w1 o ⟨w.heap.size, 1, none⟩ hsz0).trans d1
  have e2 := fun o => (World.cell?_alloc_lt w1 o ⟨w.heap.size, 2, none⟩ hsz0).trans d2
  clear c0 c1 c2 hb1
  go_wp2_with fail
  refine (HC.out _).mono ?_
  rintro e2 w2 ⟨rfl, hb2⟩
  have HB2 := Lib.hid ((HB1.out.alloc HB1.out.size _).trans (hb2.mono (by have := HB1.out.size; simp; omega)))
  have HR2 := Lib.hid ((HR1.out.alloc _).below hb2)
  have HP2 := Lib.hid ((Blk.new w1 _ _).below hb2)
  have HF2 := Lib.hid ((HF1.out.below (Below.alloc_self w1 _)).below hb2)
  obtain ⟨r0, r1, r2, r3, r4, r5⟩ := HR2.out.cells3
  clear hb2 e0 e1 e2 d0 d1 d2
  obtain ⟨p0, p1, p2, p3, p4, p5⟩ := HP2.out.cells3
  have HT2 : Hid (Tab64 w2) := Lib.hid fun j hj => (HB2.out.cell (p := ⟨_, j, none⟩) HTs.out).trans (HT.out j hj)
  obtain ⟨-, d0, d1, d2⟩ := HF2.out
  go_wp2
  refine wp_region_plan (fun w' : World => w'.cell? ⟨w1.heap.size, 1, none⟩ = some (.int .u64 f) ∧ w'.cell? ⟨w.heap.size, 0, none⟩ = some (.int .u64 52) ∧ w'.cell? ⟨w.heap.size, 1, none⟩ = some (.int .i64 2047) ∧ w'.cell? ⟨w.heap.size, 2, none⟩ = some (.int .i64 1075)) 6 [(0, true), (1, true), (2, true), (3, false), (4, true), (5, true)] (by kernel_rfl) (by kernel_rfl) ?_
  have hS : (fun w' : World => w'.cell? ⟨w1.heap.size, 1, none⟩ = some (.int .u64 f) ∧ w'.cell? ⟨w.heap.size, 0, none⟩ = some (.int .u64 52) ∧ w'.cell? ⟨w.heap.size, 1, none⟩ = some (.int .i64 2047) ∧ w'.cell? ⟨w.heap.size, 2, none⟩ = some (.int .i64 1075)) w2.drew := ⟨p1, d0, d1, d2⟩
  repeat (refine wpPlan_take (v := ?_) rfl (fun _ _ _ h => h) rfl (fun w' hSw => ?_) hS ?_; rotate_left; focus (go_simp; with_reducible rfl); try simp only [Act.put, List.setIfInBounds_toArray, List.set_cons_zero, List.set_cons_succ])
  refine wpPlan_run rfl fun K' hK => ?_
  go_simp
  refine (HHid.out w2.drew).mono ?_
  rintro e3 w3 ⟨rfl, hb3⟩
  have HBd : Hid (Below w2.heap.size w2 w3) := Lib.hid (((Below.refl _ _).drew).trans hb3)
  have HB3 := Lib.hid (HB2.out.trans (HBd.out.mono HB2.out.size))
  have HR3 := Lib.hid (HR2.out.below HBd.out)
  have HP3 := Lib.hid (HP2.out.below HBd.out)
  have HF3 := Lib.hid (HF2.out.below HBd.out)
  have HT3 : Hid (Tab64 w3) := Lib.hid fun j hj => (HB3.out.cell (p := ⟨_, j, none⟩) HTs.out).trans (HT.out j hj)
  refine hK _ _ (⟨HP3.out.cell 1, HF3.out.2⟩) ?_
  clear hK K' hS
  clear hb3 p0 p1 p2 p3 p4 p5 d0 d1 d2 r0 r1 r2 r3 r4 r5
  have hS : (fun w' : World => w'.cell? ⟨w1.heap.size, 1, none⟩ = some (.int .u64 f) ∧ w'.cell? ⟨w.heap.size, 0, none⟩ = some (.int .u64 52) ∧ w'.cell? ⟨w.heap.size, 1, none⟩ = some (.int .i64 2047) ∧ w'.cell? ⟨w.heap.size, 2, none⟩ = some (.int .i64 1075)) w3 := ⟨HP3.out.cell 1, HF3.out.2⟩
  try simp only [Act.put, List.setIfInBounds_toArray, List.set_cons_zero, List.set_cons_succ]
  repeat (refine wpPlan_take (v := ?_) rfl (fun _ _ _ h => h) rfl (fun w' hSw => ?_) hS ?_; rotate_left; focus (go_simp; with_reducible rfl); try simp only [Act.put, List.setIfInBounds_toArray, List.set_cons_zero, List.set_cons_succ])
  clear hS
  refine wpPlan_nil ?_
  simp only [List.drop_succ_cons, List.drop_zero]

  clear hor he he2
  generalize kHid = kh at *
  obtain ⟨p0, p1, p2, p3, p4, p5⟩ := HP3.out.cells3
  obtain ⟨r0, r1, r2, r3, r4, r5⟩ := HR3.out.cells3
  have hT3 := tab_set HT3.out (show 1 ≠ w1.heap.size by have := HTs.out; omega) 1 (Value.int .u64 m)
  go_wp2_with fail
  refine (HTZ.out _ hT3).mono ?_
  rintro e4 w4 ⟨rfl, hw4⟩
  have HB4 : Hid (Below w.heap.size w w4) := Lib.hid (hw4 ▸ HB3.out.setCell (by simp; omega) _)
  have HP4 : Hid (Blk w4 w1.heap.size #[.bool s, .int .u64 m, .int .i64 (↑e - 1075)]) := Lib.hid (hw4 ▸ HP3.out.set _)
  have HR4 : Hid (Blk w4 (w.heap.size + 1) #[.bool false, .int .u64 0, .int .i64 0]) := Lib.hid (hw4 ▸ HR3.out.setOther (by omega) _)
  clear hw4 hT3 p0 p1 p2 p3 p4 p5 r0 r1 r2 r3 r4 r5
  obtain ⟨z, hz1, hz2, HZ⟩ : ∃ z : Int, -1075 ≤ z ∧ z ≤ 2000 ∧ Hid ((↑e - 1075 : Int) = z) := ⟨_, by omega, by omega, Lib.hid rfl⟩
  have HP5 := HP4.out
  rw [HZ.out] at HP5
  obtain ⟨p0, p1, p2, p3, p4, p5⟩ := HP5.cells3
  obtain ⟨r0, r1, r2, r3, r4, r5⟩ := HR4.out.cells3
  have hne1 : ¬ w.heap.size + 1 = w1.heap.size := by omega
  have hne2 : ¬ w1.heap.size = w.heap.size + 1 := by omega
  clear HP5 hl
  have hqi := HQ.out
  have h00 : (0:Int) ≤ (t:Int) := by omega
  have h11 : (t:Int) ≤ 64 := by omega
  go_simp
  iterate 19 (first | go_skip | go_guarded | go_step | go_upon | skip)
  simp only [Oper.wp, go_sem]
  simp only [Array.getD_eq_getD_getElem?, List.size_toArray, List.length_cons, List.length_nil, Nat.zero_add, Nat.reduceAdd, Nat.reduceLT, lt_add_one_deep, getElem?_pos, List.getElem_toArray, List.getElem_cons_succ, List.getElem_cons_zero, Option.getD_some, binOp_shr]
  rw [shift_shr .u64 .i64 (m:Int) (t:Int) h00 h11, Int.toNat_natCast, hqi]
  simp only [bind_pure_comp, map_pure, Sem.run_pure, Oper.upon_value, Act.put, List.setIfInBounds_toArray, List.set_cons_succ, List.set_cons_zero]
  iterate 20 (first | go_skip | go_guarded | go_step | go_upon | skip)
  clear h00 h11 hqi
  go_wp2
  refine bodyPost_ret (v := .tuple #[.agg #[.bool s, .int .u64 q, .int .i64 (z + (t : Int))], .int .i64 0]) ?_ rfl ⟨by rw [HZ.out], ?_⟩
  · simp [results, Tryd.results65, go_sem, r0, r1, r2]
  · exact (((((HB4.out.setCell (by simp; omega) _).setCell (by simp; omega) _).setCell (by simp) _).setCell (by simp) _).setCell (by simp) _)

end Go.Proofs.YtfcddnccmdjhfaaDoor
