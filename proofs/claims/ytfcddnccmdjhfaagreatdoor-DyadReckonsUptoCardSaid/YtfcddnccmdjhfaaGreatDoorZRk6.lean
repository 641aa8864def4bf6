/- Walk: DyadReckons. Printed by wip/gen/reck.py. -/
import Derived.Test.YtfcddnccmdjhfaaGreatDoorZRk5
import Derived.Deep.DeepCutAuto
namespace Go.Proofs.YtfcddnccmdjhfaaGreatDoor
open Go.RowKit

set_option maxRecDepth 100000 in
set_option maxHeartbeats 8000000 in
theorem reckons_any (va vb : Value) (na nb : Bool) (n m Na Nb : Nat) (e f k : Int) (w : World) (ha : DyIn w va na n Na e) (hb : DyIn w vb nb m Nb f) (hk1 : -9223372036854775808 ≤ k) (hk2 : k ≤ 9223372036854775807)
    (hT : Tab64 w) (hTs : 1 < w.heap.size) (hT2 : Tab32 w) (hTs2 : 2 < w.heap.size) :
    Calls Tryz.prog 7 #[va, vb, .int .i64 k] w (Gives (.bool true) w) := by
  have HT := Lib.hid (And.intro hT (And.intro hTs (And.intro hT2 hTs2)))
  have HRA := Lib.hid ha
  have HRB := Lib.hid hb
  have HK := Lib.hid (And.intro hk1 hk2)
  clear hT hTs hT2 hTs2 hk1 hk2
  obtain ⟨sa, rfl, hra, hna⟩ := ha
  obtain ⟨sb, rfl, hrb, hnb⟩ := hb
  have HA := Lib.hid (And.intro hra hna)
  have HB := Lib.hid (And.intro hrb hnb)
  obtain ⟨aa, ca, rfl, -⟩ := hra
  obtain ⟨ab, cb, rfl, -⟩ := hrb
  clear hna hnb
  obtain ⟨x, hx⟩ : ∃ x, mayB na n Na e = x := ⟨_, rfl⟩
  obtain ⟨y, hy⟩ : ∃ y, mayB nb m Nb f = y := ⟨_, rfl⟩
  have HXY := Lib.hid (And.intro hx hy)
  clear hx hy
  unfold DyV at *
  have HW0 := Lib.hid (Box2d.start w na nb (.slice aa n ca) (.slice ab m cb) e f)
  go_enter Tryz.func7, Tryz.ntmps7
  go_wp2_with fail
  refine wp_region_pl (fun w' : World => ((((w'.cell? ⟨w.heap.size, 0, none⟩ = some (.bool na) ∧ w'.cell? ⟨w.heap.size, 1, none⟩ = some (.slice aa n ca)) ∧ w'.cell? ⟨w.heap.size, 2, none⟩ = some (.int .i64 e)) ∧ w'.cell? ⟨w.heap.size + 1, 0, none⟩ = some (.bool nb)) ∧ w'.cell? ⟨w.heap.size + 1, 1, none⟩ = some (.slice ab m cb)) ∧ w'.cell? ⟨w.heap.size + 1, 2, none⟩ = some (.int .i64 f)) 3 (.take 0 (.take 2 (.run 1 .nil))) (by kernel_rfl) (by kernel_rfl) ?_
  have HW := Lib.hid (HW0.out.later (drew_below _))
  generalize World.drew _ = W0 at HW ⊢
  clear HW0
  have hS : (fun w' : World => ((((w'.cell? ⟨w.heap.size, 0, none⟩ = some (.bool na) ∧ w'.cell? ⟨w.heap.size, 1, none⟩ = some (.slice aa n ca)) ∧ w'.cell? ⟨w.heap.size, 2, none⟩ = some (.int .i64 e)) ∧ w'.cell? ⟨w.heap.size + 1, 0, none⟩ = some (.bool nb)) ∧ w'.cell? ⟨w.heap.size + 1, 1, none⟩ = some (.slice ab m cb)) ∧ w'.cell? ⟨w.heap.size + 1, 2, none⟩ = some (.int .i64 f)) W0 := HW.out.cells
  repeat (refine wpPl_takeL (v := ?_) rfl rfl (fun _ _ _ h => h) rfl (fun w' hSw => ?_) hS ?_; rotate_left; (focus (go_simp; with_reducible rfl)); simp only [List.setIfInBounds_toArray, List.set_cons_zero, List.set_cons_succ])
  clear hS
  refine wpPl_goL rfl rfl fun K' hK => ?_
  go_simp
  refine (rMay_in _ na n Na e _ (HRA.out.below HW.out.2.2)).mono ?_
  rintro e1 V1 ⟨rfl, hb1⟩
  rw [HXY.out.1]
  replace HW := Lib.hid (HW.out.later hb1)
  refine hK _ _ HW.out.cells ?_
  clear hK K' hb1
  refine wpPl_nil ?_
  simp only [List.drop_succ_cons, List.drop_zero]
  go_wp2_with fail
  refine (rMay_in _ nb m Nb f _ (HRB.out.below HW.out.2.2)).mono ?_
  rintro e1 W2 ⟨rfl, hb1⟩
  rw [HXY.out.2]
  replace HW := Lib.hid (HW.out.later hb1)
  clear hb1
  go_upto_if 31 with fail
  go_cut [9] from 30 to 31 (fun s9 wx => s9 = .int .i64 (if x then 0 else 30) ∧ wx = W2)
  case first =>
    cases x <;> (go_wp2_with fail; go_meet; exact ⟨rfl, rfl⟩)
  case rest =>
  obtain ⟨rfl, rfl⟩ := hcut
  go_upto_region 5 with fail
  go_cut [37] from 32 to 36 (fun s37 wx => s37 = .bool (!x || !y) ∧ wx = wc)
  case first =>
    cases x <;> cases y <;> (go_wp2_with fail; go_meet; exact ⟨rfl, rfl⟩)
  case rest =>
  obtain ⟨rfl, rfl⟩ := hcut
  go_upto_if 37 with fail
  go_cut [10] from 32 to 37 (fun s10 wx => s10 = .int .i64 (if x && y then 0 else 30) ∧ wx = wc)
  case first =>
    cases x <;> cases y <;> (go_wp2_with fail; go_meet; exact ⟨rfl, rfl⟩)
  case rest =>
  obtain ⟨rfl, rfl⟩ := hcut
  obtain ⟨one, hone⟩ : ∃ o : Int, (if x then 0 else 30) = o := ⟨_, rfl⟩
  obtain ⟨two, htwo⟩ : ∃ o : Int, (if x && y then 0 else 30) = o := ⟨_, rfl⟩
  rw [hone, htwo]
  have HE12 := Lib.hid (And.intro hone htwo)
  clear hone htwo
  go_wp2_with fail
  refine (rZero_any _).mono ?_
  rintro e5 w5 ⟨q1, rfl, hq1, hi1, hb5⟩
  replace HW := Lib.hid (HW.out.later hb5)
  go_wp2_with fail
  refine (rZero_any _).mono ?_
  rintro e6 w6 ⟨q2, rfl, hq2, hi2, hb6⟩
  replace HW := Lib.hid (HW.out.later hb6)
  have HPQ := Lib.hid (PQ.start (hi1.below hb6) hi2)
  have HLT : Hid (w.heap.size + 1 < w6.heap.size) := Lib.hid HW.out.2.1.lt
  replace HW := Lib.hid (HW.out.later (below2 w6 (.cells #[.pointer (some ⟨q1, 0, none⟩), .int .i64 0] 35) (.cells #[.pointer (some ⟨q2, 0, none⟩), .int .i64 0] 35)))
  clear hq1 hi1 hb5 hq2 hi2 hb6
  unfold ExV
  go_upto_if 40 with fail
  generalize (w6.alloc (.cells #[.pointer (some ⟨q1, 0, none⟩), .int .i64 0] 35)).alloc (.cells #[.pointer (some ⟨q2, 0, none⟩), .int .i64 0] 35) = W6 at HPQ HW ⊢
  obtain ⟨b11, hb11⟩ : ∃ b, w6.heap.size = b := ⟨_, rfl⟩
  obtain ⟨b12, hb12⟩ : ∃ b, b11 + 1 = b := ⟨_, rfl⟩
  have hbc : b11 ≠ b12 := by omega
  rw [hb11, hb12] at HPQ
  rw [hb11] at HLT
  have HLT2 : Hid (w.heap.size + 1 < b12) := Lib.hid (by have := HLT.out; omega)
  rw [hb11]
  rw [hb12]
  clear hb11 hb12
  go_cut [] from 41 to 42 (fun wx => ∃ q, Hid (PQ wx b11 b12 q q2 (if x then e else 0) 0 (if x then sgZ na Na else 0) 0) ∧ Hid (Box2d w wx na nb (.slice aa n ca) (.slice ab m cb) e f))
  case first =>
    cases x
    · go_wp2_with fail
      go_meet
      exact ⟨q1, HPQ, HW⟩
    · obtain ⟨⟨⟨⟨⟨x0, x1⟩, x2⟩, x3⟩, x4⟩, x5⟩ := HW.out.cells
      go_wp2_with fail
      refine (rIn_in na e _ n Na _ (HA.out.1.below HW.out.2.2) HA.out.2).mono ?_
      rintro e7 w7 ⟨p, rfl, -, hi, hb⟩
      replace HPQ := Lib.hid (HPQ.out.below hb)
      replace HW := Lib.hid (HW.out.later hb)
      have HF := Lib.hid (And.intro (HPQ.out.put1 (e := e) hbc hi) (HW.out.st2 HLT.out (.pointer (some ⟨p, 0, none⟩)) (.int .i64 e)))
      obtain ⟨t0, t1, t2, t3⟩ := HPQ.out.1.1.cells2
      clear x0 x1 x2 x3 x4 x5 hi hb HPQ HW
      unfold ExV
      go_wp2_with fail
      go_meet
      exact ⟨p, Lib.hid HF.out.1, Lib.hid HF.out.2⟩
  case rest =>
  obtain ⟨q3, HPQ, HW⟩ := hcut
  have HV1 : Hid ((x = true → (if x then sgZ na Na else 0) = sgZ na Na ∧ (if x then e else 0) = e) ∧ bl (if x then sgZ na Na else 0).natAbs ≤ 65536 ∧ -100000 ≤ (if x then e else 0) ∧ (if x then e else 0) ≤ 100000) := by
    refine Lib.hid ⟨fun h => by subst h; exact ⟨rfl, rfl⟩, ?_⟩
    cases hx : x
    · exact ⟨(by decide : bl (0 : Int).natAbs ≤ 65536), (by decide : (-100000 : Int) ≤ 0), (by decide : (0 : Int) ≤ 100000)⟩
    · have := (HRA.out.good (by rw [HXY.out.1, hx])).2
      exact this
  generalize (if x then sgZ na Na else 0) = zp at *
  generalize (if x then e else 0) = ep at *
  go_upto_if 43 with fail
  go_cut [] from 44 to 45 (fun wx => ∃ q, Hid (PQ wx b11 b12 q3 q ep (if y then f else 0) zp (if y then sgZ nb Nb else 0)) ∧ Hid (Box2d w wx na nb (.slice aa n ca) (.slice ab m cb) e f))
  case first =>
    cases y
    · go_wp2_with fail
      go_meet
      exact ⟨q2, HPQ, HW⟩
    · obtain ⟨⟨⟨⟨⟨x0, x1⟩, x2⟩, x3⟩, x4⟩, x5⟩ := HW.out.cells
      go_wp2_with fail
      refine (rIn_in nb f _ m Nb _ (HB.out.1.below HW.out.2.2) HB.out.2).mono ?_
      rintro e7 w7 ⟨p, rfl, -, hi, hb⟩
      replace HPQ := Lib.hid (HPQ.out.below hb)
      replace HW := Lib.hid (HW.out.later hb)
      have HF := Lib.hid (And.intro (HPQ.out.put2 (e := f) hbc hi) (HW.out.st2 HLT2.out (.pointer (some ⟨p, 0, none⟩)) (.int .i64 f)))
      obtain ⟨t0, t1, t2, t3⟩ := HPQ.out.1.2.cells2
      clear x0 x1 x2 x3 x4 x5 hi hb HPQ HW
      unfold ExV
      go_wp2_with fail
      go_meet
      exact ⟨p, Lib.hid HF.out.1, Lib.hid HF.out.2⟩
  case rest =>
  obtain ⟨q4, HPQ, HW⟩ := hcut
  have HV2 : Hid ((y = true → (if y then sgZ nb Nb else 0) = sgZ nb Nb ∧ (if y then f else 0) = f) ∧ bl (if y then sgZ nb Nb else 0).natAbs ≤ 65536 ∧ -100000 ≤ (if y then f else 0) ∧ (if y then f else 0) ≤ 100000) := by
    refine Lib.hid ⟨fun h => by subst h; exact ⟨rfl, rfl⟩, ?_⟩
    cases hy : y
    · exact ⟨(by decide : bl (0 : Int).natAbs ≤ 65536), (by decide : (-100000 : Int) ≤ 0), (by decide : (0 : Int) ≤ 100000)⟩
    · have := (HRB.out.good (by rw [HXY.out.2, hy])).2
      exact this
  generalize (if y then sgZ nb Nb else 0) = zq at *
  generalize (if y then f else 0) = eq at *
  have HTW : Hid (twoE na n Na e nb m Nb f = two ∧ oneE na n Na e = one) := by
    refine Lib.hid ⟨?_, ?_⟩
    · rw [← HE12.out.2, twoE, HXY.out.1, HXY.out.2]
    · rw [← HE12.out.1, oneE, HXY.out.1]
  have HLB11 := HLT
  clear HLT HLT2
  obtain ⟨R1, hR1⟩ : ∃ r, plZ (sgZ na Na) e (sgZ nb Nb) f = r := ⟨_, rfl⟩
  obtain ⟨E1, hE1⟩ : ∃ r, plE (sgZ na Na) e (sgZ nb Nb) f = r := ⟨_, rfl⟩
  obtain ⟨R2, hR2⟩ : ∃ r, plZ (sgZ na Na) e (-sgZ nb Nb) f = r := ⟨_, rfl⟩
  obtain ⟨E2, hE2⟩ : ∃ r, plE (sgZ na Na) e (-sgZ nb Nb) f = r := ⟨_, rfl⟩
  obtain ⟨R3, hR3⟩ : ∃ r, sgZ na Na * sgZ nb Nb = r := ⟨_, rfl⟩
  obtain ⟨E3, hE3⟩ : ∃ r, e + f = r := ⟨_, rfl⟩
  have HRE := Lib.hid (And.intro (And.intro hR1 hE1) (And.intro (And.intro hR2 hE2) (And.intro hR3 hE3)))
  clear hR1 hE1 hR2 hE2 hR3 hE3
  obtain ⟨K1, hK1⟩ : ∃ k, resK two R1 E1 = k := ⟨_, rfl⟩
  obtain ⟨K2, hK2⟩ : ∃ k, resK two R2 E2 = k := ⟨_, rfl⟩
  obtain ⟨K3, hK3⟩ : ∃ k, resK two R3 E3 = k := ⟨_, rfl⟩
  have HKK := Lib.hid (And.intro hK1 (And.intro hK2 hK3))
  clear hK1 hK2 hK3
  go_wp2_with fail
  refine wp_region_q (fun w' : World => ((((w'.cell? ⟨w.heap.size, 0, none⟩ = some (.bool na) ∧ w'.cell? ⟨w.heap.size, 1, none⟩ = some (.slice aa n ca)) ∧ w'.cell? ⟨w.heap.size, 2, none⟩ = some (.int .i64 e)) ∧ w'.cell? ⟨w.heap.size + 1, 0, none⟩ = some (.bool nb)) ∧ w'.cell? ⟨w.heap.size + 1, 1, none⟩ = some (.slice ab m cb)) ∧ w'.cell? ⟨w.heap.size + 1, 2, none⟩ = some (.int .i64 f)) 10 (.take 0 (.take 2 (.bag [(1, 48, []), (3, 50, []), (4, 51, [(5, 46), (6, 52), (7, 53)]), (8, 13, [])] (.run 9 .nil)))) (by kernel_rfl) (by kernel_rfl) ?_
  replace HW := Lib.hid (HW.out.later (drew_below _))
  replace HPQ := Lib.hid (HPQ.out.below (drew_below _))
  generalize World.drew _ = W3 at HW HPQ  ⊢
  obtain ⟨B0, hB0⟩ : ∃ i, W3.heap.size = i := ⟨_, rfl⟩
  have HSZ : Hid (SzLe W3 B0) := Lib.hid (Nat.le_of_eq hB0.symm)
  have HLB : Hid (w.heap.size + 1 < B0 ∧ ((b11 < B0 ∧ b12 < B0) ∧ q3 < B0 ∧ q4 < B0)) := by
    rw [← hB0]; exact Lib.hid ⟨HW.out.2.1.lt, HPQ.out.lt⟩
  clear hB0
  have hS : (fun w' : World => ((((w'.cell? ⟨w.heap.size, 0, none⟩ = some (.bool na) ∧ w'.cell? ⟨w.heap.size, 1, none⟩ = some (.slice aa n ca)) ∧ w'.cell? ⟨w.heap.size, 2, none⟩ = some (.int .i64 e)) ∧ w'.cell? ⟨w.heap.size + 1, 0, none⟩ = some (.bool nb)) ∧ w'.cell? ⟨w.heap.size + 1, 1, none⟩ = some (.slice ab m cb)) ∧ w'.cell? ⟨w.heap.size + 1, 2, none⟩ = some (.int .i64 f)) W3 := HW.out.cells
  repeat (refine wpPq_takeL (v := ?_) rfl rfl (fun _ _ _ h => h) rfl (fun w' hSw => ?_) hS ?_; rotate_left; (focus (go_simp; with_reducible rfl)); simp only [List.setIfInBounds_toArray, List.set_cons_zero, List.set_cons_succ])
  clear hS
  refine wpPq_bag (pick [(1, fun v w' => ∃ ao c, v = .agg #[.bool na, .slice ao n c, .int .i64 e] ∧ Raw .u32 32 w' (.slice ao n c) n Na), (3, fun v w' => ∃ ao c, v = .agg #[.bool nb, .slice ao m c, .int .i64 f] ∧ Raw .u32 32 w' (.slice ao m c) m Nb), (4, fun v w' => ∃ n1 ao l c x, v = .tuple #[.agg #[.bool n1, .slice ao l c, .int .i64 x], .int .i64 K1] ∧ ResIs two R1 E1 w' (.agg #[.bool n1, .slice ao l c, .int .i64 x]) K1), (5, fun v w' => ∃ n1 ao l c x, v = .tuple #[.agg #[.bool n1, .slice ao l c, .int .i64 x], .int .i64 K1] ∧ ResIs two R1 E1 w' (.agg #[.bool n1, .slice ao l c, .int .i64 x]) K1), (6, fun v w' => ∃ n1 ao l c x, v = .agg #[.bool n1, .slice ao l c, .int .i64 x] ∧ ResIs two R1 E1 w' (.agg #[.bool n1, .slice ao l c, .int .i64 x]) K1), (7, fun v w' => v = .int .i64 K1), (8, fun v w' => ∃ r, v = .pointer (some ⟨r, 0, none⟩) ∧ B0 ≤ r ∧ BlkT w' r 24 #[.bool false, .slice none 0 0, .int .i64 0])]) (pick_mono (bag_cons (fun v w1 w2 ⟨ao1, c1, hv1, hr1⟩ hb => ⟨ao1, c1, hv1, hr1.below hb⟩) (bag_cons (fun v w1 w2 ⟨ao3, c3, hv3, hr3⟩ hb => ⟨ao3, c3, hv3, hr3.below hb⟩) (bag_cons (fun v w1 w2 ⟨n4, ao4, l4, c4, x4, hv4, hr4⟩ hb => ⟨n4, ao4, l4, c4, x4, hv4, hr4.below hb⟩) (bag_cons (fun v w1 w2 ⟨n5, ao5, l5, c5, x5, hv5, hr5⟩ hb => ⟨n5, ao5, l5, c5, x5, hv5, hr5.below hb⟩) (bag_cons (fun v w1 w2 ⟨n13, ao13, l13, c13, x13, hv6, hr6⟩ hb => ⟨n13, ao13, l13, c13, x13, hv6, hr6.below hb⟩) (bag_cons (fun v w1 w2 hv7 hb => hv7) (bag_cons (fun v w1 w2 ⟨b13, hv8, hl8, hB8⟩ hb => ⟨b13, hv8, hl8, hB8.below hb⟩) bag_nil)))))))) (fun w' hb => (HW.out.later hb).cells) (by simp [prE]) (fun _ _ _ _ _ h => h) (bag_cons (bag_one rfl ?_) (bag_cons (bag_one rfl ?_) (bag_cons (bag_one rfl ?_) (bag_cons (bag_one rfl ?_) bag_nil)))) (bag_cons (read_one rfl ?_) (bag_cons (read_one rfl ?_) (bag_cons (read_one rfl ?_) bag_nil))) ?_
  · intro a' V hdf hin hdep hb1 K hK
    have i47 : a'.tmps[47]?.getD undef = .agg #[.bool na, .slice aa n ca, .int .i64 e] := evT (hin 47 (by decide))
    clear hin hdep hdf
    have HW := Lib.hid (HW.out.later hb1)
    have HPQ := Lib.hid (HPQ.out.below hb1)
    have HSZ := Lib.hid (HSZ.out.below hb1)
    go_simp
    refine (twin_in na e _ n Na _ (HA.out.1.below HW.out.2.2) HA.out.2).mono ?_
    rintro e1 V2 ⟨sl, rfl, hr, -, hb2⟩
    obtain ⟨ao, c, rfl, -⟩ := id hr
    exact hK _ _ ⟨ao, c, rfl, hr⟩ hb2
  · intro a' V hdf hin hdep hb1 K hK
    have i49 : a'.tmps[49]?.getD undef = .agg #[.bool nb, .slice ab m cb, .int .i64 f] := evT (hin 49 (by decide))
    clear hin hdep hdf
    have HW := Lib.hid (HW.out.later hb1)
    have HPQ := Lib.hid (HPQ.out.below hb1)
    have HSZ := Lib.hid (HSZ.out.below hb1)
    go_simp
    refine (twin_in nb f _ m Nb _ (HB.out.1.below HW.out.2.2) HB.out.2).mono ?_
    rintro e1 V2 ⟨sl, rfl, hr, -, hb2⟩
    obtain ⟨ao, c, rfl, -⟩ := id hr
    exact hK _ _ ⟨ao, c, rfl, hr⟩ hb2
  · intro a' V hdf hin hdep hb1 K hK
    obtain ⟨ao1, c1, hv1, hr1⟩ : (fun (v : Value) (w' : World) => ∃ ao c, v = .agg #[.bool na, .slice ao n c, .int .i64 e] ∧ Raw .u32 32 w' (.slice ao n c) n Na) (a'.tmps.getD 48 undef) V := hdep ⟨1, .data⟩ (by simp) rfl 48 (by decide)
    replace hv1 := evT hv1
    obtain ⟨ao3, c3, hv3, hr3⟩ : (fun (v : Value) (w' : World) => ∃ ao c, v = .agg #[.bool nb, .slice ao m c, .int .i64 f] ∧ Raw .u32 32 w' (.slice ao m c) m Nb) (a'.tmps.getD 50 undef) V := hdep ⟨3, .data⟩ (by simp) rfl 50 (by decide)
    replace hv3 := evT hv3
    clear hin hdep hdf
    have HW := Lib.hid (HW.out.later hb1)
    have HPQ := Lib.hid (HPQ.out.below hb1)
    have HSZ := Lib.hid (HSZ.out.below hb1)
    go_simp
    refine (dAdd_res _ _ na nb n m Na Nb e f _ ⟨_, rfl, hr1, HA.out.2⟩ ⟨_, rfl, hr3, HB.out.2⟩ (HT.out.1.below HT.out.2.1 HW.out.2.2) (Nat.lt_of_lt_of_le HT.out.2.1 HW.out.2.2.size)).mono ?_
    rintro e1 V2 ⟨n1, ao, l, c, x, k, rfl, hr, hb2⟩
    rw [HTW.out.1, HRE.out.1.1, HRE.out.1.2] at hr
    have hk := hr.k_eq
    rw [HKK.out.1] at hk
    subst hk
    exact hK _ _ ⟨_, _, _, _, _, rfl, hr⟩ hb2
  · intro a' V hdf hin hdep hb1 K hK
    clear hin hdep hdf
    have HW := Lib.hid (HW.out.later hb1)
    have HPQ := Lib.hid (HPQ.out.below hb1)
    have HSZ := Lib.hid (HSZ.out.below hb1)
    go_simp
    exact hK _ _ ⟨_, rfl, HSZ.out, BlkT.new V _ _⟩ (Below.alloc_self _ _)
  · intro a' V hdf hin hdep hb1
    obtain ⟨n4, ao4, l4, c4, x4, hv4, hr4⟩ : (fun (v : Value) (w' : World) => ∃ n1 ao l c x, v = .tuple #[.agg #[.bool n1, .slice ao l c, .int .i64 x], .int .i64 K1] ∧ ResIs two R1 E1 w' (.agg #[.bool n1, .slice ao l c, .int .i64 x]) K1) (a'.tmps.getD 51 undef) V := hdep ⟨4, .data⟩ (by simp) rfl 51 (by decide)
    replace hv4 := evT hv4
    clear hin hdep hdf
    have HW := Lib.hid (HW.out.later hb1)
    have HPQ := Lib.hid (HPQ.out.below hb1)
    have HSZ := Lib.hid (HSZ.out.below hb1)
    refine ⟨.tuple #[.agg #[.bool n4, .slice ao4 l4 c4, .int .i64 x4], .int .i64 K1], fun W hSw => ?_, ⟨_, _, _, _, _, rfl, hr4⟩⟩
    go_simp
  · intro a' V hdf hin hdep hb1
    obtain ⟨n5, ao5, l5, c5, x5, hv5, hr5⟩ : (fun (v : Value) (w' : World) => ∃ n1 ao l c x, v = .tuple #[.agg #[.bool n1, .slice ao l c, .int .i64 x], .int .i64 K1] ∧ ResIs two R1 E1 w' (.agg #[.bool n1, .slice ao l c, .int .i64 x]) K1) (a'.tmps.getD 46 undef) V := hdep ⟨5, .data⟩ (by simp) rfl 46 (by decide)
    replace hv5 := evT hv5
    clear hin hdep hdf
    have HW := Lib.hid (HW.out.later hb1)
    have HPQ := Lib.hid (HPQ.out.below hb1)
    have HSZ := Lib.hid (HSZ.out.below hb1)
    refine ⟨.agg #[.bool n5, .slice ao5 l5 c5, .int .i64 x5], fun W hSw => ?_, ⟨_, _, _, _, _, rfl, hr5⟩⟩
    go_simp
  · intro a' V hdf hin hdep hb1
    obtain ⟨n5, ao5, l5, c5, x5, hv5, hr5⟩ : (fun (v : Value) (w' : World) => ∃ n1 ao l c x, v = .tuple #[.agg #[.bool n1, .slice ao l c, .int .i64 x], .int .i64 K1] ∧ ResIs two R1 E1 w' (.agg #[.bool n1, .slice ao l c, .int .i64 x]) K1) (a'.tmps.getD 46 undef) V := hdep ⟨5, .data⟩ (by simp) rfl 46 (by decide)
    replace hv5 := evT hv5
    clear hin hdep hdf
    have HW := Lib.hid (HW.out.later hb1)
    have HPQ := Lib.hid (HPQ.out.below hb1)
    have HSZ := Lib.hid (HSZ.out.below hb1)
    refine ⟨.int .i64 K1, fun W hSw => ?_, rfl⟩
    go_simp
  intro vals B1 hb1 hR
  replace HW := Lib.hid (HW.out.later hb1)
  replace HPQ := Lib.hid (HPQ.out.below hb1)
  replace HSZ := Lib.hid (HSZ.out.below hb1)
  obtain ⟨ao1, c1, hv1, hr1⟩ : (fun (v : Value) (w' : World) => ∃ ao c, v = .agg #[.bool na, .slice ao n c, .int .i64 e] ∧ Raw .u32 32 w' (.slice ao n c) n Na) (vals 1) B1 := hR (1, 48) (by decide)
  obtain ⟨ao3, c3, hv3, hr3⟩ : (fun (v : Value) (w' : World) => ∃ ao c, v = .agg #[.bool nb, .slice ao m c, .int .i64 f] ∧ Raw .u32 32 w' (.slice ao m c) m Nb) (vals 3) B1 := hR (3, 50) (by decide)
  obtain ⟨n4, ao4, l4, c4, x4, hv4, hr4⟩ : (fun (v : Value) (w' : World) => ∃ n1 ao l c x, v = .tuple #[.agg #[.bool n1, .slice ao l c, .int .i64 x], .int .i64 K1] ∧ ResIs two R1 E1 w' (.agg #[.bool n1, .slice ao l c, .int .i64 x]) K1) (vals 4) B1 := hR (4, 51) (by decide)
  obtain ⟨n5, ao5, l5, c5, x5, hv5, hr5⟩ : (fun (v : Value) (w' : World) => ∃ n1 ao l c x, v = .tuple #[.agg #[.bool n1, .slice ao l c, .int .i64 x], .int .i64 K1] ∧ ResIs two R1 E1 w' (.agg #[.bool n1, .slice ao l c, .int .i64 x]) K1) (vals 5) B1 := hR (5, 46) (by decide)
  obtain ⟨n13, ao13, l13, c13, x13, hv6, hr6⟩ : (fun (v : Value) (w' : World) => ∃ n1 ao l c x, v = .agg #[.bool n1, .slice ao l c, .int .i64 x] ∧ ResIs two R1 E1 w' (.agg #[.bool n1, .slice ao l c, .int .i64 x]) K1) (vals 6) B1 := hR (6, 52) (by decide)
  obtain hv7 : (fun (v : Value) (w' : World) => v = .int .i64 K1) (vals 7) B1 := hR (7, 53) (by decide)
  dsimp only at hv7
  obtain ⟨b13, hv8, hl8, hB8⟩ : (fun (v : Value) (w' : World) => ∃ r, v = .pointer (some ⟨r, 0, none⟩) ∧ B0 ≤ r ∧ BlkT w' r 24 #[.bool false, .slice none 0 0, .int .i64 0]) (vals 8) B1 := hR (8, 13) (by decide)
  obtain ⟨y0, y1, y2, y3, y4, y5⟩ := hB8.cells3
  clear hb1 hR
  simp only [prE, List.flatMap_cons, List.flatMap_nil, List.cons_append, List.nil_append, List.append_nil, setD, List.setIfInBounds_toArray, List.set_cons_zero, List.set_cons_succ, hv1, hv3, hv4, hv5, hv6, hv7, hv8]
  clear vals hv1 hv3 hv4 hv5 hv6 hv7 hv8
  refine wpPq_goL rfl rfl fun K' hK => ?_
  go_simp
  have HAN13 := Lib.hid (Ans3.make hB8 hr6)
  have hlt := HLB.out
  replace HW := Lib.hid (HW.out.st3 (r := b13) (by omega) (.bool n13) (.slice ao13 l13 c13) (.int .i64 x13))
  replace HPQ := Lib.hid (HPQ.out.st3 hB8 ⟨⟨by omega, by omega⟩, by omega, by omega⟩ (.bool n13) (.slice ao13 l13 c13) (.int .i64 x13))
  generalize (((B1.setCell ⟨b13, 0, none⟩ (.bool n13)).setCell ⟨b13, 1, none⟩ (.slice ao13 l13 c13)).setCell ⟨b13, 2, none⟩ (.int .i64 x13)) = V2 at HW HPQ HAN13 ⊢
  clear hlt hl8 hB8 y0 y1 y2 y3 y4 y5 HSZ HLB hr1 hr3 hr4 hr5 hr6
  have hm1 := True.intro
  refine hK _ _ HW.out.cells ?_
  clear hK K' hm1
  refine wpPq_nil ?_
  simp only [List.drop_succ_cons, List.drop_zero]
  try clear B1
  skip
  go_wp2
  refine wp_region_q (fun w' : World => ((((w'.cell? ⟨w.heap.size, 0, none⟩ = some (.bool na) ∧ w'.cell? ⟨w.heap.size, 1, none⟩ = some (.slice aa n ca)) ∧ w'.cell? ⟨w.heap.size, 2, none⟩ = some (.int .i64 e)) ∧ w'.cell? ⟨w.heap.size + 1, 0, none⟩ = some (.bool nb)) ∧ w'.cell? ⟨w.heap.size + 1, 1, none⟩ = some (.slice ab m cb)) ∧ w'.cell? ⟨w.heap.size + 1, 2, none⟩ = some (.int .i64 f)) 10 (.take 0 (.take 2 (.bag [(1, 56, []), (3, 58, []), (4, 59, [(5, 54), (6, 60), (7, 61)]), (8, 15, [])] (.run 9 .nil)))) (by kernel_rfl) (by kernel_rfl) ?_
  replace HW := Lib.hid (HW.out.later (drew_below _))
  replace HPQ := Lib.hid (HPQ.out.below (drew_below _))
  replace HAN13 := Lib.hid (HAN13.out.below (drew_below _))
  generalize World.drew _ = W3 at HW HPQ HAN13 ⊢
  obtain ⟨B0, hB0⟩ : ∃ i, W3.heap.size = i := ⟨_, rfl⟩
  have HSZ : Hid (SzLe W3 B0) := Lib.hid (Nat.le_of_eq hB0.symm)
  have HLB : Hid (w.heap.size + 1 < B0 ∧ ((b11 < B0 ∧ b12 < B0) ∧ q3 < B0 ∧ q4 < B0) ∧ b13 < B0) := by
    rw [← hB0]; exact Lib.hid ⟨HW.out.2.1.lt, HPQ.out.lt, HAN13.out.1.lt⟩
  clear hB0
  have hS : (fun w' : World => ((((w'.cell? ⟨w.heap.size, 0, none⟩ = some (.bool na) ∧ w'.cell? ⟨w.heap.size, 1, none⟩ = some (.slice aa n ca)) ∧ w'.cell? ⟨w.heap.size, 2, none⟩ = some (.int .i64 e)) ∧ w'.cell? ⟨w.heap.size + 1, 0, none⟩ = some (.bool nb)) ∧ w'.cell? ⟨w.heap.size + 1, 1, none⟩ = some (.slice ab m cb)) ∧ w'.cell? ⟨w.heap.size + 1, 2, none⟩ = some (.int .i64 f)) W3 := HW.out.cells
  repeat (refine wpPq_takeL (v := ?_) rfl rfl (fun _ _ _ h => h) rfl (fun w' hSw => ?_) hS ?_; rotate_left; (focus (go_simp; with_reducible rfl)); simp only [List.setIfInBounds_toArray, List.set_cons_zero, List.set_cons_succ])
  clear hS
  refine wpPq_bag (pick [(1, fun v w' => ∃ ao c, v = .agg #[.bool na, .slice ao n c, .int .i64 e] ∧ Raw .u32 32 w' (.slice ao n c) n Na), (3, fun v w' => ∃ ao c, v = .agg #[.bool nb, .slice ao m c, .int .i64 f] ∧ Raw .u32 32 w' (.slice ao m c) m Nb), (4, fun v w' => ∃ n1 ao l c x, v = .tuple #[.agg #[.bool n1, .slice ao l c, .int .i64 x], .int .i64 K2] ∧ ResIs two R2 E2 w' (.agg #[.bool n1, .slice ao l c, .int .i64 x]) K2), (5, fun v w' => ∃ n1 ao l c x, v = .tuple #[.agg #[.bool n1, .slice ao l c, .int .i64 x], .int .i64 K2] ∧ ResIs two R2 E2 w' (.agg #[.bool n1, .slice ao l c, .int .i64 x]) K2), (6, fun v w' => ∃ n1 ao l c x, v = .agg #[.bool n1, .slice ao l c, .int .i64 x] ∧ ResIs two R2 E2 w' (.agg #[.bool n1, .slice ao l c, .int .i64 x]) K2), (7, fun v w' => v = .int .i64 K2), (8, fun v w' => ∃ r, v = .pointer (some ⟨r, 0, none⟩) ∧ B0 ≤ r ∧ BlkT w' r 24 #[.bool false, .slice none 0 0, .int .i64 0])]) (pick_mono (bag_cons (fun v w1 w2 ⟨ao1, c1, hv1, hr1⟩ hb => ⟨ao1, c1, hv1, hr1.below hb⟩) (bag_cons (fun v w1 w2 ⟨ao3, c3, hv3, hr3⟩ hb => ⟨ao3, c3, hv3, hr3.below hb⟩) (bag_cons (fun v w1 w2 ⟨n4, ao4, l4, c4, x4, hv4, hr4⟩ hb => ⟨n4, ao4, l4, c4, x4, hv4, hr4.below hb⟩) (bag_cons (fun v w1 w2 ⟨n5, ao5, l5, c5, x5, hv5, hr5⟩ hb => ⟨n5, ao5, l5, c5, x5, hv5, hr5.below hb⟩) (bag_cons (fun v w1 w2 ⟨n15, ao15, l15, c15, x15, hv6, hr6⟩ hb => ⟨n15, ao15, l15, c15, x15, hv6, hr6.below hb⟩) (bag_cons (fun v w1 w2 hv7 hb => hv7) (bag_cons (fun v w1 w2 ⟨b15, hv8, hl8, hB8⟩ hb => ⟨b15, hv8, hl8, hB8.below hb⟩) bag_nil)))))))) (fun w' hb => (HW.out.later hb).cells) (by simp [prE]) (fun _ _ _ _ _ h => h) (bag_cons (bag_one rfl ?_) (bag_cons (bag_one rfl ?_) (bag_cons (bag_one rfl ?_) (bag_cons (bag_one rfl ?_) bag_nil)))) (bag_cons (read_one rfl ?_) (bag_cons (read_one rfl ?_) (bag_cons (read_one rfl ?_) bag_nil))) ?_
  · intro a' V hdf hin hdep hb1 K hK
    have i55 : a'.tmps[55]?.getD undef = .agg #[.bool na, .slice aa n ca, .int .i64 e] := evT (hin 55 (by decide))
    clear hin hdep hdf
    have HW := Lib.hid (HW.out.later hb1)
    have HPQ := Lib.hid (HPQ.out.below hb1)
    have HSZ := Lib.hid (HSZ.out.below hb1)
    have HAN13 := Lib.hid (HAN13.out.below hb1)
    go_simp
    refine (twin_in na e _ n Na _ (HA.out.1.below HW.out.2.2) HA.out.2).mono ?_
    rintro e1 V2 ⟨sl, rfl, hr, -, hb2⟩
    obtain ⟨ao, c, rfl, -⟩ := id hr
    exact hK _ _ ⟨ao, c, rfl, hr⟩ hb2
  · intro a' V hdf hin hdep hb1 K hK
    have i57 : a'.tmps[57]?.getD undef = .agg #[.bool nb, .slice ab m cb, .int .i64 f] := evT (hin 57 (by decide))
    clear hin hdep hdf
    have HW := Lib.hid (HW.out.later hb1)
    have HPQ := Lib.hid (HPQ.out.below hb1)
    have HSZ := Lib.hid (HSZ.out.below hb1)
    have HAN13 := Lib.hid (HAN13.out.below hb1)
    go_simp
    refine (twin_in nb f _ m Nb _ (HB.out.1.below HW.out.2.2) HB.out.2).mono ?_
    rintro e1 V2 ⟨sl, rfl, hr, -, hb2⟩
    obtain ⟨ao, c, rfl, -⟩ := id hr
    exact hK _ _ ⟨ao, c, rfl, hr⟩ hb2
  · intro a' V hdf hin hdep hb1 K hK
    obtain ⟨ao1, c1, hv1, hr1⟩ : (fun (v : Value) (w' : World) => ∃ ao c, v = .agg #[.bool na, .slice ao n c, .int .i64 e] ∧ Raw .u32 32 w' (.slice ao n c) n Na) (a'.tmps.getD 56 undef) V := hdep ⟨1, .data⟩ (by simp) rfl 56 (by decide)
    replace hv1 := evT hv1
    obtain ⟨ao3, c3, hv3, hr3⟩ : (fun (v : Value) (w' : World) => ∃ ao c, v = .agg #[.bool nb, .slice ao m c, .int .i64 f] ∧ Raw .u32 32 w' (.slice ao m c) m Nb) (a'.tmps.getD 58 undef) V := hdep ⟨3, .data⟩ (by simp) rfl 58 (by decide)
    replace hv3 := evT hv3
    clear hin hdep hdf
    have HW := Lib.hid (HW.out.later hb1)
    have HPQ := Lib.hid (HPQ.out.below hb1)
    have HSZ := Lib.hid (HSZ.out.below hb1)
    have HAN13 := Lib.hid (HAN13.out.below hb1)
    go_simp
    refine (dSub_res _ _ na nb n m Na Nb e f _ ⟨_, rfl, hr1, HA.out.2⟩ ⟨_, rfl, hr3, HB.out.2⟩ (HT.out.1.below HT.out.2.1 HW.out.2.2) (Nat.lt_of_lt_of_le HT.out.2.1 HW.out.2.2.size)).mono ?_
    rintro e1 V2 ⟨n1, ao, l, c, x, k, rfl, hr, hb2⟩
    rw [HTW.out.1, HRE.out.2.1.1, HRE.out.2.1.2] at hr
    have hk := hr.k_eq
    rw [HKK.out.2.1] at hk
    subst hk
    exact hK _ _ ⟨_, _, _, _, _, rfl, hr⟩ hb2
  · intro a' V hdf hin hdep hb1 K hK
    clear hin hdep hdf
    have HW := Lib.hid (HW.out.later hb1)
    have HPQ := Lib.hid (HPQ.out.below hb1)
    have HSZ := Lib.hid (HSZ.out.below hb1)
    have HAN13 := Lib.hid (HAN13.out.below hb1)
    go_simp
    exact hK _ _ ⟨_, rfl, HSZ.out, BlkT.new V _ _⟩ (Below.alloc_self _ _)
  · intro a' V hdf hin hdep hb1
    obtain ⟨n4, ao4, l4, c4, x4, hv4, hr4⟩ : (fun (v : Value) (w' : World) => ∃ n1 ao l c x, v = .tuple #[.agg #[.bool n1, .slice ao l c, .int .i64 x], .int .i64 K2] ∧ ResIs two R2 E2 w' (.agg #[.bool n1, .slice ao l c, .int .i64 x]) K2) (a'.tmps.getD 59 undef) V := hdep ⟨4, .data⟩ (by simp) rfl 59 (by decide)
    replace hv4 := evT hv4
    clear hin hdep hdf
    have HW := Lib.hid (HW.out.later hb1)
    have HPQ := Lib.hid (HPQ.out.below hb1)
    have HSZ := Lib.hid (HSZ.out.below hb1)
    have HAN13 := Lib.hid (HAN13.out.below hb1)
    refine ⟨.tuple #[.agg #[.bool n4, .slice ao4 l4 c4, .int .i64 x4], .int .i64 K2], fun W hSw => ?_, ⟨_, _, _, _, _, rfl, hr4⟩⟩
    go_simp
  · intro a' V hdf hin hdep hb1
    obtain ⟨n5, ao5, l5, c5, x5, hv5, hr5⟩ : (fun (v : Value) (w' : World) => ∃ n1 ao l c x, v = .tuple #[.agg #[.bool n1, .slice ao l c, .int .i64 x], .int .i64 K2] ∧ ResIs two R2 E2 w' (.agg #[.bool n1, .slice ao l c, .int .i64 x]) K2) (a'.tmps.getD 54 undef) V := hdep ⟨5, .data⟩ (by simp) rfl 54 (by decide)
    replace hv5 := evT hv5
    clear hin hdep hdf
    have HW := Lib.hid (HW.out.later hb1)
    have HPQ := Lib.hid (HPQ.out.below hb1)
    have HSZ := Lib.hid (HSZ.out.below hb1)
    have HAN13 := Lib.hid (HAN13.out.below hb1)
    refine ⟨.agg #[.bool n5, .slice ao5 l5 c5, .int .i64 x5], fun W hSw => ?_, ⟨_, _, _, _, _, rfl, hr5⟩⟩
    go_simp
  · intro a' V hdf hin hdep hb1
    obtain ⟨n5, ao5, l5, c5, x5, hv5, hr5⟩ : (fun (v : Value) (w' : World) => ∃ n1 ao l c x, v = .tuple #[.agg #[.bool n1, .slice ao l c, .int .i64 x], .int .i64 K2] ∧ ResIs two R2 E2 w' (.agg #[.bool n1, .slice ao l c, .int .i64 x]) K2) (a'.tmps.getD 54 undef) V := hdep ⟨5, .data⟩ (by simp) rfl 54 (by decide)
    replace hv5 := evT hv5
    clear hin hdep hdf
    have HW := Lib.hid (HW.out.later hb1)
    have HPQ := Lib.hid (HPQ.out.below hb1)
    have HSZ := Lib.hid (HSZ.out.below hb1)
    have HAN13 := Lib.hid (HAN13.out.below hb1)
    refine ⟨.int .i64 K2, fun W hSw => ?_, rfl⟩
    go_simp
  intro vals B1 hb1 hR
  replace HW := Lib.hid (HW.out.later hb1)
  replace HPQ := Lib.hid (HPQ.out.below hb1)
  replace HSZ := Lib.hid (HSZ.out.below hb1)
  replace HAN13 := Lib.hid (HAN13.out.below hb1)
  obtain ⟨ao1, c1, hv1, hr1⟩ : (fun (v : Value) (w' : World) => ∃ ao c, v = .agg #[.bool na, .slice ao n c, .int .i64 e] ∧ Raw .u32 32 w' (.slice ao n c) n Na) (vals 1) B1 := hR (1, 56) (by decide)
  obtain ⟨ao3, c3, hv3, hr3⟩ : (fun (v : Value) (w' : World) => ∃ ao c, v = .agg #[.bool nb, .slice ao m c, .int .i64 f] ∧ Raw .u32 32 w' (.slice ao m c) m Nb) (vals 3) B1 := hR (3, 58) (by decide)
  obtain ⟨n4, ao4, l4, c4, x4, hv4, hr4⟩ : (fun (v : Value) (w' : World) => ∃ n1 ao l c x, v = .tuple #[.agg #[.bool n1, .slice ao l c, .int .i64 x], .int .i64 K2] ∧ ResIs two R2 E2 w' (.agg #[.bool n1, .slice ao l c, .int .i64 x]) K2) (vals 4) B1 := hR (4, 59) (by decide)
  obtain ⟨n5, ao5, l5, c5, x5, hv5, hr5⟩ : (fun (v : Value) (w' : World) => ∃ n1 ao l c x, v = .tuple #[.agg #[.bool n1, .slice ao l c, .int .i64 x], .int .i64 K2] ∧ ResIs two R2 E2 w' (.agg #[.bool n1, .slice ao l c, .int .i64 x]) K2) (vals 5) B1 := hR (5, 54) (by decide)
  obtain ⟨n15, ao15, l15, c15, x15, hv6, hr6⟩ : (fun (v : Value) (w' : World) => ∃ n1 ao l c x, v = .agg #[.bool n1, .slice ao l c, .int .i64 x] ∧ ResIs two R2 E2 w' (.agg #[.bool n1, .slice ao l c, .int .i64 x]) K2) (vals 6) B1 := hR (6, 60) (by decide)
  obtain hv7 : (fun (v : Value) (w' : World) => v = .int .i64 K2) (vals 7) B1 := hR (7, 61) (by decide)
  dsimp only at hv7
  obtain ⟨b15, hv8, hl8, hB8⟩ : (fun (v : Value) (w' : World) => ∃ r, v = .pointer (some ⟨r, 0, none⟩) ∧ B0 ≤ r ∧ BlkT w' r 24 #[.bool false, .slice none 0 0, .int .i64 0]) (vals 8) B1 := hR (8, 15) (by decide)
  obtain ⟨y0, y1, y2, y3, y4, y5⟩ := hB8.cells3
  clear hb1 hR
  simp only [prE, List.flatMap_cons, List.flatMap_nil, List.cons_append, List.nil_append, List.append_nil, setD, List.setIfInBounds_toArray, List.set_cons_zero, List.set_cons_succ, hv1, hv3, hv4, hv5, hv6, hv7, hv8]
  clear vals hv1 hv3 hv4 hv5 hv6 hv7 hv8
  refine wpPq_goL rfl rfl fun K' hK => ?_
  go_simp
  have HAN15 := Lib.hid (Ans3.make hB8 hr6)
  have hlt := HLB.out
  replace HW := Lib.hid (HW.out.st3 (r := b15) (by omega) (.bool n15) (.slice ao15 l15 c15) (.int .i64 x15))
  replace HPQ := Lib.hid (HPQ.out.st3 hB8 ⟨⟨by omega, by omega⟩, by omega, by omega⟩ (.bool n15) (.slice ao15 l15 c15) (.int .i64 x15))
  replace HAN13 := Lib.hid (HAN13.out.st3 hB8 (by omega) (.bool n15) (.slice ao15 l15 c15) (.int .i64 x15))
  generalize (((B1.setCell ⟨b15, 0, none⟩ (.bool n15)).setCell ⟨b15, 1, none⟩ (.slice ao15 l15 c15)).setCell ⟨b15, 2, none⟩ (.int .i64 x15)) = V2 at HW HPQ HAN15 HAN13 ⊢
  clear hlt hl8 hB8 y0 y1 y2 y3 y4 y5 HSZ HLB hr1 hr3 hr4 hr5 hr6
  have hm1 := True.intro
  refine hK _ _ HW.out.cells ?_
  clear hK K' hm1
  refine wpPq_nil ?_
  simp only [List.drop_succ_cons, List.drop_zero]
  try clear B1
  skip
  go_wp2
  refine wp_region_q (fun w' : World => ((((w'.cell? ⟨w.heap.size, 0, none⟩ = some (.bool na) ∧ w'.cell? ⟨w.heap.size, 1, none⟩ = some (.slice aa n ca)) ∧ w'.cell? ⟨w.heap.size, 2, none⟩ = some (.int .i64 e)) ∧ w'.cell? ⟨w.heap.size + 1, 0, none⟩ = some (.bool nb)) ∧ w'.cell? ⟨w.heap.size + 1, 1, none⟩ = some (.slice ab m cb)) ∧ w'.cell? ⟨w.heap.size + 1, 2, none⟩ = some (.int .i64 f)) 10 (.take 0 (.take 2 (.bag [(1, 64, []), (3, 66, []), (4, 67, [(5, 62), (6, 68), (7, 69)]), (8, 17, [])] (.run 9 .nil)))) (by kernel_rfl) (by kernel_rfl) ?_
  replace HW := Lib.hid (HW.out.later (drew_below _))
  replace HPQ := Lib.hid (HPQ.out.below (drew_below _))
  replace HAN13 := Lib.hid (HAN13.out.below (drew_below _))
  replace HAN15 := Lib.hid (HAN15.out.below (drew_below _))
  generalize World.drew _ = W3 at HW HPQ HAN13 HAN15 ⊢
  obtain ⟨B0, hB0⟩ : ∃ i, W3.heap.size = i := ⟨_, rfl⟩
  have HSZ : Hid (SzLe W3 B0) := Lib.hid (Nat.le_of_eq hB0.symm)
  have HLB : Hid (w.heap.size + 1 < B0 ∧ ((b11 < B0 ∧ b12 < B0) ∧ q3 < B0 ∧ q4 < B0) ∧ b13 < B0 ∧ b15 < B0) := by
    rw [← hB0]; exact Lib.hid ⟨HW.out.2.1.lt, HPQ.out.lt, HAN13.out.1.lt, HAN15.out.1.lt⟩
  clear hB0
  have hS : (fun w' : World => ((((w'.cell? ⟨w.heap.size, 0, none⟩ = some (.bool na) ∧ w'.cell? ⟨w.heap.size, 1, none⟩ = some (.slice aa n ca)) ∧ w'.cell? ⟨w.heap.size, 2, none⟩ = some (.int .i64 e)) ∧ w'.cell? ⟨w.heap.size + 1, 0, none⟩ = some (.bool nb)) ∧ w'.cell? ⟨w.heap.size + 1, 1, none⟩ = some (.slice ab m cb)) ∧ w'.cell? ⟨w.heap.size + 1, 2, none⟩ = some (.int .i64 f)) W3 := HW.out.cells
  repeat (refine wpPq_takeL (v := ?_) rfl rfl (fun _ _ _ h => h) rfl (fun w' hSw => ?_) hS ?_; rotate_left; (focus (go_simp; with_reducible rfl)); simp only [List.setIfInBounds_toArray, List.set_cons_zero, List.set_cons_succ])
  clear hS
  refine wpPq_bag (pick [(1, fun v w' => ∃ ao c, v = .agg #[.bool na, .slice ao n c, .int .i64 e] ∧ Raw .u32 32 w' (.slice ao n c) n Na), (3, fun v w' => ∃ ao c, v = .agg #[.bool nb, .slice ao m c, .int .i64 f] ∧ Raw .u32 32 w' (.slice ao m c) m Nb), (4, fun v w' => ∃ n1 ao l c x, v = .tuple #[.agg #[.bool n1, .slice ao l c, .int .i64 x], .int .i64 K3] ∧ ResIs two R3 E3 w' (.agg #[.bool n1, .slice ao l c, .int .i64 x]) K3), (5, fun v w' => ∃ n1 ao l c x, v = .tuple #[.agg #[.bool n1, .slice ao l c, .int .i64 x], .int .i64 K3] ∧ ResIs two R3 E3 w' (.agg #[.bool n1, .slice ao l c, .int .i64 x]) K3), (6, fun v w' => ∃ n1 ao l c x, v = .agg #[.bool n1, .slice ao l c, .int .i64 x] ∧ ResIs two R3 E3 w' (.agg #[.bool n1, .slice ao l c, .int .i64 x]) K3), (7, fun v w' => v = .int .i64 K3), (8, fun v w' => ∃ r, v = .pointer (some ⟨r, 0, none⟩) ∧ B0 ≤ r ∧ BlkT w' r 24 #[.bool false, .slice none 0 0, .int .i64 0])]) (pick_mono (bag_cons (fun v w1 w2 ⟨ao1, c1, hv1, hr1⟩ hb => ⟨ao1, c1, hv1, hr1.below hb⟩) (bag_cons (fun v w1 w2 ⟨ao3, c3, hv3, hr3⟩ hb => ⟨ao3, c3, hv3, hr3.below hb⟩) (bag_cons (fun v w1 w2 ⟨n4, ao4, l4, c4, x4, hv4, hr4⟩ hb => ⟨n4, ao4, l4, c4, x4, hv4, hr4.below hb⟩) (bag_cons (fun v w1 w2 ⟨n5, ao5, l5, c5, x5, hv5, hr5⟩ hb => ⟨n5, ao5, l5, c5, x5, hv5, hr5.below hb⟩) (bag_cons (fun v w1 w2 ⟨n17, ao17, l17, c17, x17, hv6, hr6⟩ hb => ⟨n17, ao17, l17, c17, x17, hv6, hr6.below hb⟩) (bag_cons (fun v w1 w2 hv7 hb => hv7) (bag_cons (fun v w1 w2 ⟨b17, hv8, hl8, hB8⟩ hb => ⟨b17, hv8, hl8, hB8.below hb⟩) bag_nil)))))))) (fun w' hb => (HW.out.later hb).cells) (by simp [prE]) (fun _ _ _ _ _ h => h) (bag_cons (bag_one rfl ?_) (bag_cons (bag_one rfl ?_) (bag_cons (bag_one rfl ?_) (bag_cons (bag_one rfl ?_) bag_nil)))) (bag_cons (read_one rfl ?_) (bag_cons (read_one rfl ?_) (bag_cons (read_one rfl ?_) bag_nil))) ?_
  · intro a' V hdf hin hdep hb1 K hK
    have i63 : a'.tmps[63]?.getD undef = .agg #[.bool na, .slice aa n ca, .int .i64 e] := evT (hin 63 (by decide))
    clear hin hdep hdf
    have HW := Lib.hid (HW.out.later hb1)
    have HPQ := Lib.hid (HPQ.out.below hb1)
    have HSZ := Lib.hid (HSZ.out.below hb1)
    have HAN13 := Lib.hid (HAN13.out.below hb1)
    have HAN15 := Lib.hid (HAN15.out.below hb1)
    go_simp
    refine (twin_in na e _ n Na _ (HA.out.1.below HW.out.2.2) HA.out.2).mono ?_
    rintro e1 V2 ⟨sl, rfl, hr, -, hb2⟩
    obtain ⟨ao, c, rfl, -⟩ := id hr
    exact hK _ _ ⟨ao, c, rfl, hr⟩ hb2
  · intro a' V hdf hin hdep hb1 K hK
    have i65 : a'.tmps[65]?.getD undef = .agg #[.bool nb, .slice ab m cb, .int .i64 f] := evT (hin 65 (by decide))
    clear hin hdep hdf
    have HW := Lib.hid (HW.out.later hb1)
    have HPQ := Lib.hid (HPQ.out.below hb1)
    have HSZ := Lib.hid (HSZ.out.below hb1)
    have HAN13 := Lib.hid (HAN13.out.below hb1)
    have HAN15 := Lib.hid (HAN15.out.below hb1)
    go_simp
    refine (twin_in nb f _ m Nb _ (HB.out.1.below HW.out.2.2) HB.out.2).mono ?_
    rintro e1 V2 ⟨sl, rfl, hr, -, hb2⟩
    obtain ⟨ao, c, rfl, -⟩ := id hr
    exact hK _ _ ⟨ao, c, rfl, hr⟩ hb2
  · intro a' V hdf hin hdep hb1 K hK
    obtain ⟨ao1, c1, hv1, hr1⟩ : (fun (v : Value) (w' : World) => ∃ ao c, v = .agg #[.bool na, .slice ao n c, .int .i64 e] ∧ Raw .u32 32 w' (.slice ao n c) n Na) (a'.tmps.getD 64 undef) V := hdep ⟨1, .data⟩ (by simp) rfl 64 (by decide)
    replace hv1 := evT hv1
    obtain ⟨ao3, c3, hv3, hr3⟩ : (fun (v : Value) (w' : World) => ∃ ao c, v = .agg #[.bool nb, .slice ao m c, .int .i64 f] ∧ Raw .u32 32 w' (.slice ao m c) m Nb) (a'.tmps.getD 66 undef) V := hdep ⟨3, .data⟩ (by simp) rfl 66 (by decide)
    replace hv3 := evT hv3
    clear hin hdep hdf
    have HW := Lib.hid (HW.out.later hb1)
    have HPQ := Lib.hid (HPQ.out.below hb1)
    have HSZ := Lib.hid (HSZ.out.below hb1)
    have HAN13 := Lib.hid (HAN13.out.below hb1)
    have HAN15 := Lib.hid (HAN15.out.below hb1)
    go_simp
    refine (dMul_res _ _ na nb n m Na Nb e f _ ⟨_, rfl, hr1, HA.out.2⟩ ⟨_, rfl, hr3, HB.out.2⟩ (HT.out.1.below HT.out.2.1 HW.out.2.2) (Nat.lt_of_lt_of_le HT.out.2.1 HW.out.2.2.size)).mono ?_
    rintro e1 V2 ⟨n1, ao, l, c, x, k, rfl, hr, hb2⟩
    rw [HTW.out.1, HRE.out.2.2.1, HRE.out.2.2.2] at hr
    have hk := hr.k_eq
    rw [HKK.out.2.2] at hk
    subst hk
    exact hK _ _ ⟨_, _, _, _, _, rfl, hr⟩ hb2
  · intro a' V hdf hin hdep hb1 K hK
    clear hin hdep hdf
    have HW := Lib.hid (HW.out.later hb1)
    have HPQ := Lib.hid (HPQ.out.below hb1)
    have HSZ := Lib.hid (HSZ.out.below hb1)
    have HAN13 := Lib.hid (HAN13.out.below hb1)
    have HAN15 := Lib.hid (HAN15.out.below hb1)
    go_simp
    exact hK _ _ ⟨_, rfl, HSZ.out, BlkT.new V _ _⟩ (Below.alloc_self _ _)
  · intro a' V hdf hin hdep hb1
    obtain ⟨n4, ao4, l4, c4, x4, hv4, hr4⟩ : (fun (v : Value) (w' : World) => ∃ n1 ao l c x, v = .tuple #[.agg #[.bool n1, .slice ao l c, .int .i64 x], .int .i64 K3] ∧ ResIs two R3 E3 w' (.agg #[.bool n1, .slice ao l c, .int .i64 x]) K3) (a'.tmps.getD 67 undef) V := hdep ⟨4, .data⟩ (by simp) rfl 67 (by decide)
    replace hv4 := evT hv4
    clear hin hdep hdf
    have HW := Lib.hid (HW.out.later hb1)
    have HPQ := Lib.hid (HPQ.out.below hb1)
    have HSZ := Lib.hid (HSZ.out.below hb1)
    have HAN13 := Lib.hid (HAN13.out.below hb1)
    have HAN15 := Lib.hid (HAN15.out.below hb1)
    refine ⟨.tuple #[.agg #[.bool n4, .slice ao4 l4 c4, .int .i64 x4], .int .i64 K3], fun W hSw => ?_, ⟨_, _, _, _, _, rfl, hr4⟩⟩
    go_simp
  · intro a' V hdf hin hdep hb1
    obtain ⟨n5, ao5, l5, c5, x5, hv5, hr5⟩ : (fun (v : Value) (w' : World) => ∃ n1 ao l c x, v = .tuple #[.agg #[.bool n1, .slice ao l c, .int .i64 x], .int .i64 K3] ∧ ResIs two R3 E3 w' (.agg #[.bool n1, .slice ao l c, .int .i64 x]) K3) (a'.tmps.getD 62 undef) V := hdep ⟨5, .data⟩ (by simp) rfl 62 (by decide)
    replace hv5 := evT hv5
    clear hin hdep hdf
    have HW := Lib.hid (HW.out.later hb1)
    have HPQ := Lib.hid (HPQ.out.below hb1)
    have HSZ := Lib.hid (HSZ.out.below hb1)
    have HAN13 := Lib.hid (HAN13.out.below hb1)
    have HAN15 := Lib.hid (HAN15.out.below hb1)
    refine ⟨.agg #[.bool n5, .slice ao5 l5 c5, .int .i64 x5], fun W hSw => ?_, ⟨_, _, _, _, _, rfl, hr5⟩⟩
    go_simp
  · intro a' V hdf hin hdep hb1
    obtain ⟨n5, ao5, l5, c5, x5, hv5, hr5⟩ : (fun (v : Value) (w' : World) => ∃ n1 ao l c x, v = .tuple #[.agg #[.bool n1, .slice ao l c, .int .i64 x], .int .i64 K3] ∧ ResIs two R3 E3 w' (.agg #[.bool n1, .slice ao l c, .int .i64 x]) K3) (a'.tmps.getD 62 undef) V := hdep ⟨5, .data⟩ (by simp) rfl 62 (by decide)
    replace hv5 := evT hv5
    clear hin hdep hdf
    have HW := Lib.hid (HW.out.later hb1)
    have HPQ := Lib.hid (HPQ.out.below hb1)
    have HSZ := Lib.hid (HSZ.out.below hb1)
    have HAN13 := Lib.hid (HAN13.out.below hb1)
    have HAN15 := Lib.hid (HAN15.out.below hb1)
    refine ⟨.int .i64 K3, fun W hSw => ?_, rfl⟩
    go_simp
  intro vals B1 hb1 hR
  replace HW := Lib.hid (HW.out.later hb1)
  replace HPQ := Lib.hid (HPQ.out.below hb1)
  replace HSZ := Lib.hid (HSZ.out.below hb1)
  replace HAN13 := Lib.hid (HAN13.out.below hb1)
  replace HAN15 := Lib.hid (HAN15.out.below hb1)
  obtain ⟨ao1, c1, hv1, hr1⟩ : (fun (v : Value) (w' : World) => ∃ ao c, v = .agg #[.bool na, .slice ao n c, .int .i64 e] ∧ Raw .u32 32 w' (.slice ao n c) n Na) (vals 1) B1 := hR (1, 64) (by decide)
  obtain ⟨ao3, c3, hv3, hr3⟩ : (fun (v : Value) (w' : World) => ∃ ao c, v = .agg #[.bool nb, .slice ao m c, .int .i64 f] ∧ Raw .u32 32 w' (.slice ao m c) m Nb) (vals 3) B1 := hR (3, 66) (by decide)
  obtain ⟨n4, ao4, l4, c4, x4, hv4, hr4⟩ : (fun (v : Value) (w' : World) => ∃ n1 ao l c x, v = .tuple #[.agg #[.bool n1, .slice ao l c, .int .i64 x], .int .i64 K3] ∧ ResIs two R3 E3 w' (.agg #[.bool n1, .slice ao l c, .int .i64 x]) K3) (vals 4) B1 := hR (4, 67) (by decide)
  obtain ⟨n5, ao5, l5, c5, x5, hv5, hr5⟩ : (fun (v : Value) (w' : World) => ∃ n1 ao l c x, v = .tuple #[.agg #[.bool n1, .slice ao l c, .int .i64 x], .int .i64 K3] ∧ ResIs two R3 E3 w' (.agg #[.bool n1, .slice ao l c, .int .i64 x]) K3) (vals 5) B1 := hR (5, 62) (by decide)
  obtain ⟨n17, ao17, l17, c17, x17, hv6, hr6⟩ : (fun (v : Value) (w' : World) => ∃ n1 ao l c x, v = .agg #[.bool n1, .slice ao l c, .int .i64 x] ∧ ResIs two R3 E3 w' (.agg #[.bool n1, .slice ao l c, .int .i64 x]) K3) (vals 6) B1 := hR (6, 68) (by decide)
  obtain hv7 : (fun (v : Value) (w' : World) => v = .int .i64 K3) (vals 7) B1 := hR (7, 69) (by decide)
  dsimp only at hv7
  obtain ⟨b17, hv8, hl8, hB8⟩ : (fun (v : Value) (w' : World) => ∃ r, v = .pointer (some ⟨r, 0, none⟩) ∧ B0 ≤ r ∧ BlkT w' r 24 #[.bool false, .slice none 0 0, .int .i64 0]) (vals 8) B1 := hR (8, 17) (by decide)
  obtain ⟨y0, y1, y2, y3, y4, y5⟩ := hB8.cells3
  clear hb1 hR
  simp only [prE, List.flatMap_cons, List.flatMap_nil, List.cons_append, List.nil_append, List.append_nil, setD, List.setIfInBounds_toArray, List.set_cons_zero, List.set_cons_succ, hv1, hv3, hv4, hv5, hv6, hv7, hv8]
  clear vals hv1 hv3 hv4 hv5 hv6 hv7 hv8
  refine wpPq_goL rfl rfl fun K' hK => ?_
  go_simp
  have HAN17 := Lib.hid (Ans3.make hB8 hr6)
  have hlt := HLB.out
  replace HW := Lib.hid (HW.out.st3 (r := b17) (by omega) (.bool n17) (.slice ao17 l17 c17) (.int .i64 x17))
  replace HPQ := Lib.hid (HPQ.out.st3 hB8 ⟨⟨by omega, by omega⟩, by omega, by omega⟩ (.bool n17) (.slice ao17 l17 c17) (.int .i64 x17))
  replace HAN13 := Lib.hid (HAN13.out.st3 hB8 (by omega) (.bool n17) (.slice ao17 l17 c17) (.int .i64 x17))
  replace HAN15 := Lib.hid (HAN15.out.st3 hB8 (by omega) (.bool n17) (.slice ao17 l17 c17) (.int .i64 x17))
  generalize (((B1.setCell ⟨b17, 0, none⟩ (.bool n17)).setCell ⟨b17, 1, none⟩ (.slice ao17 l17 c17)).setCell ⟨b17, 2, none⟩ (.int .i64 x17)) = V2 at HW HPQ HAN17 HAN13 HAN15 ⊢
  clear hlt hl8 hB8 y0 y1 y2 y3 y4 y5 HSZ HLB hr1 hr3 hr4 hr5 hr6
  have hm1 := True.intro
  refine hK _ _ HW.out.cells ?_
  clear hK K' hm1
  refine wpPq_nil ?_
  simp only [List.drop_succ_cons, List.drop_zero]
  try clear B1
  skip
  have HXP : Hid (two = 0 → x = true ∧ y = true) := by
    refine Lib.hid fun h => ?_
    have h2 := HE12.out.2
    rw [h] at h2
    cases x <;> cases y <;> simp at h2 ⊢
  obtain ⟨R4, hR4⟩ : ∃ r, -sgZ na Na = r := ⟨_, rfl⟩
  obtain ⟨C, hC⟩ : ∃ c, (if two = 0 then R2.sign else 0) = c := ⟨_, rfl⟩
  have HR4 := Lib.hid (And.intro hR4 hC)
  clear hR4 hC
  obtain ⟨⟨⟨⟨⟨x0, x1⟩, x2⟩, x3⟩, x4⟩, x5⟩ := HW.out.cells
  go_wp2_with fail
  refine (twin_in na e _ n Na _ (HA.out.1.below HW.out.2.2) HA.out.2).mono ?_
  rintro e7 w7 ⟨sl, rfl, hr, -, hb⟩
  obtain ⟨ao, c, rfl, -⟩ := id hr
  replace HW := Lib.hid (HW.out.later hb)
  replace HPQ := Lib.hid (HPQ.out.below hb)
  replace HAN13 := Lib.hid (HAN13.out.below hb)
  replace HAN15 := Lib.hid (HAN15.out.below hb)
  replace HAN17 := Lib.hid (HAN17.out.below hb)
  clear x0 x1 x2 x3 x4 x5 hb
  have HRN := Lib.hid hr
  clear hr
  unfold DyV
  go_wp2_with fail
  refine (dNeg_res _ na n Na e _ ⟨_, rfl, HRN.out, HA.out.2⟩ (HT.out.1.below HT.out.2.1 HW.out.2.2) (Nat.lt_of_lt_of_le HT.out.2.1 HW.out.2.2.size)).mono ?_
  rintro e8 w8 ⟨n19, ao19, l19, c19, x19, k19, rfl, hr8, hb⟩
  rw [HTW.out.2, HR4.out.1] at hr8
  replace HW := Lib.hid (HW.out.later hb)
  replace HPQ := Lib.hid (HPQ.out.below hb)
  replace HAN13 := Lib.hid (HAN13.out.below hb)
  replace HAN15 := Lib.hid (HAN15.out.below hb)
  replace HAN17 := Lib.hid (HAN17.out.below hb)
  replace HW := Lib.hid (HW.out.later (Below.alloc_self w8 (.cells #[.bool n19, .slice ao19 l19 c19, .int .i64 x19] 24)))
  replace HPQ := Lib.hid (HPQ.out.below (Below.alloc_self w8 (.cells #[.bool n19, .slice ao19 l19 c19, .int .i64 x19] 24)))
  replace HAN13 := Lib.hid (HAN13.out.below (Below.alloc_self w8 (.cells #[.bool n19, .slice ao19 l19 c19, .int .i64 x19] 24)))
  replace HAN15 := Lib.hid (HAN15.out.below (Below.alloc_self w8 (.cells #[.bool n19, .slice ao19 l19 c19, .int .i64 x19] 24)))
  replace HAN17 := Lib.hid (HAN17.out.below (Below.alloc_self w8 (.cells #[.bool n19, .slice ao19 l19 c19, .int .i64 x19] 24)))
  have HAN19 : Hid (Ans3 (w8.alloc (.cells #[.bool n19, .slice ao19 l19 c19, .int .i64 x19] 24)) w8.heap.size k19 one R4 e n19 ao19 l19 c19 x19) := Lib.hid ⟨BlkT.new w8 _ _, hr8.below (Below.alloc_self w8 _)⟩
  clear hr8 hb HRN
  go_wp2
  refine wp_region_pl (fun w' : World => ((((w'.cell? ⟨w.heap.size, 0, none⟩ = some (.bool na) ∧ w'.cell? ⟨w.heap.size, 1, none⟩ = some (.slice aa n ca)) ∧ w'.cell? ⟨w.heap.size, 2, none⟩ = some (.int .i64 e)) ∧ w'.cell? ⟨w.heap.size + 1, 0, none⟩ = some (.bool nb)) ∧ w'.cell? ⟨w.heap.size + 1, 1, none⟩ = some (.slice ab m cb)) ∧ w'.cell? ⟨w.heap.size + 1, 2, none⟩ = some (.int .i64 f)) 9 (.take 0 (.take 2 (.run 1 (.run 3 (.run 4 (.take 5 (.take 6 (.take 7 (.take 8 .nil))))))))) (by kernel_rfl) (by kernel_rfl) ?_
  replace HW := Lib.hid (HW.out.later (drew_below _))
  replace HPQ := Lib.hid (HPQ.out.below (drew_below _))
  replace HAN13 := Lib.hid (HAN13.out.below (drew_below _))
  replace HAN15 := Lib.hid (HAN15.out.below (drew_below _))
  replace HAN17 := Lib.hid (HAN17.out.below (drew_below _))
  replace HAN19 := Lib.hid (HAN19.out.below (drew_below _))
  generalize World.drew _ = W3 at HW HPQ HAN13 HAN15 HAN17 HAN19 ⊢
  generalize w8.heap.size = b19 at *
  have hS : (fun w' : World => ((((w'.cell? ⟨w.heap.size, 0, none⟩ = some (.bool na) ∧ w'.cell? ⟨w.heap.size, 1, none⟩ = some (.slice aa n ca)) ∧ w'.cell? ⟨w.heap.size, 2, none⟩ = some (.int .i64 e)) ∧ w'.cell? ⟨w.heap.size + 1, 0, none⟩ = some (.bool nb)) ∧ w'.cell? ⟨w.heap.size + 1, 1, none⟩ = some (.slice ab m cb)) ∧ w'.cell? ⟨w.heap.size + 1, 2, none⟩ = some (.int .i64 f)) W3 := HW.out.cells
  repeat (refine wpPl_takeL (v := ?_) rfl rfl (fun _ _ _ h => h) rfl (fun w' hSw => ?_) hS ?_; rotate_left; (focus (go_simp; with_reducible rfl)); simp only [List.setIfInBounds_toArray, List.set_cons_zero, List.set_cons_succ])
  clear hS
  refine wpPl_goL rfl rfl fun K' hK => ?_
  go_simp
  refine (twin_in na e _ n Na _ (HA.out.1.below HW.out.2.2) HA.out.2).mono ?_
  rintro e1 V1 ⟨sl, rfl, hr, -, hb1⟩
  obtain ⟨aoHTA, cHTA, rfl, -⟩ := id hr
  have HTA := Lib.hid hr
  clear hr
  unfold DyV
  replace HW := Lib.hid (HW.out.later hb1)
  replace HPQ := Lib.hid (HPQ.out.below hb1)
  replace HAN13 := Lib.hid (HAN13.out.below hb1)
  replace HAN15 := Lib.hid (HAN15.out.below hb1)
  replace HAN17 := Lib.hid (HAN17.out.below hb1)
  replace HAN19 := Lib.hid (HAN19.out.below hb1)
  refine hK _ _ HW.out.cells ?_
  clear hK K' hb1
  refine wpPl_goL rfl rfl fun K' hK => ?_
  go_simp
  refine (twin_in nb f _ m Nb _ (HB.out.1.below HW.out.2.2) HB.out.2).mono ?_
  rintro e1 V2 ⟨sl, rfl, hr, -, hb1⟩
  obtain ⟨aoHTB, cHTB, rfl, -⟩ := id hr
  have HTB := Lib.hid hr
  clear hr
  unfold DyV
  replace HW := Lib.hid (HW.out.later hb1)
  replace HPQ := Lib.hid (HPQ.out.below hb1)
  replace HAN13 := Lib.hid (HAN13.out.below hb1)
  replace HAN15 := Lib.hid (HAN15.out.below hb1)
  replace HAN17 := Lib.hid (HAN17.out.below hb1)
  replace HAN19 := Lib.hid (HAN19.out.below hb1)
  replace HTA := Lib.hid (HTA.out.below hb1)
  refine hK _ _ HW.out.cells ?_
  clear hK K' hb1
  refine wpPl_goL rfl rfl fun K' hK => ?_
  go_simp
  have HC := cmp_res _ _ na nb n m Na Nb e f V2 ⟨_, rfl, HTA.out, HA.out.2⟩ ⟨_, rfl, HTB.out, HB.out.2⟩
  rw [HTW.out.1, HRE.out.2.1.1, HR4.out.2] at HC
  unfold DyV at HC
  refine HC.mono ?_
  clear HC
  rintro e1 V3 ⟨rfl, hb1⟩
  replace HW := Lib.hid (HW.out.later hb1)
  replace HPQ := Lib.hid (HPQ.out.below hb1)
  replace HAN13 := Lib.hid (HAN13.out.below hb1)
  replace HAN15 := Lib.hid (HAN15.out.below hb1)
  replace HAN17 := Lib.hid (HAN17.out.below hb1)
  replace HAN19 := Lib.hid (HAN19.out.below hb1)
  replace HTA := Lib.hid (HTA.out.below hb1)
  replace HTB := Lib.hid (HTB.out.below hb1)
  refine hK _ _ HW.out.cells ?_
  clear hK K' hb1
  have hS : (fun w' : World => ((((w'.cell? ⟨w.heap.size, 0, none⟩ = some (.bool na) ∧ w'.cell? ⟨w.heap.size, 1, none⟩ = some (.slice aa n ca)) ∧ w'.cell? ⟨w.heap.size, 2, none⟩ = some (.int .i64 e)) ∧ w'.cell? ⟨w.heap.size + 1, 0, none⟩ = some (.bool nb)) ∧ w'.cell? ⟨w.heap.size + 1, 1, none⟩ = some (.slice ab m cb)) ∧ w'.cell? ⟨w.heap.size + 1, 2, none⟩ = some (.int .i64 f)) V3 := HW.out.cells
  repeat (refine wpPl_takeL (v := ?_) rfl rfl (fun _ _ _ h => h) rfl (fun w' hSw => ?_) hS ?_; rotate_left; (focus (go_simp; with_reducible rfl)); simp only [List.setIfInBounds_toArray, List.set_cons_zero, List.set_cons_succ])
  clear hS
  refine wpPl_nil ?_
  simp only [List.drop_succ_cons, List.drop_zero]
  clear HTA HTB
  go_upto_if 85 with fail
  go_cut [23] from 85 to 88 (fun s23 wx => s23 = .int .i64 C ∧ Hid (Below V3.heap.size V3 wx))
  case first =>
    by_cases h0 : two = 0
    · have hb0 : (two == 0) = true := by simpa using h0
      obtain ⟨hx, hy⟩ := HXP.out h0
      obtain ⟨⟨hz1, he1⟩, hbl1, hl1, hu1⟩ : (zp = sgZ na Na ∧ ep = e) ∧ bl zp.natAbs ≤ 65536 ∧ -100000 ≤ ep ∧ ep ≤ 100000 := ⟨HV1.out.1 hx, HV1.out.2⟩
      obtain ⟨⟨hz2, he2⟩, hbl2, hl2, hu2⟩ : (zq = sgZ nb Nb ∧ eq = f) ∧ bl zq.natAbs ≤ 65536 ∧ -100000 ≤ eq ∧ eq ≤ 100000 := ⟨HV2.out.1 hy, HV2.out.2⟩
      have HCM := Lib.hid (rCmpX_any q3 q4 zp ep zq eq V3 HPQ.out.2.1 HPQ.out.2.2 (Nat.le_trans hbl1 (by decide)) (Nat.le_trans hbl2 (by decide)) (by omega) (by omega) (by omega) (by omega))
      have HCC : Hid (C = (plZ zp ep (-zq) eq).sign) := Lib.hid (by rw [← HR4.out.2, if_pos h0, ← HRE.out.2.1.1, hz1, he1, hz2, he2])
      rw [← HCC.out] at HCM
      obtain ⟨p0, p1, p2, p3⟩ := HPQ.out.1.1.cells2
      obtain ⟨p4, p5, p6, p7⟩ := HPQ.out.1.2.cells2
      clear h0 hx hy hz1 he1 hbl1 hl1 hu1 hz2 he2 hbl2 hl2 hu2 HCC
      unfold ExV at HCM
      go_wp2_with fail
      refine HCM.out.mono ?_
      rintro e9 w9 ⟨rfl, hb9⟩
      go_wp2_with fail
      go_meet
      exact ⟨rfl, Lib.hid hb9⟩
    · have hb0 : (two == 0) = false := by simpa using h0
      have HCC : Hid (C = 0) := Lib.hid (by rw [← HR4.out.2, if_neg h0])
      clear h0
      go_wp2_with fail
      go_meet
      exact ⟨by rw [HCC.out], Lib.hid (Below.refl _ _)⟩
  case rest =>
  obtain ⟨rfl, HBW⟩ := hcut
  replace HW := Lib.hid (HW.out.later HBW.out)
  replace HPQ := Lib.hid (HPQ.out.below HBW.out)
  replace HAN13 := Lib.hid (HAN13.out.below HBW.out)
  replace HAN15 := Lib.hid (HAN15.out.below HBW.out)
  replace HAN17 := Lib.hid (HAN17.out.below HBW.out)
  replace HAN19 := Lib.hid (HAN19.out.below HBW.out)
  clear HBW
  obtain ⟨S1, hS1⟩ : ∃ s, plZ zp ep zq eq = s := ⟨_, rfl⟩
  obtain ⟨T1, hT1⟩ : ∃ s, plE zp ep zq eq = s := ⟨_, rfl⟩
  obtain ⟨S2, hS2⟩ : ∃ s, plZ zp ep (-zq) eq = s := ⟨_, rfl⟩
  obtain ⟨T2, hT2⟩ : ∃ s, plE zp ep (-zq) eq = s := ⟨_, rfl⟩
  obtain ⟨S3, hS3⟩ : ∃ s, zp * zq = s := ⟨_, rfl⟩
  obtain ⟨T3, hT3⟩ : ∃ s, ep + eq = s := ⟨_, rfl⟩
  have HS : Hid ((two = 0 → (S1 = R1 ∧ T1 = E1) ∧ (S2 = R2 ∧ T2 = E2) ∧ (S3 = R3 ∧ T3 = E3)) ∧ (one = 0 → -zp = R4 ∧ ep = e)) := by
    refine Lib.hid ⟨fun h => ?_, fun h => ?_⟩
    · obtain ⟨hx, hy⟩ := HXP.out h
      obtain ⟨hz1, he1⟩ := HV1.out.1 hx
      obtain ⟨hz2, he2⟩ := HV2.out.1 hy
      rw [← hS1, ← hT1, ← hS2, ← hT2, ← hS3, ← hT3, hz1, he1, hz2, he2]
      exact ⟨HRE.out.1, HRE.out.2.1, HRE.out.2.2⟩
    · have hx : x = true := by
        have h2 := HE12.out.1
        rw [h] at h2
        cases x <;> simp at h2 ⊢
      obtain ⟨hz1, he1⟩ := HV1.out.1 hx
      rw [hz1, he1]
      exact ⟨HR4.out.1, rfl⟩
  have HBD : Hid ((bl S1.natAbs ≤ 68719476736 ∧ -1099511627776 ≤ T1 ∧ T1 ≤ 1099511627776) ∧ (bl S2.natAbs ≤ 68719476736 ∧ -1099511627776 ≤ T2 ∧ T2 ≤ 1099511627776) ∧ (bl S3.natAbs ≤ 68719476736 ∧ -1099511627776 ≤ T3 ∧ T3 ≤ 1099511627776) ∧ (bl (-zp).natAbs ≤ 68719476736 ∧ -1099511627776 ≤ ep ∧ ep ≤ 1099511627776)) := by
    obtain ⟨-, a1, a2, a3⟩ := HV1.out
    obtain ⟨-, c1, c2, c3⟩ := HV2.out
    have d1 := bl_plZ (z := zp) (e := ep) (y := zq) (f := eq)
    have d2 := plE_bd (z := zp) (e := ep) (y := zq) (f := eq) a2 a3 c2 c3
    have d3 := bl_plZ (z := zp) (e := ep) (y := -zq) (f := eq)
    have d4 := plE_bd (z := zp) (e := ep) (y := -zq) (f := eq) a2 a3 c2 c3
    have d5 := bl_mul zp.natAbs zq.natAbs
    rw [← Int.natAbs_mul, hS3] at d5
    rw [Int.natAbs_neg] at d3
    rw [hS1] at d1
    rw [hT1] at d2
    rw [hS2] at d3
    rw [hT2] at d4
    refine Lib.hid ⟨⟨by omega, by omega, by omega⟩, ⟨by omega, by omega, by omega⟩, ⟨by omega, by omega, by omega⟩, by rw [Int.natAbs_neg]; omega, by omega, by omega⟩
  have HC : Hid ((∀ W : World, PQ W b11 b12 q3 q4 ep eq zp zq → Calls Tryz.prog 43 #[ExV q3 ep, ExV q4 eq] W (RxAny S1 T1 W)) ∧
      (∀ (W : World) (p : Nat), PQ W b11 b12 q3 q4 ep eq zp zq → RInt W p (-zq) → Calls Tryz.prog 43 #[ExV q3 ep, ExV p eq] W (RxAny S2 T2 W)) ∧
      (∀ W : World, PQ W b11 b12 q3 q4 ep eq zp zq → Calls Tryz.prog 45 #[ExV q3 ep, ExV q4 eq] W (RxNew S3 T3 W))) := by
    obtain ⟨-, a1, a2, a3⟩ := HV1.out
    obtain ⟨-, c1, c2, c3⟩ := HV2.out
    rw [← hS1, ← hT1, ← hS2, ← hT2, ← hS3, ← hT3]
    refine Lib.hid ⟨fun W h => ?_, fun W p h hp => ?_, fun W h => ?_⟩
    · exact rAddX_any q3 q4 zp ep zq eq W h.2.1 h.2.2 (Nat.le_trans a1 (by decide)) (Nat.le_trans c1 (by decide)) (by omega) (by omega) (by omega) (by omega)
    · exact rAddX_any q3 p zp ep (-zq) eq W h.2.1 hp (Nat.le_trans a1 (by decide)) (by rw [Int.natAbs_neg]; exact Nat.le_trans c1 (by decide)) (by omega) (by omega) (by omega) (by omega)
    · exact rMulX_any q3 q4 zp ep zq eq W h.2.1 h.2.2 (Nat.le_trans a1 (by decide)) (Nat.le_trans c1 (by decide)) (by omega) (by omega) (by omega) (by omega)
  clear hS1 hT1 hS2 hT2 hS3 hT3
  have hCC : (C == C) = true := by simp
  have hTT : (two == two) = true := by simp
  go_wp2
  refine wp_region_pl (fun w' : World => ((((((((((((((w'.cell? ⟨b13, 0, none⟩ = some (.bool n13) ∧ w'.cell? ⟨b13, 1, none⟩ = some (.slice ao13 l13 c13)) ∧ w'.cell? ⟨b13, 2, none⟩ = some (.int .i64 x13)) ∧ w'.cell? ⟨b15, 0, none⟩ = some (.bool n15)) ∧ w'.cell? ⟨b15, 1, none⟩ = some (.slice ao15 l15 c15)) ∧ w'.cell? ⟨b15, 2, none⟩ = some (.int .i64 x15)) ∧ w'.cell? ⟨b17, 0, none⟩ = some (.bool n17)) ∧ w'.cell? ⟨b17, 1, none⟩ = some (.slice ao17 l17 c17)) ∧ w'.cell? ⟨b17, 2, none⟩ = some (.int .i64 x17)) ∧ w'.cell? ⟨b19, 0, none⟩ = some (.bool n19)) ∧ w'.cell? ⟨b19, 1, none⟩ = some (.slice ao19 l19 c19)) ∧ w'.cell? ⟨b19, 2, none⟩ = some (.int .i64 x19)) ∧ w'.cell? ⟨b11, 0, none⟩ = some (.pointer (some ⟨q3, 0, none⟩))) ∧ w'.cell? ⟨b11, 1, none⟩ = some (.int .i64 ep)) ∧ w'.cell? ⟨b12, 0, none⟩ = some (.pointer (some ⟨q4, 0, none⟩))) ∧ w'.cell? ⟨b12, 1, none⟩ = some (.int .i64 eq)) 46 (.take 0 (.take 1 (.take 2 (.take 3 (.take 5 (.run 4 (.run 6 (.take 7 (.take 8 (.take 9 (.take 10 (.take 11 (.take 12 (.take 15 (.run 13 (.run 14 (.run 16 (.take 17 (.take 18 (.take 19 (.take 20 (.take 21 (.take 22 (.take 23 (.take 25 (.run 24 (.run 26 (.take 27 (.take 28 (.take 29 (.take 30 (.take 31 (.take 32 (.take 34 (.run 33 (.run 35 (.take 36 (.take 37 (.take 38 (.take 39 (.take 40 (.take 41 (.take 42 (.take 43 (.take 44 (.take 45 .nil)))))))))))))))))))))))))))))))))))))))))))))) (by kernel_rfl) (by kernel_rfl) ?_
  replace HW := Lib.hid (HW.out.later (drew_below _))
  replace HPQ := Lib.hid (HPQ.out.below (drew_below _))
  replace HAN13 := Lib.hid (HAN13.out.below (drew_below _))
  replace HAN15 := Lib.hid (HAN15.out.below (drew_below _))
  replace HAN17 := Lib.hid (HAN17.out.below (drew_below _))
  replace HAN19 := Lib.hid (HAN19.out.below (drew_below _))
  generalize World.drew _ = W5 at HW HPQ HAN13 HAN15 HAN17 HAN19 ⊢
  have hS : (fun w' : World => ((((((((((((((w'.cell? ⟨b13, 0, none⟩ = some (.bool n13) ∧ w'.cell? ⟨b13, 1, none⟩ = some (.slice ao13 l13 c13)) ∧ w'.cell? ⟨b13, 2, none⟩ = some (.int .i64 x13)) ∧ w'.cell? ⟨b15, 0, none⟩ = some (.bool n15)) ∧ w'.cell? ⟨b15, 1, none⟩ = some (.slice ao15 l15 c15)) ∧ w'.cell? ⟨b15, 2, none⟩ = some (.int .i64 x15)) ∧ w'.cell? ⟨b17, 0, none⟩ = some (.bool n17)) ∧ w'.cell? ⟨b17, 1, none⟩ = some (.slice ao17 l17 c17)) ∧ w'.cell? ⟨b17, 2, none⟩ = some (.int .i64 x17)) ∧ w'.cell? ⟨b19, 0, none⟩ = some (.bool n19)) ∧ w'.cell? ⟨b19, 1, none⟩ = some (.slice ao19 l19 c19)) ∧ w'.cell? ⟨b19, 2, none⟩ = some (.int .i64 x19)) ∧ w'.cell? ⟨b11, 0, none⟩ = some (.pointer (some ⟨q3, 0, none⟩))) ∧ w'.cell? ⟨b11, 1, none⟩ = some (.int .i64 ep)) ∧ w'.cell? ⟨b12, 0, none⟩ = some (.pointer (some ⟨q4, 0, none⟩))) ∧ w'.cell? ⟨b12, 1, none⟩ = some (.int .i64 eq)) W5 := ⟨⟨⟨⟨⟨⟨⟨⟨⟨⟨⟨⟨⟨⟨⟨HAN13.out.1.cell 0, HAN13.out.1.cell 1⟩, HAN13.out.1.cell 2⟩, HAN15.out.1.cell 0⟩, HAN15.out.1.cell 1⟩, HAN15.out.1.cell 2⟩, HAN17.out.1.cell 0⟩, HAN17.out.1.cell 1⟩, HAN17.out.1.cell 2⟩, HAN19.out.1.cell 0⟩, HAN19.out.1.cell 1⟩, HAN19.out.1.cell 2⟩, HPQ.out.1.1.cell 0⟩, HPQ.out.1.1.cell 1⟩, HPQ.out.1.2.cell 0⟩, HPQ.out.1.2.cell 1⟩
  repeat (refine wpPl_takeL (v := ?_) rfl rfl (fun _ _ _ h => h) rfl (fun w' hSw => ?_) hS ?_; rotate_left; (focus (go_simp; with_reducible rfl)); simp only [List.setIfInBounds_toArray, List.set_cons_zero, List.set_cons_succ])
  clear hS
  refine wpPl_goL rfl rfl fun K' hK => ?_
  go_simp
  refine (HC.out.1 _ HPQ.out).mono ?_
  rintro e1 V1 ⟨p1, rfl, hi, hb1⟩
  have HX1 : Hid (XIs two R1 E1 V1 p1 T1) := Lib.hid fun h => by obtain ⟨h1, h2⟩ := (HS.out.1 h).1; rw [← h1, ← h2]; exact ⟨hi, rfl, HBD.out.1⟩
  clear hi
  unfold ExV
  replace HW := Lib.hid (HW.out.later hb1)
  replace HPQ := Lib.hid (HPQ.out.below hb1)
  replace HAN13 := Lib.hid (HAN13.out.below hb1)
  replace HAN15 := Lib.hid (HAN15.out.below hb1)
  replace HAN17 := Lib.hid (HAN17.out.below hb1)
  replace HAN19 := Lib.hid (HAN19.out.below hb1)
  refine hK _ _ ⟨⟨⟨⟨⟨⟨⟨⟨⟨⟨⟨⟨⟨⟨⟨HAN13.out.1.cell 0, HAN13.out.1.cell 1⟩, HAN13.out.1.cell 2⟩, HAN15.out.1.cell 0⟩, HAN15.out.1.cell 1⟩, HAN15.out.1.cell 2⟩, HAN17.out.1.cell 0⟩, HAN17.out.1.cell 1⟩, HAN17.out.1.cell 2⟩, HAN19.out.1.cell 0⟩, HAN19.out.1.cell 1⟩, HAN19.out.1.cell 2⟩, HPQ.out.1.1.cell 0⟩, HPQ.out.1.1.cell 1⟩, HPQ.out.1.2.cell 0⟩, HPQ.out.1.2.cell 1⟩ ?_
  clear hK K' hb1
  refine wpPl_goL rfl rfl fun K' hK => ?_
  go_simp
  refine (rIs_all two R1 E1 _ K1 p1 T1 _ HAN13.out.2 HX1.out (HT.out.2.2.1.below HT.out.2.2.2 HW.out.2.2) (Nat.lt_of_lt_of_le HT.out.2.2.2 HW.out.2.2.size)).mono ?_
  rintro e1 V2 ⟨rfl, hb1⟩
  replace HW := Lib.hid (HW.out.later hb1)
  replace HPQ := Lib.hid (HPQ.out.below hb1)
  replace HAN13 := Lib.hid (HAN13.out.below hb1)
  replace HAN15 := Lib.hid (HAN15.out.below hb1)
  replace HAN17 := Lib.hid (HAN17.out.below hb1)
  replace HAN19 := Lib.hid (HAN19.out.below hb1)
  replace HX1 := Lib.hid (HX1.out.later hb1)
  refine hK _ _ ⟨⟨⟨⟨⟨⟨⟨⟨⟨⟨⟨⟨⟨⟨⟨HAN13.out.1.cell 0, HAN13.out.1.cell 1⟩, HAN13.out.1.cell 2⟩, HAN15.out.1.cell 0⟩, HAN15.out.1.cell 1⟩, HAN15.out.1.cell 2⟩, HAN17.out.1.cell 0⟩, HAN17.out.1.cell 1⟩, HAN17.out.1.cell 2⟩, HAN19.out.1.cell 0⟩, HAN19.out.1.cell 1⟩, HAN19.out.1.cell 2⟩, HPQ.out.1.1.cell 0⟩, HPQ.out.1.1.cell 1⟩, HPQ.out.1.2.cell 0⟩, HPQ.out.1.2.cell 1⟩ ?_
  clear hK K' hb1
  have hS : (fun w' : World => ((((((((((((((w'.cell? ⟨b13, 0, none⟩ = some (.bool n13) ∧ w'.cell? ⟨b13, 1, none⟩ = some (.slice ao13 l13 c13)) ∧ w'.cell? ⟨b13, 2, none⟩ = some (.int .i64 x13)) ∧ w'.cell? ⟨b15, 0, none⟩ = some (.bool n15)) ∧ w'.cell? ⟨b15, 1, none⟩ = some (.slice ao15 l15 c15)) ∧ w'.cell? ⟨b15, 2, none⟩ = some (.int .i64 x15)) ∧ w'.cell? ⟨b17, 0, none⟩ = some (.bool n17)) ∧ w'.cell? ⟨b17, 1, none⟩ = some (.slice ao17 l17 c17)) ∧ w'.cell? ⟨b17, 2, none⟩ = some (.int .i64 x17)) ∧ w'.cell? ⟨b19, 0, none⟩ = some (.bool n19)) ∧ w'.cell? ⟨b19, 1, none⟩ = some (.slice ao19 l19 c19)) ∧ w'.cell? ⟨b19, 2, none⟩ = some (.int .i64 x19)) ∧ w'.cell? ⟨b11, 0, none⟩ = some (.pointer (some ⟨q3, 0, none⟩))) ∧ w'.cell? ⟨b11, 1, none⟩ = some (.int .i64 ep)) ∧ w'.cell? ⟨b12, 0, none⟩ = some (.pointer (some ⟨q4, 0, none⟩))) ∧ w'.cell? ⟨b12, 1, none⟩ = some (.int .i64 eq)) V2 := ⟨⟨⟨⟨⟨⟨⟨⟨⟨⟨⟨⟨⟨⟨⟨HAN13.out.1.cell 0, HAN13.out.1.cell 1⟩, HAN13.out.1.cell 2⟩, HAN15.out.1.cell 0⟩, HAN15.out.1.cell 1⟩, HAN15.out.1.cell 2⟩, HAN17.out.1.cell 0⟩, HAN17.out.1.cell 1⟩, HAN17.out.1.cell 2⟩, HAN19.out.1.cell 0⟩, HAN19.out.1.cell 1⟩, HAN19.out.1.cell 2⟩, HPQ.out.1.1.cell 0⟩, HPQ.out.1.1.cell 1⟩, HPQ.out.1.2.cell 0⟩, HPQ.out.1.2.cell 1⟩
  repeat (refine wpPl_takeL (v := ?_) rfl rfl (fun _ _ _ h => h) rfl (fun w' hSw => ?_) hS ?_; rotate_left; (focus (go_simp; with_reducible rfl)); simp only [List.setIfInBounds_toArray, List.set_cons_zero, List.set_cons_succ])
  clear hS
  refine wpPl_goL rfl rfl fun K' hK => ?_
  go_simp
  refine (rNegX_any q4 zq eq _ HPQ.out.2.2).mono ?_
  rintro e1 V3 ⟨p2, rfl, -, hi, hb1⟩
  have HI2 := Lib.hid hi
  clear hi
  unfold ExV
  replace HW := Lib.hid (HW.out.later hb1)
  replace HPQ := Lib.hid (HPQ.out.below hb1)
  replace HAN13 := Lib.hid (HAN13.out.below hb1)
  replace HAN15 := Lib.hid (HAN15.out.below hb1)
  replace HAN17 := Lib.hid (HAN17.out.below hb1)
  replace HAN19 := Lib.hid (HAN19.out.below hb1)
  replace HX1 := Lib.hid (HX1.out.later hb1)
  refine hK _ _ ⟨⟨⟨⟨⟨⟨⟨⟨⟨⟨⟨⟨⟨⟨⟨HAN13.out.1.cell 0, HAN13.out.1.cell 1⟩, HAN13.out.1.cell 2⟩, HAN15.out.1.cell 0⟩, HAN15.out.1.cell 1⟩, HAN15.out.1.cell 2⟩, HAN17.out.1.cell 0⟩, HAN17.out.1.cell 1⟩, HAN17.out.1.cell 2⟩, HAN19.out.1.cell 0⟩, HAN19.out.1.cell 1⟩, HAN19.out.1.cell 2⟩, HPQ.out.1.1.cell 0⟩, HPQ.out.1.1.cell 1⟩, HPQ.out.1.2.cell 0⟩, HPQ.out.1.2.cell 1⟩ ?_
  clear hK K' hb1
  refine wpPl_goL rfl rfl fun K' hK => ?_
  go_simp
  refine (HC.out.2.1 _ p2 HPQ.out HI2.out).mono ?_
  rintro e1 V4 ⟨p3, rfl, hi, hb1⟩
  have HX2 : Hid (XIs two R2 E2 V4 p3 T2) := Lib.hid fun h => by obtain ⟨h1, h2⟩ := (HS.out.1 h).2.1; rw [← h1, ← h2]; exact ⟨hi, rfl, HBD.out.2.1⟩
  clear hi
  unfold ExV
  replace HW := Lib.hid (HW.out.later hb1)
  replace HPQ := Lib.hid (HPQ.out.below hb1)
  replace HAN13 := Lib.hid (HAN13.out.below hb1)
  replace HAN15 := Lib.hid (HAN15.out.below hb1)
  replace HAN17 := Lib.hid (HAN17.out.below hb1)
  replace HAN19 := Lib.hid (HAN19.out.below hb1)
  replace HX1 := Lib.hid (HX1.out.later hb1)
  replace HI2 := Lib.hid (HI2.out.below hb1)
  refine hK _ _ ⟨⟨⟨⟨⟨⟨⟨⟨⟨⟨⟨⟨⟨⟨⟨HAN13.out.1.cell 0, HAN13.out.1.cell 1⟩, HAN13.out.1.cell 2⟩, HAN15.out.1.cell 0⟩, HAN15.out.1.cell 1⟩, HAN15.out.1.cell 2⟩, HAN17.out.1.cell 0⟩, HAN17.out.1.cell 1⟩, HAN17.out.1.cell 2⟩, HAN19.out.1.cell 0⟩, HAN19.out.1.cell 1⟩, HAN19.out.1.cell 2⟩, HPQ.out.1.1.cell 0⟩, HPQ.out.1.1.cell 1⟩, HPQ.out.1.2.cell 0⟩, HPQ.out.1.2.cell 1⟩ ?_
  clear hK K' hb1
  refine wpPl_goL rfl rfl fun K' hK => ?_
  go_simp
  refine (rIs_all two R2 E2 _ K2 p3 T2 _ HAN15.out.2 HX2.out (HT.out.2.2.1.below HT.out.2.2.2 HW.out.2.2) (Nat.lt_of_lt_of_le HT.out.2.2.2 HW.out.2.2.size)).mono ?_
  rintro e1 V5 ⟨rfl, hb1⟩
  replace HW := Lib.hid (HW.out.later hb1)
  replace HPQ := Lib.hid (HPQ.out.below hb1)
  replace HAN13 := Lib.hid (HAN13.out.below hb1)
  replace HAN15 := Lib.hid (HAN15.out.below hb1)
  replace HAN17 := Lib.hid (HAN17.out.below hb1)
  replace HAN19 := Lib.hid (HAN19.out.below hb1)
  replace HX1 := Lib.hid (HX1.out.later hb1)
  replace HI2 := Lib.hid (HI2.out.below hb1)
  replace HX2 := Lib.hid (HX2.out.later hb1)
  refine hK _ _ ⟨⟨⟨⟨⟨⟨⟨⟨⟨⟨⟨⟨⟨⟨⟨HAN13.out.1.cell 0, HAN13.out.1.cell 1⟩, HAN13.out.1.cell 2⟩, HAN15.out.1.cell 0⟩, HAN15.out.1.cell 1⟩, HAN15.out.1.cell 2⟩, HAN17.out.1.cell 0⟩, HAN17.out.1.cell 1⟩, HAN17.out.1.cell 2⟩, HAN19.out.1.cell 0⟩, HAN19.out.1.cell 1⟩, HAN19.out.1.cell 2⟩, HPQ.out.1.1.cell 0⟩, HPQ.out.1.1.cell 1⟩, HPQ.out.1.2.cell 0⟩, HPQ.out.1.2.cell 1⟩ ?_
  clear hK K' hb1
  have hS : (fun w' : World => ((((((((((((((w'.cell? ⟨b13, 0, none⟩ = some (.bool n13) ∧ w'.cell? ⟨b13, 1, none⟩ = some (.slice ao13 l13 c13)) ∧ w'.cell? ⟨b13, 2, none⟩ = some (.int .i64 x13)) ∧ w'.cell? ⟨b15, 0, none⟩ = some (.bool n15)) ∧ w'.cell? ⟨b15, 1, none⟩ = some (.slice ao15 l15 c15)) ∧ w'.cell? ⟨b15, 2, none⟩ = some (.int .i64 x15)) ∧ w'.cell? ⟨b17, 0, none⟩ = some (.bool n17)) ∧ w'.cell? ⟨b17, 1, none⟩ = some (.slice ao17 l17 c17)) ∧ w'.cell? ⟨b17, 2, none⟩ = some (.int .i64 x17)) ∧ w'.cell? ⟨b19, 0, none⟩ = some (.bool n19)) ∧ w'.cell? ⟨b19, 1, none⟩ = some (.slice ao19 l19 c19)) ∧ w'.cell? ⟨b19, 2, none⟩ = some (.int .i64 x19)) ∧ w'.cell? ⟨b11, 0, none⟩ = some (.pointer (some ⟨q3, 0, none⟩))) ∧ w'.cell? ⟨b11, 1, none⟩ = some (.int .i64 ep)) ∧ w'.cell? ⟨b12, 0, none⟩ = some (.pointer (some ⟨q4, 0, none⟩))) ∧ w'.cell? ⟨b12, 1, none⟩ = some (.int .i64 eq)) V5 := ⟨⟨⟨⟨⟨⟨⟨⟨⟨⟨⟨⟨⟨⟨⟨HAN13.out.1.cell 0, HAN13.out.1.cell 1⟩, HAN13.out.1.cell 2⟩, HAN15.out.1.cell 0⟩, HAN15.out.1.cell 1⟩, HAN15.out.1.cell 2⟩, HAN17.out.1.cell 0⟩, HAN17.out.1.cell 1⟩, HAN17.out.1.cell 2⟩, HAN19.out.1.cell 0⟩, HAN19.out.1.cell 1⟩, HAN19.out.1.cell 2⟩, HPQ.out.1.1.cell 0⟩, HPQ.out.1.1.cell 1⟩, HPQ.out.1.2.cell 0⟩, HPQ.out.1.2.cell 1⟩
  repeat (refine wpPl_takeL (v := ?_) rfl rfl (fun _ _ _ h => h) rfl (fun w' hSw => ?_) hS ?_; rotate_left; (focus (go_simp; with_reducible rfl)); simp only [List.setIfInBounds_toArray, List.set_cons_zero, List.set_cons_succ])
  clear hS
  refine wpPl_goL rfl rfl fun K' hK => ?_
  go_simp
  refine (HC.out.2.2 _ HPQ.out).mono ?_
  rintro e1 V6 ⟨p4, rfl, -, hi, hb1⟩
  have HX3 : Hid (XIs two R3 E3 V6 p4 T3) := Lib.hid fun h => by obtain ⟨h1, h2⟩ := (HS.out.1 h).2.2; rw [← h1, ← h2]; exact ⟨hi, rfl, HBD.out.2.2.1⟩
  clear hi
  unfold ExV
  replace HW := Lib.hid (HW.out.later hb1)
  replace HPQ := Lib.hid (HPQ.out.below hb1)
  replace HAN13 := Lib.hid (HAN13.out.below hb1)
  replace HAN15 := Lib.hid (HAN15.out.below hb1)
  replace HAN17 := Lib.hid (HAN17.out.below hb1)
  replace HAN19 := Lib.hid (HAN19.out.below hb1)
  replace HX1 := Lib.hid (HX1.out.later hb1)
  replace HI2 := Lib.hid (HI2.out.below hb1)
  replace HX2 := Lib.hid (HX2.out.later hb1)
  refine hK _ _ ⟨⟨⟨⟨⟨⟨⟨⟨⟨⟨⟨⟨⟨⟨⟨HAN13.out.1.cell 0, HAN13.out.1.cell 1⟩, HAN13.out.1.cell 2⟩, HAN15.out.1.cell 0⟩, HAN15.out.1.cell 1⟩, HAN15.out.1.cell 2⟩, HAN17.out.1.cell 0⟩, HAN17.out.1.cell 1⟩, HAN17.out.1.cell 2⟩, HAN19.out.1.cell 0⟩, HAN19.out.1.cell 1⟩, HAN19.out.1.cell 2⟩, HPQ.out.1.1.cell 0⟩, HPQ.out.1.1.cell 1⟩, HPQ.out.1.2.cell 0⟩, HPQ.out.1.2.cell 1⟩ ?_
  clear hK K' hb1
  refine wpPl_goL rfl rfl fun K' hK => ?_
  go_simp
  refine (rIs_all two R3 E3 _ K3 p4 T3 _ HAN17.out.2 HX3.out (HT.out.2.2.1.below HT.out.2.2.2 HW.out.2.2) (Nat.lt_of_lt_of_le HT.out.2.2.2 HW.out.2.2.size)).mono ?_
  rintro e1 V7 ⟨rfl, hb1⟩
  replace HW := Lib.hid (HW.out.later hb1)
  replace HPQ := Lib.hid (HPQ.out.below hb1)
  replace HAN13 := Lib.hid (HAN13.out.below hb1)
  replace HAN15 := Lib.hid (HAN15.out.below hb1)
  replace HAN17 := Lib.hid (HAN17.out.below hb1)
  replace HAN19 := Lib.hid (HAN19.out.below hb1)
  replace HX1 := Lib.hid (HX1.out.later hb1)
  replace HI2 := Lib.hid (HI2.out.below hb1)
  replace HX2 := Lib.hid (HX2.out.later hb1)
  replace HX3 := Lib.hid (HX3.out.later hb1)
  refine hK _ _ ⟨⟨⟨⟨⟨⟨⟨⟨⟨⟨⟨⟨⟨⟨⟨HAN13.out.1.cell 0, HAN13.out.1.cell 1⟩, HAN13.out.1.cell 2⟩, HAN15.out.1.cell 0⟩, HAN15.out.1.cell 1⟩, HAN15.out.1.cell 2⟩, HAN17.out.1.cell 0⟩, HAN17.out.1.cell 1⟩, HAN17.out.1.cell 2⟩, HAN19.out.1.cell 0⟩, HAN19.out.1.cell 1⟩, HAN19.out.1.cell 2⟩, HPQ.out.1.1.cell 0⟩, HPQ.out.1.1.cell 1⟩, HPQ.out.1.2.cell 0⟩, HPQ.out.1.2.cell 1⟩ ?_
  clear hK K' hb1
  have hS : (fun w' : World => ((((((((((((((w'.cell? ⟨b13, 0, none⟩ = some (.bool n13) ∧ w'.cell? ⟨b13, 1, none⟩ = some (.slice ao13 l13 c13)) ∧ w'.cell? ⟨b13, 2, none⟩ = some (.int .i64 x13)) ∧ w'.cell? ⟨b15, 0, none⟩ = some (.bool n15)) ∧ w'.cell? ⟨b15, 1, none⟩ = some (.slice ao15 l15 c15)) ∧ w'.cell? ⟨b15, 2, none⟩ = some (.int .i64 x15)) ∧ w'.cell? ⟨b17, 0, none⟩ = some (.bool n17)) ∧ w'.cell? ⟨b17, 1, none⟩ = some (.slice ao17 l17 c17)) ∧ w'.cell? ⟨b17, 2, none⟩ = some (.int .i64 x17)) ∧ w'.cell? ⟨b19, 0, none⟩ = some (.bool n19)) ∧ w'.cell? ⟨b19, 1, none⟩ = some (.slice ao19 l19 c19)) ∧ w'.cell? ⟨b19, 2, none⟩ = some (.int .i64 x19)) ∧ w'.cell? ⟨b11, 0, none⟩ = some (.pointer (some ⟨q3, 0, none⟩))) ∧ w'.cell? ⟨b11, 1, none⟩ = some (.int .i64 ep)) ∧ w'.cell? ⟨b12, 0, none⟩ = some (.pointer (some ⟨q4, 0, none⟩))) ∧ w'.cell? ⟨b12, 1, none⟩ = some (.int .i64 eq)) V7 := ⟨⟨⟨⟨⟨⟨⟨⟨⟨⟨⟨⟨⟨⟨⟨HAN13.out.1.cell 0, HAN13.out.1.cell 1⟩, HAN13.out.1.cell 2⟩, HAN15.out.1.cell 0⟩, HAN15.out.1.cell 1⟩, HAN15.out.1.cell 2⟩, HAN17.out.1.cell 0⟩, HAN17.out.1.cell 1⟩, HAN17.out.1.cell 2⟩, HAN19.out.1.cell 0⟩, HAN19.out.1.cell 1⟩, HAN19.out.1.cell 2⟩, HPQ.out.1.1.cell 0⟩, HPQ.out.1.1.cell 1⟩, HPQ.out.1.2.cell 0⟩, HPQ.out.1.2.cell 1⟩
  repeat (refine wpPl_takeL (v := ?_) rfl rfl (fun _ _ _ h => h) rfl (fun w' hSw => ?_) hS ?_; rotate_left; (focus (go_simp; with_reducible rfl)); simp only [List.setIfInBounds_toArray, List.set_cons_zero, List.set_cons_succ])
  clear hS
  refine wpPl_goL rfl rfl fun K' hK => ?_
  go_simp
  refine (rNegX_any q3 zp ep _ HPQ.out.2.1).mono ?_
  rintro e1 V8 ⟨p5, rfl, -, hi, hb1⟩
  have HX4 : Hid (XIs one R4 e V8 p5 ep) := Lib.hid fun h => by obtain ⟨h1, h2⟩ := HS.out.2 h; rw [← h1, ← h2]; exact ⟨hi, rfl, HBD.out.2.2.2⟩
  clear hi
  unfold ExV
  replace HW := Lib.hid (HW.out.later hb1)
  replace HPQ := Lib.hid (HPQ.out.below hb1)
  replace HAN13 := Lib.hid (HAN13.out.below hb1)
  replace HAN15 := Lib.hid (HAN15.out.below hb1)
  replace HAN17 := Lib.hid (HAN17.out.below hb1)
  replace HAN19 := Lib.hid (HAN19.out.below hb1)
  replace HX1 := Lib.hid (HX1.out.later hb1)
  replace HI2 := Lib.hid (HI2.out.below hb1)
  replace HX2 := Lib.hid (HX2.out.later hb1)
  replace HX3 := Lib.hid (HX3.out.later hb1)
  refine hK _ _ ⟨⟨⟨⟨⟨⟨⟨⟨⟨⟨⟨⟨⟨⟨⟨HAN13.out.1.cell 0, HAN13.out.1.cell 1⟩, HAN13.out.1.cell 2⟩, HAN15.out.1.cell 0⟩, HAN15.out.1.cell 1⟩, HAN15.out.1.cell 2⟩, HAN17.out.1.cell 0⟩, HAN17.out.1.cell 1⟩, HAN17.out.1.cell 2⟩, HAN19.out.1.cell 0⟩, HAN19.out.1.cell 1⟩, HAN19.out.1.cell 2⟩, HPQ.out.1.1.cell 0⟩, HPQ.out.1.1.cell 1⟩, HPQ.out.1.2.cell 0⟩, HPQ.out.1.2.cell 1⟩ ?_
  clear hK K' hb1
  refine wpPl_goL rfl rfl fun K' hK => ?_
  go_simp
  refine (rIs_all one R4 e _ k19 p5 ep _ HAN19.out.2 HX4.out (HT.out.2.2.1.below HT.out.2.2.2 HW.out.2.2) (Nat.lt_of_lt_of_le HT.out.2.2.2 HW.out.2.2.size)).mono ?_
  rintro e1 V9 ⟨rfl, hb1⟩
  replace HW := Lib.hid (HW.out.later hb1)
  replace HPQ := Lib.hid (HPQ.out.below hb1)
  replace HAN13 := Lib.hid (HAN13.out.below hb1)
  replace HAN15 := Lib.hid (HAN15.out.below hb1)
  replace HAN17 := Lib.hid (HAN17.out.below hb1)
  replace HAN19 := Lib.hid (HAN19.out.below hb1)
  replace HX1 := Lib.hid (HX1.out.later hb1)
  replace HI2 := Lib.hid (HI2.out.below hb1)
  replace HX2 := Lib.hid (HX2.out.later hb1)
  replace HX3 := Lib.hid (HX3.out.later hb1)
  replace HX4 := Lib.hid (HX4.out.later hb1)
  refine hK _ _ ⟨⟨⟨⟨⟨⟨⟨⟨⟨⟨⟨⟨⟨⟨⟨HAN13.out.1.cell 0, HAN13.out.1.cell 1⟩, HAN13.out.1.cell 2⟩, HAN15.out.1.cell 0⟩, HAN15.out.1.cell 1⟩, HAN15.out.1.cell 2⟩, HAN17.out.1.cell 0⟩, HAN17.out.1.cell 1⟩, HAN17.out.1.cell 2⟩, HAN19.out.1.cell 0⟩, HAN19.out.1.cell 1⟩, HAN19.out.1.cell 2⟩, HPQ.out.1.1.cell 0⟩, HPQ.out.1.1.cell 1⟩, HPQ.out.1.2.cell 0⟩, HPQ.out.1.2.cell 1⟩ ?_
  clear hK K' hb1
  have hS : (fun w' : World => ((((((((((((((w'.cell? ⟨b13, 0, none⟩ = some (.bool n13) ∧ w'.cell? ⟨b13, 1, none⟩ = some (.slice ao13 l13 c13)) ∧ w'.cell? ⟨b13, 2, none⟩ = some (.int .i64 x13)) ∧ w'.cell? ⟨b15, 0, none⟩ = some (.bool n15)) ∧ w'.cell? ⟨b15, 1, none⟩ = some (.slice ao15 l15 c15)) ∧ w'.cell? ⟨b15, 2, none⟩ = some (.int .i64 x15)) ∧ w'.cell? ⟨b17, 0, none⟩ = some (.bool n17)) ∧ w'.cell? ⟨b17, 1, none⟩ = some (.slice ao17 l17 c17)) ∧ w'.cell? ⟨b17, 2, none⟩ = some (.int .i64 x17)) ∧ w'.cell? ⟨b19, 0, none⟩ = some (.bool n19)) ∧ w'.cell? ⟨b19, 1, none⟩ = some (.slice ao19 l19 c19)) ∧ w'.cell? ⟨b19, 2, none⟩ = some (.int .i64 x19)) ∧ w'.cell? ⟨b11, 0, none⟩ = some (.pointer (some ⟨q3, 0, none⟩))) ∧ w'.cell? ⟨b11, 1, none⟩ = some (.int .i64 ep)) ∧ w'.cell? ⟨b12, 0, none⟩ = some (.pointer (some ⟨q4, 0, none⟩))) ∧ w'.cell? ⟨b12, 1, none⟩ = some (.int .i64 eq)) V9 := ⟨⟨⟨⟨⟨⟨⟨⟨⟨⟨⟨⟨⟨⟨⟨HAN13.out.1.cell 0, HAN13.out.1.cell 1⟩, HAN13.out.1.cell 2⟩, HAN15.out.1.cell 0⟩, HAN15.out.1.cell 1⟩, HAN15.out.1.cell 2⟩, HAN17.out.1.cell 0⟩, HAN17.out.1.cell 1⟩, HAN17.out.1.cell 2⟩, HAN19.out.1.cell 0⟩, HAN19.out.1.cell 1⟩, HAN19.out.1.cell 2⟩, HPQ.out.1.1.cell 0⟩, HPQ.out.1.1.cell 1⟩, HPQ.out.1.2.cell 0⟩, HPQ.out.1.2.cell 1⟩
  repeat (refine wpPl_takeL (v := ?_) rfl rfl (fun _ _ _ h => h) rfl (fun w' hSw => ?_) hS ?_; rotate_left; (focus (go_simp; with_reducible rfl)); simp only [List.setIfInBounds_toArray, List.set_cons_zero, List.set_cons_succ])
  clear hS
  refine wpPl_nil ?_
  simp only [List.drop_succ_cons, List.drop_zero]
  clear HX1 HX2 HX3 HX4 HI2 HAN13 HAN15 HAN17 HAN19
  obtain ⟨⟨⟨⟨⟨x0, x1⟩, x2⟩, x3⟩, x4⟩, x5⟩ := HW.out.cells
  go_wp2_with fail
  refine (twin_in na e _ n Na _ (HA.out.1.below HW.out.2.2) HA.out.2).mono ?_
  rintro e7 w12 ⟨sl, rfl, hr, -, hb⟩
  obtain ⟨ao, c, rfl, -⟩ := id hr
  replace HW := Lib.hid (HW.out.later hb)
  replace HPQ := Lib.hid (HPQ.out.below hb)
  clear x0 x1 x2 x3 x4 x5 hb
  have HRN := Lib.hid hr
  clear hr
  unfold DyV
  go_wp2_with fail
  refine (dShift_res _ na n Na e k _ ⟨_, rfl, HRN.out, HA.out.2⟩ (HT.out.1.below HT.out.2.1 HW.out.2.2) (Nat.lt_of_lt_of_le HT.out.2.1 HW.out.2.2.size)).mono ?_
  rintro e8 w13 ⟨n24, ao24, l24, c24, x24, k24, rfl, hr8, hb⟩
  rw [HTW.out.2] at hr8
  replace HW := Lib.hid (HW.out.later hb)
  replace HPQ := Lib.hid (HPQ.out.below hb)
  have HL24 := Lib.hid HPQ.out.lt.1.1
  replace HW := Lib.hid (HW.out.later (Below.alloc_self w13 (.cells #[.bool n24, .slice ao24 l24 c24, .int .i64 x24] 24)))
  replace HPQ := Lib.hid (HPQ.out.below (Below.alloc_self w13 (.cells #[.bool n24, .slice ao24 l24 c24, .int .i64 x24] 24)))
  have HAN24 : Hid (Ans3 (w13.alloc (.cells #[.bool n24, .slice ao24 l24 c24, .int .i64 x24] 24)) w13.heap.size k24 one (sgZ na Na) (e + shN k) n24 ao24 l24 c24 x24) := Lib.hid ⟨BlkT.new w13 _ _, hr8.below (Below.alloc_self w13 _)⟩
  clear hr8 hb HRN hCC hTT HC HBD HKK HRE HXP
  go_upto_region 23 with fail
  generalize w13.alloc (.cells #[.bool n24, .slice ao24 l24 c24, .int .i64 x24] 24) = W13 at HW HPQ HAN24 ⊢
  generalize w13.heap.size = b24 at HL24 HAN24 ⊢
  by_cases h0 : one = 0
  · have hb0 : (one == 0) = true := by simpa using h0
    have HX0 : Hid (zp = sgZ na Na ∧ ep = e ∧ GoodD (sgZ na Na) e) := by
      have hx : x = true := by
        have h2 := HE12.out.1
        rw [h0] at h2
        cases x <;> simp at h2 ⊢
      exact Lib.hid ⟨(HV1.out.1 hx).1, (HV1.out.1 hx).2, HRA.out.good (HXY.out.1.trans hx)⟩
    have H0 := Lib.hid h0
    clear h0
    obtain ⟨y0, y1, y2, y3, y4, y5⟩ := HAN24.out.1.cells3
    obtain ⟨t0, t1, t2, t3⟩ := HPQ.out.1.1.cells2
    by_cases hz : zp = 0
    · have HZS : Hid (zp.sign = 0) := Lib.hid (by rw [hz]; rfl)
      have HRS : Hid (ResIs one (sgZ na Na) e W13 (.agg #[.bool n24, .slice ao24 l24 c24, .int .i64 x24]) k24) := by
        have h1 := HAN24.out.2
        have h2 : sgZ na Na = 0 := HX0.out.1.symm.trans hz
        rw [h2] at h1 ⊢
        exact Lib.hid h1.zero_any
      have HXI : Hid (XIs one (sgZ na Na) e W13 q3 ep) := by
        refine Lib.hid fun _ => ⟨by rw [← HX0.out.1]; exact HPQ.out.2.1, HX0.out.2.1, Nat.le_trans HX0.out.2.2.2.1 (by decide), ?_, ?_⟩
        · have := HX0.out.2.2.2.2.1; omega
        · have := HX0.out.2.2.2.2.2; omega
      clear hz
      go_wp2_with fail
      refine (rSign_any q3 0 zp _ HPQ.out.2.1).mono ?_
      rintro e2 w2 ⟨rfl, rfl⟩
      rw [HZS.out]
      clear HZS
      go_wp2_with fail
      refine (rIs_all one (sgZ na Na) e _ k24 q3 ep _ HRS.out HXI.out (HT.out.2.2.1.below HT.out.2.2.2 HW.out.2.2) (Nat.lt_of_lt_of_le HT.out.2.2.2 HW.out.2.2.size)).mono ?_
      rintro e21 w21 ⟨rfl, hb21⟩
      replace HW := Lib.hid (HW.out.later hb21)
      clear hb21 HRS HXI y0 y1 y2 y3 y4 y5 t0 t1 t2 t3
      go_wp2_with fail
      refine (awake_any _ (HT.out.1.below HT.out.2.1 HW.out.2.2) (Nat.lt_of_lt_of_le HT.out.2.1 HW.out.2.2.size)).mono ?_
      rintro e22 w22 ⟨rfl, hb22⟩
      have HBE := Lib.hid (HW.out.later hb22).2.2
      clear hb22
      go_wp2
      go_ret
      exact ⟨rfl, HBE.out⟩
    · obtain ⟨sg, HZS, hsg⟩ : ∃ sg, Hid (zp.sign = sg) ∧ (sg == 0) = false := ⟨_, Lib.hid rfl, by have := sign_ne hz; simpa using this⟩
      have HZ := Lib.hid hz
      clear hz
      go_wp2_with fail
      refine (rSign_any q3 0 zp _ HPQ.out.2.1).mono ?_
      rintro e2 w2 ⟨rfl, rfl⟩
      rw [HZS.out]
      clear HZS
      by_cases hk : 200000 < k ∨ k < -200000
      · obtain ⟨⟨⟨rfl, rfl⟩, rfl, rfl⟩, rfl, rfl⟩ : ((n24 = false ∧ ao24 = none) ∧ l24 = 0 ∧ c24 = 0) ∧ x24 = 0 ∧ k24 = 2 := by
          have h1 := HAN24.out.2
          rw [H0.out] at h1
          have hz2 : sgZ na Na ≠ 0 := by rw [← HX0.out.1]; exact HZ.out
          exact h1.far hz2 (shift_far HX0.out.2.2 hz2 hk)
        have HSM : Hid (∀ W, Calls Tryz.prog 23 #[.agg #[.bool false, .slice none 0 0, .int .i64 0], .agg #[.bool false, .slice none 0 0, .int .i64 0]] W (Gives (.bool true) W)) := Lib.hid fun W => same_dy _ _ 0 0 W (DyAt.zero W) (DyAt.zero W) good_zero
        clear HX0 H0 HZ
        rcases hk with hk | hk
        · go_wp2_with fail
          refine (HSM.out _).mono ?_
          rintro e21 w21 ⟨rfl, hb21⟩
          replace HW := Lib.hid (HW.out.later hb21)
          clear hb21 y0 y1 y2 y3 y4 y5 t0 t1 t2 t3 hk
          go_wp2_with fail
          refine (awake_any _ (HT.out.1.below HT.out.2.1 HW.out.2.2) (Nat.lt_of_lt_of_le HT.out.2.1 HW.out.2.2.size)).mono ?_
          rintro e22 w22 ⟨rfl, hb22⟩
          have HBE := Lib.hid (HW.out.later hb22).2.2
          clear hb22
          go_wp2
          go_ret
          exact ⟨rfl, HBE.out⟩
        · have hk2 : ¬ 200000 < k := by omega
          have hk3 : k ≤ 200000 := by omega
          go_wp2_with fail
          refine (HSM.out _).mono ?_
          rintro e21 w21 ⟨rfl, hb21⟩
          replace HW := Lib.hid (HW.out.later hb21)
          clear hb21 y0 y1 y2 y3 y4 y5 t0 t1 t2 t3 hk hk2 hk3
          go_wp2_with fail
          refine (awake_any _ (HT.out.1.below HT.out.2.1 HW.out.2.2) (Nat.lt_of_lt_of_le HT.out.2.1 HW.out.2.2.size)).mono ?_
          rintro e22 w22 ⟨rfl, hb22⟩
          have HBE := Lib.hid (HW.out.later hb22).2.2
          clear hb22
          go_wp2
          go_ret
          exact ⟨rfl, HBE.out⟩
      · have hk1 : k ≤ 200000 := by omega
        have hk2 : -200000 ≤ k := by omega
        have hsh : shN k = k := by unfold shN; omega
        clear hk
        have he1 : -100000 ≤ ep := HV1.out.2.2.1
        have he2 : ep ≤ 100000 := HV1.out.2.2.2
        have hwr : IntKind.i64.wrap (ep + k) = ep + k := IntWalk.i64_in _ (by omega)
        have hne : b24 ≠ b11 := by have := HL24.out; omega
        have hne2 : b11 ≠ b12 := hbc
        have HRS : Hid (ResIs one (sgZ na Na) (e + k) (W13.setCell ⟨b11, 1, none⟩ (.int .i64 (ep + k))) (.agg #[.bool n24, .slice ao24 l24 c24, .int .i64 x24]) k24) := by
          have h1 := HAN24.out.2
          rw [hsh] at h1
          exact Lib.hid (h1.setOther HPQ.out.1.1 objT_rexact _)
        have HP2 := Lib.hid (HPQ.out.1.1.set (i := 1) (.int .i64 (ep + k)))
        have HA2 := Lib.hid (HAN24.out.1.setOther (i := 1) hne (.int .i64 (ep + k)))
        have HXI : Hid (XIs one (sgZ na Na) (e + k) (W13.setCell ⟨b11, 1, none⟩ (.int .i64 (ep + k))) q3 (ep + k)) := by
          refine Lib.hid fun _ => ⟨by rw [← HX0.out.1]; exact HPQ.out.2.1.setOther HPQ.out.1.1 objT_rexact (RInt.ne_box HPQ.out.2.1 HPQ.out.1.1 rfl) _, by rw [HX0.out.2.1], Nat.le_trans HX0.out.2.2.2.1 (by decide), ?_, ?_⟩
          · have := HX0.out.2.2.2.2.1; omega
          · have := HX0.out.2.2.2.2.2; omega
        have HW2 : Hid (Box2d w (W13.setCell ⟨b11, 1, none⟩ (.int .i64 (ep + k))) na nb (.slice aa n ca) (.slice ab m cb) e f) := by
          have := HLB11.out
          exact Lib.hid ⟨HW.out.1.setOther (show w.heap.size ≠ b11 by omega) _, HW.out.2.1.setOther (show w.heap.size + 1 ≠ b11 by omega) _, HW.out.2.2.setCell (by show w.heap.size ≤ b11; omega) _⟩
        clear y0 y1 y2 y3 y4 y5
        obtain ⟨s0, s1, s2, s3⟩ := HP2.out.cells2
        obtain ⟨y0, y1, y2, y3, y4, y5⟩ := HA2.out.cells3
        clear HW HX0 HAN24 HPQ HP2 HA2 hsh
        have HW := HW2
        clear HW2
        go_wp2_with fail
        refine (rIs_all one (sgZ na Na) (e + k) _ k24 q3 (ep + k) _ HRS.out HXI.out (HT.out.2.2.1.below HT.out.2.2.2 HW.out.2.2) (Nat.lt_of_lt_of_le HT.out.2.2.2 HW.out.2.2.size)).mono ?_
        rintro e21 w21 ⟨rfl, hb21⟩
        replace HW := Lib.hid (HW.out.later hb21)
        clear s0 s1 s2 s3 hb21 HRS HXI y0 y1 y2 y3 y4 y5 t0 t1 t2 t3
        go_wp2_with fail
        refine (awake_any _ (HT.out.1.below HT.out.2.1 HW.out.2.2) (Nat.lt_of_lt_of_le HT.out.2.1 HW.out.2.2.size)).mono ?_
        rintro e22 w22 ⟨rfl, hb22⟩
        have HBE := Lib.hid (HW.out.later hb22).2.2
        clear hb22
        go_wp2
        go_ret
        exact ⟨rfl, HBE.out⟩
  · have hb0 : (one == 0) = false := by simpa using h0
    have HRS := Lib.hid HAN24.out.2
    have HXI : Hid (XIs one (sgZ na Na) (e + shN k) W13 q3 ep) := Lib.hid fun h => absurd h h0
    clear h0
    obtain ⟨y0, y1, y2, y3, y4, y5⟩ := HAN24.out.1.cells3
    obtain ⟨t0, t1, t2, t3⟩ := HPQ.out.1.1.cells2
    go_wp2_with fail
    refine (rIs_all one (sgZ na Na) (e + shN k) _ k24 q3 ep _ HRS.out HXI.out (HT.out.2.2.1.below HT.out.2.2.2 HW.out.2.2) (Nat.lt_of_lt_of_le HT.out.2.2.2 HW.out.2.2.size)).mono ?_
    rintro e21 w21 ⟨rfl, hb21⟩
    replace HW := Lib.hid (HW.out.later hb21)
    clear hb21 HRS HXI y0 y1 y2 y3 y4 y5 t0 t1 t2 t3
    go_wp2_with fail
    refine (awake_any _ (HT.out.1.below HT.out.2.1 HW.out.2.2) (Nat.lt_of_lt_of_le HT.out.2.1 HW.out.2.2.size)).mono ?_
    rintro e22 w22 ⟨rfl, hb22⟩
    have HBE := Lib.hid (HW.out.later hb22).2.2
    clear hb22
    go_wp2
    go_ret
    exact ⟨rfl, HBE.out⟩

end Go.Proofs.YtfcddnccmdjhfaaGreatDoor
