/- Walks: big.Int's methods that hand a sign and words on. Printed by wip/gen/int2.py. -/
import Derived.Test.YtfcddnccmdjhfaaDoorInt1
import Derived.Test.YtfcddnccmdjhfaaDoorLaw
namespace Go.Proofs.YtfcddnccmdjhfaaDoor
open Go.RowKit

theorem neg_fin (z : Int) : (if (!decide (z < 0)) then -(z.natAbs : Int) else z.natAbs) = -z := by
  by_cases h : z < 0
  · simp [h]; omega
  · simp [h]; omega

theorem set_fin (z : Int) : (if decide (z < 0) then -(z.natAbs : Int) else z.natAbs) = z := by
  by_cases h : z < 0
  · simp [h]; omega
  · simp [h]; omega

theorem lsh_fin (z : Int) (n : Nat) : (if decide (z < 0) then -((z.natAbs * 2 ^ n : Nat) : Int) else ((z.natAbs * 2 ^ n : Nat) : Int)) = z * 2 ^ n := by
  have h2 := set_fin z
  by_cases h : z < 0
  · simp only [h, decide_true, if_true] at h2 ⊢
    rw [← h2]
    simp [Int.neg_mul]
  · simp only [h, decide_false, Bool.false_eq_true, if_false] at h2 ⊢
    rw [← h2]
    simp

set_option maxRecDepth 100000 in
set_option maxHeartbeats 400000 in
theorem Set_any (b o c p : Nat) (X : Int) (w : World) (hz : Spot w b o) (hx : IntAt w c p X) (hl : ln 64 X.natAbs ≤ 68719476736) :
    Calls Tryd.prog 67 #[.pointer (some ⟨b, o, none⟩), .pointer (some ⟨c, p, none⟩)] w (Puts .u64 64 b o (X) w) := by
  obtain ⟨hxs, hx0, vx, hx1, hrx⟩ := hx
  have hcx := hxs.1
  have HRx := Lib.hid hrx
  have HZ := Lib.hid hz
  have HF := Lib.hid (set_fin X)
  generalize decide (X < 0) = sx at *
  generalize X.natAbs = ax at *
  clear hrx hxs hz
  go_enter Tryd.func67, Tryd.ntmps67
  go_wp2_with fail
  refine wp_region_plan (fun w' => w'.cell? ⟨c, p, none⟩ = some (.bool sx) ∧ w'.cell? ⟨c, p + 1, none⟩ = some vx) 10 [(0, true), (1, true), (2, true), (3, true), (4, true), (5, true), (6, true), (7, true), (8, true), (9, false)] (by kernel_rfl) (by kernel_rfl) ?_
  have hS : (fun w' : World => w'.cell? ⟨c, p, none⟩ = some (.bool sx) ∧ w'.cell? ⟨c, p + 1, none⟩ = some vx) w.drew := ⟨by go_simp, by go_simp⟩
  repeat (refine wpPlan_take (v := ?_) rfl (fun _ _ _ h => h) rfl (fun w' hSw => ?_) hS ?_; rotate_left; focus (go_simp; with_reducible rfl); try simp only [Act.put, List.setIfInBounds_toArray, List.set_cons_zero, List.set_cons_succ])
  refine wpPlan_run rfl fun K' hK => ?_
  go_simp
  refine (clone_any _ _ ax _ (HRx.out.below ((Below.refl _ _).drew)) (by omega)).mono ?_
  rintro e w1 ⟨v1, rfl, hb1, hr1⟩
  have HB := Lib.hid (((Below.refl w.heap.size w).drew).trans hb1)
  have HR1 := Lib.hid hr1
  refine hK _ _ ⟨(HB.out.cell (p := ⟨c, p, none⟩) hcx).trans hx0, (HB.out.cell (p := ⟨c, p + 1, none⟩) hcx).trans hx1⟩ ?_
  clear hK K' hb1 hr1 hS
  refine wpPlan_nil ?_
  simp only [List.drop_succ_cons, List.drop_zero]
  go_wp2_with fail
  refine (made_any b o _ _ _ _ (HZ.out.below HB.out) HR1.out).mono ?_
  rintro e w2 ⟨rfl, hi2, hm2⟩
  have HF2 := Lib.hid hi2
  have HM := Lib.hid ((Mod.of_below HB.out HZ.out.1).trans HZ.out.1 hm2)
  clear hi2 hm2
  go_wp2
  go_ret
  rw [← HF.out]
  exact ⟨rfl, HF2.out, HM.out⟩

set_option maxRecDepth 100000 in
set_option maxHeartbeats 400000 in
theorem Neg_any (b o c p : Nat) (X : Int) (w : World) (hz : Spot w b o) (hx : IntAt w c p X) (hl : ln 64 X.natAbs ≤ 68719476736) :
    Calls Tryd.prog 27 #[.pointer (some ⟨b, o, none⟩), .pointer (some ⟨c, p, none⟩)] w (Puts .u64 64 b o (-X) w) := by
  obtain ⟨hxs, hx0, vx, hx1, hrx⟩ := hx
  have hcx := hxs.1
  have HRx := Lib.hid hrx
  have HZ := Lib.hid hz
  have HF := Lib.hid (neg_fin X)
  generalize decide (X < 0) = sx at *
  generalize X.natAbs = ax at *
  clear hrx hxs hz
  go_enter Tryd.func27, Tryd.ntmps27
  go_wp2_with fail
  refine wp_region_plan (fun w' => w'.cell? ⟨c, p, none⟩ = some (.bool sx) ∧ w'.cell? ⟨c, p + 1, none⟩ = some vx) 11 [(0, true), (1, true), (2, true), (3, true), (4, true), (5, true), (6, true), (7, true), (8, true), (9, true), (10, false)] (by kernel_rfl) (by kernel_rfl) ?_
  have hS : (fun w' : World => w'.cell? ⟨c, p, none⟩ = some (.bool sx) ∧ w'.cell? ⟨c, p + 1, none⟩ = some vx) w.drew := ⟨by go_simp, by go_simp⟩
  repeat (refine wpPlan_take (v := ?_) rfl (fun _ _ _ h => h) rfl (fun w' hSw => ?_) hS ?_; rotate_left; focus (go_simp; with_reducible rfl); try simp only [Act.put, List.setIfInBounds_toArray, List.set_cons_zero, List.set_cons_succ])
  refine wpPlan_run rfl fun K' hK => ?_
  go_simp
  refine (clone_any _ _ ax _ (HRx.out.below ((Below.refl _ _).drew)) (by omega)).mono ?_
  rintro e w1 ⟨v1, rfl, hb1, hr1⟩
  have HB := Lib.hid (((Below.refl w.heap.size w).drew).trans hb1)
  have HR1 := Lib.hid hr1
  refine hK _ _ ⟨(HB.out.cell (p := ⟨c, p, none⟩) hcx).trans hx0, (HB.out.cell (p := ⟨c, p + 1, none⟩) hcx).trans hx1⟩ ?_
  clear hK K' hb1 hr1 hS
  refine wpPlan_nil ?_
  simp only [List.drop_succ_cons, List.drop_zero]
  go_wp2_with fail
  refine (made_any b o _ _ _ _ (HZ.out.below HB.out) HR1.out).mono ?_
  rintro e w2 ⟨rfl, hi2, hm2⟩
  have HF2 := Lib.hid hi2
  have HM := Lib.hid ((Mod.of_below HB.out HZ.out.1).trans HZ.out.1 hm2)
  clear hi2 hm2
  go_wp2
  go_ret
  rw [← HF.out]
  exact ⟨rfl, HF2.out, HM.out⟩

set_option maxRecDepth 100000 in
set_option maxHeartbeats 400000 in
theorem Lsh_any (b o c p : Nat) (n : Nat) (X : Int) (w : World) (hz : Spot w b o) (hx : IntAt w c p X) (hl : ln 64 X.natAbs ≤ 68719476736) (hn : n ≤ 1099511627776) :
    Calls Tryd.prog 56 #[.pointer (some ⟨b, o, none⟩), .pointer (some ⟨c, p, none⟩), .int .u64 n] w (Puts .u64 64 b o (X * 2 ^ n) w) := by
  obtain ⟨hxs, hx0, vx, hx1, hrx⟩ := hx
  have hcx := hxs.1
  have HRx := Lib.hid hrx
  have HZ := Lib.hid hz
  have HF := Lib.hid (lsh_fin X n)
  generalize decide (X < 0) = sx at *
  generalize X.natAbs = ax at *
  clear hrx hxs hz
  go_enter Tryd.func56, Tryd.ntmps56
  go_wp2_with fail
  refine wp_region_plan (fun w' => w'.cell? ⟨c, p, none⟩ = some (.bool sx) ∧ w'.cell? ⟨c, p + 1, none⟩ = some vx) 11 [(0, true), (1, true), (2, true), (3, true), (4, true), (5, true), (6, true), (7, true), (8, true), (9, true), (10, false)] (by kernel_rfl) (by kernel_rfl) ?_
  have hS : (fun w' : World => w'.cell? ⟨c, p, none⟩ = some (.bool sx) ∧ w'.cell? ⟨c, p + 1, none⟩ = some vx) w.drew := ⟨by go_simp, by go_simp⟩
  repeat (refine wpPlan_take (v := ?_) rfl (fun _ _ _ h => h) rfl (fun w' hSw => ?_) hS ?_; rotate_left; focus (go_simp; with_reducible rfl); try simp only [Act.put, List.setIfInBounds_toArray, List.set_cons_zero, List.set_cons_succ])
  refine wpPlan_run rfl fun K' hK => ?_
  go_simp
  refine (left_any _ ax n _ (HRx.out.below ((Below.refl _ _).drew)) hn hl).mono ?_
  rintro e w1 ⟨v1, rfl, hb1, hr1⟩
  have HB := Lib.hid (((Below.refl w.heap.size w).drew).trans hb1)
  have HR1 := Lib.hid hr1
  refine hK _ _ ⟨(HB.out.cell (p := ⟨c, p, none⟩) hcx).trans hx0, (HB.out.cell (p := ⟨c, p + 1, none⟩) hcx).trans hx1⟩ ?_
  clear hK K' hb1 hr1 hS
  refine wpPlan_nil ?_
  simp only [List.drop_succ_cons, List.drop_zero]
  go_wp2_with fail
  refine (made_any b o _ _ _ _ (HZ.out.below HB.out) HR1.out).mono ?_
  rintro e w2 ⟨rfl, hi2, hm2⟩
  have HF2 := Lib.hid hi2
  have HM := Lib.hid ((Mod.of_below HB.out HZ.out.1).trans HZ.out.1 hm2)
  clear hi2 hm2
  go_wp2
  go_ret
  rw [← HF.out]
  exact ⟨rfl, HF2.out, HM.out⟩

set_option maxRecDepth 100000 in
set_option maxHeartbeats 400000 in
theorem Abs_any (b o c p : Nat) (X : Int) (w : World) (hz : Spot w b o) (hx : IntAt w c p X) (hl : ln 64 X.natAbs ≤ 68719476736) :
    Calls Tryd.prog 46 #[.pointer (some ⟨b, o, none⟩), .pointer (some ⟨c, p, none⟩)] w (Puts .u64 64 b o X.natAbs w) := by
  obtain ⟨hxs, hx0, vx, hx1, hrx⟩ := hx
  have HRx := Lib.hid hrx
  have HZ := Lib.hid hz
  generalize X.natAbs = ax at *
  have HF : Hid ((if false then -(ax : Int) else ax) = ax) := Lib.hid rfl
  clear hrx hxs hz
  go_enter Tryd.func46, Tryd.ntmps46
  go_wp2_with fail
  refine (clone_any _ _ ax _ HRx.out (by omega)).mono ?_
  rintro e w1 ⟨v1, rfl, hb1, hr1⟩
  have HB := Lib.hid hb1
  have HR1 := Lib.hid hr1
  clear hb1 hr1
  go_wp2_with fail
  refine (made_any b o _ false _ _ (HZ.out.below HB.out) HR1.out).mono ?_
  rintro e w2 ⟨rfl, hi2, hm2⟩
  have HF2 := Lib.hid hi2
  have HM := Lib.hid ((Mod.of_below HB.out HZ.out.1).trans HZ.out.1 hm2)
  clear hi2 hm2
  go_wp2
  go_ret
  rw [← HF.out]
  exact ⟨rfl, HF2.out, HM.out⟩

theorem mul_fin (X Y : Int) : (if (decide (X < 0) != decide (Y < 0)) then -((X.natAbs * Y.natAbs : Nat) : Int) else ((X.natAbs * Y.natAbs : Nat) : Int)) = X * Y := by
  have hx := set_fin X
  have hy := set_fin Y
  generalize X.natAbs = ax at *
  generalize Y.natAbs = ay at *
  generalize decide (X < 0) = sx at *
  generalize decide (Y < 0) = sy at *
  subst hx; subst hy
  cases sx <;> cases sy <;> simp [Int.mul_neg, Int.neg_mul]

set_option maxRecDepth 100000 in
set_option maxHeartbeats 400000 in
theorem Mul_any (b o c p d q : Nat) (X Y : Int) (w : World) (hz : Spot w b o) (hx : IntAt w c p X) (hy : IntAt w d q Y) (hl : ln 64 X.natAbs ≤ 68719476736) (hk : ln 64 Y.natAbs ≤ 68719476736) :
    Calls Tryd.prog 51 #[.pointer (some ⟨b, o, none⟩), .pointer (some ⟨c, p, none⟩), .pointer (some ⟨d, q, none⟩)] w (Puts .u64 64 b o (X * Y) w) := by
  obtain ⟨hxs, hx0, vx, hx1, hrx⟩ := hx
  obtain ⟨hys, hy0, vy, hy1, hry⟩ := hy
  have hcx := hxs.1
  have hcy := hys.1
  have HRx := Lib.hid hrx
  have HRy := Lib.hid hry
  have HZ := Lib.hid hz
  have HF := Lib.hid (mul_fin X Y)
  generalize decide (X < 0) = sx at *
  generalize decide (Y < 0) = sy at *
  generalize X.natAbs = ax at *
  generalize Y.natAbs = ay at *
  clear hrx hxs hz hry hys
  go_enter Tryd.func51, Tryd.ntmps51
  go_wp2_with fail
  refine wp_region_plan (fun w' => (w'.cell? ⟨c, p, none⟩ = some (.bool sx) ∧ w'.cell? ⟨c, p + 1, none⟩ = some vx) ∧ w'.cell? ⟨d, q, none⟩ = some (.bool sy) ∧ w'.cell? ⟨d, q + 1, none⟩ = some vy) 19 [(0, true), (1, true), (2, true), (3, true), (4, true), (5, true), (6, true), (7, true), (8, true), (9, true), (10, true), (11, true), (12, true), (13, true), (14, true), (15, true), (16, true), (17, true), (18, false)] (by kernel_rfl) (by kernel_rfl) ?_
  have hS : (fun w' : World => (w'.cell? ⟨c, p, none⟩ = some (.bool sx) ∧ w'.cell? ⟨c, p + 1, none⟩ = some vx) ∧ w'.cell? ⟨d, q, none⟩ = some (.bool sy) ∧ w'.cell? ⟨d, q + 1, none⟩ = some vy) w.drew := ⟨⟨by go_simp, by go_simp⟩, by go_simp, by go_simp⟩
  repeat (refine wpPlan_take (v := ?_) rfl (fun _ _ _ h => h) rfl (fun w' hSw => ?_) hS ?_; rotate_left; focus (go_simp; with_reducible rfl); try simp only [Act.put, List.setIfInBounds_toArray, List.set_cons_zero, List.set_cons_succ])
  refine wpPlan_run rfl fun K' hK => ?_
  go_simp
  refine (times_any _ _ _ _ ax ay _ (HRx.out.below ((Below.refl _ _).drew)) (HRy.out.below ((Below.refl _ _).drew)) (by omega)).mono ?_
  rintro e w1 ⟨v1, rfl, hb1, hr1⟩
  have HB := Lib.hid (((Below.refl w.heap.size w).drew).trans hb1)
  have HR1 := Lib.hid hr1
  refine hK _ _ ⟨⟨(HB.out.cell (p := ⟨c, p, none⟩) hcx).trans hx0, (HB.out.cell (p := ⟨c, p + 1, none⟩) hcx).trans hx1⟩, (HB.out.cell (p := ⟨d, q, none⟩) hcy).trans hy0, (HB.out.cell (p := ⟨d, q + 1, none⟩) hcy).trans hy1⟩ ?_
  clear hK K' hb1 hr1 hS
  refine wpPlan_nil ?_
  simp only [List.drop_succ_cons, List.drop_zero]
  go_wp2_with fail
  refine (made_any b o _ _ _ _ (HZ.out.below HB.out) HR1.out).mono ?_
  rintro e w2 ⟨rfl, hi2, hm2⟩
  have HF2 := Lib.hid hi2
  have HM := Lib.hid ((Mod.of_below HB.out HZ.out.1).trans HZ.out.1 hm2)
  clear hi2 hm2
  go_wp2
  go_ret
  rw [← HF.out]
  exact ⟨rfl, HF2.out, HM.out⟩


end Go.Proofs.YtfcddnccmdjhfaaDoor
