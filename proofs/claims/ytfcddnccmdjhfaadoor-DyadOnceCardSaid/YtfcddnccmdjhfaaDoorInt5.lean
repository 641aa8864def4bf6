/- Walks: big.Int's sums. Printed by wip/gen/int5.py. -/
import Derived.Test.YtfcddnccmdjhfaaDoorInt4
namespace Go.Proofs.YtfcddnccmdjhfaaDoor
open Go.RowKit

theorem plus_fin (X : Int) (N : Nat) (neg : Bool) :
    ((decide (X < 0) = neg) → (if neg then -((X.natAbs + N : Nat) : Int) else ((X.natAbs + N : Nat) : Int)) = X + (if neg then -(N : Int) else N)) ∧
    ((decide (X < 0) = !neg) → (N ≤ X.natAbs → (if decide (X < 0) then -((X.natAbs - N : Nat) : Int) else ((X.natAbs - N : Nat) : Int)) = X + (if neg then -(N : Int) else N)) ∧
      (X.natAbs ≤ N → (if neg then -((N - X.natAbs : Nat) : Int) else ((N - X.natAbs : Nat) : Int)) = X + (if neg then -(N : Int) else N))) := by
  have hx := set_fin X
  generalize X.natAbs = ax at *
  generalize decide (X < 0) = sx at *
  subst hx
  cases sx <;> cases neg <;> simp <;> omega

set_option maxRecDepth 100000 in
set_option maxHeartbeats 400000 in
theorem plus_any (b o c p N : Nat) (neg : Bool) (v : Value) (X : Int) (w : World) (hz : Spot w b o) (hx : IntAt w c p X) (hv : Raw .u64 64 w v (ln 64 N) N) (hl : ln 64 X.natAbs ≤ 68719476736) (hk : ln 64 N ≤ 68719476736) :
    Calls Tryd.prog 74 #[.pointer (some ⟨b, o, none⟩), .pointer (some ⟨c, p, none⟩), .bool neg, v] w (Puts .u64 64 b o (X + (if neg then -(N : Int) else N)) w) := by
  obtain ⟨hxs, hx0, vx, hx1, hrx⟩ := hx
  have hcx := hxs.1
  have HRx := Lib.hid hrx
  have HV := Lib.hid hv
  have HZ := Lib.hid hz
  obtain ⟨f1, f2⟩ := plus_fin X N neg
  generalize decide (X < 0) = sx at *
  generalize X.natAbs = ax at *
  generalize X + (if neg then -(N : Int) else N) = R at *
  clear hrx hxs hz hv
  by_cases hs : sx = neg
  · subst hs
    have HF := Lib.hid (f1 rfl)
    have hb : (sx == sx) = true := by simp
    clear f1 f2
    go_enter Tryd.func74, Tryd.ntmps74
    go_wp2_with fail
    refine (sum_any _ _ _ _ ax N _ HRx.out HV.out ⟨by omega, by omega⟩).mono ?_
    rintro e w1 ⟨v1, rfl, hb1, hr1⟩
    have HB := Lib.hid hb1
    have HR1 := Lib.hid hr1
    clear hb1 hr1
    go_wp2_with fail
    refine (made_any b o _ sx _ _ (HZ.out.below HB.out) HR1.out).mono ?_
    rintro e w2 ⟨rfl, hi2, hm2⟩
    have HF2 := Lib.hid hi2
    have HM := Lib.hid ((Mod.of_below HB.out HZ.out.1).trans HZ.out.1 hm2)
    clear hi2 hm2
    go_wp2
    go_ret
    rw [← HF.out]
    exact ⟨rfl, HF2.out, HM.out⟩
  · obtain rfl : sx = !neg := by revert hs; cases sx <;> cases neg <;> simp
    have hb : ((!neg) == neg) = false := by cases neg <;> rfl
    obtain ⟨f2, f3⟩ := f2 rfl
    clear f1 hs
    by_cases hge : N ≤ ax
    · have HF := Lib.hid (f2 hge)
      have HGE := Lib.hid hge
      have hcmp : decide (cmpZ ax N < 0) = false := by
        rw [decide_eq_false_iff_not]; unfold cmpZ; rw [if_neg (by omega)]; split <;> omega
      have hcmp2 : (0 : Int) ≤ cmpZ ax N := by simpa using hcmp
      clear f2 f3 hge hcmp
      generalize hcz : cmpZ (ax : Int) N = cz at hcmp2
      have HCZ := Lib.hid hcz
      clear hcz
      go_enter Tryd.func74, Tryd.ntmps74
      go_wp2_with fail
      refine (compare_any _ _ ax N _ HRx.out HV.out).mono ?_
      rintro e wd ⟨rfl, nd, rfl⟩
      rw [HCZ.out]
      go_wp2_with fail
      refine wp_region_plan (fun w' => w'.cell? ⟨c, p, none⟩ = some (.bool (!neg)) ∧ w'.cell? ⟨c, p + 1, none⟩ = some vx) 11 [(0, true), (1, true), (2, true), (3, true), (4, true), (5, true), (6, true), (7, true), (8, true), (9, true), (10, false)] (by kernel_rfl) (by kernel_rfl) ?_
      have hS : (fun w' : World => w'.cell? ⟨c, p, none⟩ = some (.bool (!neg)) ∧ w'.cell? ⟨c, p + 1, none⟩ = some vx) (w.drewN nd).drew := ⟨by go_simp, by go_simp⟩
      repeat (refine wpPlan_take (v := ?_) rfl (fun _ _ _ h => h) rfl (fun w' hSw => ?_) hS ?_; rotate_left; focus (go_simp; with_reducible rfl); try simp only [Act.put, List.setIfInBounds_toArray, List.set_cons_zero, List.set_cons_succ])
      refine wpPlan_run rfl fun K' hK => ?_
      go_simp
      have HB0 : Hid (Below w.heap.size w (w.drewN nd).drew) := Lib.hid ⟨rfl, rfl, rfl, Nat.le_refl _, fun _ _ => rfl⟩
      refine (less_any _ _ _ _ ax N _ (HRx.out.below HB0.out) (HV.out.below HB0.out) ⟨by omega, by omega⟩ HGE.out).mono ?_
      rintro e w1 ⟨v1, rfl, hb1, hr1⟩
      have HB := Lib.hid (HB0.out.trans hb1)
      have HR1 := Lib.hid hr1
      refine hK _ _ ⟨(HB.out.cell (p := ⟨c, p, none⟩) hcx).trans hx0, (HB.out.cell (p := ⟨c, p + 1, none⟩) hcx).trans hx1⟩ ?_
      clear hK K' hb1 hr1 hS
      refine wpPlan_nil ?_
      simp only [List.drop_succ_cons, List.drop_zero]
      go_wp2_with fail
      refine (made_any b o _ _ _ _ (HZ.out.below HB.out) HR1.out).mono ?_
      rintro e w2 ⟨rfl, hi2, hm2⟩
      have HF2 := Lib.hid hi2
      have HM := Lib.hid ((Mod.of_below HB.out HZ.out.1).trans HZ.out.1 hm2)
      clear hi2 hm2
      go_wp2
      go_ret
      rw [← HF.out]
      exact ⟨rfl, HF2.out, HM.out⟩
    · have HF := Lib.hid (f3 (by omega))
      have HLE : Hid (ax ≤ N) := Lib.hid (by omega)
      have hcmp2 : cmpZ ax N < 0 := by unfold cmpZ; rw [if_pos (by omega)]; decide
      clear f2 f3 hge
      generalize hcz : cmpZ (ax : Int) N = cz at hcmp2
      have HCZ := Lib.hid hcz
      clear hcz
      go_enter Tryd.func74, Tryd.ntmps74
      go_wp2_with fail
      refine (compare_any _ _ ax N _ HRx.out HV.out).mono ?_
      rintro e wd ⟨rfl, nd, rfl⟩
      rw [HCZ.out]
      go_wp2_with fail
      have HB0 : Hid (Below w.heap.size w (w.drewN nd)) := Lib.hid ⟨rfl, rfl, rfl, Nat.le_refl _, fun _ _ => rfl⟩
      refine (less_any _ _ _ _ N ax _ (HV.out.below HB0.out) (HRx.out.below HB0.out) ⟨by omega, by omega⟩ HLE.out).mono ?_
      rintro e w1 ⟨v1, rfl, hb1, hr1⟩
      have HB := Lib.hid (HB0.out.trans hb1)
      have HR1 := Lib.hid hr1
      clear hb1 hr1
      go_wp2_with fail
      refine (made_any b o _ neg _ _ (HZ.out.below HB.out) HR1.out).mono ?_
      rintro e w2 ⟨rfl, hi2, hm2⟩
      have HF2 := Lib.hid hi2
      have HM := Lib.hid ((Mod.of_below HB.out HZ.out.1).trans HZ.out.1 hm2)
      clear hi2 hm2
      go_wp2
      go_ret
      rw [← HF.out]
      exact ⟨rfl, HF2.out, HM.out⟩

theorem add_fin (X Y : Int) : X + (if decide (Y < 0) then -(Y.natAbs : Int) else Y.natAbs) = X + Y := by rw [set_fin]
theorem sub_fin (X Y : Int) : X + (if (!decide (Y < 0)) then -(Y.natAbs : Int) else Y.natAbs) = X - Y := by rw [neg_fin]; omega

set_option maxRecDepth 100000 in
set_option maxHeartbeats 400000 in
theorem Add_any (b o c p d q : Nat) (X Y : Int) (w : World) (hz : Spot w b o) (hx : IntAt w c p X) (hy : IntAt w d q Y) (hl : ln 64 X.natAbs ≤ 68719476736) (hk : ln 64 Y.natAbs ≤ 68719476736) :
    Calls Tryd.prog 49 #[.pointer (some ⟨b, o, none⟩), .pointer (some ⟨c, p, none⟩), .pointer (some ⟨d, q, none⟩)] w (Puts .u64 64 b o (X + Y) w) := by
  have HX := Lib.hid hx
  obtain ⟨hys, hy0, vy, hy1, hry⟩ := hy
  have HRy := Lib.hid hry
  have HZ := Lib.hid hz
  have HF := Lib.hid (add_fin X Y)
  generalize decide (Y < 0) = sy at *
  generalize Y.natAbs = ay at *
  clear hx hz hry hys
  go_enter Tryd.func49, Tryd.ntmps49
  go_wp2_with fail
  refine wp_region_plan (fun w' => w'.cell? ⟨d, q, none⟩ = some (.bool sy) ∧ w'.cell? ⟨d, q + 1, none⟩ = some vy) 10 [(0, true), (1, true), (2, true), (3, true), (4, true), (5, true), (6, true), (7, true), (8, true), (9, true)] (by kernel_rfl) (by kernel_rfl) ?_
  have hS : (fun w' : World => w'.cell? ⟨d, q, none⟩ = some (.bool sy) ∧ w'.cell? ⟨d, q + 1, none⟩ = some vy) w.drew := ⟨by go_simp, by go_simp⟩
  repeat (refine wpPlan_take (v := ?_) rfl (fun _ _ _ h => h) rfl (fun w' hSw => ?_) hS ?_; rotate_left; focus (go_simp; with_reducible rfl); try simp only [Act.put, List.setIfInBounds_toArray, List.set_cons_zero, List.set_cons_succ])
  clear hS
  refine wpPlan_nil ?_
  simp only [List.drop_succ_cons, List.drop_zero]
  go_wp2_with fail
  have HB0 : Hid (Below w.heap.size w w.drew) := Lib.hid ((Below.refl _ _).drew)
  refine (plus_any b o c p ay _ _ X _ (HZ.out.below HB0.out) (HX.out.below HB0.out) (HRy.out.below HB0.out) hl hk).mono ?_
  rintro e w2 ⟨rfl, hi2, hm2⟩
  have HF2 := Lib.hid hi2
  have HM := Lib.hid ((Mod.of_below HB0.out HZ.out.1).trans HZ.out.1 hm2)
  clear hi2 hm2
  go_wp2
  go_ret
  rw [← HF.out]
  exact ⟨rfl, HF2.out, HM.out⟩

set_option maxRecDepth 100000 in
set_option maxHeartbeats 400000 in
theorem Sub_any (b o c p d q : Nat) (X Y : Int) (w : World) (hz : Spot w b o) (hx : IntAt w c p X) (hy : IntAt w d q Y) (hl : ln 64 X.natAbs ≤ 68719476736) (hk : ln 64 Y.natAbs ≤ 68719476736) :
    Calls Tryd.prog 79 #[.pointer (some ⟨b, o, none⟩), .pointer (some ⟨c, p, none⟩), .pointer (some ⟨d, q, none⟩)] w (Puts .u64 64 b o (X - Y) w) := by
  have HX := Lib.hid hx
  obtain ⟨hys, hy0, vy, hy1, hry⟩ := hy
  have HRy := Lib.hid hry
  have HZ := Lib.hid hz
  have HF := Lib.hid (sub_fin X Y)
  generalize decide (Y < 0) = sy at *
  generalize Y.natAbs = ay at *
  clear hx hz hry hys
  go_enter Tryd.func79, Tryd.ntmps79
  go_wp2_with fail
  refine wp_region_plan (fun w' => w'.cell? ⟨d, q, none⟩ = some (.bool sy) ∧ w'.cell? ⟨d, q + 1, none⟩ = some vy) 11 [(0, true), (1, true), (2, true), (3, true), (4, true), (5, true), (6, true), (7, true), (8, true), (9, true), (10, true)] (by kernel_rfl) (by kernel_rfl) ?_
  have hS : (fun w' : World => w'.cell? ⟨d, q, none⟩ = some (.bool sy) ∧ w'.cell? ⟨d, q + 1, none⟩ = some vy) w.drew := ⟨by go_simp, by go_simp⟩
  repeat (refine wpPlan_take (v := ?_) rfl (fun _ _ _ h => h) rfl (fun w' hSw => ?_) hS ?_; rotate_left; focus (go_simp; with_reducible rfl); try simp only [Act.put, List.setIfInBounds_toArray, List.set_cons_zero, List.set_cons_succ])
  clear hS
  refine wpPlan_nil ?_
  simp only [List.drop_succ_cons, List.drop_zero]
  go_wp2_with fail
  have HB0 : Hid (Below w.heap.size w w.drew) := Lib.hid ((Below.refl _ _).drew)
  refine (plus_any b o c p ay _ _ X _ (HZ.out.below HB0.out) (HX.out.below HB0.out) (HRy.out.below HB0.out) hl hk).mono ?_
  rintro e w2 ⟨rfl, hi2, hm2⟩
  have HF2 := Lib.hid hi2
  have HM := Lib.hid ((Mod.of_below HB0.out HZ.out.1).trans HZ.out.1 hm2)
  clear hi2 hm2
  go_wp2
  go_ret
  rw [← HF.out]
  exact ⟨rfl, HF2.out, HM.out⟩


end Go.Proofs.YtfcddnccmdjhfaaDoor
