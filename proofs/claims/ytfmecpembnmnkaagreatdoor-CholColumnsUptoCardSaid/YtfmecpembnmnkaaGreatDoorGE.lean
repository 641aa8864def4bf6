/- Walks: big.Int's sums. Printed by wip/gen/int5.py. -/
import Derived.Test.YtfmecpembnmnkaaGreatDoorGD
namespace Go.Proofs.YtfmecpembnmnkaaGreatDoor
section
open Go.RowKit
theorem plus_fin (X : Int) (N : Nat) (neg : Bool) :
  ((decide (X < 0) = neg) → (if neg then -((X.natAbs + N : Nat) : Int) else ((X.natAbs + N : Nat) : Int)) = X + (if neg then -(N : Int) else N)) ∧
  ((decide (X < 0) = !neg) → (N ≤ X.natAbs → (if decide (X < 0) then -((X.natAbs - N : Nat) : Int) else ((X.natAbs - N : Nat) : Int)) = X + (if neg then -(N : Int) else N)) ∧
   (X.natAbs ≤ N → (if neg then -((N - X.natAbs : Nat) : Int) else ((N - X.natAbs : Nat) : Int)) = X + (if neg then -(N : Int) else N))) := by
 have hx := set_fin X
 generalize X.natAbs = ax at *
 generalize decide (X < 0) = sx at *
 subst hx
 cases sx <;> cases neg <;> simp <;> omega
set_option maxRecDepth 100000 in
set_option maxHeartbeats 400000 in
theorem plus_any (b o c p N : Nat) (neg : Bool) (v : Value) (X : Int) (w : World) (hz : Spot w b o) (hx : IntAt w c p X) (hv : Raw .u64 64 w v (ln 64 N) N) (hl : ln 64 X.natAbs ≤ 68719476736) (hk : ln 64 N ≤ 68719476736) :
  Calls Tryz.prog 265 #[.pointer (some ⟨b, o, none⟩), .pointer (some ⟨c, p, none⟩), .bool neg, v] w (Puts .u64 64 b o (X + (if neg then -(N : Int) else N)) w) := by
 obtain ⟨hxs, hx0, vx, hx1, hrx⟩ := hx
 have hcx := hxs.1
 have HRx := Lib.hid hrx
 have HV := Lib.hid hv
 have HZ := Lib.hid hz
 obtain ⟨f1, f2⟩ := plus_fin X N neg
 generalize decide (X < 0) = sx at *
 generalize X.natAbs = ax at *
 generalize X + (if neg then -(N : Int) else N) = R at *
 clear hrx hxs hz hv
 by_cases hs : sx = neg
 ·subst hs
  have HF := Lib.hid (f1 rfl)
  have hb : (sx == sx) = true := by simp
  clear f1 f2
  go_enter Tryz.func265, Tryz.ntmps265
  go_wp2_with fail
  refine (sum_any _ _ _ _ ax N _ HRx.out HV.out ⟨by omega, by omega⟩).mono ?_
  rintro e w1 ⟨v1, rfl, hb1, hr1⟩
  have HB := Lib.hid hb1
  have HR1 := Lib.hid hr1
  clear hb1 hr1
  go_wp2_with fail
  refine (made_any b o _ sx _ _ (HZ.out.below HB.out) HR1.out).mono ?_
  rintro e w2 ⟨rfl, hi2, hm2⟩
  have HF2 := Lib.hid hi2
  have HM := Lib.hid ((Mod.of_below HB.out HZ.out.1).trans HZ.out.1 hm2)
  clear hi2 hm2
  go_wp2
  go_ret
  rw [← HF.out]
  exact ⟨rfl, HF2.out, HM.out⟩
 ·obtain rfl : sx = !neg := by revert hs; cases sx <;> cases neg <;> simp
  have hb : ((!neg) == neg) = false := by cases neg <;> rfl
  obtain ⟨f2, f3⟩ := f2 rfl
  clear f1 hs
  by_cases hge : N ≤ ax
  ·have HF := Lib.hid (f2 hge)
   have HGE := Lib.hid hge
   have hcmp : decide (cmpZ ax N < 0) = false := by
    rw [decide_eq_false_iff_not]; unfold cmpZ; rw [if_neg (by omega)]; split <;> omega
   have hcmp2 : (0 : Int) ≤ cmpZ ax N := by simpa using hcmp
   clear f2 f3 hge hcmp
   generalize hcz : cmpZ (ax : Int) N = cz at hcmp2
   have HCZ := Lib.hid hcz
   clear hcz
   go_enter Tryz.func265, Tryz.ntmps265
   go_wp2_with fail
   refine (compare_any _ _ ax N _ HRx.out HV.out).mono ?_
   rintro e wd ⟨rfl, nd, rfl⟩
   rw [HCZ.out]
   go_wp2_with fail
   refine wp_region_plan (fun w' => w'.cell? ⟨c, p, none⟩ = some (.bool (!neg)) ∧ w'.cell? ⟨c, p + 1, none⟩ = some vx) 11 [(0, true), (1, true), (2, true), (3, true), (4, true), (5, true), (6, true), (7, true), (8, true), (9, true), (10, false)] (by kernel_rfl) (by kernel_rfl) ?_
   have hS : (fun w' : World => w'.cell? ⟨c, p, none⟩ = some (.bool (!neg)) ∧ w'.cell? ⟨c, p + 1, none⟩ = some vx) (w.drewN nd).drew := ⟨by go_simp, by go_simp⟩
   repeat (refine wpPlan_take (v := ?_) rfl (fun _ _ _ h => h) rfl (fun w' hSw => ?_) hS ?_; rotate_left; focus (go_simp; with_reducible rfl); try simp only [Act.put, setL])
   refine wpPlan_run rfl fun K' hK => ?_
   go_simp
   have HB0 : Hid (Below w.heap.size w (w.drewN nd).drew) := Lib.hid ⟨rfl, rfl, rfl, Nat.le_refl _, fun _ _ => rfl⟩
   refine (less_any _ _ _ _ ax N _ (HRx.out.below HB0.out) (HV.out.below HB0.out) ⟨by omega, by omega⟩ HGE.out).mono ?_
   rintro e w1 ⟨v1, rfl, hb1, hr1⟩
   have HB := Lib.hid (HB0.out.trans hb1)
   have HR1 := Lib.hid hr1
   refine hK _ _ ⟨(HB.out.cell (p := ⟨c, p, none⟩) hcx).trans hx0, (HB.out.cell (p := ⟨c, p + 1, none⟩) hcx).trans hx1⟩ ?_
   clear hK K' hb1 hr1 hS
   refine wpPlan_nil ?_
   simp only [drL]
   go_wp2_with fail
   refine (made_any b o _ _ _ _ (HZ.out.below HB.out) HR1.out).mono ?_
   rintro e w2 ⟨rfl, hi2, hm2⟩
   have HF2 := Lib.hid hi2
   have HM := Lib.hid ((Mod.of_below HB.out HZ.out.1).trans HZ.out.1 hm2)
   clear hi2 hm2
   go_wp2
   go_ret
   rw [← HF.out]
   exact ⟨rfl, HF2.out, HM.out⟩
  ·have HF := Lib.hid (f3 (by omega))
   have HLE : Hid (ax ≤ N) := Lib.hid (by omega)
   have hcmp2 : cmpZ ax N < 0 := by unfold cmpZ; rw [if_pos (by omega)]; decide
   clear f2 f3 hge
   generalize hcz : cmpZ (ax : Int) N = cz at hcmp2
   have HCZ := Lib.hid hcz
   clear hcz
   go_enter Tryz.func265, Tryz.ntmps265
   go_wp2_with fail
   refine (compare_any _ _ ax N _ HRx.out HV.out).mono ?_
   rintro e wd ⟨rfl, nd, rfl⟩
   rw [HCZ.out]
   go_wp2_with fail
   have HB0 : Hid (Below w.heap.size w (w.drewN nd)) := Lib.hid ⟨rfl, rfl, rfl, Nat.le_refl _, fun _ _ => rfl⟩
   refine (less_any _ _ _ _ N ax _ (HV.out.below HB0.out) (HRx.out.below HB0.out) ⟨by omega, by omega⟩ HLE.out).mono ?_
   rintro e w1 ⟨v1, rfl, hb1, hr1⟩
   have HB := Lib.hid (HB0.out.trans hb1)
   have HR1 := Lib.hid hr1
   clear hb1 hr1
   go_wp2_with fail
   refine (made_any b o _ neg _ _ (HZ.out.below HB.out) HR1.out).mono ?_
   rintro e w2 ⟨rfl, hi2, hm2⟩
   have HF2 := Lib.hid hi2
   have HM := Lib.hid ((Mod.of_below HB.out HZ.out.1).trans HZ.out.1 hm2)
   clear hi2 hm2
   go_wp2
   go_ret
   rw [← HF.out]
   exact ⟨rfl, HF2.out, HM.out⟩
theorem add_fin (X Y : Int) : X + (if decide (Y < 0) then -(Y.natAbs : Int) else Y.natAbs) = X + Y := by rw [set_fin]
theorem sub_fin (X Y : Int) : X + (if (!decide (Y < 0)) then -(Y.natAbs : Int) else Y.natAbs) = X - Y := by rw [neg_fin]; omega
set_option maxRecDepth 100000 in
set_option maxHeartbeats 400000 in
theorem Add_any (b o c p d q : Nat) (X Y : Int) (w : World) (hz : Spot w b o) (hx : IntAt w c p X) (hy : IntAt w d q Y) (hl : ln 64 X.natAbs ≤ 68719476736) (hk : ln 64 Y.natAbs ≤ 68719476736) :
  Calls Tryz.prog 244 #[.pointer (some ⟨b, o, none⟩), .pointer (some ⟨c, p, none⟩), .pointer (some ⟨d, q, none⟩)] w (Puts .u64 64 b o (X + Y) w) := by
 have HX := Lib.hid hx
 obtain ⟨hys, hy0, vy, hy1, hry⟩ := hy
 have HRy := Lib.hid hry
 have HZ := Lib.hid hz
 have HF := Lib.hid (add_fin X Y)
 generalize decide (Y < 0) = sy at *
 generalize Y.natAbs = ay at *
 clear hx hz hry hys
 go_enter Tryz.func244, Tryz.ntmps244
 go_wp2_with fail
 refine wp_region_plan (fun w' => w'.cell? ⟨d, q, none⟩ = some (.bool sy) ∧ w'.cell? ⟨d, q + 1, none⟩ = some vy) 10 [(0, true), (1, true), (2, true), (3, true), (4, true), (5, true), (6, true), (7, true), (8, true), (9, true)] (by kernel_rfl) (by kernel_rfl) ?_
 have hS : (fun w' : World => w'.cell? ⟨d, q, none⟩ = some (.bool sy) ∧ w'.cell? ⟨d, q + 1, none⟩ = some vy) w.drew := ⟨by go_simp, by go_simp⟩
 repeat (refine wpPlan_take (v := ?_) rfl (fun _ _ _ h => h) rfl (fun w' hSw => ?_) hS ?_; rotate_left; focus (go_simp; with_reducible rfl); try simp only [Act.put, setL])
 clear hS
 refine wpPlan_nil ?_
 simp only [drL]
 go_wp2_with fail
 have HB0 : Hid (Below w.heap.size w w.drew) := Lib.hid ((Below.refl _ _).drew)
 refine (plus_any b o c p ay _ _ X _ (HZ.out.below HB0.out) (HX.out.below HB0.out) (HRy.out.below HB0.out) hl hk).mono ?_
 rintro e w2 ⟨rfl, hi2, hm2⟩
 have HF2 := Lib.hid hi2
 have HM := Lib.hid ((Mod.of_below HB0.out HZ.out.1).trans HZ.out.1 hm2)
 clear hi2 hm2
 go_wp2
 go_ret
 rw [← HF.out]
 exact ⟨rfl, HF2.out, HM.out⟩
set_option maxRecDepth 100000 in
set_option maxHeartbeats 400000 in
theorem Sub_any (b o c p d q : Nat) (X Y : Int) (w : World) (hz : Spot w b o) (hx : IntAt w c p X) (hy : IntAt w d q Y) (hl : ln 64 X.natAbs ≤ 68719476736) (hk : ln 64 Y.natAbs ≤ 68719476736) :
  Calls Tryz.prog 279 #[.pointer (some ⟨b, o, none⟩), .pointer (some ⟨c, p, none⟩), .pointer (some ⟨d, q, none⟩)] w (Puts .u64 64 b o (X - Y) w) := by
 have HX := Lib.hid hx
 obtain ⟨hys, hy0, vy, hy1, hry⟩ := hy
 have HRy := Lib.hid hry
 have HZ := Lib.hid hz
 have HF := Lib.hid (sub_fin X Y)
 generalize decide (Y < 0) = sy at *
 generalize Y.natAbs = ay at *
 clear hx hz hry hys
 go_enter Tryz.func279, Tryz.ntmps279
 go_wp2_with fail
 refine wp_region_plan (fun w' => w'.cell? ⟨d, q, none⟩ = some (.bool sy) ∧ w'.cell? ⟨d, q + 1, none⟩ = some vy) 11 [(0, true), (1, true), (2, true), (3, true), (4, true), (5, true), (6, true), (7, true), (8, true), (9, true), (10, true)] (by kernel_rfl) (by kernel_rfl) ?_
 have hS : (fun w' : World => w'.cell? ⟨d, q, none⟩ = some (.bool sy) ∧ w'.cell? ⟨d, q + 1, none⟩ = some vy) w.drew := ⟨by go_simp, by go_simp⟩
 repeat (refine wpPlan_take (v := ?_) rfl (fun _ _ _ h => h) rfl (fun w' hSw => ?_) hS ?_; rotate_left; focus (go_simp; with_reducible rfl); try simp only [Act.put, setL])
 clear hS
 refine wpPlan_nil ?_
 simp only [drL]
 go_wp2_with fail
 have HB0 : Hid (Below w.heap.size w w.drew) := Lib.hid ((Below.refl _ _).drew)
 refine (plus_any b o c p ay _ _ X _ (HZ.out.below HB0.out) (HX.out.below HB0.out) (HRy.out.below HB0.out) hl hk).mono ?_
 rintro e w2 ⟨rfl, hi2, hm2⟩
 have HF2 := Lib.hid hi2
 have HM := Lib.hid ((Mod.of_below HB0.out HZ.out.1).trans HZ.out.1 hm2)
 clear hi2 hm2
 go_wp2
 go_ret
 rw [← HF.out]
 exact ⟨rfl, HF2.out, HM.out⟩
end
section
open Go.RowKit
theorem cmp_fin (X Y : Int) :
  (decide (X < 0) = false → decide (Y < 0) = false → cmpZ X.natAbs Y.natAbs = cmpZ X Y) ∧ (decide (X < 0) = true → decide (Y < 0) = true → cmpZ Y.natAbs X.natAbs = cmpZ X Y) ∧
   (decide (X < 0) = true → decide (Y < 0) = false → cmpZ X Y = -1) ∧ (decide (X < 0) = false → decide (Y < 0) = true → cmpZ X Y = 1) := by
 simp only [decide_eq_true_eq, decide_eq_false_iff_not]
 unfold cmpZ
 refine ⟨fun h1 h2 => ?_, fun h1 h2 => ?_, fun h1 h2 => ?_, fun h1 h2 => ?_⟩
 ·have e1 : (X.natAbs : Int) = X := by omega
  have e2 : (Y.natAbs : Int) = Y := by omega
  rw [e1, e2]
 ·have e1 : (X.natAbs : Int) = -X := by omega
  have e2 : (Y.natAbs : Int) = -Y := by omega
  rw [e1, e2]
  by_cases h3 : X < Y
  ·rw [if_pos (by omega), if_pos h3]
  ·rw [if_neg (by omega), if_neg h3]
   by_cases h4 : Y < X
   ·rw [if_pos (by omega), if_pos h4]
   ·rw [if_neg (by omega), if_neg h4]
 ·rw [if_pos (by omega)]
 ·rw [if_neg (by omega), if_pos (by omega)]
theorem Raw.drewN {k : IntKind} {s : Nat} {w : World} {v : Value} {n N : Nat} (h : Raw k s w v n N) (m : Nat) : Raw k s (w.drewN m) v n N := h.below ⟨rfl, rfl, rfl, Nat.le_refl _, fun _ _ => rfl⟩
theorem and_dg (s a b k : Nat) : dg s (a &&& b) k = dg s a k &&& dg s b k := by unfold dg; rw [Nat.and_div_two_pow, Nat.and_mod_two_pow]
theorem or_dgs (s a b k : Nat) : dg s (a ||| b) k = dg s a k ||| dg s b k := by unfold dg; rw [Nat.or_div_two_pow, Nat.or_mod_two_pow]
set_option maxRecDepth 100000 in
set_option maxHeartbeats 400000 in
theorem Cmp_any (c p d q : Nat) (X Y : Int) (w : World) (hx : IntAt w c p X) (hy : IntAt w d q Y) :
  Calls Tryz.prog 280 #[.pointer (some ⟨c, p, none⟩), .pointer (some ⟨d, q, none⟩)] w (Tells (.int .i64 (cmpZ X Y)) w) := by
 obtain ⟨hxs, hx0, vx, hx1, hrx⟩ := hx
 obtain ⟨hys, hy0, vy, hy1, hry⟩ := hy
 have HRx := Lib.hid hrx
 have HRy := Lib.hid hry
 obtain ⟨f1, f2, f3, f4⟩ := cmp_fin X Y
 generalize decide (X < 0) = sx at *
 generalize decide (Y < 0) = sy at *
 generalize X.natAbs = ax at *
 generalize Y.natAbs = ay at *
 clear hrx hry hxs hys
 cases sx <;> cases sy
 ·
  have HF := Lib.hid (f1 rfl rfl)
  clear f1 f2 f3 f4
  go_enter Tryz.func280, Tryz.ntmps280
  go_wp2
  go_quiet (fail)
  go_wp2
  refine wp_region_plan (fun w' : World => w'.cell? ⟨c, p + 1, none⟩ = some vx ∧ w'.cell? ⟨d, q + 1, none⟩ = some vy) 8 [(0, true), (1, true), (2, true), (3, true), (4, true), (5, true), (6, true), (7, true)] (by kernel_rfl) (by kernel_rfl) ?_
  have hS : (fun w' : World => w'.cell? ⟨c, p + 1, none⟩ = some vx ∧ w'.cell? ⟨d, q + 1, none⟩ = some vy) (w.drewN nq).drew := ⟨by go_simp, by go_simp⟩
  repeat (refine wpPlan_take (v := ?_) rfl (fun _ _ _ h => h) rfl (fun w' hSw => ?_) hS ?_; rotate_left; focus (go_simp; with_reducible rfl); try simp only [Act.put, setL])
  clear hS
  refine wpPlan_nil ?_
  simp only [drL]
  go_wp2_with fail
  refine (compare_any _ _ ax ay (w.drewN (nq + 1)) (HRx.out.drewN _) (HRy.out.drewN _)).mono ?_
  rintro e wd ⟨rfl, nd, rfl⟩
  go_wp2
  go_ret
  rw [← HF.out]
  exact ⟨rfl, _, rfl⟩
 ·
  have HF := Lib.hid (f4 rfl rfl)
  clear f1 f2 f3 f4
  go_enter Tryz.func280, Tryz.ntmps280
  go_wp2
  go_quiet (fail)
  go_wp2
  go_ret
  rw [HF.out]
  exact ⟨rfl, _, rfl⟩
 ·
  have HF := Lib.hid (f3 rfl rfl)
  clear f1 f2 f3 f4
  go_enter Tryz.func280, Tryz.ntmps280
  go_wp2
  go_quiet (fail)
  go_wp2
  go_ret
  rw [HF.out]
  exact ⟨rfl, _, rfl⟩
 ·
  have HF := Lib.hid (f2 rfl rfl)
  clear f1 f2 f3 f4
  go_enter Tryz.func280, Tryz.ntmps280
  go_wp2
  go_quiet (fail)
  go_wp2
  refine wp_region_plan (fun w' : World => w'.cell? ⟨c, p + 1, none⟩ = some vx ∧ w'.cell? ⟨d, q + 1, none⟩ = some vy) 8 [(0, true), (1, true), (2, true), (3, true), (4, true), (5, true), (6, true), (7, true)] (by kernel_rfl) (by kernel_rfl) ?_
  have hS : (fun w' : World => w'.cell? ⟨c, p + 1, none⟩ = some vx ∧ w'.cell? ⟨d, q + 1, none⟩ = some vy) (w.drewN nq).drew := ⟨by go_simp, by go_simp⟩
  repeat (refine wpPlan_take (v := ?_) rfl (fun _ _ _ h => h) rfl (fun w' hSw => ?_) hS ?_; rotate_left; focus (go_simp; with_reducible rfl); try simp only [Act.put, setL])
  clear hS
  refine wpPlan_nil ?_
  simp only [drL]
  go_wp2_with fail
  refine (compare_any _ _ ay ax (w.drewN (nq + 1)) (HRy.out.drewN _) (HRx.out.drewN _)).mono ?_
  rintro e wd ⟨rfl, nd, rfl⟩
  go_wp2
  go_ret
  rw [← HF.out]
  exact ⟨rfl, _, rfl⟩
theorem rsh_fin (X : Int) (n : Nat) :
  (decide (X < 0) = false → (if false then -((X.natAbs / 2 ^ n : Nat) : Int) else ((X.natAbs / 2 ^ n : Nat) : Int)) = X / 2 ^ n) ∧
  (decide (X < 0) = true → X.natAbs % 2 ^ n = 0 → (if true then -((X.natAbs / 2 ^ n : Nat) : Int) else ((X.natAbs / 2 ^ n : Nat) : Int)) = X / 2 ^ n) ∧
  (decide (X < 0) = true → X.natAbs % 2 ^ n ≠ 0 → (if true then -((X.natAbs / 2 ^ n + 1 : Nat) : Int) else ((X.natAbs / 2 ^ n + 1 : Nat) : Int)) = X / 2 ^ n) := by
 have hp : 0 < 2 ^ n := Nat.two_pow_pos n
 have e : (2 : Int) ^ n = ((2 ^ n : Nat) : Int) := by simp
 simp only [decide_eq_true_eq, decide_eq_false_iff_not, Bool.false_eq_true, if_false, if_true]
 rw [e]
 generalize 2 ^ n = M at *
 refine ⟨fun h => ?_, fun h h0 => ?_, fun h h0 => ?_⟩
 ·have : X = (X.natAbs : Int) := by omega
  rw [this]; simp
 ·have hX : X = -(X.natAbs : Int) := by omega
  generalize X.natAbs = a at *
  subst hX
  have hd := Nat.div_add_mod a M
  rw [h0, Nat.add_zero] at hd
  generalize a / M = q at *
  rw [← hd]
  have : (-(((M * q : Nat)) : Int)) = (M : Int) * (-(q : Int)) := by rw [Int.natCast_mul, Int.mul_neg]
  rw [this, Int.mul_ediv_cancel_left _ (by omega)]
 ·have hX : X = -(X.natAbs : Int) := by omega
  generalize X.natAbs = a at *
  subst hX
  have hd := Nat.div_add_mod a M
  have hlt := Nat.mod_lt a hp
  generalize a / M = q at *
  generalize a % M = r at *
  have : (-(a : Int)) = ((M - r : Nat) : Int) + (M : Int) * (-((q + 1 : Nat) : Int)) := by
   rw [← hd, Int.mul_neg, ← Int.natCast_mul, Nat.mul_add, Nat.mul_one]; omega
  rw [this, Int.add_mul_ediv_left _ _ (by omega), Int.ediv_eq_zero_of_lt (by omega) (by omega)]
  omega
theorem Raw.one (w : World) : Raw .u64 64 (w.alloc (.cells #[.int .u64 1] 33)) (.slice (some ⟨w.heap.size, 0, none⟩) 1 1) 1 1 := by
 refine ⟨_, 1, rfl, by omega, by decide, by omega, fun _ => ⟨w.heap.size, 0, rfl, by simp, Elem.new _ _ _, fun i hi => ?_⟩⟩
 obtain rfl : i = 0 := by omega
 rw [show (⟨w.heap.size, 0 + 0, none⟩ : Addr) = ⟨w.heap.size, 0, none⟩ from rfl, World.cell?_alloc_new]
 simp [dg]
set_option maxRecDepth 100000 in
set_option maxHeartbeats 400000 in
theorem Rsh_any (b o c p n : Nat) (X : Int) (w : World) (hz : Spot w b o) (hx : IntAt w c p X) (hl : ln 64 X.natAbs ≤ 68719476736) (hn : n ≤ 1099511627776) :
  Calls Tryz.prog 252 #[.pointer (some ⟨b, o, none⟩), .pointer (some ⟨c, p, none⟩), .int .u64 n] w (Puts .u64 64 b o (X / 2 ^ n) w) := by
 obtain ⟨hxs, hx0, vx, hx1, hrx⟩ := hx
 have HRx := Lib.hid hrx
 have HZ := Lib.hid hz
 have hlq : ln 64 (X.natAbs / 2 ^ n) ≤ 68719476736 := Nat.le_trans (ln_mono (by decide) (Nat.div_le_self _ _)) hl
 obtain ⟨f1, f2, f3⟩ := rsh_fin X n
 generalize decide (X < 0) = sx at *
 generalize X.natAbs = ax at *
 clear hrx hxs hz
 cases sx
 ·have HF := Lib.hid (f1 rfl)
  clear f1 f2 f3
  go_enter Tryz.func252, Tryz.ntmps252
  go_wp2_with fail
  refine (right_any _ ax n _ HRx.out hn hl).mono ?_
  rintro e w1 ⟨v1, rfl, hb1, hr1⟩
  have HB := Lib.hid hb1
  have HR1 := Lib.hid hr1
  clear hb1 hr1
  go_wp2_with fail
  refine (made_any b o _ false _ _ (HZ.out.below HB.out) HR1.out).mono ?_
  rintro e w2 ⟨rfl, hi2, hm2⟩
  have HF2 := Lib.hid hi2
  have HM := Lib.hid ((Mod.of_below HB.out HZ.out.1).trans HZ.out.1 hm2)
  clear hi2 hm2
  go_wp2
  go_ret
  rw [← HF.out]
  exact ⟨rfl, HF2.out, HM.out⟩
 ·by_cases h0 : ax % 2 ^ n = 0
  ·have HF := Lib.hid (f2 rfl h0)
   have HD : Hid (decide (ax % 2 ^ n ≠ 0) = false) := Lib.hid (by rw [decide_eq_false_iff_not]; exact fun h => h h0)
   clear f1 f2 f3 h0
   go_enter Tryz.func252, Tryz.ntmps252
   go_wp2_with fail
   refine (right_any _ ax n _ HRx.out hn hl).mono ?_
   rintro e w1 ⟨v1, rfl, hb1, hr1⟩
   rw [HD.out]
   have HB := Lib.hid hb1
   have HR1 := Lib.hid hr1
   clear hb1 hr1
   go_wp2_with fail
   refine (made_any b o _ true _ _ (HZ.out.below HB.out) HR1.out).mono ?_
   rintro e w2 ⟨rfl, hi2, hm2⟩
   have HF2 := Lib.hid hi2
   have HM := Lib.hid ((Mod.of_below HB.out HZ.out.1).trans HZ.out.1 hm2)
   clear hi2 hm2
   go_wp2
   go_ret
   rw [← HF.out]
   exact ⟨rfl, HF2.out, HM.out⟩
  ·have HF := Lib.hid (f3 rfl h0)
   have HD : Hid (decide (ax % 2 ^ n ≠ 0) = true) := Lib.hid (decide_eq_true h0)
   clear f1 f2 f3 h0
   go_enter Tryz.func252, Tryz.ntmps252
   go_wp2_with fail
   refine (right_any _ ax n _ HRx.out hn hl).mono ?_
   rintro e w1 ⟨v1, rfl, hb1, hr1⟩
   rw [HD.out]
   have HB1 := Lib.hid hb1
   have HR1 := Lib.hid hr1
   clear hb1 hr1
   go_wp2_with fail
   refine (sum_any _ _ _ 1 (ax / 2 ^ n) 1 _ (HR1.out.below (Below.alloc_self _ _)) (Raw.one _) ⟨by omega, by omega⟩).mono ?_
   rintro e w3 ⟨v3, rfl, hb3, hr3⟩
   have HB := Lib.hid ((HB1.out.alloc HB1.out.size _).trans (hb3.mono (by have := HB1.out.size; simp; omega)))
   have HR3 := Lib.hid hr3
   clear hb3 hr3
   go_wp2_with fail
   refine (made_any b o _ true _ _ (HZ.out.below HB.out) HR3.out).mono ?_
   rintro e w2 ⟨rfl, hi2, hm2⟩
   have HF2 := Lib.hid hi2
   have HM := Lib.hid ((Mod.of_below HB.out HZ.out.1).trans HZ.out.1 hm2)
   clear hi2 hm2
   go_wp2
   go_ret
   rw [← HF.out]
   exact ⟨rfl, HF2.out, HM.out⟩
theorem and_cells (a b k : Nat) : bits .and .u64 ((dg 64 a k : Nat) : Int) ((dg 64 b k : Nat) : Int) = ((dg 64 (a &&& b) k : Nat) : Int) := by
 rw [and_dg]; exact bits_and_u64_nat _ _ (dg64_lt _ _) (dg64_lt _ _)
theorem or_cells (a b k : Nat) : bits .or .u64 ((dg 64 a k : Nat) : Int) ((dg 64 b k : Nat) : Int) = ((dg 64 (a ||| b) k : Nat) : Int) := by
 rw [or_dgs]; exact bits_or_u64_nat _ _ (dg64_lt _ _) (dg64_lt _ _)
set_option maxRecDepth 100000 in
set_option maxHeartbeats 400000 in
theorem And_any (b o c p d q : Nat) (X Y : Int) (w : World) (hz : Spot w b o) (hx : IntAt w c p X) (hy : IntAt w d q Y) (hl : ln 64 X.natAbs ≤ 68719476736) (hk : ln 64 Y.natAbs ≤ 68719476736) :
  Calls Tryz.prog 253 #[.pointer (some ⟨b, o, none⟩), .pointer (some ⟨c, p, none⟩), .pointer (some ⟨d, q, none⟩)] w (Puts .u64 64 b o (X.natAbs &&& Y.natAbs : Nat) w) := by
 obtain ⟨hxs, hx0, vx, hx1, hrx⟩ := hx
 obtain ⟨hys, hy0, vy, hy1, hry⟩ := hy
 have hcx := hxs.1
 have hcy := hys.1
 have HRx := Lib.hid hrx
 have HRy := Lib.hid hry
 obtain ⟨vax, cpx, rfl, -, hNx, -, hkx⟩ := hrx
 obtain ⟨vay, cpy, rfl, -, hNy, -, hky⟩ := hry
 have HCx := Lib.hid hkx
 have HCy := Lib.hid hky
 have HZ := Lib.hid hz
 clear hx0 hy0 hxs hys hz hkx hky
 generalize X.natAbs = ax at *
 generalize Y.natAbs = ay at *
 generalize ln 64 ax = nx at *
 generalize ln 64 ay = ny at *
 obtain ⟨m, hm1, hm2, hm3, hmm⟩ : ∃ m, m ≤ nx ∧ m ≤ ny ∧ m ≤ 68719476736 ∧ min (nx : Int) (ny : Int) = (m : Int) := by
  rcases Nat.lt_or_ge nx ny with h | h
  ·first | exact ⟨nx, by omega, by omega, by omega, by omega⟩ | exact ⟨ny, by omega, by omega, by omega, by omega⟩
  ·first | exact ⟨ny, by omega, by omega, by omega, by omega⟩ | exact ⟨nx, by omega, by omega, by omega, by omega⟩
 have HL : Hid (ax &&& ay < 2 ^ (64 * m)) := Lib.hid (by rcases (show m = nx ∨ m = ny from by omega) with h | h <;> rw [h] <;> first | exact Nat.and_lt_two_pow _ hNy | (rw [Nat.and_comm]; exact Nat.and_lt_two_pow _ hNx))
 have hmk := run_make_row' (P := Tryz.prog) 218 33 (.int .u64 0) 8 Tryz.underlying218 Tryz.info33 rfl .i64 .i64 m (by omega) (by omega)
 clear hNx hNy
 go_enter Tryz.func253, Tryz.ntmps253
 go_wp2_with fail
 refine wp_region_plan (fun w' : World => w'.cell? ⟨c, p + 1, none⟩ = some (.slice vax nx cpx) ∧ w'.cell? ⟨d, q + 1, none⟩ = some (.slice vay ny cpy)) 11 [(0, true), (1, true), (2, true), (3, true), (4, true), (5, true), (6, true), (7, true), (8, true), (9, true), (10, true)] (by kernel_rfl) (by kernel_rfl) ?_
 have hS : (fun w' : World => w'.cell? ⟨c, p + 1, none⟩ = some (.slice vax nx cpx) ∧ w'.cell? ⟨d, q + 1, none⟩ = some (.slice vay ny cpy)) w.drew := ⟨by go_simp, by go_simp⟩
 repeat (refine wpPlan_take (v := ?_) rfl (fun _ _ _ h => h) rfl (fun w' hSw => ?_) hS ?_; rotate_left; focus (go_simp; with_reducible rfl); try simp only [Act.put, setL])
 clear hS
 refine wpPlan_nil ?_
 simp only [drL]
 go_wp2
 clear hmk hmm
 have HR := Lib.hid (Row.made .u64 64 m w.drew)
 go_loopw [23] (fun i wr => ∃ k : Nat, k ≤ m ∧ i = .int .i64 k ∧ Hid (Row .u64 64 w.heap.size m ((ax &&& ay) % 2 ^ (64 * k)) wr) ∧ Below w.heap.size w wr)
  (fun i _ => m - (intOf i).toNat)
 case atStart => exact ⟨0, Nat.zero_le _, rfl, Lib.hid (by simp only [Nat.mul_zero, Nat.pow_zero, Nat.mod_one]; exact HR.out), ((Below.refl _ _).drew).alloc (Nat.le_refl _) _⟩
 case round =>
  clear HR
  obtain ⟨k, hk2, rfl, HR, hbel⟩ := hrel
  have hs := HR.out.2.lt
  have hf := fun p => HR.out.2.frozen p
  have HB := Lib.hid hbel
  clear hbel
  by_cases hlt : k < m
  ·
   obtain ⟨bx, ox, rfl, hbx, -, hkx⟩ := HCx.out (by omega)
   obtain ⟨by', oy, rfl, hby, -, hky⟩ := HCy.out (by omega)
   have hi0 : (0 : Int) ≤ (k : Int) := by omega
   have hi1 : (k : Int) < (nx : Int) := by omega
   have hi2 : (k : Int) < (ny : Int) := by omega
   have hfz := hf k
   obtain ⟨v0, hz0⟩ : ∃ v, wr.cell? ⟨w.heap.size, k, none⟩ = some v := ⟨_, HR.out.2.cell hlt⟩
   have hop := and_cells ax ay k
   have hj0 : (0 : Int) ≤ (k : Int) := by omega
   have hj1 : (k : Int) < (m : Int) := by omega
   clear hf
   go_wp2
   refine wp_region_plan (fun w' : World => (w'.cell? ⟨c, p + 1, none⟩ = some (.slice (some ⟨bx, ox, none⟩) nx cpx) ∧ w'.cell? ⟨d, q + 1, none⟩ = some (.slice (some ⟨by', oy, none⟩) ny cpy)) ∧ w'.cell? ⟨bx, ox + k, none⟩ = some (.int .u64 (dg 64 ax k : Nat)) ∧ w'.cell? ⟨by', oy + k, none⟩ = some (.int .u64 (dg 64 ay k : Nat))) 18 [(0, true), (1, true), (2, true), (3, true), (4, true), (5, true), (6, true), (7, true), (8, true), (9, true), (10, true), (11, true), (12, true), (13, true), (14, true), (15, true), (16, true), (17, true)] (by kernel_rfl) (by kernel_rfl) ?_
   have hS : (fun w' : World => (w'.cell? ⟨c, p + 1, none⟩ = some (.slice (some ⟨bx, ox, none⟩) nx cpx) ∧ w'.cell? ⟨d, q + 1, none⟩ = some (.slice (some ⟨by', oy, none⟩) ny cpy)) ∧ w'.cell? ⟨bx, ox + k, none⟩ = some (.int .u64 (dg 64 ax k : Nat)) ∧ w'.cell? ⟨by', oy + k, none⟩ = some (.int .u64 (dg 64 ay k : Nat))) wr.drew := ⟨⟨(HB.out.cell (p := ⟨c, p + 1, none⟩) hcx).trans hx1, (HB.out.cell (p := ⟨d, q + 1, none⟩) hcy).trans hy1⟩, (HB.out.cell (p := ⟨bx, ox + k, none⟩) hbx).trans (hkx k (by omega)), (HB.out.cell (p := ⟨by', oy + k, none⟩) hby).trans (hky k (by omega))⟩
   clear hkx hky
   repeat (refine wpPlan_take (v := ?_) rfl (fun _ _ _ h => h) rfl (fun w' hSw => ?_) hS ?_; rotate_left; focus (go_simp; with_reducible rfl); try simp only [Act.put, setL])
   clear hS
   refine wpPlan_nil ?_
   simp only [drL]
   go_wp2
   go_roundw
   case rel =>
    refine ⟨k + 1, by omega, by go_num, Lib.hid ?_, HB.out.drew.setCell (Nat.le_refl _) _⟩
    rw [← setd_mod_succ]
    have h1 := (HR.out.set (i := k) (dg_lt 64 (ax &&& ay) k) hlt)
    exact ⟨h1.1, h1.2⟩
   case measure => simp [intOf]; omega
  ·obtain rfl : k = m := by omega
   have hraw := HR.out.raw (by omega)
   rw [Nat.mod_eq_of_lt HL.out] at hraw
   have HW := Lib.hid hraw
   have HF : Hid ((if false then -((ax &&& ay : Nat) : Int) else ((ax &&& ay : Nat) : Int)) = ((ax &&& ay : Nat) : Int)) := Lib.hid rfl
   clear hf hraw
   go_wp2_with fail
   refine (norm_any _ _ _ _ HW.out).mono ?_
   rintro e w1 ⟨v, rfl, rfl, hr2⟩
   have HR1 := Lib.hid hr2
   clear hr2
   go_wp2_with fail
   refine (made_any b o _ false _ _ (HZ.out.below HB.out) HR1.out).mono ?_
   rintro e w2 ⟨rfl, hi2, hm2⟩
   have HF2 := Lib.hid hi2
   have HM := Lib.hid ((Mod.of_below HB.out HZ.out.1).trans HZ.out.1 hm2)
   clear hi2 hm2
   go_wp2
   go_ret
   rw [← HF.out]
   exact ⟨rfl, HF2.out, HM.out⟩
set_option maxRecDepth 100000 in
set_option maxHeartbeats 400000 in
theorem Or_any (b o c p d q : Nat) (X Y : Int) (w : World) (hz : Spot w b o) (hx : IntAt w c p X) (hy : IntAt w d q Y) (hl : ln 64 X.natAbs ≤ 68719476736) (hk : ln 64 Y.natAbs ≤ 68719476736) :
  Calls Tryz.prog 247 #[.pointer (some ⟨b, o, none⟩), .pointer (some ⟨c, p, none⟩), .pointer (some ⟨d, q, none⟩)] w (Puts .u64 64 b o (X.natAbs ||| Y.natAbs : Nat) w) := by
 obtain ⟨hxs, hx0, vx, hx1, hrx⟩ := hx
 obtain ⟨hys, hy0, vy, hy1, hry⟩ := hy
 have hcx := hxs.1
 have hcy := hys.1
 have HRx := Lib.hid hrx
 have HRy := Lib.hid hry
 obtain ⟨vax, cpx, rfl, -, hNx, -, hkx⟩ := hrx
 obtain ⟨vay, cpy, rfl, -, hNy, -, hky⟩ := hry
 have HCx := Lib.hid hkx
 have HCy := Lib.hid hky
 have HZ := Lib.hid hz
 clear hx0 hy0 hxs hys hz hkx hky
 generalize X.natAbs = ax at *
 generalize Y.natAbs = ay at *
 generalize ln 64 ax = nx at *
 generalize ln 64 ay = ny at *
 obtain ⟨m, hm1, hm2, hm3, hmm⟩ : ∃ m, nx ≤ m ∧ ny ≤ m ∧ m ≤ 68719476736 ∧ max (nx : Int) (ny : Int) = (m : Int) := by
  rcases Nat.lt_or_ge nx ny with h | h
  ·first | exact ⟨nx, by omega, by omega, by omega, by omega⟩ | exact ⟨ny, by omega, by omega, by omega, by omega⟩
  ·first | exact ⟨ny, by omega, by omega, by omega, by omega⟩ | exact ⟨nx, by omega, by omega, by omega, by omega⟩
 have HL : Hid (ax ||| ay < 2 ^ (64 * m)) := Lib.hid (Nat.or_lt_two_pow (Nat.lt_of_lt_of_le hNx (Nat.pow_le_pow_right (by decide) (by omega))) (Nat.lt_of_lt_of_le hNy (Nat.pow_le_pow_right (by decide) (by omega))))
 have hmk := run_make_row' (P := Tryz.prog) 218 33 (.int .u64 0) 8 Tryz.underlying218 Tryz.info33 rfl .i64 .i64 m (by omega) (by omega)
 clear hNx hNy
 go_enter Tryz.func247, Tryz.ntmps247
 go_wp2_with fail
 refine wp_region_plan (fun w' : World => w'.cell? ⟨c, p + 1, none⟩ = some (.slice vax nx cpx) ∧ w'.cell? ⟨d, q + 1, none⟩ = some (.slice vay ny cpy)) 11 [(0, true), (1, true), (2, true), (3, true), (4, true), (5, true), (6, true), (7, true), (8, true), (9, true), (10, true)] (by kernel_rfl) (by kernel_rfl) ?_
 have hS : (fun w' : World => w'.cell? ⟨c, p + 1, none⟩ = some (.slice vax nx cpx) ∧ w'.cell? ⟨d, q + 1, none⟩ = some (.slice vay ny cpy)) w.drew := ⟨by go_simp, by go_simp⟩
 repeat (refine wpPlan_take (v := ?_) rfl (fun _ _ _ h => h) rfl (fun w' hSw => ?_) hS ?_; rotate_left; focus (go_simp; with_reducible rfl); try simp only [Act.put, setL])
 clear hS
 refine wpPlan_nil ?_
 simp only [drL]
 go_wp2
 clear hmk hmm
 have HR := Lib.hid (Row.made .u64 64 m w.drew)
 go_loopw [23] (fun i wr => ∃ k : Nat, k ≤ m ∧ i = .int .i64 k ∧ Hid (Row .u64 64 w.heap.size m ((ax ||| ay) % 2 ^ (64 * k)) wr) ∧ Below w.heap.size w wr)
  (fun i _ => m - (intOf i).toNat)
 case atStart => exact ⟨0, Nat.zero_le _, rfl, Lib.hid (by simp only [Nat.mul_zero, Nat.pow_zero, Nat.mod_one]; exact HR.out), ((Below.refl _ _).drew).alloc (Nat.le_refl _) _⟩
 case round =>
  clear HR
  obtain ⟨k, hk2, rfl, HR, hbel⟩ := hrel
  have hs := HR.out.2.lt
  have hf := fun p => HR.out.2.frozen p
  have HB := Lib.hid hbel
  clear hbel
  by_cases hlt : k < m
  ·
   have hfz := hf k
   obtain ⟨v0, hz0⟩ : ∃ v, wr.cell? ⟨w.heap.size, k, none⟩ = some v := ⟨_, HR.out.2.cell hlt⟩
   have hop := or_cells ax ay k
   have hj0 : (0 : Int) ≤ (k : Int) := by omega
   have hj1 : (k : Int) < (m : Int) := by omega
   clear hf
   go_wp2
   refine wp_region_plan (fun w' : World => w'.cell? ⟨c, p + 1, none⟩ = some (.slice vax nx cpx) ∧ w'.cell? ⟨d, q + 1, none⟩ = some (.slice vay ny cpy)) 16 [(0, true), (1, true), (2, true), (3, true), (4, true), (5, true), (6, true), (8, true), (9, true), (10, true), (11, true), (12, true), (7, false), (13, false), (14, true), (15, true)] (by kernel_rfl) (by kernel_rfl) ?_
   have hS : (fun w' : World => w'.cell? ⟨c, p + 1, none⟩ = some (.slice vax nx cpx) ∧ w'.cell? ⟨d, q + 1, none⟩ = some (.slice vay ny cpy)) wr.drew := ⟨(HB.out.cell (p := ⟨c, p + 1, none⟩) hcx).trans hx1, (HB.out.cell (p := ⟨d, q + 1, none⟩) hcy).trans hy1⟩
   repeat (refine wpPlan_take (v := ?_) rfl (fun _ _ _ h => h) rfl (fun w' hSw => ?_) hS ?_; rotate_left; focus (go_simp; with_reducible rfl); try simp only [Act.put, setL])
   have HBd := Lib.hid HB.out.drew
   refine wpPlan_run rfl fun K' hK => ?_
   go_simp
   refine (digit_any _ _ ax k _ (HRx.out.below HBd.out) (by omega)).mono ?_
   rintro e w1 ⟨rfl, rfl⟩
   refine hK _ _ hS ?_
   clear hK K'
   try simp only [Act.put, setL]
   refine wpPlan_run rfl fun K' hK => ?_
   go_simp
   refine (digit_any _ _ ay k _ (HRy.out.below HBd.out) (by omega)).mono ?_
   rintro e w1 ⟨rfl, rfl⟩
   refine hK _ _ hS ?_
   clear hK K'
   try simp only [Act.put, setL]
   repeat (refine wpPlan_take (v := ?_) rfl (fun _ _ _ h => h) rfl (fun w' hSw => ?_) hS ?_; rotate_left; focus (go_simp; with_reducible rfl); try simp only [Act.put, setL])
   clear hS
   refine wpPlan_nil ?_
   simp only [drL]
   go_wp2
   go_roundw
   case rel =>
    refine ⟨k + 1, by omega, by go_num, Lib.hid ?_, HB.out.drew.setCell (Nat.le_refl _) _⟩
    rw [← setd_mod_succ]
    have h1 := (HR.out.set (i := k) (dg_lt 64 (ax ||| ay) k) hlt)
    exact ⟨h1.1, h1.2⟩
   case measure => simp [intOf]; omega
  ·obtain rfl : k = m := by omega
   have hraw := HR.out.raw (by omega)
   rw [Nat.mod_eq_of_lt HL.out] at hraw
   have HW := Lib.hid hraw
   have HF : Hid ((if false then -((ax ||| ay : Nat) : Int) else ((ax ||| ay : Nat) : Int)) = ((ax ||| ay : Nat) : Int)) := Lib.hid rfl
   clear hf hraw
   go_wp2_with fail
   refine (norm_any _ _ _ _ HW.out).mono ?_
   rintro e w1 ⟨v, rfl, rfl, hr2⟩
   have HR1 := Lib.hid hr2
   clear hr2
   go_wp2_with fail
   refine (made_any b o _ false _ _ (HZ.out.below HB.out) HR1.out).mono ?_
   rintro e w2 ⟨rfl, hi2, hm2⟩
   have HF2 := Lib.hid hi2
   have HM := Lib.hid ((Mod.of_below HB.out HZ.out.1).trans HZ.out.1 hm2)
   clear hi2 hm2
   go_wp2
   go_ret
   rw [← HF.out]
   exact ⟨rfl, HF2.out, HM.out⟩
end
end Go.Proofs.YtfmecpembnmnkaaGreatDoor
