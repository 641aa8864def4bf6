/- Walks: big.Int's other methods. -/
import Derived.Test.YtfcddnccmdjhfaaDoorInt2
namespace Go.Proofs.YtfcddnccmdjhfaaDoor
open Go.RowKit

set_option maxRecDepth 100000 in
set_option maxHeartbeats 400000 in
theorem SetUint64_any (b o N : Nat) (w : World) (hz : Spot w b o) (hN : N < 18446744073709551616) :
    Calls Tryd.prog 42 #[.pointer (some ⟨b, o, none⟩), .int .u64 N] w (Puts .u64 64 b o N w) := by
  have HZ := Lib.hid hz
  have HN := Lib.hid hN
  clear hz hN
  go_enter Tryd.func42, Tryd.ntmps42
  go_wp2_with fail
  refine (word_any N _ HN.out).mono ?_
  rintro e w1 ⟨v1, rfl, hb1, hr1⟩
  have HB := Lib.hid hb1
  have HR1 := Lib.hid hr1
  clear hb1 hr1
  go_wp2_with fail
  refine (made_any b o N false _ _ (HZ.out.below HB.out) HR1.out).mono ?_
  rintro e w2 ⟨rfl, hi2, hm2⟩
  have HF2 := Lib.hid hi2
  have HM := Lib.hid ((Mod.of_below HB.out HZ.out.1).trans HZ.out.1 hm2)
  clear hi2 hm2
  go_wp2
  go_ret
  exact ⟨rfl, HF2.out, HM.out⟩

theorem wrap_neg_i64 {z : Int} (h1 : z < 0) (h2 : -9223372036854775808 ≤ z) : IntKind.u64.wrap (-(IntKind.u64.wrap z)) = ((z.natAbs : Nat) : Int) := by
  rw [IntKind.wrap_u64, IntKind.wrap_u64]; omega

set_option maxRecDepth 100000 in
set_option maxHeartbeats 400000 in
theorem SetInt64_any (b o : Nat) (z : Int) (w : World) (hz : Spot w b o) (h1 : -9223372036854775808 ≤ z) (h2 : z ≤ 9223372036854775807) :
    Calls Tryd.prog 70 #[.pointer (some ⟨b, o, none⟩), .int .i64 z] w (Puts .u64 64 b o z w) := by
  have HZ := Lib.hid hz
  have hN : z.natAbs < 18446744073709551616 := by omega
  have HN := Lib.hid hN
  clear hz hN
  by_cases hneg : z < 0
  · have hw := wrap_neg_i64 hneg h1
    have HE : Hid ((if true then -((z.natAbs : Nat) : Int) else z.natAbs) = z) := Lib.hid (by simp; omega)
    have HW := Lib.hid hw
    clear hw h1 h2
    go_enter Tryd.func70, Tryd.ntmps70
    go_wp2_with fail
    rw [HW.out]
    refine (word_any _ _ HN.out).mono ?_
    rintro e w1 ⟨v1, rfl, hb1, hr1⟩
    have HB := Lib.hid hb1
    have HR1 := Lib.hid hr1
    clear hb1 hr1
    go_wp2_with fail
    refine (made_any b o _ true _ _ (HZ.out.below HB.out) HR1.out).mono ?_
    rintro e w2 ⟨rfl, hi2, hm2⟩
    have HF2 := Lib.hid hi2
    have HM := Lib.hid ((Mod.of_below HB.out HZ.out.1).trans HZ.out.1 hm2)
    clear hi2 hm2
    go_wp2
    go_ret
    exact ⟨rfl, by rw [← HE.out]; exact HF2.out, HM.out⟩
  · obtain ⟨n, rfl⟩ : ∃ n : Nat, z = n := ⟨z.natAbs, by omega⟩
    have HN2 : Hid (n < 18446744073709551616) := Lib.hid (by omega)
    clear HN
    go_enter Tryd.func70, Tryd.ntmps70
    go_wp2_with fail
    refine (word_any n _ HN2.out).mono ?_
    rintro e w1 ⟨v1, rfl, hb1, hr1⟩
    have HB := Lib.hid hb1
    have HR1 := Lib.hid hr1
    clear hb1 hr1
    go_wp2_with fail
    refine (made_any b o n false _ _ (HZ.out.below HB.out) HR1.out).mono ?_
    rintro e w2 ⟨rfl, hi2, hm2⟩
    have HF2 := Lib.hid hi2
    have HM := Lib.hid ((Mod.of_below HB.out HZ.out.1).trans HZ.out.1 hm2)
    clear hi2 hm2
    go_wp2
    go_ret
    exact ⟨rfl, HF2.out, HM.out⟩

/-- What a call that makes a number of its own hands back. -/
def News (k : IntKind) (s : Nat) (z : Int) (w : World) (e : Ending) (w' : World) : Prop :=
  ∃ b, e = .returned (.pointer (some ⟨b, 0, none⟩)) ∧ w.heap.size ≤ b ∧ IntK k s w' b 0 z ∧ Below w.heap.size w w'

theorem frozen_new (w : World) (c : Array Value) (t i : Nat) : (w.alloc (.cells c t)).frozen? ⟨w.heap.size, i, none⟩ = false := by
  have h : (w.alloc (.cells c t)).heap[w.heap.size]? = some (.cells c t (0, 0)) := by show (w.heap.push _)[w.heap.size]? = _; simp
  unfold World.frozen?
  rw [h]; simp

/-- A new struct of a sign and words. -/
theorem Spot.new (w : World) (t : Nat) (ht : ObjT t) : Spot (w.alloc (.cells #[.bool false, .slice none 0 0] t)) w.heap.size 0 :=
  ⟨by simp, ⟨t, Elem.new _ _ _, ht⟩, frozen_new _ _ _ _, frozen_new _ _ _ _, ⟨false, by rw [World.cell?_alloc_new]; rfl⟩, none, 0, 0, by rw [World.cell?_alloc_new]; rfl⟩

set_option maxRecDepth 100000 in
set_option maxHeartbeats 400000 in
theorem NewInt_any (z : Int) (w : World) (h1 : -9223372036854775808 ≤ z) (h2 : z ≤ 9223372036854775807) :
    Calls Tryd.prog 45 #[.int .i64 z] w (News .u64 64 z w) := by
  have HZ := Lib.hid (Spot.new w _ objT_int)
  go_enter Tryd.func45, Tryd.ntmps45
  go_wp2_with fail
  refine (SetInt64_any _ 0 z _ HZ.out h1 h2).mono ?_
  rintro e w2 ⟨rfl, hi2, hm2⟩
  have HF := Lib.hid hi2
  have HM := Lib.hid (hm2.below (Below.alloc_self w _) (Nat.le_refl _) (by simp))
  clear hi2 hm2
  go_wp2
  go_ret
  exact ⟨_, rfl, Nat.le_refl _, HF.out, HM.out⟩

set_option maxRecDepth 100000 in
set_option maxHeartbeats 400000 in
theorem Sign_any (c p : Nat) (X : Int) (w : World) (hx : IntAt w c p X) :
    Calls Tryd.prog 44 #[.pointer (some ⟨c, p, none⟩)] w fun e w' => e = .returned (.int .i64 X.sign) ∧ w = w' := by
  obtain ⟨hxs, hx0, vx, hx1, hrx⟩ := hx
  obtain ⟨ao, cap, rfl, -⟩ := hrx
  have hp := ln_pos_iff (s := 64) (N := X.natAbs) (by decide)
  by_cases h1 : X < 0
  · rw [decide_eq_true h1] at hx0
    have HF := Lib.hid (Int.sign_eq_neg_one_of_neg h1)
    rw [HF.out]
    clear h1 hp hxs HF
    go_enter Tryd.func44, Tryd.ntmps44
    go_wp2
    go_ret
    exact ⟨rfl, rfl⟩
  · rw [decide_eq_false h1] at hx0
    by_cases h2 : X = 0
    · subst h2
      rw [show (0 : Int).natAbs = 0 from rfl, ln_zero] at hx1
      rw [show (0 : Int).sign = 0 from rfl]
      clear h1 hp hxs
      go_enter Tryd.func44, Tryd.ntmps44
      go_wp2
      go_ret
      exact ⟨rfl, rfl⟩
    · have hlp : 0 < ln 64 X.natAbs := hp.2 (by omega)
      have HF := Lib.hid (Int.sign_eq_one_of_pos (show 0 < X by omega))
      rw [HF.out]
      clear h1 hp hxs HF h2
      generalize ln 64 X.natAbs = n at *
      have hb : ((n : Int) == 0) = false := by simp; omega
      go_enter Tryd.func44, Tryd.ntmps44
      go_wp2
      go_ret
      exact ⟨rfl, rfl⟩

set_option maxRecDepth 100000 in
set_option maxHeartbeats 400000 in
theorem BitLen_any (c p : Nat) (X : Int) (w : World) (hx : IntAt w c p X) :
    Calls Tryd.prog 33 #[.pointer (some ⟨c, p, none⟩)] w fun e w' => e = .returned (.int .i64 (bl X.natAbs : Nat)) ∧ w = w' := by
  obtain ⟨hxs, hx0, vx, hx1, hrx⟩ := hx
  have HR := Lib.hid hrx
  clear hrx hxs
  go_enter Tryd.func33, Tryd.ntmps33
  go_wp2_with fail
  refine (length_any _ _ _ HR.out).mono ?_
  rintro e w1 ⟨rfl, rfl⟩
  go_wp2
  go_ret
  exact ⟨rfl, rfl⟩

set_option maxRecDepth 100000 in
set_option maxHeartbeats 400000 in
theorem Uint64_any (c p : Nat) (X : Int) (w : World) (hx : IntAt w c p X) :
    Calls Tryd.prog 38 #[.pointer (some ⟨c, p, none⟩)] w fun e w' => e = .returned (.int .u64 (dg 64 X.natAbs 0 : Nat)) ∧ w = w' := by
  obtain ⟨hxs, hx0, vx, hx1, hrx⟩ := hx
  have HR := Lib.hid hrx
  clear hrx hxs
  go_enter Tryd.func38, Tryd.ntmps38
  go_wp2_with fail
  refine (low_any _ _ _ _ HR.out).mono ?_
  rintro e w1 ⟨rfl, rfl⟩
  go_wp2
  go_ret
  exact ⟨rfl, rfl⟩

end Go.Proofs.YtfcddnccmdjhfaaDoor
