/- Walk: DyadRing where one of the three is no number. Printed by wip/gen/ring.py. -/
import Derived.Test.YtfcddnccmdjhfaaDoorFr
namespace Go.Proofs.YtfcddnccmdjhfaaDoor
open Go.RowKit

/-- What Of answers, of any bits: some dyad's value, some error's number. -/
def OfAny (w : World) (en : Ending) (w' : World) : Prop := ∃ (k : Int) (n : Bool) (ao : Option Addr) (l c : Nat) (e : Int), en = .returned (.tuple #[.agg #[.bool n, .slice ao l c, .int .i64 e], .int .i64 k]) ∧ Below w.heap.size w w'

theorem dOf_gen (b : Nat) (w : World) (h : b < 18446744073709551616) (hT : Tab64 w) (hTs : 1 < w.heap.size) : Calls Tryd.prog 6 #[.float .f64 b] w (OfAny w) := by
  by_cases hf : finB b = true
  · refine (dOf_any b w h hf hT hTs).mono fun e1 w1 hd => ?_
    obtain ⟨ao, c, h1, -, -, h4, -⟩ := hd.at'
    exact ⟨0, _, ao, _, c, _, h1, h4⟩
  · refine (dOf_bad b w h (by simpa using hf)).mono fun e1 w1 hd => ?_
    exact ⟨4, false, none, 0, 0, 0, hd.1, hd.2⟩

set_option maxRecDepth 100000 in
set_option maxHeartbeats 8000000 in
theorem ring_bad0 (x y u : Nat) (w : World) (hx : x < 18446744073709551616) (hy : y < 18446744073709551616) (hu : u < 18446744073709551616) (hT : Tab64 w) (hTs : 1 < w.heap.size) (fx : finB x = false) :
    Calls Tryd.prog 4 #[.int .u64 x, .int .u64 y, .int .u64 u] w (Gives (.bool true) w) := by
  have HT := Lib.hid (And.intro hT hTs)
  have hf1 := ffrom_eq x
  have hf2 := ffrom_eq y
  have hf3 := ffrom_eq u
  have H0 := Lib.hid fun W => dOf_bad x W hx fx
  have H1 := Lib.hid fun W hW => dOf_gen y W hy hW
  have H2 := Lib.hid fun W hW => dOf_gen u W hu hW
  clear hx hy hu hT hTs fx
  have HB := Lib.hid (Below.refl w.heap.size w)
  go_enter Tryd.func4, Tryd.ntmps4
  go_wp2_with fail
  refine (H0.out _).mono ?_
  rintro e0 w0 ⟨rfl, hb0⟩
  unfold DyV
  have HBn := Lib.hid (HB.out.trans (hb0.mono HB.out.size))
  clear HB
  have HB := HBn
  clear HBn
  have HBn := Lib.hid (HB.out.alloc HB.out.size (.cells #[.bool false, .slice none 0 0, .int .i64 0] 25))
  clear HB
  have HB := HBn
  clear HBn
  clear hb0
  go_wp2_with fail
  refine (H1.out _ (HT.out.1.below HT.out.2 HB.out) (Nat.lt_of_lt_of_le HT.out.2 HB.out.size)).mono ?_
  rintro e1 w1 ⟨k1, n1, ao1, l1, c1, p1, rfl, hb1⟩
  have HBn := Lib.hid (HB.out.trans (hb1.mono HB.out.size))
  clear HB
  have HB := HBn
  clear HBn
  have HBn := Lib.hid (HB.out.alloc HB.out.size (.cells #[.bool n1, .slice ao1 l1 c1, .int .i64 p1] 25))
  clear HB
  have HB := HBn
  clear HBn
  clear hb1
  go_wp2_with fail
  refine (H2.out _ (HT.out.1.below HT.out.2 HB.out) (Nat.lt_of_lt_of_le HT.out.2 HB.out.size)).mono ?_
  rintro e2 w2 ⟨k2, n2, ao2, l2, c2, p2, rfl, hb2⟩
  have HBn := Lib.hid (HB.out.trans (hb2.mono HB.out.size))
  clear HB
  have HB := HBn
  clear HBn
  have HBn := Lib.hid (HB.out.alloc HB.out.size (.cells #[.bool n2, .slice ao2 l2 c2, .int .i64 p2] 25))
  clear HB
  have HB := HBn
  clear HBn
  clear hb2
  go_wp2_with fail
  refine (awake_any _ (HT.out.1.below HT.out.2 HB.out) (Nat.lt_of_lt_of_le HT.out.2 HB.out.size)).mono ?_
  rintro e9 w9 ⟨rfl, hb9⟩
  have HBn := Lib.hid (HB.out.trans (hb9.mono HB.out.size))
  clear HB
  have HB := HBn
  clear HBn
  clear hb9
  go_wp2
  go_ret
  exact ⟨rfl, HB.out⟩

set_option maxRecDepth 100000 in
set_option maxHeartbeats 8000000 in
theorem ring_bad1 (x y u : Nat) (w : World) (hx : x < 18446744073709551616) (hy : y < 18446744073709551616) (hu : u < 18446744073709551616) (hT : Tab64 w) (hTs : 1 < w.heap.size) (fx : finB x = true) (fy : finB y = false) :
    Calls Tryd.prog 4 #[.int .u64 x, .int .u64 y, .int .u64 u] w (Gives (.bool true) w) := by
  have HT := Lib.hid (And.intro hT hTs)
  have hf1 := ffrom_eq x
  have hf2 := ffrom_eq y
  have hf3 := ffrom_eq u
  have H0 := Lib.hid fun W hW => dOf_any x W hx fx hW
  have H1 := Lib.hid fun W => dOf_bad y W hy fy
  have H2 := Lib.hid fun W hW => dOf_gen u W hu hW
  clear hx hy hu hT hTs fx fy
  have HB := Lib.hid (Below.refl w.heap.size w)
  go_enter Tryd.func4, Tryd.ntmps4
  go_wp2_with fail
  refine (H0.out _ (HT.out.1.below HT.out.2 HB.out) (Nat.lt_of_lt_of_le HT.out.2 HB.out.size)).mono ?_
  intro e0 w0 hd
  obtain ⟨ao0, c0, rfl, -, -, hb0, -⟩ := hd.at'
  generalize hn0 : decide (valZ x < 0) = n0 at *
  generalize hl0 : ln 32 (valZ x).natAbs = l0 at *
  generalize pE x = p0 at *
  clear hn0 hl0 hd
  have HBn := Lib.hid (HB.out.trans (hb0.mono HB.out.size))
  clear HB
  have HB := HBn
  clear HBn
  have HBn := Lib.hid (HB.out.alloc HB.out.size (.cells #[.bool n0, .slice ao0 l0 c0, .int .i64 p0] 25))
  clear HB
  have HB := HBn
  clear HBn
  clear hb0
  go_wp2_with fail
  refine (H1.out _).mono ?_
  rintro e1 w1 ⟨rfl, hb1⟩
  unfold DyV
  have HBn := Lib.hid (HB.out.trans (hb1.mono HB.out.size))
  clear HB
  have HB := HBn
  clear HBn
  have HBn := Lib.hid (HB.out.alloc HB.out.size (.cells #[.bool false, .slice none 0 0, .int .i64 0] 25))
  clear HB
  have HB := HBn
  clear HBn
  clear hb1
  go_wp2_with fail
  refine (H2.out _ (HT.out.1.below HT.out.2 HB.out) (Nat.lt_of_lt_of_le HT.out.2 HB.out.size)).mono ?_
  rintro e2 w2 ⟨k2, n2, ao2, l2, c2, p2, rfl, hb2⟩
  have HBn := Lib.hid (HB.out.trans (hb2.mono HB.out.size))
  clear HB
  have HB := HBn
  clear HBn
  have HBn := Lib.hid (HB.out.alloc HB.out.size (.cells #[.bool n2, .slice ao2 l2 c2, .int .i64 p2] 25))
  clear HB
  have HB := HBn
  clear HBn
  clear hb2
  go_wp2_with fail
  refine (awake_any _ (HT.out.1.below HT.out.2 HB.out) (Nat.lt_of_lt_of_le HT.out.2 HB.out.size)).mono ?_
  rintro e9 w9 ⟨rfl, hb9⟩
  have HBn := Lib.hid (HB.out.trans (hb9.mono HB.out.size))
  clear HB
  have HB := HBn
  clear HBn
  clear hb9
  go_wp2
  go_ret
  exact ⟨rfl, HB.out⟩

set_option maxRecDepth 100000 in
set_option maxHeartbeats 8000000 in
theorem ring_bad2 (x y u : Nat) (w : World) (hx : x < 18446744073709551616) (hy : y < 18446744073709551616) (hu : u < 18446744073709551616) (hT : Tab64 w) (hTs : 1 < w.heap.size) (fx : finB x = true) (fy : finB y = true) (fu : finB u = false) :
    Calls Tryd.prog 4 #[.int .u64 x, .int .u64 y, .int .u64 u] w (Gives (.bool true) w) := by
  have HT := Lib.hid (And.intro hT hTs)
  have hf1 := ffrom_eq x
  have hf2 := ffrom_eq y
  have hf3 := ffrom_eq u
  have H0 := Lib.hid fun W hW => dOf_any x W hx fx hW
  have H1 := Lib.hid fun W hW => dOf_any y W hy fy hW
  have H2 := Lib.hid fun W => dOf_bad u W hu fu
  clear hx hy hu hT hTs fx fy fu
  have HB := Lib.hid (Below.refl w.heap.size w)
  go_enter Tryd.func4, Tryd.ntmps4
  go_wp2_with fail
  refine (H0.out _ (HT.out.1.below HT.out.2 HB.out) (Nat.lt_of_lt_of_le HT.out.2 HB.out.size)).mono ?_
  intro e0 w0 hd
  obtain ⟨ao0, c0, rfl, -, -, hb0, -⟩ := hd.at'
  generalize hn0 : decide (valZ x < 0) = n0 at *
  generalize hl0 : ln 32 (valZ x).natAbs = l0 at *
  generalize pE x = p0 at *
  clear hn0 hl0 hd
  have HBn := Lib.hid (HB.out.trans (hb0.mono HB.out.size))
  clear HB
  have HB := HBn
  clear HBn
  have HBn := Lib.hid (HB.out.alloc HB.out.size (.cells #[.bool n0, .slice ao0 l0 c0, .int .i64 p0] 25))
  clear HB
  have HB := HBn
  clear HBn
  clear hb0
  go_wp2_with fail
  refine (H1.out _ (HT.out.1.below HT.out.2 HB.out) (Nat.lt_of_lt_of_le HT.out.2 HB.out.size)).mono ?_
  intro e1 w1 hd
  obtain ⟨ao1, c1, rfl, -, -, hb1, -⟩ := hd.at'
  generalize hn1 : decide (valZ y < 0) = n1 at *
  generalize hl1 : ln 32 (valZ y).natAbs = l1 at *
  generalize pE y = p1 at *
  clear hn1 hl1 hd
  have HBn := Lib.hid (HB.out.trans (hb1.mono HB.out.size))
  clear HB
  have HB := HBn
  clear HBn
  have HBn := Lib.hid (HB.out.alloc HB.out.size (.cells #[.bool n1, .slice ao1 l1 c1, .int .i64 p1] 25))
  clear HB
  have HB := HBn
  clear HBn
  clear hb1
  go_wp2_with fail
  refine (H2.out _).mono ?_
  rintro e2 w2 ⟨rfl, hb2⟩
  unfold DyV
  have HBn := Lib.hid (HB.out.trans (hb2.mono HB.out.size))
  clear HB
  have HB := HBn
  clear HBn
  have HBn := Lib.hid (HB.out.alloc HB.out.size (.cells #[.bool false, .slice none 0 0, .int .i64 0] 25))
  clear HB
  have HB := HBn
  clear HBn
  clear hb2
  go_wp2_with fail
  refine (awake_any _ (HT.out.1.below HT.out.2 HB.out) (Nat.lt_of_lt_of_le HT.out.2 HB.out.size)).mono ?_
  rintro e9 w9 ⟨rfl, hb9⟩
  have HBn := Lib.hid (HB.out.trans (hb9.mono HB.out.size))
  clear HB
  have HB := HBn
  clear HBn
  clear hb9
  go_wp2
  go_ret
  exact ⟨rfl, HB.out⟩

end Go.Proofs.YtfcddnccmdjhfaaDoor
