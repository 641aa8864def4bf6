/- Walks: math.Max of what is not below 0, math.Frexp, math.Ldexp of 1. Printed by wip/gen/nm4.py. -/
import Derived.Test.YthkhignbmefmjaaGreatDoorZNm3
import Derived.Test.YthkhignbmefmjaaGreatDoorGX
namespace Go.Proofs.YthkhignbmefmjaaGreatDoor
open Go.RowKit
theorem pos_of {m : Nat} (h : m < kInf) : m < 18446744073709551616 ∧ m < kSign ∧ nanB m = false ∧ ky m = m ∧ m % kSign = m := by
 have h1 : kInf = 9218868437227405312 := rfl
 have h2 : kSign = 9223372036854775808 := rfl
 have h3 : m < kSign := by omega
 have h4 : m % kSign = m := Nat.mod_eq_of_lt h3
 refine ⟨by omega, h3, num_iff.2 (by rw [h4]; omega), ?_, h4⟩
 unfold ky; rw [if_pos h3]
theorem fin_of_lt {m : Nat} (h : m < kInf) : finB m = true := by
 have h1 : kInf = 9218868437227405312 := rfl
 unfold finB expF
 rw [show kHid = 4503599627370496 from rfl]
 exact decide_eq_true (by omega)
theorem zero_mant {s : Bool} {m : Nat} {e : Int} (h : (Ieee.Datum.number s m e).isZero = true) : m = 0 := by
 cases m with
 | zero => rfl
 | succ k => cases h
theorem mant_nought {x : Nat} (h : x < kSign) (h0 : mantB x = 0) : x = 0 := by
 unfold mantB fracF expF at h0
 rw [show kHid = 4503599627370496 from rfl] at h0
 rw [show kSign = 9223372036854775808 from rfl] at h
 split at h0 <;> omega
theorem bits_some (o : BinOp) (a b : Int) : ∃ n : Nat, bits o .u64 a b = (n : Int) ∧ n < 18446744073709551616 := by
 have key : ∀ z : Int, ∃ n : Nat, IntKind.u64.wrap z = (n : Int) ∧ n < 18446744073709551616 := fun z => ⟨(z % 18446744073709551616).toNat, by rw [IntKind.wrap_u64]; omega, by omega⟩
 exact key _
theorem max_eq {x y : Nat} (hx : x < kInf) (hy : y < kInf) (w : World) : (callFunc 70 #[.float .f64 x, .float .f64 y]).run Tryz.prog w = .ok (.value (.float .f64 (max x y))) w := by
 obtain ⟨p1, p2, p3, p4, p5⟩ := pos_of hx
 obtain ⟨r1, r2, r3, r4, r5⟩ := pos_of hy
 have fx : finB x = true := fin_of_lt hx
 have fy : finB y = true := fin_of_lt hy
 have h2 : FloatKind.f64.decode x = .number (sgnB x) (mantB x) (expB x) := read_fin p1 fx
 have h3 : FloatKind.f64.decode y = .number (sgnB y) (mantB y) (expB y) := read_fin r1 fy
 have t3 : ((FloatKind.f64.decode x).order (FloatKind.f64.decode y) == some Ordering.gt) = decide (ky y < ky x) := gt_test p1 r1 p3 r3
 rw [h2, h3, p4, r4] at t3
 have sx : sgnB x = false := by unfold sgnB; exact decide_eq_false (by omega)
 rw [run_callFunc_extern Tryz.func70 (by kernel_rfl) (by kernel_rfl) (by kernel_rfl) (e := Extern.MathDim.pick "math.archMax" false .gt) (by kernel_rfl)]
 have h4 : Extern.MathDim.pick "math.archMax" false .gt #[.float .f64 x, .float .f64 y] = pure (.float .f64 (
   if (FloatKind.f64.decode x == .infinity false || FloatKind.f64.decode y == .infinity false) = true then FloatKind.f64.encode (.infinity false)
   else if ((FloatKind.f64.decode x).isNaN || (FloatKind.f64.decode y).isNaN) = true then 0x7FF8000000000001
   else if ((FloatKind.f64.decode x).isZero && (FloatKind.f64.decode y).isZero) = true then (if ((FloatKind.f64.decode x).neg == false) = true then x else y)
   else if ((FloatKind.f64.decode x).order (FloatKind.f64.decode y) == some Ordering.gt) = true then x else y)) := rfl
 have h5 : (if (FloatKind.f64.decode x == .infinity false || FloatKind.f64.decode y == .infinity false) = true then FloatKind.f64.encode (.infinity false)
   else if ((FloatKind.f64.decode x).isNaN || (FloatKind.f64.decode y).isNaN) = true then 0x7FF8000000000001
   else if ((FloatKind.f64.decode x).isZero && (FloatKind.f64.decode y).isZero) = true then (if ((FloatKind.f64.decode x).neg == false) = true then x else y)
   else if ((FloatKind.f64.decode x).order (FloatKind.f64.decode y) == some Ordering.gt) = true then x else y) = max x y := by
  rw [h2, h3, t3, if_neg (by simp), if_neg (by simp [Ieee.Datum.isNaN])]
  by_cases hz : ((Ieee.Datum.number (sgnB x) (mantB x) (expB x)).isZero && (Ieee.Datum.number (sgnB y) (mantB y) (expB y)).isZero) = true
  ·rw [if_pos hz, show (Ieee.Datum.number (sgnB x) (mantB x) (expB x)).neg = sgnB x from rfl, sx, if_pos (by decide)]
   rw [Bool.and_eq_true] at hz
   have z1 : mantB x = 0 := zero_mant hz.1
   have z2 : mantB y = 0 := zero_mant hz.2
   rw [mant_nought p2 z1, mant_nought r2 z2]; rfl
  ·rw [if_neg hz]
   by_cases g : y < x
   ·rw [decide_eq_true (by omega), if_pos rfl, show max x y = x by omega]
   ·rw [decide_eq_false (by omega), if_neg (by decide), show max x y = y by omega]
 rw [h4, h5]; rfl
def nrmY (m : Nat) : Nat := if m < kHid then rndX (m : Int) (-1022) 0 else m
def nrmE (m : Nat) : Int := if m < kHid then -52 else 0
theorem nrmY_exp {m : Nat} (h0 : m ≠ 0) (h : m < kInf) : W64 (nrmY m) ∧ (expF (nrmY m) : Int) + nrmE m - 1023 = topE m := by
 unfold nrmY nrmE topE
 by_cases c : m < kHid
 ·rw [if_pos c, if_pos c, if_pos c]
  obtain ⟨y, g, h1, h2, h3, h4, h5⟩ := sub_scaled h0 c
  refine ⟨(rndX_lt _ _ 0).1, ?_⟩
  rw [h1, h2, join_exp (by omega) h3]; omega
 ·rw [if_neg c, if_neg c, if_neg c]
  exact ⟨(pos_of h).1, by omega⟩
set_option maxRecDepth 100000 in
set_option maxHeartbeats 1600000 in
theorem normalize_pos {m : Nat} (w : World) (h0 : m ≠ 0) (h : m < kInf) : Calls Tryz.prog 119 #[.float .f64 m] w (Gives (.tuple #[.float .f64 (nrmY m), .int .i64 (nrmE m)]) w) := by
 obtain ⟨p1, p2, p3, p4, p5⟩ := pos_of h
 have HA := Lib.hid fun w => abs_any m w p1
 rw [p5] at HA
 have t1 := lt_test p1 (by decide : W64 4503599627370496) p3 (by decide)
 rw [p4, show ky 4503599627370496 = 4503599627370496 by decide] at t1
 have hd : decide ((m : Int) < 4503599627370496) = decide (m < kHid) := decide_eq_decide.2 (by rw [show kHid = 4503599627370496 from rfl]; omega)
 rw [hd] at t1
 unfold nrmY nrmE
 have HB := Lib.hid (Below.refl w.heap.size w)
 by_cases c : m < kHid
 ·rw [if_pos c, if_pos c]
  rw [decide_eq_true c] at t1
  have hmul : ∀ t w, (binOp .mul t (.float .f64 m) (.float .f64 4841369599423283200)).run Tryz.prog w = .ok (.float .f64 (rndX (m : Int) (-1022) 0)) w := fun t w => run_float_arith w .mul t .f64 _ _ _ (mul_sub h0 c)
  generalize rndX (m : Int) (-1022) 0 = R at *
  clear p1 p2 p3 p4 p5 hd h0 h c
  go_enter Tryz.func119, Tryz.ntmps119
  go_wp2_with fail
  refine (HA.out _).mono ?_
  rintro e1 w1 ⟨rfl, hb1⟩
  replace HB := Lib.hid (HB.out.trans (hb1.mono HB.out.size))
  clear hb1
  go_wp2
  go_ret2
  exact ⟨rfl, HB.out⟩
 ·rw [if_neg c, if_neg c]
  rw [decide_eq_false c] at t1
  clear p1 p2 p3 p4 p5 hd h0 h c
  go_enter Tryz.func119, Tryz.ntmps119
  go_wp2_with fail
  refine (HA.out _).mono ?_
  rintro e1 w1 ⟨rfl, hb1⟩
  replace HB := Lib.hid (HB.out.trans (hb1.mono HB.out.size))
  clear hb1
  go_wp2
  go_ret2
  exact ⟨rfl, HB.out⟩
set_option maxRecDepth 100000 in
set_option maxHeartbeats 1600000 in
theorem frexp_pos {m : Nat} (w : World) (h0 : m ≠ 0) (h : m < kInf) : Calls Tryz.prog 73 #[.float .f64 m] w fun en w' => ∃ fr : Nat, en = .returned (.tuple #[.float .f64 fr, .int .i64 (topE m + 1)]) ∧ Below w.heap.size w w' := by
 obtain ⟨p1, p2, p3, p4, p5⟩ := pos_of h
 obtain ⟨bt1, bt2⟩ := topE_bd h0 h
 obtain ⟨ny, he⟩ := nrmY_exp h0 h
 have HI := Lib.hid fun w => isInf_all m w p1
 rw [p5, decide_eq_false (Nat.ne_of_lt h)] at HI
 have HN := Lib.hid fun w => isNaN_any m w
 rw [p3] at HN
 have HZ := Lib.hid fun w => normalize_pos w h0 h
 have t1 := eq_test p1 (by decide : W64 0) p3 (by decide)
 rw [p4, show ky 0 = 0 by decide, decide_eq_false (by omega)] at t1
 have hl : nrmE m = -52 ∨ nrmE m = 0 := by unfold nrmE; split; exact .inl rfl; exact .inr rfl
 have h1 := fbits_eq (nrmY m)
 have h2 := and_exp (nrmY m) ny
 have hE : expF (nrmY m) < 2048 := Nat.mod_lt _ (by decide)
 obtain ⟨n1, hn1, -⟩ := bits_some .andNot (nrmY m : Int) 9218868437227405312
 obtain ⟨n2, hn2, -⟩ := bits_some .or (n1 : Int) 4602678819172646912
 have h3 := ffrom_eq n2
 generalize topE m = T at *
 generalize nrmE m = E0 at *
 generalize expF (nrmY m) = E at *
 generalize nrmY m = y at *
 have q1 : IntKind.i64.wrap (E : Int) = (E : Int) := IntWalk.i64_in _ (by omega)
 have q2 : IntKind.i64.wrap ((E : Int) - 1023) = (E : Int) - 1023 := IntWalk.i64_in _ (by omega)
 have q3 : IntKind.i64.wrap ((E : Int) - 1023 + 1) = (E : Int) - 1023 + 1 := IntWalk.i64_in _ (by omega)
 have q4 : IntKind.i64.wrap (E0 + ((E : Int) - 1023 + 1)) = T + 1 := by rw [show E0 + ((E : Int) - 1023 + 1) = T + 1 by omega]; exact IntWalk.i64_in _ (by omega)
 clear p1 p2 p3 p4 p5 bt1 bt2 ny he hl hE h0 h
 have HB := Lib.hid (Below.refl w.heap.size w)
 go_enter Tryz.func73, Tryz.ntmps73
 go_wp2_with fail
 refine (HI.out _).mono ?_
 rintro e1 w1 ⟨rfl, hb1⟩
 replace HB := Lib.hid (HB.out.trans (hb1.mono HB.out.size))
 clear hb1
 go_wp2_with fail
 refine (HN.out _).mono ?_
 rintro e2 w2 ⟨rfl, hb2⟩
 replace HB := Lib.hid (HB.out.trans (hb2.mono HB.out.size))
 clear hb2
 go_wp2_with fail
 refine (HZ.out _).mono ?_
 rintro e3 w3 ⟨rfl, hb3⟩
 replace HB := Lib.hid (HB.out.trans (hb3.mono HB.out.size))
 clear hb3
 go_wp2
 go_ret2
 exact ⟨n2, rfl, HB.out⟩
set_option maxRecDepth 100000 in
set_option maxHeartbeats 1600000 in
theorem Frexp_pos {m : Nat} (w : World) (h0 : m ≠ 0) (h : m < kInf) : Calls Tryz.prog 24 #[.float .f64 m] w fun en w' => ∃ fr : Nat, en = .returned (.tuple #[.float .f64 fr, .int .i64 (topE m + 1)]) ∧ Below w.heap.size w w' := by
 have HF := Lib.hid fun W => frexp_pos W h0 h
 generalize topE m + 1 = T at *
 clear h0 h
 have HB := Lib.hid (Below.refl w.heap.size w)
 go_enter Tryz.func24, Tryz.ntmps24
 go_wp2_with fail
 refine (HF.out _).mono ?_
 rintro e1 w1 ⟨fr, rfl, hb1⟩
 replace HB := Lib.hid (HB.out.trans (hb1.mono HB.out.size))
 clear hb1
 go_wp2
 go_ret2
 exact ⟨fr, rfl, HB.out⟩
set_option maxRecDepth 100000 in
set_option maxHeartbeats 1600000 in
theorem ldexp_pow {k : Int} (w : World) (hk1 : -1074 ≤ k) (hk2 : k ≤ 1023) : Calls Tryz.prog 75 #[.float .f64 4607182418800017408, .int .i64 k] w (Gives (.float .f64 (rndX 1 k 0)) w) := by
 have h0 : (F6.order 4607182418800017408 0 == some Ordering.eq) = false := by decide
 have HI := Lib.hid fun w => isInf_all 4607182418800017408 w (by decide)
 rw [show decide (4607182418800017408 % kSign = kInf) = false by decide] at HI
 have HN := Lib.hid fun w => isNaN_any 4607182418800017408 w
 rw [show nanB 4607182418800017408 = false by decide] at HN
 have HZ := Lib.hid fun w => normalize_one w
 have h1 := fbits_eq 4607182418800017408
 have h2 : bits .and .i64 1023 2047 = 1023 := by decide
 have h3 : bits .andNot .u64 4607182418800017408 9218868437227405312 = 0 := by decide
 have q0 : IntKind.i64.wrap k = k := IntWalk.i64_in _ (by omega)
 have c1 : decide (k < -1075) = false := decide_eq_false (by omega)
 have c2 : decide (1023 < k) = false := decide_eq_false (by omega)
 have HB := Lib.hid (Below.refl w.heap.size w)
 by_cases c : k < -1022
 ·obtain ⟨E, hE⟩ : ∃ E : Nat, (k + 53) + 1023 = E := ⟨((k + 53) + 1023).toNat, by omega⟩
  have c3 : decide (k < -1022) = true := decide_eq_true (by omega)
  have q1 : IntKind.i64.wrap (k + 53) = k + 53 := IntWalk.i64_in _ (by omega)
  have q2 : IntKind.i64.wrap ((k + 53) + 1023) = (E : Int) := (IntWalk.i64_in _ (by omega)).trans hE
  have hE1 : 1 ≤ E := by omega
  have hE2 : E ≤ 2046 := by omega
  have q3 : IntKind.u64.wrap (E : Int) = (E : Int) := by rw [IntKind.wrap_u64]; omega
  have q4 : IntKind.u64.wrap ((E : Int) * 4503599627370496) = ((E * kHid : Nat) : Int) := by rw [IntKind.wrap_u64, show kHid = 4503599627370496 from rfl, Int.natCast_mul]; omega
  have hor : bits .or .u64 0 ((E * kHid : Nat) : Int) = ((E * kHid : Nat) : Int) := by have := bits_or_u64_nat 0 (E * kHid) (by decide) (by rw [show kHid = 4503599627370496 from rfl]; omega); rwa [Nat.zero_or] at this
  obtain ⟨m1, m2⟩ := mul_pow (c := E * kHid) rfl hE1 hE2
  rw [show (E : Int) - 1023 - 53 = k by omega] at m2
  have h6 : ∀ t w, (binOp .mul t (.float .f64 4368491638549381120) (.float .f64 (E * kHid))).run Tryz.prog w = .ok (.float .f64 (rndX 1 k 0)) w := fun t w => run_float_arith w .mul t .f64 _ _ _ m2
  have h5 := ffrom_eq (E * kHid)
  generalize rndX 1 k 0 = R at *
  generalize E * kHid = C at *
  clear m1 m2 hE1 hE2 hE hk1 hk2
  go_enter Tryz.func75, Tryz.ntmps75
  go_wp2_with fail
  refine (HI.out _).mono ?_
  rintro e1 w1 ⟨rfl, hb1⟩
  replace HB := Lib.hid (HB.out.trans (hb1.mono HB.out.size))
  clear hb1
  go_wp2_with fail
  refine (HN.out _).mono ?_
  rintro e2 w2 ⟨rfl, hb2⟩
  replace HB := Lib.hid (HB.out.trans (hb2.mono HB.out.size))
  clear hb2
  go_wp2_with fail
  refine (HZ.out _).mono ?_
  rintro e3 w3 ⟨rfl, hb3⟩
  replace HB := Lib.hid (HB.out.trans (hb3.mono HB.out.size))
  clear hb3
  go_wp2
  go_ret
  exact ⟨rfl, HB.out⟩
 ·obtain ⟨E, hE⟩ : ∃ E : Nat, k + 1023 = E := ⟨(k + 1023).toNat, by omega⟩
  have c3 : decide (k < -1022) = false := decide_eq_false (by omega)
  have q2 : IntKind.i64.wrap (k + 1023) = (E : Int) := (IntWalk.i64_in _ (by omega)).trans hE
  have hE1 : 1 ≤ E := by omega
  have hE2 : E ≤ 2046 := by omega
  have q3 : IntKind.u64.wrap (E : Int) = (E : Int) := by rw [IntKind.wrap_u64]; omega
  have q4 : IntKind.u64.wrap ((E : Int) * 4503599627370496) = ((E * kHid : Nat) : Int) := by rw [IntKind.wrap_u64, show kHid = 4503599627370496 from rfl, Int.natCast_mul]; omega
  have hor : bits .or .u64 0 ((E * kHid : Nat) : Int) = ((E * kHid : Nat) : Int) := by have := bits_or_u64_nat 0 (E * kHid) (by decide) (by rw [show kHid = 4503599627370496 from rfl]; omega); rwa [Nat.zero_or] at this
  obtain ⟨m1, m2⟩ := mul_pow (c := E * kHid) rfl hE1 hE2
  rw [show (E : Int) - 1023 = k by omega] at m1
  have h6 : ∀ t w, (binOp .mul t (.float .f64 4607182418800017408) (.float .f64 (E * kHid))).run Tryz.prog w = .ok (.float .f64 (rndX 1 k 0)) w := fun t w => run_float_arith w .mul t .f64 _ _ _ m1
  have h5 := ffrom_eq (E * kHid)
  generalize rndX 1 k 0 = R at *
  generalize E * kHid = C at *
  clear m1 m2 hE1 hE2 hE hk1 hk2
  go_enter Tryz.func75, Tryz.ntmps75
  go_wp2_with fail
  refine (HI.out _).mono ?_
  rintro e1 w1 ⟨rfl, hb1⟩
  replace HB := Lib.hid (HB.out.trans (hb1.mono HB.out.size))
  clear hb1
  go_wp2_with fail
  refine (HN.out _).mono ?_
  rintro e2 w2 ⟨rfl, hb2⟩
  replace HB := Lib.hid (HB.out.trans (hb2.mono HB.out.size))
  clear hb2
  go_wp2_with fail
  refine (HZ.out _).mono ?_
  rintro e3 w3 ⟨rfl, hb3⟩
  replace HB := Lib.hid (HB.out.trans (hb3.mono HB.out.size))
  clear hb3
  go_wp2
  go_ret
  exact ⟨rfl, HB.out⟩
set_option maxRecDepth 100000 in
set_option maxHeartbeats 1600000 in
theorem Ldexp_pow {k : Int} (w : World) (hk1 : -1074 ≤ k) (hk2 : k ≤ 1023) : Calls Tryz.prog 25 #[.float .f64 4607182418800017408, .int .i64 k] w (Gives (.float .f64 (rndX 1 k 0)) w) := by
 have HL := Lib.hid fun W => ldexp_pow W hk1 hk2
 generalize rndX 1 k 0 = R at *
 clear hk1 hk2
 have HB := Lib.hid (Below.refl w.heap.size w)
 go_enter Tryz.func25, Tryz.ntmps25
 go_wp2_with fail
 refine (HL.out _).mono ?_
 rintro e1 w1 ⟨rfl, hb1⟩
 replace HB := Lib.hid (HB.out.trans (hb1.mono HB.out.size))
 clear hb1
 go_wp2
 go_ret
 exact ⟨rfl, HB.out⟩
set_option maxRecDepth 100000 in
set_option maxHeartbeats 1600000 in
theorem Max_pos {x y : Nat} (w : World) (hx : x < kInf) (hy : y < kInf) : Calls Tryz.prog 22 #[.float .f64 x, .float .f64 y] w (Gives (.float .f64 (max x y)) w) := by
 have hm := max_eq hx hy
 generalize max x y = T at *
 clear hx hy
 go_enter Tryz.func22, Tryz.ntmps22
 go_wp2
 go_ret
 exact ⟨rfl, Below.refl _ _⟩
end Go.Proofs.YthkhignbmefmjaaGreatDoor
