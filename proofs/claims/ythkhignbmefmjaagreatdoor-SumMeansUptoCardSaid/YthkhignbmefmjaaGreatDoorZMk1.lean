/- Walk: dyad.Make of any words and exponent. -/
import Derived.Test.YthkhignbmefmjaaGreatDoorHB
namespace Go.Proofs.YthkhignbmefmjaaGreatDoor
open Go.RowKit
theorem DyIs.of_hv {z e : Int} {w : World} {d : Value} {k : Int} (hz : z ≠ 0) (h : DyIs (hvZ z) (hvE z 0 + e) w d k) : DyIs z e w d k := by
 have h1 : hvZ z % 2 = 1 := by
  rcases nrm_hv z 0 with ⟨h2, -⟩ | h2
  ·exact absurd h2 (hvZ_ne hz)
  ·exact h2
 have h0 : hvZ z ≠ 0 := hvZ_ne hz
 have h3 : hvE z 0 + e = hvE z e := by unfold hvE; omega
 rw [h3] at h
 have h4 : lngB (hvZ z) (hvE z e) = lngB z e := by unfold lngB; rw [hvZ_of_odd h1, hvE_of_odd h1]
 have h5 : nrE (hvZ z) (hvE z e) = nrE z e := by unfold nrE; rw [if_neg h0, if_neg hz, hvE_of_odd h1]
 rcases h with ⟨h6, h7, h8⟩ | ⟨h6, h7, h8⟩
 ·rw [hvZ_of_odd h1, h5] at h7
  rw [h4] at h6
  exact .inl ⟨h6.elim (fun h => absurd h h0) .inr, h7, h8⟩
 ·rw [h4] at h7
  exact .inr ⟨hz, h7, h8⟩
theorem lng_over {z e : Int} (h : 100000 < e) : lngB z e = true := by
 unfold lngB hvE
 have : 100000 < e + (tzb z.natAbs : Int) := by omega
 simp [this]
theorem lng_under {z e : Int} {n : Nat} (hz : z ≠ 0) (hN : z.natAbs < 2 ^ (32 * n)) (hn : n ≤ 1073741824) (h : e < -4611686018427387904) : lngB z e = true := by
 unfold lngB hvE
 have h1 : tzb z.natAbs ≤ 32 * n := by
  rcases Nat.lt_or_ge (32 * n) (tzb z.natAbs) with h2 | h2
  ·obtain ⟨m, hm⟩ := tzb_spec (N := z.natAbs) (by omega)
   have h3 : 2 ^ (32 * n) ≤ 2 ^ tzb z.natAbs := Nat.pow_le_pow_right (by decide) (by omega)
   have h4 : 2 ^ tzb z.natAbs ≤ 2 ^ tzb z.natAbs * (2 * m + 1) := Nat.le_mul_of_pos_right _ (by omega)
   omega
  ·exact h2
 have : e + (tzb z.natAbs : Int) < -100000 := by omega
 simp [this]
set_option maxRecDepth 100000 in
set_option maxHeartbeats 1600000 in
theorem dMake_any (neg : Bool) (sl : Value) (n N : Nat) (e : Int) (w : World) (h : Raw .u32 32 w sl n N) (hn : n ≤ 1073741824) (hT : Tab64 w) (hTs : 1 < w.heap.size) :
  Calls Tryz.prog 51 #[.bool neg, sl, .int .i64 e] w (ResOf 0 (sgZ neg N) e w) := by
 have HR := Lib.hid (And.intro h hn)
 have HN : Hid ((sgZ neg N).natAbs < 2 ^ (32 * n)) := by
  rw [sgZ_abs]
  obtain ⟨_, _, _, _, hN, _⟩ := h
  exact Lib.hid hN
 have HL : Hid (bl (sgZ neg N).natAbs ≤ 68719476736) := by
  rw [sgZ_abs]
  obtain ⟨_, _, _, _, hN, _⟩ := h
  exact Lib.hid (Nat.le_trans (bl_le_of_lt hN) (by omega))
 obtain ⟨ao, cap, rfl, -⟩ := h
 have HT := Lib.hid (And.intro hT hTs)
 clear hT hTs hn
 have HZ : Hid (sgZ neg N = (if neg then -(N : Int) else N)) := Lib.hid rfl
 generalize sgZ neg N = z at *
 have HB0 := Lib.hid (Below.alloc_self w (.cells #[.bool false, .slice none 0 0, .int .i64 0] 40))
 have HX0 := Lib.hid (BlkT.new w #[.bool false, .slice none 0 0, .int .i64 0] 40)
 go_enter Tryz.func51, Tryz.ntmps51
 go_wp2_with fail
 refine (take_any neg 0 _ n N _ (HR.out.1.below HB0.out) HR.out.2).mono ?_
 rintro e1 w2 ⟨p, rfl, -, hi1, hb2⟩
 rw [← HZ.out] at hi1
 have HI := Lib.hid hi1
 have HX2 := Lib.hid (HX0.out.below hb2)
 have HB2 := Lib.hid (HB0.out.trans (hb2.mono HB0.out.size))
 clear hi1 hb2 HX0 HB0
 unfold ExV
 by_cases h0 : z = 0
 ·have HS : Hid (z.sign = 0) := Lib.hid (by rw [h0]; rfl)
  have H0 := Lib.hid h0
  clear h0
  go_wp2_with fail
  have HB3 := Lib.hid (Below.alloc_self w2 (.cells #[.pointer (some ⟨p, 0, none⟩), .int .i64 0] 68))
  have HE3 := Lib.hid (BlkT.new w2 #[.pointer (some ⟨p, 0, none⟩), .int .i64 0] 68)
  generalize w2.alloc (.cells #[.pointer (some ⟨p, 0, none⟩), .int .i64 0] 68) = W3 at HB3 HE3 ⊢
  refine (Sign_any p 0 z _ (HI.out.below HB3.out)).mono ?_
  rintro e2 w3 ⟨rfl, rfl⟩
  rw [HS.out]
  have HX3 := Lib.hid (HX2.out.below HB3.out)
  have HB4 := Lib.hid (HB2.out.trans (HB3.out.mono HB2.out.size))
  have HN := Lib.hid (res_store1 (bad := 0) (R := z) (RE := e) (n := false) (a := none) (l := 0) (c := 0) (x := 0) (k := 0) HX3.out HB4.out (Nat.le_refl _) (.inl ⟨rfl, .inl ⟨.inl H0.out, by rw [H0.out, hvZ_zero, nrE, if_pos rfl]; exact DyAt.zero _, rfl⟩⟩))
  clear H0
  obtain ⟨q0, q1, q2, q3, q4, q5⟩ := HX3.out.cells3
  clear HX2 HX3 HB2 HB3 HB4 HI HR HT HL HZ HE3
  generalize hP : ResOf 0 z e w = P at *
  clear hP
  go_wp2
  refine bodyPost_ret (v := .tuple #[.agg #[.bool false, .slice none 0 0, .int .i64 0], .int .i64 0]) (by simp [results, Tryz.results51, go_sem, q0, q1, q2]) rfl HN.out
 ·obtain ⟨sg, HS, hsg⟩ : ∃ sg, Hid (z.sign = sg) ∧ (sg == 0) = false := ⟨_, Lib.hid rfl, by have := sign_ne h0; simpa using this⟩
  have H0 := Lib.hid h0
  clear h0
  go_wp2_with fail
  have HB3 := Lib.hid (Below.alloc_self w2 (.cells #[.pointer (some ⟨p, 0, none⟩), .int .i64 0] 68))
  have HE3 := Lib.hid (BlkT.new w2 #[.pointer (some ⟨p, 0, none⟩), .int .i64 0] 68)
  generalize w2.alloc (.cells #[.pointer (some ⟨p, 0, none⟩), .int .i64 0] 68) = W3 at HB3 HE3 ⊢
  refine (Sign_any p 0 z _ (HI.out.below HB3.out)).mono ?_
  rintro e2 w3 ⟨rfl, rfl⟩
  rw [HS.out]
  have HX3 := Lib.hid (HX2.out.below HB3.out)
  have HB4 := Lib.hid (HB2.out.trans (HB3.out.mono HB2.out.size))
  obtain ⟨s0, s1, s2, s3⟩ := HE3.out.cells2
  go_wp2_with fail
  refine (halve_any p z 0 _ (HI.out.below HB3.out) HL.out (by decide) (by decide) (HT.out.1.below HT.out.2 HB4.out) (Nat.lt_of_lt_of_le HT.out.2 HB4.out.size)).mono ?_
  rintro e3 W4 ⟨q, rfl, -, hi4, hb4⟩
  have hlt : w.heap.size < w2.heap.size := HX2.out.lt
  have HE4 := Lib.hid (HE3.out.below hb4)
  have HX4 := Lib.hid (HX3.out.below hb4)
  have HBW : Hid (Below w.heap.size w W4) := Lib.hid (HB4.out.trans (hb4.mono HB4.out.size))
  have HTZ : Hid (0 ≤ hvE z 0 ∧ hvE z 0 ≤ 68719476736) := by
   have := @tzb_le z.natAbs
   have := HL.out
   unfold hvE
   exact Lib.hid ⟨by omega, by omega⟩
  have HI5 := Lib.hid ((hi4.setOther (i := 0) HE4.out objT_exact (hi4.ne_boxN HE4.out rfl) (.pointer (some ⟨q, 0, none⟩))).setOther (i := 1) (HE4.out.set (i := 0) (.pointer (some ⟨q, 0, none⟩))) objT_exact (hi4.ne_boxN HE4.out rfl) (.int .i64 (hvE z 0)))
  have HE5 := Lib.hid ((HE4.out.set (i := 0) (.pointer (some ⟨q, 0, none⟩))).set (i := 1) (.int .i64 (hvE z 0)))
  have HX5 := Lib.hid ((HX4.out.setOther (i := 0) (show w.heap.size ≠ w2.heap.size by omega) (.pointer (some ⟨q, 0, none⟩))).setOther (i := 1) (show w.heap.size ≠ w2.heap.size by omega) (.int .i64 (hvE z 0)))
  have HB5 : Hid (Below w.heap.size w ((W4.setCell ⟨w2.heap.size, 0, none⟩ (.pointer (some ⟨q, 0, none⟩))).setCell ⟨w2.heap.size, 1, none⟩ (.int .i64 (hvE z 0)))) :=
   Lib.hid ((HBW.out.setCell (by show w.heap.size ≤ w2.heap.size; omega) _).setCell (by show w.heap.size ≤ w2.heap.size; omega) _)
  have HVT : Hid (hvE z 0 = hvE z 0) := Lib.hid rfl
  obtain ⟨s0, s1, s2, s3⟩ := HE4.out.cells2
  have HHV : Hid (∀ (V : World) d k, DyIs (hvZ z) (hvE z 0 + e) V d k → DyIs z e V d k) := Lib.hid fun V d k h => h.of_hv H0.out
  have HLU : Hid ((100000 < e → lngB z e = true) ∧ (e < -4611686018427387904 → lngB z e = true)) := Lib.hid ⟨lng_over, lng_under H0.out HN.out HR.out.2⟩
  have HLV : Hid (bl (hvZ z).natAbs ≤ 68719476736) := Lib.hid (Nat.le_trans (bl_mono hvZ_natAbs_le) HL.out)
  generalize hvE z 0 = t at *
  have HN0 := HN
  clear hi4 hb4 HE4 HX4 HBW HVT HN
  unfold ExV
  have hne3 : w2.heap.size ≠ w.heap.size := by omega
  have hne4 : w.heap.size ≠ w2.heap.size := by omega
  by_cases hA : 100000 < e
  ·have HN := Lib.hid (res_store1 (bad := 0) (R := z) (RE := e) (n := false) (a := none) (l := 0) (c := 0) (x := 0) (k := 2) HX5.out HB5.out (Nat.le_refl _) (.inl ⟨rfl, .inr ⟨H0.out, HLU.out.1 hA, rfl, rfl⟩⟩))
   obtain ⟨q0, q1, q2, q3, q4, q5⟩ := HX5.out.cells3
   obtain ⟨y0, y1, y2, y3⟩ := HE5.out.cells2
   clear HX2 HX3 HX5 HB2 HB3 HB4 HB5 HI HI5 HR HT HL HZ HE3 HE5 HN0 HTZ H0 HHV HLU HLV
   generalize hP : ResOf 0 z e w = P at *
   clear hP
   go_wp2
   refine bodyPost_ret (v := .tuple #[.agg #[.bool false, .slice none 0 0, .int .i64 0], .int .i64 2]) (by simp [results, Tryz.results51, go_sem, q0, q1, q2]) rfl HN.out
  ·by_cases hB : e < -4611686018427387904
   ·have hA2 : e ≤ 100000 := by omega
    have HN := Lib.hid (res_store1 (bad := 0) (R := z) (RE := e) (n := false) (a := none) (l := 0) (c := 0) (x := 0) (k := 2) HX5.out HB5.out (Nat.le_refl _) (.inl ⟨rfl, .inr ⟨H0.out, HLU.out.2 hB, rfl, rfl⟩⟩))
    clear hA
    obtain ⟨q0, q1, q2, q3, q4, q5⟩ := HX5.out.cells3
    obtain ⟨y0, y1, y2, y3⟩ := HE5.out.cells2
    clear HX2 HX3 HX5 HB2 HB3 HB4 HB5 HI HI5 HR HT HL HZ HE3 HE5 HN0 HTZ H0 HHV HLU HLV
    generalize hP : ResOf 0 z e w = P at *
    clear hP
    go_wp2
    refine bodyPost_ret (v := .tuple #[.agg #[.bool false, .slice none 0 0, .int .i64 0], .int .i64 2]) (by simp [results, Tryz.results51, go_sem, q0, q1, q2]) rfl HN.out
   ·have hA2 : e ≤ 100000 := by omega
    have hB2 : -4611686018427387904 ≤ e := by omega
    clear hA hB
    have ht1 := HTZ.out.1
    have ht2 := HTZ.out.2
    have hwr : IntKind.i64.wrap (t + e) = t + e := IntWalk.i64_in _ (by omega)
    have HI6 := Lib.hid (HI5.out.setOther (i := 1) HE5.out objT_exact (IntAt.ne_boxN HI5.out HE5.out rfl) (.int .i64 (t + e)))
    have HX6 := Lib.hid (HX5.out.setOther (i := 1) hne4 (.int .i64 (t + e)))
    have HE6 := Lib.hid (HE5.out.set (i := 1) (.int .i64 (t + e)))
    have HB6 : Hid (Below w.heap.size w (((W4.setCell ⟨w2.heap.size, 0, none⟩ (.pointer (some ⟨q, 0, none⟩))).setCell ⟨w2.heap.size, 1, none⟩ (.int .i64 t)).setCell ⟨w2.heap.size, 1, none⟩ (.int .i64 (t + e)))) :=
     Lib.hid (HB5.out.setCell (by show w.heap.size ≤ w2.heap.size; omega) _)
    obtain ⟨y0, y1, y2, y3⟩ := HE5.out.cells2
    obtain ⟨z0, z1, z2, z3⟩ := HE6.out.cells2
    go_wp2_with fail
    refine (put_all q (hvZ z) (t + e) _ HI6.out HLV.out (by omega) (by omega) (HT.out.1.below HT.out.2 HB6.out) (Nat.lt_of_lt_of_le HT.out.2 HB6.out.size)).mono ?_
    rintro e5 W7 ⟨d, k7, rfl, hd, hb⟩
    have hd2 := HHV.out _ _ _ hd
    obtain ⟨n7, ao7, l7, c7, x7, rfl⟩ := hd2.shape
    have HX7 := Lib.hid (HX6.out.below hb)
    have HB7 := Lib.hid (HB6.out.trans (hb.mono HB6.out.size))
    have HN := Lib.hid (res_store1 (bad := 0) HX7.out HB7.out (Nat.le_refl _) (.inl ⟨rfl, hd2⟩))
    obtain ⟨q0, q1, q2, q3, q4, q5⟩ := HX7.out.cells3
    clear s0 s1 s2 s3 y0 y1 y2 y3 z0 z1 z2 z3 hd hd2 hb HX2 HX3 HX5 HX6 HX7 HB2 HB3 HB4 HB5 HB6 HB7 HI HI5 HI6 HR HT HL HZ HE3 HE5 HE6 HN0 HTZ H0 HHV HLU HLV
    generalize hP : ResOf 0 z e w = P at *
    clear hP
    go_wp2
    refine bodyPost_ret (v := .tuple #[.agg #[.bool n7, .slice ao7 l7 c7, .int .i64 x7], .int .i64 k7]) (by simp [results, Tryz.results51, go_sem, q0, q1, q2]) rfl HN.out
end Go.Proofs.YthkhignbmefmjaaGreatDoor
