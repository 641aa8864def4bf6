/- Walk: the references' Make of any words and exponent. -/
import Derived.Test.YtjoajbbapfgaoaaGreatDoorZMk1
import Derived.Test.YtjoajbbapfgaoaaGreatDoorZRki
namespace Go.Proofs.YtjoajbbapfgaoaaGreatDoor
open Go.RowKit

theorem lng_low {z e : Int} {n : Nat} (hz : z ≠ 0) (hN : z.natAbs < 2 ^ (32 * n)) (h : e < -100000 - 40 * (n : Int) - 64) : lngB z e = true := by
  unfold lngB hvE
  have h1 : tzb z.natAbs ≤ 32 * n := by
    rcases Nat.lt_or_ge (32 * n) (tzb z.natAbs) with h2 | h2
    · obtain ⟨m, hm⟩ := tzb_spec (N := z.natAbs) (by omega)
      have h3 : 2 ^ (32 * n) ≤ 2 ^ tzb z.natAbs := Nat.pow_le_pow_right (by decide) (by omega)
      have h4 : 2 ^ tzb z.natAbs ≤ 2 ^ tzb z.natAbs * (2 * m + 1) := Nat.le_mul_of_pos_right _ (by omega)
      omega
    · exact h2
  have : e + (tzb z.natAbs : Int) < -100000 := by omega
  simp [this]

set_option maxRecDepth 100000 in
set_option maxHeartbeats 1600000 in
theorem rMake_in (neg : Bool) (sl : Value) (n N : Nat) (e : Int) (w : World) (h : RawI w sl n N) (hn : n ≤ 1073741824) (hT : Tab32 w) (hTs : 2 < w.heap.size) :
    Calls Tryz.prog 22 #[.bool neg, sl, .int .i64 e] w (ResOf 0 (sgZ neg N) e w) := by
  have HR := Lib.hid (And.intro h hn)
  have HN : Hid ((sgZ neg N).natAbs < 2 ^ (32 * n)) := by
    rw [sgZ_abs]
    obtain ⟨_, _, _, _, hN, _⟩ := h
    exact Lib.hid hN
  have HL : Hid (bl (sgZ neg N).natAbs ≤ 68719476736) := by
    rw [sgZ_abs]
    obtain ⟨_, _, _, _, hN, _⟩ := h
    exact Lib.hid (Nat.le_trans (bl_le_of_lt hN) (by omega))
  obtain ⟨ao, cap, rfl, -⟩ := h
  have HT := Lib.hid (And.intro hT hTs)
  clear hT hTs
  have HZ : Hid (sgZ neg N = (if neg then -(N : Int) else N)) := Lib.hid rfl
  have HZ0 : Hid (sgZ neg N = 0 ↔ N = 0) := Lib.hid (by have := sgZ_abs neg N; omega)
  generalize sgZ neg N = z at *
  have HB0 := Lib.hid (Below.alloc_self w (.cells #[.bool false, .slice none 0 0, .int .i64 0] 24))
  have HX0 := Lib.hid (BlkT.new w #[.bool false, .slice none 0 0, .int .i64 0] 24)
  go_enter Tryz.func22, Tryz.ntmps22
  go_wp2_with fail
  refine (rwords_in _ n N _ (HR.out.1.below HB0.out) HR.out.2).mono ?_
  rintro e2 w2 ⟨p, rfl, hp, hi2, hb2⟩
  have HI := Lib.hid hi2
  have HP : Hid (w.heap.size + 1 ≤ p) := Lib.hid (by simpa using hp)
  have HX2 := Lib.hid (HX0.out.below hb2)
  have HB2 := Lib.hid (HB0.out.trans (hb2.mono HB0.out.size))
  clear hp hi2 hb2 HX0 HB0
  go_wp2_with fail
  refine (rSign_any p 0 N _ HI.out).mono ?_
  rintro e3 w3 ⟨rfl, rfl⟩
  by_cases h0 : N = 0
  · have HS : Hid ((N : Int).sign = 0) := Lib.hid (by rw [h0]; rfl)
    have H0 := Lib.hid (HZ0.out.2 h0)
    clear h0
    rw [HS.out]
    have HF := Lib.hid (res_store1 (bad := 0) (R := z) (RE := e) (n := false) (a := none) (l := 0) (c := 0) (x := 0) (k := 0) HX2.out HB2.out (Nat.le_refl _) (.inl ⟨rfl, .inl ⟨.inl H0.out, by rw [H0.out, hvZ_zero, nrE, if_pos rfl]; exact DyAt.zero _, rfl⟩⟩))
    obtain ⟨q0, q1, q2, q3, q4, q5⟩ := HX2.out.cells3
    clear H0 HX2 HB2 HI HP HR HT HL HZ HZ0 HN HS hn
    generalize hP : ResOf 0 z e w = P at *
    clear hP
    go_wp2
    refine bodyPost_ret (v := .tuple #[.agg #[.bool false, .slice none 0 0, .int .i64 0], .int .i64 0]) (by simp [results, Tryz.results22, go_sem, q0, q1, q2]) rfl HF.out
  · have hz : z ≠ 0 := fun h => h0 (HZ0.out.1 h)
    obtain ⟨sg, HS, hsg⟩ : ∃ sg, Hid ((N : Int).sign = sg) ∧ (sg == 0) = false := ⟨_, Lib.hid rfl, by have := sign_ne (y := (N : Int)) (by omega); simpa using this⟩
    rw [HS.out]
    have H0 := Lib.hid (And.intro hz h0)
    clear hz h0
    have HLU : Hid ((100000 < e → lngB z e = true) ∧ (e < -100000 - 40 * (n : Int) - 64 → lngB z e = true)) := Lib.hid ⟨lng_over, lng_low H0.out.1 HN.out⟩
    by_cases hA : 100000 < e
    · have HF := Lib.hid (res_store1 (bad := 0) (R := z) (RE := e) (n := false) (a := none) (l := 0) (c := 0) (x := 0) (k := 2) HX2.out HB2.out (Nat.le_refl _) (.inl ⟨rfl, .inr ⟨H0.out.1, HLU.out.1 hA, rfl, rfl⟩⟩))
      obtain ⟨q0, q1, q2, q3, q4, q5⟩ := HX2.out.cells3
      clear H0 HX2 HB2 HI HP HR HT HL HZ HZ0 HN HS HLU
      generalize hP : ResOf 0 z e w = P at *
      clear hP
      go_wp2
      refine bodyPost_ret (v := .tuple #[.agg #[.bool false, .slice none 0 0, .int .i64 0], .int .i64 2]) (by simp [results, Tryz.results22, go_sem, q0, q1, q2]) rfl HF.out
    · have hA2 : e ≤ 100000 := by omega
      clear hA
      by_cases hB : e < -100000 - 40 * (n : Int) - 64
      · have HF := Lib.hid (res_store1 (bad := 0) (R := z) (RE := e) (n := false) (a := none) (l := 0) (c := 0) (x := 0) (k := 2) HX2.out HB2.out (Nat.le_refl _) (.inl ⟨rfl, .inr ⟨H0.out.1, HLU.out.2 hB, rfl, rfl⟩⟩))
        obtain ⟨q0, q1, q2, q3, q4, q5⟩ := HX2.out.cells3
        clear H0 HX2 HB2 HI HP HR HT HL HZ HZ0 HN HS HLU
        generalize hP : ResOf 0 z e w = P at *
        clear hP
        go_wp2
        refine bodyPost_ret (v := .tuple #[.agg #[.bool false, .slice none 0 0, .int .i64 0], .int .i64 2]) (by simp [results, Tryz.results22, go_sem, q0, q1, q2]) rfl HF.out
      · have hB2 : -100000 - 40 * (n : Int) - 64 ≤ e := by omega
        clear hB
        have HE : Hid (-1099511627776 ≤ e ∧ e ≤ 1099511627776) := Lib.hid ⟨by omega, by omega⟩
        cases neg
        · have HZN : Hid ((N : Int) = z) := Lib.hid (by rw [HZ.out]; rfl)
          go_wp2_with fail
          rw [HZN.out] at HI
          refine (rOut_any p z e _ HI.out HL.out HE.out.1 HE.out.2 (HT.out.1.below HT.out.2 HB2.out) (Nat.lt_of_lt_of_le HT.out.2 HB2.out.size)).mono ?_
          rintro e5 W7 ⟨d, k7, rfl, hd, hb⟩
          obtain ⟨n7, ao7, l7, c7, x7, rfl⟩ := hd.shape
          have HX7 := Lib.hid (HX2.out.below hb)
          have HB7 := Lib.hid (HB2.out.trans (hb.mono HB2.out.size))
          have HF := Lib.hid (res_store1 (bad := 0) HX7.out HB7.out (Nat.le_refl _) (.inl ⟨rfl, hd⟩))
          obtain ⟨q0, q1, q2, q3, q4, q5⟩ := HX7.out.cells3
          clear hd hb HX2 HX7 HB2 HB7 HI HP HR HT HL HZ HZ0 HN HS HLU HE HZN H0
          generalize hP : ResOf 0 z e w = P at *
          clear hP
          go_wp2
          refine bodyPost_ret (v := .tuple #[.agg #[.bool n7, .slice ao7 l7 c7, .int .i64 x7], .int .i64 k7]) (by simp [results, Tryz.results22, go_sem, q0, q1, q2]) rfl HF.out
        · have HZN : Hid (-(N : Int) = z) := Lib.hid (by rw [HZ.out]; rfl)
          go_wp2_with fail
          refine (rNeg_any p 0 p 0 _ _ HI.out.1 HI.out).mono ?_
          rintro e4 w4 ⟨rfl, hi4, hm4⟩
          rw [HZN.out] at hi4
          have HI4 := Lib.hid hi4
          have HX4 := Lib.hid (HX2.out.mod hm4 (by have := HP.out; omega))
          have HB4 := Lib.hid (hm4.below HB2.out (by have := HP.out; omega) HB2.out.size)
          clear hi4 hm4
          go_wp2_with fail
          refine (rOut_any p z e _ HI4.out HL.out HE.out.1 HE.out.2 (HT.out.1.below HT.out.2 HB4.out) (Nat.lt_of_lt_of_le HT.out.2 HB4.out.size)).mono ?_
          rintro e5 W7 ⟨d, k7, rfl, hd, hb⟩
          obtain ⟨n7, ao7, l7, c7, x7, rfl⟩ := hd.shape
          have HX7 := Lib.hid (HX4.out.below hb)
          have HB7 := Lib.hid (HB4.out.trans (hb.mono HB4.out.size))
          have HF := Lib.hid (res_store1 (bad := 0) HX7.out HB7.out (Nat.le_refl _) (.inl ⟨rfl, hd⟩))
          obtain ⟨q0, q1, q2, q3, q4, q5⟩ := HX7.out.cells3
          clear hd hb HX2 HX4 HX7 HB2 HB4 HB7 HI HI4 HP HR HT HL HZ HZ0 HN HS HLU HE HZN H0
          generalize hP : ResOf 0 z e w = P at *
          clear hP
          go_wp2
          refine bodyPost_ret (v := .tuple #[.agg #[.bool n7, .slice ao7 l7 c7, .int .i64 x7], .int .i64 k7]) (by simp [results, Tryz.results22, go_sem, q0, q1, q2]) rfl HF.out

end Go.Proofs.YtjoajbbapfgaoaaGreatDoor
