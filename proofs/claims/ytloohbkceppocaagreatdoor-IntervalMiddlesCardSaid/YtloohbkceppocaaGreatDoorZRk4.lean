/- Walk: dyad.Shift of any dyad. -/
import Derived.Test.YtloohbkceppocaaGreatDoorZRk3
namespace Go.Proofs.YtloohbkceppocaaGreatDoor
open Go.RowKit

/-- The shift, held within three times the limit. -/
def shN (k : Int) : Int := max (-300000) (min k 300000)

theorem shN_bd (k : Int) : -300000 ≤ shN k ∧ shN k ≤ 300000 := by unfold shN; omega

set_option maxRecDepth 100000 in
set_option maxHeartbeats 1600000 in
theorem dShift_ok (va : Value) (na : Bool) (n Na : Nat) (e k : Int) (w : World) (ha : DyRaw w va na n Na e) (hm : mayB na n Na e = true) (hT : Tab64 w) (hTs : 1 < w.heap.size) :
    Calls Tryz.prog 86 #[va, .int .i64 k] w (ResOf 0 (sgZ na Na) (e + shN k) w) := by
  have HA := Lib.hid ha
  have HG := Lib.hid (ha.good hm).2
  obtain ⟨sa, rfl, hra, hna⟩ := ha
  have HR := Lib.hid (And.intro hra hna)
  obtain ⟨aa, ca, rfl, -⟩ := hra
  have HM := Lib.hid hm
  have HT := Lib.hid (And.intro hT hTs)
  clear hm hT hTs hna
  unfold DyV at *
  have HZ : Hid (sgZ na Na = (if na then -(Na : Int) else Na)) := Lib.hid rfl
  generalize sgZ na Na = z at *
  have HW0 := Lib.hid (Box2d.start w na false (.slice aa n ca) (.slice none 0 0) e 0)
  obtain ⟨m1, hmin⟩ : ∃ m, min k 300000 = m := ⟨_, rfl⟩
  obtain ⟨m2, hmax⟩ : ∃ m, max (-300000) m1 = m := ⟨_, rfl⟩
  have hsh : shN k = m2 := by unfold shN; rw [hmin, hmax]
  have hb1 := (shN_bd k).1
  have hb2 := (shN_bd k).2
  rw [hsh] at hb1 hb2 ⊢
  have he1 := HG.out.2.2.1
  have he2 := HG.out.2.2.2
  clear hsh
  by_cases h0 : z = 0
  · have HS : Hid (z.sign = 0) := Lib.hid (by rw [h0]; rfl)
    have HE : Hid (∀ W, Below w.heap.size w W → ResOf 0 z (e + m2) w (.returned (.tuple #[.agg #[.bool false, .slice none 0 0, .int .i64 0], .int .i64 0])) (((W.setCell ⟨w.heap.size + 1, 0, none⟩ (.bool false)).setCell ⟨w.heap.size + 1, 1, none⟩ (.slice none 0 0)).setCell ⟨w.heap.size + 1, 2, none⟩ (.int .i64 0))) := by
      refine Lib.hid fun W h => ⟨_, _, _, _, _, _, rfl, .inl ⟨rfl, .inl ⟨.inl h0, ?_, rfl⟩⟩, ((h.setCell (by show w.heap.size ≤ w.heap.size + 1; omega) _).setCell (by show w.heap.size ≤ w.heap.size + 1; omega) _).setCell (by show w.heap.size ≤ w.heap.size + 1; omega) _⟩
      rw [h0, hvZ_zero, nrE, if_pos rfl]
      exact DyAt.zero _
    generalize hP : ResOf 0 z (e + m2) w = P at *
    clear hP h0
    go_enter Tryz.func86, Tryz.ntmps86
    go_wp2_with fail
    refine (dMay_any _ na n Na e _ (HA.out.below (below2 _ _ _))).mono ?_
    rintro e1 w1 ⟨rfl, hb1⟩
    rw [HM.out]
    have HW1 := Lib.hid (HW0.out.later hb1)
    obtain ⟨⟨⟨⟨⟨x0, x1⟩, x2⟩, x3⟩, x4⟩, x5⟩ := HW1.out.cells
    clear HW0 hb1
    go_wp2_with fail
    refine (take_any na e _ n Na _ (HR.out.1.below HW1.out.2.2) HR.out.2).mono ?_
    rintro e1 w2 ⟨p, rfl, -, hi1, hb2⟩
    rw [← HZ.out] at hi1
    have HW2 := Lib.hid (HW1.out.later hb2)
    have HI := Lib.hid hi1
    clear HW1 hb2 hi1 x0 x1 x2 x3 x4 x5
    unfold ExV
    go_wp2_with fail
    have HB3 := Lib.hid (Below.alloc_self w2 (.cells #[.pointer (some ⟨p, 0, none⟩), .int .i64 e] 132))
    refine (Sign_any p 0 z _ (HI.out.below HB3.out)).mono ?_
    rintro e2 w3 ⟨rfl, rfl⟩
    rw [HS.out]
    have HW3 := Lib.hid (HW2.out.later HB3.out)
    obtain ⟨q0, q1, q2, q3, q4, q5⟩ := HW3.out.2.1.cells3
    replace HE := Lib.hid (HE.out _ HW3.out.2.2)
    clear HW2 HW3 HB3 HI HA HR HT HG
    go_wp2
    refine bodyPost_ret (v := .tuple #[.agg #[.bool false, .slice none 0 0, .int .i64 0], .int .i64 0]) (by simp [results, Tryz.results86, go_sem, q0, q1, q2]) rfl HE.out
  · obtain ⟨sg, HS, hsg⟩ : ∃ sg, Hid (z.sign = sg) ∧ (sg == 0) = false := ⟨_, Lib.hid rfl, by have := sign_ne h0; simpa using this⟩
    have HL : Hid (bl z.natAbs ≤ 68719476736) := Lib.hid (Nat.le_trans HG.out.2.1 (by decide))
    clear h0
    have w64 : IntKind.i64.wrap (e + m2) = e + m2 := IntWalk.i64_in _ (by omega)
    go_enter Tryz.func86, Tryz.ntmps86
    go_wp2_with fail
    refine (dMay_any _ na n Na e _ (HA.out.below (below2 _ _ _))).mono ?_
    rintro e1 w1 ⟨rfl, hb1⟩
    rw [HM.out]
    have HW1 := Lib.hid (HW0.out.later hb1)
    obtain ⟨⟨⟨⟨⟨x0, x1⟩, x2⟩, x3⟩, x4⟩, x5⟩ := HW1.out.cells
    clear HW0 hb1
    go_wp2_with fail
    refine (take_any na e _ n Na _ (HR.out.1.below HW1.out.2.2) HR.out.2).mono ?_
    rintro e1 w2 ⟨p, rfl, -, hi1, hb2⟩
    rw [← HZ.out] at hi1
    have HW2 := Lib.hid (HW1.out.later hb2)
    have HI := Lib.hid hi1
    clear HW1 hb2 hi1 x0 x1 x2 x3 x4 x5
    unfold ExV
    go_wp2_with fail
    have HB3 := Lib.hid (Below.alloc_self w2 (.cells #[.pointer (some ⟨p, 0, none⟩), .int .i64 e] 132))
    have HX3 := Lib.hid (BlkT.new w2 #[.pointer (some ⟨p, 0, none⟩), .int .i64 e] 132)
    generalize w2.alloc (.cells #[.pointer (some ⟨p, 0, none⟩), .int .i64 e] 132) = W3 at HB3 HX3 ⊢
    refine (Sign_any p 0 z _ (HI.out.below HB3.out)).mono ?_
    rintro e2 w3 ⟨rfl, rfl⟩
    rw [HS.out]
    obtain ⟨q0, q1, q2, q3⟩ := HX3.out.cells2
    go_wp2_with fail
    have HB4 : Hid (Below w2.heap.size w2 (W3.setCell ⟨w2.heap.size, 1, none⟩ (.int .i64 (e + m2)))) := Lib.hid (HB3.out.setCell (Nat.le_refl _) _)
    refine (put_all p z (e + m2) _ (HI.out.below HB4.out) HL.out (by omega) (by omega) (HT.out.1.below HT.out.2 ((HW2.out.2.2).trans (HB4.out.mono HW2.out.2.2.size))) (Nat.lt_of_lt_of_le HT.out.2 ((HW2.out.2.2).trans (HB4.out.mono HW2.out.2.2.size)).size)).mono ?_
    intro e1 W7 h7
    obtain ⟨n7, ao7, l7, c7, x7, k7, rfl, hr7, hb7⟩ := ResOf.of_dy h7
    have HW7 := Lib.hid ((HW2.out.later HB4.out).later hb7)
    have HN : Hid (ResOf 0 z (e + m2) w (.returned (.tuple #[.agg #[.bool n7, .slice ao7 l7 c7, .int .i64 x7], .int .i64 k7])) (((W7.setCell ⟨w.heap.size + 1, 0, none⟩ (.bool n7)).setCell ⟨w.heap.size + 1, 1, none⟩ (.slice ao7 l7 c7)).setCell ⟨w.heap.size + 1, 2, none⟩ (.int .i64 x7))) :=
      Lib.hid (res_store1 HW7.out.2.1 HW7.out.2.2 (by omega) hr7)
    obtain ⟨y0, y1, y2, y3, y4, y5⟩ := HW7.out.2.1.cells3
    clear h7 hr7 hb7 HW7 HB4 HB3 HX3 HI HW2 HL HT HA HR HG q0 q1 q2 q3
    generalize hP : ResOf 0 z (e + m2) w = P at *
    clear hP
    go_wp2
    refine bodyPost_ret (v := .tuple #[.agg #[.bool n7, .slice ao7 l7 c7, .int .i64 x7], .int .i64 k7]) (by simp [results, Tryz.results86, go_sem, y0, y1, y2]) rfl HN.out

end Go.Proofs.YtloohbkceppocaaGreatDoor
