/- Walks: the dyad of a number; a twin; whether two dyads are the same. -/
import Derived.Test.YtfcddnccmdjhfaaDoorDy8
namespace Go.Proofs.YtfcddnccmdjhfaaDoor
open Go.RowKit

set_option maxRecDepth 100000 in
set_option maxHeartbeats 800000 in
theorem dof_any (b : Nat) (w : World) (h : b < 18446744073709551616) (hf : finB b = true) (hT : Tab64 w) (hTs : 1 < w.heap.size) :
    Calls Tryd.prog 21 #[.float .f64 b] w (ExNew (valZ b) (pE b) w) := by
  have HC := Lib.hid fun W hW => Parts_any b W h hf hW
  have HT := Lib.hid (And.intro hT hTs)
  have HM : Hid (pM b < 18446744073709551616 ∧ pM b < 2 ^ 53) := Lib.hid (by have := pM_le b; have := mantB_lt b; omega)
  unfold PartsV at HC
  unfold valZ
  clear h hf hT hTs
  generalize sgnB b = s at *
  generalize pM b = m at *
  generalize pE b = pe at *
  have HV : Hid ((if s then -(m : Int) else m) = if s then -(m : Int) else m) := Lib.hid rfl
  have HW0 := Lib.hid (BlkT.new w #[.pointer none, .int .i64 0] 51)
  have HL : Hid (ln 64 ((m : Int)).natAbs ≤ 68719476736) := Lib.hid (by rw [Int.natAbs_natCast]; exact ln_of_bl (Nat.le_trans (bl_le_of_lt HM.out.2) (by decide)))
  obtain ⟨z, hz⟩ : ∃ z, (if s then -(m : Int) else m) = z := ⟨_, rfl⟩
  rw [hz]
  have HZ := Lib.hid hz
  clear hz HV
  go_enter Tryd.func21, Tryd.ntmps21
  go_wp2_with fail
  refine (HC.out _ (HT.out.1.below HT.out.2 (below1 _ _)) (Nat.lt_of_lt_of_le HT.out.2 (below1 _ _).size)).mono ?_
  rintro e1 w1 ⟨rfl, hb1⟩
  have HB1 := Lib.hid ((below1 w _).trans (hb1.mono (by simp)))
  have HW1 := Lib.hid (HW0.out.below hb1)
  have hlt1 := HW1.out.lt
  clear hb1
  go_wp2_with fail
  have HZ0 := Lib.hid (IntK.zero1 (k := .u64) (s := 64) w1 (.cells #[.bool s, .int .u64 m, .int .i64 pe] 75) _ objT_int)
  refine (SetUint64_any _ 0 m _ HZ0.out.1 HM.out.1).mono ?_
  rintro e2 w2 ⟨rfl, hi2, hm2⟩
  have HB2 : Hid (Below w1.heap.size w1 w2) := Lib.hid (hm2.below (below2 _ _ _) (by omega) (below2 _ _ _).size)
  have HO2 : Hid (Own2 w w2 w.heap.size 51 #[.pointer none, .int .i64 0] (w1.heap.size + 1) (m : Nat)) :=
    Lib.hid ⟨hi2, HW1.out.below HB2.out, objT_exact, HB1.out.trans (HB2.out.mono HB1.out.size), by omega, Nat.le_refl _, by omega⟩
  have HP2 : Hid (BlkT w2 w1.heap.size 75 #[.bool s, .int .u64 m, .int .i64 pe]) := Lib.hid (((BlkT.new w1 _ _).alloc _).mod hm2 (by omega))
  obtain ⟨p0, p1, p2, p3, p4, p5⟩ := HP2.out.cells3
  clear hi2 hm2
  generalize w1.heap.size + 1 = ib at *
  cases s
  · obtain ⟨r0, r1, r2, r3⟩ := HO2.out.res.cells2
    go_wp2
    refine bodyPost_ret (v := ExV ib pe) (by simp [results, Tryd.results21, go_sem, r0, r1, ExV]) rfl ⟨ib, rfl, HO2.out.ige, ?_, (HO2.out.store2 _ _).2⟩
    have e := HZ.out
    subst e
    exact (HO2.out.store2 _ _).1
  · have HNe : Hid (ib ≠ w1.heap.size) := Lib.hid (by have h1 := HP2.out.elem; have h2 := HO2.out.int.2.1; intro e; subst e; rw [p0] at h2; simp at h2; omega)
    go_wp2_with fail
    refine (Neg_any ib 0 ib 0 _ _ HO2.out.int.1 HO2.out.int HL.out).mono ?_
    rintro e2 w3 ⟨rfl, hi3, hm3⟩
    have HO3 := Lib.hid (HO2.out.puts hi3 hm3)
    have HP3 := Lib.hid (HP2.out.mod hm3 HNe.out.symm)
    clear p0 p1 p2 p3 p4 p5 hi3 hm3
    obtain ⟨p0, p1, p2, p3, p4, p5⟩ := HP3.out.cells3
    obtain ⟨r0, r1, r2, r3⟩ := HO3.out.res.cells2
    go_wp2
    refine bodyPost_ret (v := ExV ib pe) (by simp [results, Tryd.results21, go_sem, r0, r1, ExV]) rfl ⟨ib, rfl, HO3.out.ige, ?_, (HO3.out.store2 _ _).2⟩
    have e := HZ.out
    subst e
    exact (HO3.out.store2 _ _).1

theorem FSl.one (w : World) (b t : Nat) (h : b < 18446744073709551616) : FSl (w.alloc (.cells #[.float .f64 b] t)) (.slice (some ⟨w.heap.size, 0, none⟩) 1 1) [b] := by
  refine ⟨_, 1, rfl, Nat.le_refl _, by simp, fun x hx => ?_, fun _ => ⟨w.heap.size, 0, rfl, by simp, fun i hi => ?_⟩⟩
  · simp only [List.mem_singleton] at hx; subst hx; exact h
  · have : i = 0 := by simp at hi; omega
    subst this
    rw [show (⟨w.heap.size, 0 + 0, none⟩ : Addr) = ⟨w.heap.size, 0, none⟩ from rfl, World.cell?_alloc_new]; rfl

theorem FSl.one1 (w : World) (o : _root_.Go.Obj) (b t : Nat) (h : b < 18446744073709551616) : FSl ((w.alloc o).alloc (.cells #[.float .f64 b] t)) (.slice (some ⟨w.heap.size + 1, 0, none⟩) 1 1) [b] := by
  have := FSl.one (w.alloc o) b t h
  simpa using this

set_option maxRecDepth 100000 in
set_option maxHeartbeats 800000 in
theorem dOf_bad (b : Nat) (w : World) (h : b < 18446744073709551616) (hf : finB b = false) :
    Calls Tryd.prog 6 #[.float .f64 b] w (DyErr 4 w) := by
  have HS := Lib.hid (FSl.one1 w (.cells #[.bool false, .slice none 0 0, .int .i64 0] 25) b 29 h)
  have HW0 := Lib.hid ((BlkT.new w #[.bool false, .slice none 0 0, .int .i64 0] 25).alloc (.cells #[.float .f64 b] 29))
  have HF : Hid ([b].all finB = false) := Lib.hid (by simp [hf])
  clear h hf
  go_enter Tryd.func6, Tryd.ntmps6
  go_wp2_with fail
  refine (Finite_any _ [b] _ HS.out).mono ?_
  rintro e1 w1 ⟨rfl, hb1⟩
  rw [HF.out]
  have HB1 := Lib.hid ((below2 w _ _).trans (hb1.mono (below2 w _ _).size))
  have HW1 := Lib.hid (HW0.out.below hb1)
  obtain ⟨q0, q1, q2, q3, q4, q5⟩ := HW1.out.cells3
  clear hb1
  go_wp2
  refine bodyPost_ret (v := .tuple #[DyV false (.slice none 0 0) 0, .int .i64 4]) (by simp [results, Tryd.results6, go_sem, DyV, q0, q1, q2]) rfl ⟨rfl, ?_⟩
  exact ((HB1.out.setCell (Nat.le_refl _) _).setCell (Nat.le_refl _) _).setCell (Nat.le_refl _) _

set_option maxRecDepth 100000 in
set_option maxHeartbeats 800000 in
theorem dOf_any (b : Nat) (w : World) (h : b < 18446744073709551616) (hf : finB b = true) (hT : Tab64 w) (hTs : 1 < w.heap.size) :
    Calls Tryd.prog 6 #[.float .f64 b] w (DyNew (valZ b) (pE b) w) := by
  have HS := Lib.hid (FSl.one1 w (.cells #[.bool false, .slice none 0 0, .int .i64 0] 25) b 29 h)
  have HW0 := Lib.hid ((BlkT.new w #[.bool false, .slice none 0 0, .int .i64 0] 25).alloc (.cells #[.float .f64 b] 29))
  have HF : Hid ([b].all finB = true) := Lib.hid (by simp [hf])
  have HC := Lib.hid fun W hW => dof_any b W h hf hW
  have HG := Lib.hid (good_of hf)
  have HT := Lib.hid (And.intro hT hTs)
  have hE := pE_bd hf
  clear h hf hT hTs
  generalize valZ b = z at *
  generalize pE b = pe at *
  go_enter Tryd.func6, Tryd.ntmps6
  go_wp2_with fail
  refine (Finite_any _ [b] _ HS.out).mono ?_
  rintro e1 w1 ⟨rfl, hb1⟩
  rw [HF.out]
  have HB1 := Lib.hid ((below2 w _ _).trans (hb1.mono (below2 w _ _).size))
  have HW1 := Lib.hid (HW0.out.below hb1)
  clear hb1
  go_wp2_with fail
  refine (HC.out _ (HT.out.1.below HT.out.2 HB1.out) (Nat.lt_of_lt_of_le HT.out.2 HB1.out.size)).mono ?_
  rintro e2 w2 ⟨p, rfl, hp, hi, hb2⟩
  have HB2 := Lib.hid (HB1.out.trans (hb2.mono HB1.out.size))
  have HW2 := Lib.hid (HW1.out.below hb2)
  have HI := Lib.hid hi
  clear hp hi hb2
  go_wp2_with fail
  refine (put_any p z pe _ HI.out (Nat.le_trans HG.out.2.1 (by decide)) (by omega) (by omega) (HT.out.1.below HT.out.2 HB2.out) (Nat.lt_of_lt_of_le HT.out.2 HB2.out.size) (lng_of_good HG.out)).mono ?_
  rw [(tzb_of_nrm HG.out.1).1, (tzb_of_nrm HG.out.1).2.1]
  rintro e1 W7 ⟨sl, rfl, hr7, ho7, hb7⟩
  have HW7 := Lib.hid (HW2.out.below hb7)
  have HF7 := Lib.hid (fun x0 x1 x2 => dy_store HB2.out hr7 ho7 hb7 HW7.out objT_dyad HW2.out.lt (Nat.le_refl _) x0 x1 x2)
  obtain ⟨ao7, cs7, hsl, -⟩ := hr7
  unfold DyV at *
  rw [hsl] at HF7 ⊢
  clear ho7 hb7 hsl
  obtain ⟨q0, q1, q2, q3, q4, q5⟩ := HW7.out.cells3
  have HN : Hid (DyNew z pe w (.returned (.tuple #[DyV (decide (z < 0)) (.slice ao7 (ln 32 z.natAbs) cs7) pe, .int .i64 0])) (((W7.setCell ⟨w.heap.size, 0, none⟩ (.bool (decide (z < 0)))).setCell ⟨w.heap.size, 1, none⟩ (.slice ao7 (ln 32 z.natAbs) cs7)).setCell ⟨w.heap.size, 2, none⟩ (.int .i64 pe))) :=
    Lib.hid ⟨_, rfl, HF7.out _ _ _⟩
  clear HF7 HW7 HW0
  generalize hP : DyNew z pe w = P at *
  clear hP
  unfold DyV at *
  generalize decide (z < 0) = nr at *
  generalize ln 32 z.natAbs = lr at *
  go_wp2
  refine bodyPost_ret (v := .tuple #[.agg #[.bool nr, .slice ao7 lr cs7, .int .i64 pe], .int .i64 0]) (by simp [results, Tryd.results6, go_sem, q0, q1, q2]) rfl HN.out

/-- A dyad in new memory. -/
def DyTwin (z e : Int) (w : World) (en : Ending) (w' : World) : Prop :=
  ∃ sl, en = .returned (DyV (decide (z < 0)) sl e) ∧ Raw .u32 32 w' sl (ln 32 z.natAbs) z.natAbs ∧ OwnS w' w.heap.size 36 sl ∧ Below w.heap.size w w'

end Go.Proofs.YtfcddnccmdjhfaaDoor
