/- Walks: Whole of a dyad; Round, Round32, Whole of any dyad, any mode. Printed by wip/gen/whole2.py. -/
import Derived.Test.YtjoajbbapfgaoaaGreatDoorZRs2
import Derived.Test.YtjoajbbapfgaoaaGreatDoorZRd1
namespace Go.Proofs.YtjoajbbapfgaoaaGreatDoor
open Go.RowKit

/-- The whole number for z * 2^e. -/
def whZ (z e mode : Int) : Int := if e < 0 then nearZ z (-e) mode else z
def whE (e : Int) : Int := if e < 0 then 0 else e

/-- Whole's boxes: the dyad, the result, the exact number. -/
def WhB (w0 W : World) (na : Bool) (sa : Value) (e z : Int) (r p : Nat) : Prop :=
  BlkT W w0.heap.size 24 #[.bool na, sa, .int .i64 e] ∧ BlkT W (w0.heap.size + 1) 24 #[.bool false, .slice none 0 0, .int .i64 0] ∧ BlkT W r 103 #[.pointer (some ⟨p, 0, none⟩), .int .i64 e] ∧ IntAt W p 0 z ∧ Below w0.heap.size w0 W

theorem WhB.lt {w0 W : World} {na : Bool} {sa : Value} {e z : Int} {r p : Nat} (h : WhB w0 W na sa e z r p) : w0.heap.size + 1 < W.heap.size ∧ r < W.heap.size ∧ p < W.heap.size := ⟨h.2.1.lt, h.2.2.1.lt, h.2.2.2.1.1.1⟩
theorem WhB.later {w0 W V : World} {na : Bool} {sa : Value} {e z : Int} {r p : Nat} (h : WhB w0 W na sa e z r p) (hb : Below W.heap.size W V) : WhB w0 V na sa e z r p :=
  ⟨h.1.below hb, h.2.1.below hb, h.2.2.1.below hb, h.2.2.2.1.below hb, h.2.2.2.2.trans (hb.mono h.2.2.2.2.size)⟩
theorem WhB.mod {w0 W V : World} {na : Bool} {sa : Value} {e z y : Int} {r p c : Nat} (h : WhB w0 W na sa e z r p) (hm : Mod c 0 W V) (hs : w0.heap.size + 1 < c ∧ r < c ∧ p < c) (hc : IntAt W c 0 y) : WhB w0 V na sa e z r p :=
  ⟨h.1.mod hm (by omega), h.2.1.mod hm (by omega), h.2.2.1.mod hm (by omega), h.2.2.2.1.mod hm (.inl (by omega)) hc.1.2.1, hm.below h.2.2.2.2 (by omega) h.2.2.2.2.size⟩
theorem WhB.cells {w0 W : World} {na : Bool} {sa : Value} {e z : Int} {r p : Nat} (h : WhB w0 W na sa e z r p) :
    (W.cell? ⟨w0.heap.size, 0, none⟩ = some (.bool na) ∧ W.cell? ⟨r, 0, none⟩ = some (.pointer (some ⟨p, 0, none⟩))) ∧ W.cell? ⟨r, 1, none⟩ = some (.int .i64 e) := ⟨⟨h.1.cell 0, h.2.2.1.cell 0⟩, h.2.2.1.cell 1⟩

theorem neg_cut (z down mode : Int) : (if z < 0 then -(cutZ z.natAbs down (decide (z < 0)) mode : Int) else (cutZ z.natAbs down (decide (z < 0)) mode : Int)) = nearZ z down mode := rfl

theorem bl_near {z : Int} {d mode : Int} (hd : 0 < d) : bl (nearZ z d mode).natAbs ≤ bl z.natAbs + 1 := by
  rw [nearZ_abs]
  unfold cutZ
  rw [if_neg (by omega)]
  refine Nat.le_trans (bl_add _ _) ?_
  have h1 := bl_div_le z.natAbs d.toNat
  have h2 : bl (if upB z.natAbs d.toNat (decide (z < 0)) mode = true then 1 else 0) ≤ 1 := by split <;> decide
  rcases Nat.eq_zero_or_pos (bl z.natAbs) with h | h
  · have h3 : z.natAbs = 0 := by
      have := lt_bl z.natAbs; rw [h] at this; simp at this; omega
    rw [h3, Nat.zero_div]
    have hz : z = 0 := by omega
    subst hz
    rw [show upB 0 d.toNat (decide ((0 : Int) < 0)) mode = false from up_z (Nat.zero_mod _)]
    decide
  · omega

set_option maxRecDepth 100000 in
set_option maxHeartbeats 1600000 in
theorem dWhole_good (va : Value) (z e mode : Int) (w : World) (ha : DyAt w va z e) (hga : GoodD z e) (hm1 : 0 ≤ mode) (hm2 : mode ≤ 4) (hT : Tab64 w) (hTs : 1 < w.heap.size) :
    Calls Tryz.prog 29 #[va, .int .i64 mode] w (ResOf 0 (whZ z e mode) (whE e) w) := by
  have HA := Lib.hid ha
  obtain ⟨sa, rfl, hra⟩ := ha
  have HRa := Lib.hid hra
  obtain ⟨aa, ca, rfl, -⟩ := hra
  have HG := Lib.hid hga
  have HF := Lib.hid (set_fin z)
  have HT := Lib.hid (And.intro hT hTs)
  have hbl := hga.2.1
  have he1 := hga.2.2.1
  have he2 := hga.2.2.2
  have HL : Hid (ln 32 z.natAbs ≤ 1073741824) := Lib.hid (Nat.le_trans (ln_le_bl 32 _ (by decide)) (Nat.le_trans hga.2.1 (by decide)))
  have HLZ : Hid (ln 64 z.natAbs ≤ 68719476736) := Lib.hid (ln_of_bl (Nat.le_trans hga.2.1 (by decide)))
  have HPUT : Hid (∀ (b : Nat) (W : World), IntAt W b 0 z → Tab64 W → 1 < W.heap.size → Calls Tryz.prog 87 #[ExV b e] W (ResOf 0 z e W)) :=
    Lib.hid fun b W h h2 h3 => (put_all b z e W h (by omega) (by omega) (by omega) h2 h3).mono fun _ _ h => .of_dy h
  have HCUT : Hid (e < 0 → ∀ (b : Nat) (W : World), IntAt W b 0 ((z.natAbs : Nat) : Int) → Calls Tryz.prog 105 #[.pointer (some ⟨b, 0, none⟩), .int .i64 (-e), .bool (decide (z < 0)), .int .i64 mode] W (News .u64 64 (cutZ z.natAbs (-e) (decide (z < 0)) mode : Nat) W)) :=
    Lib.hid fun h b W hi => cut_any b z.natAbs (-e) (decide (z < 0)) mode W hi (by omega) (by omega) (by omega) (by omega)
  have HPUT2 : Hid (e < 0 → ∀ (b : Nat) (W : World), IntAt W b 0 (nearZ z (-e) mode) → Tab64 W → 1 < W.heap.size → Calls Tryz.prog 87 #[ExV b 0] W (ResOf 0 (nearZ z (-e) mode) 0 W)) :=
    Lib.hid fun h b W hi h2 h3 => (put_all b _ 0 W hi (by have := bl_near (z := z) (d := -e) (mode := mode) (by omega); omega) (by omega) (by omega) h2 h3).mono fun _ _ h => .of_dy h
  have HNR : Hid ((decide (z < 0) = true → nearZ z (-e) mode = -(cutZ z.natAbs (-e) (decide (z < 0)) mode : Int)) ∧ (decide (z < 0) = false → nearZ z (-e) mode = (cutZ z.natAbs (-e) (decide (z < 0)) mode : Int))) :=
    Lib.hid ⟨fun h => if_pos (of_decide_eq_true h), fun h => if_neg (of_decide_eq_false h)⟩
  have HLC : Hid (e < 0 → ln 64 (cutZ z.natAbs (-e) (decide (z < 0)) mode) ≤ 68719476736) := Lib.hid fun h => by
    have h1 := bl_near (z := z) (d := -e) (mode := mode) (by omega)
    rw [nearZ_abs] at h1
    exact ln_of_bl (by omega)
  have HRZ : Hid ((e < 0 → whZ z e mode = nearZ z (-e) mode ∧ whE e = 0) ∧ (¬ e < 0 → whZ z e mode = z ∧ whE e = e)) := Lib.hid ⟨fun h => ⟨if_pos h, if_pos h⟩, fun h => ⟨if_neg h, if_neg h⟩⟩
  generalize whZ z e mode = RZ at *
  generalize whE e = RE at *
  unfold DyV at *
  generalize nearZ z (-e) mode = NZ at *
  generalize cutZ z.natAbs (-e) (decide (z < 0)) mode = C at *
  generalize decide (z < 0) = na at *
  generalize hNa : z.natAbs = Na at *
  have HNa := Lib.hid hNa
  clear hNa
  generalize hla : ln 32 Na = la at *
  clear hla
  have HW0 : Hid (BlkT ((w.alloc (.cells #[.bool na, .slice aa la ca, .int .i64 e] 24)).alloc (.cells #[.bool false, .slice none 0 0, .int .i64 0] 24)) w.heap.size 24 #[.bool na, .slice aa la ca, .int .i64 e]) := Lib.hid ((BlkT.new w _ _).alloc _)
  have HW1 := Lib.hid (BlkT.new1 w (.cells #[.bool na, .slice aa la ca, .int .i64 e] 24) #[.bool false, .slice none 0 0, .int .i64 0] 24)
  clear hga hT hTs hbl
  go_enter Tryz.func29, Tryz.ntmps29
  go_wp2_with fail
  refine (may_true _ z e _ (HA.out.below (below2 _ _ _)) HG.out).mono ?_
  rintro e1 w1 ⟨rfl, hb1⟩
  have HB1 := Lib.hid ((below2 w _ _).trans (hb1.mono (below2 w _ _).size))
  replace HW0 := Lib.hid (HW0.out.below hb1)
  replace HW1 := Lib.hid (HW1.out.below hb1)
  obtain ⟨x0, x1, x2, x3, x4, x5⟩ := HW0.out.cells3
  clear hb1
  go_wp2_with fail
  refine (known_any mode _ hm1 hm2).mono ?_
  rintro e2 w2 ⟨rfl, rfl⟩
  go_wp2_with fail
  refine (take_any na e _ la Na _ (HRa.out.below HB1.out) HL.out).mono ?_
  rintro e3 w3 ⟨p, rfl, hp, hi3, hb3⟩
  rw [HF.out] at hi3
  have HW : Hid (WhB w (w3.alloc (.cells #[.pointer (some ⟨p, 0, none⟩), .int .i64 e] 103)) na (.slice aa la ca) e z w3.heap.size p) := Lib.hid (by
    have h1 := HW0.out.below hb3
    have h2 := HW1.out.below hb3
    have h3 := HB1.out.trans (hb3.mono HB1.out.size)
    have k := Below.alloc_self w3 (.cells #[.pointer (some ⟨p, 0, none⟩), .int .i64 e] 103)
    exact ⟨h1.below k, h2.below k, BlkT.new w3 _ _, hi3.below k, h3.alloc h3.size _⟩)
  have HGE : Hid (w.heap.size + 1 < w3.heap.size) := Lib.hid (HW1.out.below hb3).lt
  clear hp hi3 hb3 HW0 HW1 HB1 x0 x1 x2 x3 x4 x5
  unfold ExV at *
  by_cases hneg : e < 0
  · have hd : decide (0 ≤ e) = false := by simp; omega
    have hw1 : IntKind.i64.wrap (-e) = -e := IntWalk.i64_in _ (by omega)
    obtain ⟨rfl, rfl⟩ := HRZ.out.1 hneg
    have HCUT2 := Lib.hid (HCUT.out hneg)
    have HPUT3 := Lib.hid (HPUT2.out hneg)
    have HLC2 := Lib.hid (HLC.out hneg)
    clear HCUT HPUT2 HPUT HLC hneg HRZ
    obtain ⟨⟨x0, x1⟩, x2⟩ := HW.out.cells
    go_wp2
    generalize w3.alloc (.cells #[.pointer (some ⟨p, 0, none⟩), .int .i64 e] 103) = W3 at HW ⊢
    generalize w3.heap.size = r at HW HGE ⊢
    refine wp_region_pl (fun w' : World => (w'.cell? ⟨w.heap.size, 0, none⟩ = some (.bool na) ∧ w'.cell? ⟨r, 0, none⟩ = some (.pointer (some ⟨p, 0, none⟩))) ∧ w'.cell? ⟨r, 1, none⟩ = some (.int .i64 e)) 10 (.take 1 (.take 2 (.take 4 (.take 5 (.take 6 (.take 7 (.take 8 (.take 9 (.run 0 (.run 3 .nil)))))))))) (by kernel_rfl) (by kernel_rfl) ?_
    replace HW := Lib.hid (HW.out.later (drew_below _))
    clear x0 x1 x2
    generalize World.drew _ = W4 at HW ⊢
    have hS : (fun w' : World => (w'.cell? ⟨w.heap.size, 0, none⟩ = some (.bool na) ∧ w'.cell? ⟨r, 0, none⟩ = some (.pointer (some ⟨p, 0, none⟩))) ∧ w'.cell? ⟨r, 1, none⟩ = some (.int .i64 e)) W4 := HW.out.cells
    repeat (refine wpPl_takeL (v := ?_) rfl rfl (fun _ _ _ h => h) rfl (fun w' hSw => ?_) hS ?_; rotate_left; (focus (go_simp; with_reducible rfl)); simp only [List.setIfInBounds_toArray, List.set_cons_zero, List.set_cons_succ])
    clear hS
    refine wpPl_goL rfl rfl fun K' hK => ?_
    go_simp
    have hb1 := Below.alloc_self W4 (.cells #[.bool false, .slice none 0 0] 129)
    have HZ := Lib.hid (IntK.zero (k := .u64) (s := 64) W4 _ objT_int)
    have iblt := HW.out.lt
    obtain ⟨ib, hib⟩ : ∃ i, W4.heap.size = i := ⟨_, rfl⟩
    obtain ⟨V1, hV1⟩ : ∃ v, W4.alloc (.cells #[.bool false, .slice none 0 0] 129) = v := ⟨_, rfl⟩
    rw [hV1] at hb1 HZ
    rw [hib] at HZ iblt
    rw [hV1]
    try rw [hib]
    clear hV1 hib
    replace HW := Lib.hid (HW.out.later hb1)
    refine hK _ _ HW.out.cells ?_
    clear hK K' hb1
    refine wpPl_goL rfl rfl fun K' hK => ?_
    go_simp
    refine (Abs_any _ 0 _ 0 z _ HZ.out.1 HW.out.2.2.2.1 (by rw [HNa.out]; exact HLZ.out)).mono ?_
    rintro e1 V2 ⟨rfl, hi1, hm1⟩
    have HI := Lib.hid hi1
    clear hi1
    replace HW := Lib.hid (HW.out.mod hm1 iblt HZ.out)
    refine hK _ _ HW.out.cells ?_
    clear hK K' hm1
    refine wpPl_nil ?_
    simp only [List.drop_succ_cons, List.drop_zero]
    skip
    rw [HNa.out] at HI
    go_wp2_with fail
    refine (HCUT2.out _ _ HI.out).mono ?_
    rintro e5 W5 ⟨q, rfl, hq, hi5, hb5⟩
    replace HW := Lib.hid (HW.out.later hb5)
    have HQ : Hid (IntAt W5 q 0 (C : Int) ∧ w.heap.size + 1 < q ∧ r < q ∧ p < q) := Lib.hid ⟨hi5, by have := iblt; have := HI.out.1.1; omega⟩
    clear hq hi5 hb5 HI HZ iblt
    obtain ⟨⟨x0, x1⟩, x2⟩ := HW.out.cells
    cases na
    · have HN := HNR.out.2 rfl
      rw [← HN] at HQ
      go_wp2_with fail
      refine (HPUT3.out _ _ HQ.out.1 (HT.out.1.below HT.out.2 HW.out.2.2.2.2) (Nat.lt_of_lt_of_le HT.out.2 HW.out.2.2.2.2.size)).mono ?_
      rintro e7 W7 ⟨n7, ao7, l7, c7, x7, k7, rfl, hr7, hb7⟩
      have HW7 := Lib.hid (HW.out.later hb7)
      have HN : Hid (ResOf 0 RZ 0 w (.returned (.tuple #[.agg #[.bool n7, .slice ao7 l7 c7, .int .i64 x7], .int .i64 k7])) (((W7.setCell ⟨w.heap.size + 1, 0, none⟩ (.bool n7)).setCell ⟨w.heap.size + 1, 1, none⟩ (.slice ao7 l7 c7)).setCell ⟨w.heap.size + 1, 2, none⟩ (.int .i64 x7))) :=
        Lib.hid (res_store1 HW7.out.2.1 HW7.out.2.2.2.2 (by omega) hr7)
      obtain ⟨q0, q1, q2, q3, q4, q5⟩ := HW7.out.2.1.cells3
      clear HW7 HW hr7 hb7 HQ
      generalize hP : ResOf 0 RZ 0 w = P at *
      clear hP x0 x1 x2
      go_wp2
      refine bodyPost_ret (v := .tuple #[.agg #[.bool n7, .slice ao7 l7 c7, .int .i64 x7], .int .i64 k7]) (by simp [results, Tryz.results29, go_sem, q0, q1, q2]) rfl HN.out
    · have HN := HNR.out.1 rfl
      go_wp2_with fail
      refine (Neg_any q 0 q 0 C _ HQ.out.1.1 HQ.out.1 (by rw [Int.natAbs_natCast]; exact HLC2.out)).mono ?_
      rintro e6 W6 ⟨rfl, hi6, hm6⟩
      replace HW := Lib.hid (HW.out.mod hm6 HQ.out.2 HQ.out.1)
      rw [← HN] at hi6
      replace HQ := Lib.hid hi6
      clear hi6 hm6 x0 x1 x2
      obtain ⟨⟨x0, x1⟩, x2⟩ := HW.out.cells
      go_wp2_with fail
      refine (HPUT3.out _ _ HQ.out (HT.out.1.below HT.out.2 HW.out.2.2.2.2) (Nat.lt_of_lt_of_le HT.out.2 HW.out.2.2.2.2.size)).mono ?_
      rintro e7 W7 ⟨n7, ao7, l7, c7, x7, k7, rfl, hr7, hb7⟩
      have HW7 := Lib.hid (HW.out.later hb7)
      have HN : Hid (ResOf 0 RZ 0 w (.returned (.tuple #[.agg #[.bool n7, .slice ao7 l7 c7, .int .i64 x7], .int .i64 k7])) (((W7.setCell ⟨w.heap.size + 1, 0, none⟩ (.bool n7)).setCell ⟨w.heap.size + 1, 1, none⟩ (.slice ao7 l7 c7)).setCell ⟨w.heap.size + 1, 2, none⟩ (.int .i64 x7))) :=
        Lib.hid (res_store1 HW7.out.2.1 HW7.out.2.2.2.2 (by omega) hr7)
      obtain ⟨q0, q1, q2, q3, q4, q5⟩ := HW7.out.2.1.cells3
      clear HW7 HW hr7 hb7 HQ
      generalize hP : ResOf 0 RZ 0 w = P at *
      clear hP x0 x1 x2
      go_wp2
      refine bodyPost_ret (v := .tuple #[.agg #[.bool n7, .slice ao7 l7 c7, .int .i64 x7], .int .i64 k7]) (by simp [results, Tryz.results29, go_sem, q0, q1, q2]) rfl HN.out
  · have hd : decide (0 ≤ e) = true := by simp; omega
    obtain ⟨rfl, rfl⟩ := HRZ.out.2 (by omega)
    clear HCUT HPUT2 HLC HNR hneg HRZ
    obtain ⟨⟨x0, x1⟩, x2⟩ := HW.out.cells
    go_wp2_with fail
    refine (HPUT.out _ _ HW.out.2.2.2.1 (HT.out.1.below HT.out.2 HW.out.2.2.2.2) (Nat.lt_of_lt_of_le HT.out.2 HW.out.2.2.2.2.size)).mono ?_
    rintro e7 W7 ⟨n7, ao7, l7, c7, x7, k7, rfl, hr7, hb7⟩
    have HW7 := Lib.hid (HW.out.later hb7)
    have HN : Hid (ResOf 0 RZ RE w (.returned (.tuple #[.agg #[.bool n7, .slice ao7 l7 c7, .int .i64 x7], .int .i64 k7])) (((W7.setCell ⟨w.heap.size + 1, 0, none⟩ (.bool n7)).setCell ⟨w.heap.size + 1, 1, none⟩ (.slice ao7 l7 c7)).setCell ⟨w.heap.size + 1, 2, none⟩ (.int .i64 x7))) :=
      Lib.hid (res_store1 HW7.out.2.1 HW7.out.2.2.2.2 (by omega) hr7)
    obtain ⟨q0, q1, q2, q3, q4, q5⟩ := HW7.out.2.1.cells3
    clear HW7 HW hr7 hb7
    generalize hP : ResOf 0 RZ RE w = P at *
    clear hP x0 x1 x2
    go_wp2
    refine bodyPost_ret (v := .tuple #[.agg #[.bool n7, .slice ao7 l7 c7, .int .i64 x7], .int .i64 k7]) (by simp [results, Tryz.results29, go_sem, q0, q1, q2]) rfl HN.out

theorem rdE_zero {na : Bool} {n N : Nat} {e mode : Int} (h : rdE na n N e mode = 0) : mayB na n N e = true ∧ 0 ≤ mode ∧ mode ≤ 4 := by
  unfold rdE modB at h
  by_cases h1 : mayB na n N e = true
  · rw [if_pos h1] at h
    by_cases h2 : (decide (0 ≤ mode) && decide (mode ≤ 4)) = true
    · simp at h2; exact ⟨h1, h2⟩
    · rw [if_neg h2] at h; simp at h
  · rw [if_neg h1] at h; simp at h

/-- Any dyad, any mode. -/
theorem dRound_all (va : Value) (na : Bool) (n N : Nat) (e mode : Int) (w : World) (ha : DyRaw w va na n N e) (hT : Tab64 w) (hTs : 1 < w.heap.size) :
    Calls Tryz.prog 27 #[va, .int .i64 mode] w (Gives (.tuple #[.float .f64 (if rdE na n N e mode = 0 then rndB (sgZ na N) e mode else 0), .int .i64 (rdE na n N e mode)]) w) := by
  by_cases h : rdE na n N e mode = 0
  · obtain ⟨h1, h2, h3⟩ := rdE_zero h
    obtain ⟨h4, h5⟩ := ha.good h1
    rw [if_pos h, h]
    exact dRound_any va _ e mode w h4 h5 h2 h3 hT hTs
  · rw [if_neg h]; exact dRound_bad va na n N e mode w ha h

theorem dRound32_all (va : Value) (na : Bool) (n N : Nat) (e mode : Int) (w : World) (ha : DyRaw w va na n N e) (hT : Tab64 w) (hTs : 1 < w.heap.size) :
    Calls Tryz.prog 28 #[va, .int .i64 mode] w (Gives (.tuple #[.float .f32 (if rdE na n N e mode = 0 then rndS (sgZ na N) e mode else 0), .int .i64 (rdE na n N e mode)]) w) := by
  by_cases h : rdE na n N e mode = 0
  · obtain ⟨h1, h2, h3⟩ := rdE_zero h
    obtain ⟨h4, h5⟩ := ha.good h1
    rw [if_pos h, h]
    exact dRound32_any va _ e mode w h4 h5 h2 h3 hT hTs
  · rw [if_neg h]; exact dRound32_bad va na n N e mode w ha h

theorem dWhole_all (va : Value) (na : Bool) (n N : Nat) (e mode : Int) (w : World) (ha : DyRaw w va na n N e) (hT : Tab64 w) (hTs : 1 < w.heap.size) :
    Calls Tryz.prog 29 #[va, .int .i64 mode] w (ResOf (rdE na n N e mode) (whZ (sgZ na N) e mode) (whE e) w) := by
  by_cases h : rdE na n N e mode = 0
  · obtain ⟨h1, h2, h3⟩ := rdE_zero h
    obtain ⟨h4, h5⟩ := ha.good h1
    rw [h]
    exact dWhole_good va _ e mode w h4 h5 h2 h3 hT hTs
  · exact dWhole_bad va na n N e mode _ _ w ha h

end Go.Proofs.YtjoajbbapfgaoaaGreatDoor
