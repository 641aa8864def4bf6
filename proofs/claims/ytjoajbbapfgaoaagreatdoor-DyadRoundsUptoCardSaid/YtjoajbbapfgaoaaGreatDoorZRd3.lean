/- Walk: DyadRounds. Printed by wip/gen/rd3.py. -/
import Derived.Test.YtjoajbbapfgaoaaGreatDoorZRs3
import Derived.Test.YtjoajbbapfgaoaaGreatDoorZRn7
import Derived.Test.YtjoajbbapfgaoaaGreatDoorZRn8
import Derived.Test.YtjoajbbapfgaoaaGreatDoorZMk3
import Derived.Deep.DeepCutAuto
namespace Go.Proofs.YtjoajbbapfgaoaaGreatDoor
open Go.RowKit

theorem rndS_zero (mode : Int) : rndS 0 0 mode = 0 := by
  have hc : cutZ (Int.natAbs 0) (-24 - 0) false mode = 0 := by unfold cutZ; rw [if_pos (by decide)]; decide
  unfold rndS roundZ
  rw [show lastE 0 0 24 (-149) = -24 by decide, show decide ((0 : Int) < 0) = false by decide, hc, if_pos (by decide)]
  decide

theorem rndX_eq {z e mode : Int} (h : z ≠ 0 ∨ e = 0) : rndX z e mode = rndB z e mode := by
  unfold rndX
  by_cases h0 : z = 0
  · subst h0
    obtain rfl : e = 0 := h.resolve_left (fun h => h rfl)
    rw [if_pos rfl, rnd_zero 0 mode rfl]
  · rw [if_neg h0]

theorem rndXS_eq {z e mode : Int} (h : z ≠ 0 ∨ e = 0) : rndXS z e mode = rndS z e mode := by
  unfold rndXS
  by_cases h0 : z = 0
  · subst h0
    obtain rfl : e = 0 := h.resolve_left (fun h => h rfl)
    rw [if_pos rfl, rndS_zero]
  · rw [if_neg h0]

theorem sgZ_zero {na : Bool} {n N : Nat} {e : Int} (hN : N < 2 ^ (32 * n)) (hm : mayB na n N e = true) : sgZ na N ≠ 0 ∨ e = 0 := by
  have hg := (mayB_good hN hm).1
  rcases hg.1 with ⟨-, h⟩ | h
  · exact .inr h
  · exact .inl (by omega)

set_option maxRecDepth 100000 in
set_option maxHeartbeats 16000000 in
theorem rounds_any (v : Value) (na : Bool) (n N : Nat) (e mode : Int) (w : World) (ha : DyIn w v na n N e)
    (hT : Tab64 w) (hTs : 1 < w.heap.size) (hT2 : Tab32 w) (hTs2 : 2 < w.heap.size) :
    Calls Tryz.prog 4 #[v, .int .i64 mode] w (Gives (.bool true) w) := by
  have HT := Lib.hid (And.intro hT (And.intro hTs (And.intro hT2 hTs2)))
  have HD := Lib.hid ha
  have hgood := fun h => ha.good (neg := na) (n := n) (N := N) (e := e) h
  obtain ⟨sa, rfl, hra, hna⟩ := ha
  have HA := Lib.hid (And.intro hra hna)
  have hN : N < 2 ^ (32 * n) := by obtain ⟨_, _, _, _, h, _⟩ := hra; exact h
  obtain ⟨aa, ca, rfl, -⟩ := hra
  have HRD := Lib.hid fun v W (h : DyRaw W v na n N e) ht hts => dRound_all v na n N e mode W h ht hts
  have HRS := Lib.hid fun v W (h : DyRaw W v na n N e) ht hts => dRound32_all v na n N e mode W h ht hts
  have HWH := Lib.hid fun v W (h : DyRaw W v na n N e) ht hts => dWhole_all v na n N e mode W h ht hts
  have HM2 := Lib.hid fun v W (h : DyIn W v na n N e) => rMay_in v na n N e W h
  have HKD : Hid (rdE na n N e mode = if mayB na n N e = true then (if modB mode = true then 0 else 20) else 30) := Lib.hid rfl
  have HXZ : Hid (rdE na n N e mode = 0 → (if rdE na n N e mode = 0 then rndB (sgZ na N) e mode else 0) = rndX (sgZ na N) e mode ∧ (if rdE na n N e mode = 0 then rndS (sgZ na N) e mode else 0) = rndXS (sgZ na N) e mode) := Lib.hid fun h => by
    have hz := sgZ_zero hN (rdE_zero h).1
    rw [if_pos h, if_pos h, rndX_eq hz, rndXS_eq hz]; exact ⟨rfl, rfl⟩
  have HX0 : Hid (rdE na n N e mode ≠ 0 → (if rdE na n N e mode = 0 then rndB (sgZ na N) e mode else 0) = 0 ∧ (if rdE na n N e mode = 0 then rndS (sgZ na N) e mode else 0) = 0) := Lib.hid fun h => ⟨if_neg h, if_neg h⟩
  have HGD : Hid (rdE na n N e mode = 0 → GoodD (sgZ na N) e ∧ 0 ≤ mode ∧ mode ≤ 4) := Lib.hid fun h => ⟨hgood (rdE_zero h).1, (rdE_zero h).2⟩
  have HIN : Hid (∀ (sl : Value) (W : World), RawI W sl n N → Calls Tryz.prog 32 #[DyV na sl e] W (RxNew (sgZ na N) e W)) := Lib.hid fun sl W h => rIn_in na e sl n N W h hna
  have HWHD : Hid ((e < 0 → whZ (sgZ na N) e mode = nearZ (sgZ na N) (-e) mode ∧ whE e = 0) ∧ (¬ e < 0 → whZ (sgZ na N) e mode = sgZ na N ∧ whE e = e)) := Lib.hid ⟨fun h => ⟨if_pos h, if_pos h⟩, fun h => ⟨if_neg h, if_neg h⟩⟩
  generalize (if rdE na n N e mode = 0 then rndB (sgZ na N) e mode else 0) = Xv at *
  generalize (if rdE na n N e mode = 0 then rndS (sgZ na N) e mode else 0) = Yv at *
  generalize rdE na n N e mode = K at *
  generalize mayB na n N e = mb at *
  generalize whZ (sgZ na N) e mode = WZ at *
  generalize whE e = WE at *
  generalize sgZ na N = z at *
  clear hT hTs hT2 hTs2 hna hgood hN
  unfold DyV at *
  have HW : Hid (ABox w (w.alloc (.cells #[.bool na, .slice aa n ca, .int .i64 e] 24)) na (.slice aa n ca) e) := Lib.hid ⟨BlkT.new w _ _, Below.alloc_self w _⟩
  go_enter Tryz.func4, Tryz.ntmps4
  go_wp2_with fail
  generalize w.alloc (.cells #[.bool na, .slice aa n ca, .int .i64 e] 24) = W0 at HW ⊢
  refine (twin_in na e _ n N _ (HA.out.1.below HW.out.2) HA.out.2).mono ?_
  rintro e1 w1 ⟨sl, rfl, hr, -, hb⟩
  have HR := Lib.hid (And.intro hr (show ∃ a c, sl = .slice a n c from by obtain ⟨a, c, h, -⟩ := id hr; exact ⟨a, c, h⟩))
  obtain ⟨ao, c, rfl⟩ := HR.out.2
  replace HW := Lib.hid (HW.out.later hb)
  clear hr hb
  unfold DyV
  go_wp2_with fail
  refine (HRD.out _ _ ⟨_, rfl, HR.out.1, HA.out.2⟩ (HT.out.1.below HT.out.2.1 HW.out.2) (Nat.lt_of_lt_of_le HT.out.2.1 HW.out.2.size)).mono ?_
  rintro e2 w2 ⟨rfl, hb⟩
  replace HW := Lib.hid (HW.out.later hb)
  clear hb HR HRD
  obtain ⟨⟨x0, x2⟩, x4⟩ := HW.out.cells
  go_wp2_with fail
  refine (twin_in na e _ n N _ (HA.out.1.below HW.out.2) HA.out.2).mono ?_
  rintro e1 w1 ⟨sl, rfl, hr, -, hb⟩
  have HR := Lib.hid (And.intro hr (show ∃ a c, sl = .slice a n c from by obtain ⟨a, c, h, -⟩ := id hr; exact ⟨a, c, h⟩))
  obtain ⟨ao, c, rfl⟩ := HR.out.2
  replace HW := Lib.hid (HW.out.later hb)
  clear hr hb
  unfold DyV
  go_wp2_with fail
  refine (HRS.out _ _ ⟨_, rfl, HR.out.1, HA.out.2⟩ (HT.out.1.below HT.out.2.1 HW.out.2) (Nat.lt_of_lt_of_le HT.out.2.1 HW.out.2.size)).mono ?_
  rintro e2 w2 ⟨rfl, hb⟩
  replace HW := Lib.hid (HW.out.later hb)
  clear hb HR HRS x0 x2 x4
  obtain ⟨⟨x0, x2⟩, x4⟩ := HW.out.cells
  go_wp2_with fail
  refine (twin_in na e _ n N _ (HA.out.1.below HW.out.2) HA.out.2).mono ?_
  rintro e1 w1 ⟨sl, rfl, hr, -, hb⟩
  have HR := Lib.hid (And.intro hr (show ∃ a c, sl = .slice a n c from by obtain ⟨a, c, h, -⟩ := id hr; exact ⟨a, c, h⟩))
  obtain ⟨ao, c, rfl⟩ := HR.out.2
  replace HW := Lib.hid (HW.out.later hb)
  clear hr hb
  unfold DyV
  go_wp2_with fail
  refine (HWH.out _ _ ⟨_, rfl, HR.out.1, HA.out.2⟩ (HT.out.1.below HT.out.2.1 HW.out.2) (Nat.lt_of_lt_of_le HT.out.2.1 HW.out.2.size)).mono ?_
  rintro e2 w2 ⟨n8, ao8, l8, c8, x8, k8, rfl, hr8, hb⟩
  replace HW := Lib.hid ((HW.out.later hb).later (Below.alloc_self w2 (.cells #[.bool n8, .slice ao8 l8 c8, .int .i64 x8] 24)))
  have HAN8 : Hid (Ans3 (w2.alloc (.cells #[.bool n8, .slice ao8 l8 c8, .int .i64 x8] 24)) w2.heap.size k8 K WZ WE n8 ao8 l8 c8 x8) := Lib.hid ⟨BlkT.new w2 _ _, hr8.below (Below.alloc_self w2 _)⟩
  clear hr8 hb HR HWH x0 x2 x4
  obtain ⟨⟨x0, x2⟩, x4⟩ := HW.out.cells
  go_wp2_with fail
  generalize w2.alloc (.cells #[.bool n8, .slice ao8 l8 c8, .int .i64 x8] 24) = W3 at HW HAN8 ⊢
  generalize w2.heap.size = b8 at HAN8 ⊢
  refine (HM2.out _ _ (HD.out.below HW.out.2)).mono ?_
  rintro e3 w3 ⟨rfl, hb⟩
  replace HW := Lib.hid (HW.out.later hb)
  replace HAN8 := Lib.hid (HAN8.out.below hb)
  clear hb x0 x2 x4
  go_upto_if 37 with fail
  go_cut [11] from 37 to 43 (fun s11 wx => s11 = .int .i64 K ∧ wx = w3)
  case first =>
    cases mb
    · have HB4 : Hid (K = 30) := Lib.hid HKD.out
      go_wp2_with fail
      go_meet
      exact ⟨by rw [HB4.out], rfl⟩
    · by_cases h1 : mode < 0
      · have HB4 : Hid (K = 20) := Lib.hid (by rw [HKD.out]; unfold modB; rw [decide_eq_false (by omega : ¬ 0 ≤ mode)]; rfl)
        have hd : decide (mode < 0) = true := decide_eq_true h1
        clear h1
        go_wp2_with fail
        go_meet
        exact ⟨by rw [HB4.out], rfl⟩
      · have hd : decide (mode < 0) = false := decide_eq_false h1
        by_cases h2 : 4 < mode
        · have HB4 : Hid (K = 20) := Lib.hid (by rw [HKD.out]; unfold modB; rw [decide_eq_false (by omega : ¬ mode ≤ 4), Bool.and_false]; rfl)
          have hd2 : decide (4 < mode) = true := decide_eq_true h2
          clear h1 h2
          go_wp2_with fail
          go_meet
          exact ⟨by rw [HB4.out], rfl⟩
        · have HB4 : Hid (K = 0) := Lib.hid (by rw [HKD.out]; unfold modB; rw [decide_eq_true (by omega : 0 ≤ mode), decide_eq_true (by omega : mode ≤ 4)]; rfl)
          have hd2 : decide (4 < mode) = false := decide_eq_false h2
          clear h1 h2
          go_wp2_with fail
          go_meet
          exact ⟨by rw [HB4.out], rfl⟩
  case rest =>
  obtain ⟨rfl, rfl⟩ := hcut
  rename_i w3
  by_cases hK0 : K = 0
  · subst hK0
    obtain ⟨hx, hy⟩ := HXZ.out rfl
    obtain ⟨hg, hm1, hm2⟩ := HGD.out rfl
    have hbl := hg.2.1
    have he1 := hg.2.2.1
    have he2 := hg.2.2.2
    have HRR := Lib.hid fun b W (h : RInt W b z) ht hts => rRound_any b z e mode W h (by omega) (by omega) (by omega) hm1 hm2 ht hts
    have HRR2 := Lib.hid fun b W (h : RInt W b z) ht hts => rRound32_any b z e mode W h (by omega) (by omega) (by omega) hm1 hm2 ht hts
    have HNE := Lib.hid fun (hn : e < 0) b W (h : RInt W b z) => rNear_any b z (-e) mode W h (by omega) (by omega) (by omega) (by omega)
    have HBN : Hid (bl WZ.natAbs ≤ 68719476736) := Lib.hid (by
      by_cases hn : e < 0
      · rw [(HWHD.out.1 hn).1]
        have := bl_near (z := z) (d := -e) (mode := mode) (by omega); omega
      · rw [(HWHD.out.2 (by omega)).1]; omega)
    have HBZ : Hid (bl z.natAbs ≤ 68719476736 ∧ -1099511627776 ≤ e ∧ e ≤ 1099511627776) := Lib.hid ⟨by omega, by omega, by omega⟩
    rw [← hx] at HRR
    rw [← hy] at HRR2
    have hf32 := fbits32_eq Yv
    have hbb : ((Yv : Int) != (Yv : Int)) = false := by simp [bne]
    clear hx hy hg hbl hm1 hm2 HX0 HXZ HGD HKD
    obtain ⟨⟨x0, x2⟩, x4⟩ := HW.out.cells
    go_wp2_with fail
    refine (HIN.out _ _ (HA.out.1.below HW.out.2)).mono ?_
    rintro e4 w4 ⟨q, rfl, -, hi, hb⟩
    replace HW := Lib.hid (HW.out.later hb)
    replace HAN8 := Lib.hid (HAN8.out.below hb)
    replace HW := Lib.hid (HW.out.later (Below.alloc_self w4 (.cells #[.pointer (some ⟨q, 0, none⟩), .int .i64 e] 34)))
    replace HAN8 := Lib.hid (HAN8.out.below (Below.alloc_self w4 (.cells #[.pointer (some ⟨q, 0, none⟩), .int .i64 e] 34)))
    have HX : Hid (XBox (w4.alloc (.cells #[.pointer (some ⟨q, 0, none⟩), .int .i64 e] 34)) w4.heap.size q 0 z e e) :=
      Lib.hid ⟨BlkT.new w4 _ _, XIs.of 0 ⟨hi.below (Below.alloc_self w4 _), rfl, HBZ.out⟩⟩
    clear hi hb x0 x2 x4 HIN
    unfold ExV at *
    go_wp2
    generalize w4.alloc (.cells #[.pointer (some ⟨q, 0, none⟩), .int .i64 e] 34) = W4 at *
    generalize w4.heap.size = b12 at *
    refine wp_region_pl (fun w' : World => w'.cell? ⟨b12, 0, none⟩ = some (.pointer (some ⟨q, 0, none⟩)) ∧ w'.cell? ⟨b12, 1, none⟩ = some (.int .i64 e)) 11 (.take 0 (.take 1 (.take 2 (.run 3 (.run 4 (.take 5 (.take 6 (.take 7 (.take 9 (.take 10 (.take 8 .nil))))))))))) (by kernel_rfl) (by kernel_rfl) ?_
    replace HW := Lib.hid (HW.out.later (drew_below _))
    replace HAN8 := Lib.hid (HAN8.out.below (drew_below _))
    replace HX := Lib.hid (HX.out.below (drew_below _))
    generalize W4.drew = W5 at HW HAN8 HX ⊢
    have hS : (fun w' : World => w'.cell? ⟨b12, 0, none⟩ = some (.pointer (some ⟨q, 0, none⟩)) ∧ w'.cell? ⟨b12, 1, none⟩ = some (.int .i64 e)) W5 := ⟨HX.out.1.cell 0, HX.out.1.cell 1⟩
    repeat (refine wpPl_takeL (v := ?_) rfl rfl (fun _ _ _ h => h) rfl (fun w' hSw => ?_) hS ?_; rotate_left; (focus (go_simp; with_reducible rfl)); simp only [List.setIfInBounds_toArray, List.set_cons_zero, List.set_cons_succ])
    clear hS
    refine wpPl_goL rfl rfl fun K' hK => ?_
    go_simp
    refine (HRR.out _ _ (HX.out.2 rfl).1 (HT.out.2.2.1.below HT.out.2.2.2 HW.out.2) (Nat.lt_of_lt_of_le HT.out.2.2.2 HW.out.2.size)).mono ?_
    rintro e1 V1 ⟨rfl, hb1⟩
    replace HW := Lib.hid (HW.out.later hb1)
    replace HAN8 := Lib.hid (HAN8.out.below hb1)
    replace HX := Lib.hid (HX.out.below hb1)
    refine hK _ _ ⟨HX.out.1.cell 0, HX.out.1.cell 1⟩ ?_
    clear hK K' hb1
    refine wpPl_goL rfl rfl fun K' hK => ?_
    go_simp
    refine (lSame_any _ _ _).mono ?_
    rintro e1 V2 ⟨rfl, hb1⟩
    rw [decide_eq_true rfl]
    replace HW := Lib.hid (HW.out.later hb1)
    replace HAN8 := Lib.hid (HAN8.out.below hb1)
    replace HX := Lib.hid (HX.out.below hb1)
    refine hK _ _ ⟨HX.out.1.cell 0, HX.out.1.cell 1⟩ ?_
    clear hK K' hb1
    have hS : (fun w' : World => w'.cell? ⟨b12, 0, none⟩ = some (.pointer (some ⟨q, 0, none⟩)) ∧ w'.cell? ⟨b12, 1, none⟩ = some (.int .i64 e)) V2 := ⟨HX.out.1.cell 0, HX.out.1.cell 1⟩
    repeat (refine wpPl_takeL (v := ?_) rfl rfl (fun _ _ _ h => h) rfl (fun w' hSw => ?_) hS ?_; rotate_left; (focus (go_simp; with_reducible rfl)); simp only [List.setIfInBounds_toArray, List.set_cons_zero, List.set_cons_succ])
    clear hS
    refine wpPl_nil ?_
    simp only [List.drop_succ_cons, List.drop_zero]
    skip
    obtain ⟨t0, t1, t2, t3⟩ := HX.out.1.cells2
    go_wp2_with fail
    refine (HRR2.out _ _ (HX.out.2 rfl).1 (HT.out.2.2.1.below HT.out.2.2.2 HW.out.2) (Nat.lt_of_lt_of_le HT.out.2.2.2 HW.out.2.size)).mono ?_
    rintro e6 w6 ⟨rfl, hb⟩
    replace HW := Lib.hid (HW.out.later hb)
    replace HAN8 := Lib.hid (HAN8.out.below hb)
    replace HX := Lib.hid (HX.out.below hb)
    clear hb t0 t1 t2 t3 HRR HRR2
    obtain ⟨t0, t1, t2, t3⟩ := HX.out.1.cells2
    have HKX : Hid (w.heap.size < w6.heap.size ∧ b8 < w6.heap.size) := Lib.hid ⟨HW.out.1.lt, HAN8.out.1.lt⟩
    have HXA := Lib.hid (HX.out.below (Below.alloc_self w6 (.cells #[.pointer (some ⟨q, 0, none⟩), .int .i64 e] 34)))
    obtain ⟨u0, u1, u2, u3⟩ := HXA.out.1.cells2
    by_cases hn : e < 0
    · have hd : decide (e < 0) = true := decide_eq_true hn
      have hw1 : IntKind.i64.wrap (-e) = -e := IntWalk.i64_in _ (by omega)
      obtain ⟨hz1, hz2⟩ := HWHD.out.1 hn
      have HN2 := Lib.hid (HNE.out hn)
      rw [← hz1] at HN2
      have HWE := Lib.hid hz2
      clear hn hz1 hz2 HNE HWHD
      go_wp2_with fail
      have HX2 : Hid (XBox (w6.alloc (.cells #[.pointer (some ⟨q, 0, none⟩), .int .i64 e] 34)) w6.heap.size q 0 z e e) := Lib.hid ⟨BlkT.new w6 _ _, HX.out.2.below (Below.alloc_self w6 _)⟩
      replace HW := Lib.hid (HW.out.later (Below.alloc_self w6 (.cells #[.pointer (some ⟨q, 0, none⟩), .int .i64 e] 34)))
      replace HAN8 := Lib.hid (HAN8.out.below (Below.alloc_self w6 (.cells #[.pointer (some ⟨q, 0, none⟩), .int .i64 e] 34)))
      replace HX := Lib.hid (HX.out.below (Below.alloc_self w6 (.cells #[.pointer (some ⟨q, 0, none⟩), .int .i64 e] 34)))
      generalize w6.alloc (.cells #[.pointer (some ⟨q, 0, none⟩), .int .i64 e] 34) = W6 at *
      generalize w6.heap.size = b13 at *
      refine (HN2.out _ _ (HX.out.2 rfl).1).mono ?_
      rintro e7 w7 ⟨q7, rfl, -, hi, hb⟩
      replace HW := Lib.hid (HW.out.later hb)
      replace HAN8 := Lib.hid (HAN8.out.below hb)
      replace HX2 := Lib.hid (HX2.out.below hb)
      have HI := Lib.hid hi
      clear hi hb t0 t1 t2 t3 u0 u1 u2 u3 HXA HX
      obtain ⟨t0, t1, t2, t3⟩ := HX2.out.1.cells2
      have HXX := Lib.hid (And.intro (show XBox ((w7.setCell ⟨b13, 0, none⟩ (.pointer (some ⟨q7, 0, none⟩))).setCell ⟨b13, 1, none⟩ (.int .i64 0)) b13 q7 0 WZ WE 0 from ⟨(HX2.out.1.set (i := 0) _).set (i := 1) _, XIs.of 0 ⟨RInt.st2 HI.out HX2.out.1 _ _, HWE.out.symm, HBN.out, by rw [HWE.out]; decide, by rw [HWE.out]; decide⟩⟩)
        (And.intro (HW.out.st2 HKX.out.1 (.pointer (some ⟨q7, 0, none⟩)) (.int .i64 0)) (HAN8.out.st2 HX2.out.1 HKX.out.2 (.pointer (some ⟨q7, 0, none⟩)) (.int .i64 0))))
      clear HI HW HAN8 HX2
      obtain ⟨s0, s1, s2, s3⟩ := HXX.out.1.1.cells2
      obtain ⟨y0, y1, y2, y3, y4, y5⟩ := HXX.out.2.2.1.cells3
      go_wp2_with fail
      generalize (w7.setCell ⟨b13, 0, none⟩ (.pointer (some ⟨q7, 0, none⟩))).setCell ⟨b13, 1, none⟩ (.int .i64 0) = W7 at *
      have HX := Lib.hid HXX.out.1
      have HW := Lib.hid HXX.out.2.1
      have HAN8 := Lib.hid HXX.out.2.2
      clear HXX
      refine (rIs_all 0 WZ WE _ k8 q7 0 _ HAN8.out.2 HX.out.2 (HT.out.2.2.1.below HT.out.2.2.2 HW.out.2) (Nat.lt_of_lt_of_le HT.out.2.2.2 HW.out.2.size)).mono ?_
      rintro e8 w8 ⟨rfl, hb⟩
      replace HW := Lib.hid (HW.out.later hb)
      clear hb
      go_wp2_with fail
      refine (awake_any _ (HT.out.1.below HT.out.2.1 HW.out.2) (Nat.lt_of_lt_of_le HT.out.2.1 HW.out.2.size)).mono ?_
      rintro e11 w11 ⟨rfl, hb⟩
      have HBE := Lib.hid (HW.out.later hb).2
      clear hb
      go_wp2
      go_ret
      exact ⟨rfl, HBE.out⟩
    · have hd : decide (e < 0) = false := decide_eq_false hn
      obtain ⟨hz1, hz2⟩ := HWHD.out.2 (by omega)
      have HX2 : Hid (XBox (w6.alloc (.cells #[.pointer (some ⟨q, 0, none⟩), .int .i64 e] 34)) w6.heap.size q 0 WZ WE e) := Lib.hid (by rw [hz1, hz2]; exact ⟨BlkT.new w6 _ _, HX.out.2.below (Below.alloc_self w6 _)⟩)
      replace HW := Lib.hid (HW.out.later (Below.alloc_self w6 (.cells #[.pointer (some ⟨q, 0, none⟩), .int .i64 e] 34)))
      replace HAN8 := Lib.hid (HAN8.out.below (Below.alloc_self w6 (.cells #[.pointer (some ⟨q, 0, none⟩), .int .i64 e] 34)))
      clear hn hz1 hz2 HNE HWHD HKX
      obtain ⟨s0, s1, s2, s3⟩ := HX2.out.1.cells2
      obtain ⟨y0, y1, y2, y3, y4, y5⟩ := HAN8.out.1.cells3
      go_wp2_with fail
      clear t0 t1 t2 t3 u0 u1 u2 u3 HX HXA
      generalize w6.alloc (.cells #[.pointer (some ⟨q, 0, none⟩), .int .i64 e] 34) = W6 at *
      refine (rIs_all 0 WZ WE _ k8 q e _ HAN8.out.2 HX2.out.2 (HT.out.2.2.1.below HT.out.2.2.2 HW.out.2) (Nat.lt_of_lt_of_le HT.out.2.2.2 HW.out.2.size)).mono ?_
      rintro e8 w8 ⟨rfl, hb⟩
      replace HW := Lib.hid (HW.out.later hb)
      clear hb
      go_wp2_with fail
      refine (awake_any _ (HT.out.1.below HT.out.2.1 HW.out.2) (Nat.lt_of_lt_of_le HT.out.2.1 HW.out.2.size)).mono ?_
      rintro e11 w11 ⟨rfl, hb⟩
      have HBE := Lib.hid (HW.out.later hb).2
      clear hb
      go_wp2
      go_ret
      exact ⟨rfl, HBE.out⟩
  · obtain ⟨rfl, rfl⟩ := HX0.out hK0
    have hk1 : (K == 0) = false := by simpa using hK0
    have hkk : (K == K) = true := by simp
    have HKN := Lib.hid hK0
    have hf32 := fbits32_eq 0
    clear hK0 HX0 HXZ HGD HIN HWHD
    go_wp2
    refine wp_region_pl (fun w' : World => (w'.cell? ⟨b8, 0, none⟩ = some (.bool n8) ∧ w'.cell? ⟨b8, 1, none⟩ = some (.slice ao8 l8 c8)) ∧ w'.cell? ⟨b8, 2, none⟩ = some (.int .i64 x8)) 22 (.take 0 (.run 1 (.take 2 (.take 3 (.take 4 (.take 5 (.take 6 (.take 7 (.take 8 (.take 9 (.take 10 (.take 11 (.take 12 (.take 13 (.take 14 (.take 15 (.take 16 (.take 17 (.take 18 (.take 19 (.take 21 (.run 20 .nil)))))))))))))))))))))) (by kernel_rfl) (by kernel_rfl) ?_
    replace HW := Lib.hid (HW.out.later (drew_below _))
    replace HAN8 := Lib.hid (HAN8.out.below (drew_below _))
    generalize World.drew _ = W5 at HW HAN8 ⊢
    have hS : (fun w' : World => (w'.cell? ⟨b8, 0, none⟩ = some (.bool n8) ∧ w'.cell? ⟨b8, 1, none⟩ = some (.slice ao8 l8 c8)) ∧ w'.cell? ⟨b8, 2, none⟩ = some (.int .i64 x8)) W5 := ⟨⟨HAN8.out.1.cell 0, HAN8.out.1.cell 1⟩, HAN8.out.1.cell 2⟩
    repeat (refine wpPl_takeL (v := ?_) rfl rfl (fun _ _ _ h => h) rfl (fun w' hSw => ?_) hS ?_; rotate_left; (focus (go_simp; with_reducible rfl)); simp only [List.setIfInBounds_toArray, List.set_cons_zero, List.set_cons_succ])
    clear hS
    refine wpPl_goL rfl rfl fun K' hK => ?_
    go_simp
    refine (lSame_any _ _ _).mono ?_
    rintro e1 V1 ⟨rfl, hb1⟩
    rw [decide_eq_true rfl]
    replace HW := Lib.hid (HW.out.later hb1)
    replace HAN8 := Lib.hid (HAN8.out.below hb1)
    refine hK _ _ ⟨⟨HAN8.out.1.cell 0, HAN8.out.1.cell 1⟩, HAN8.out.1.cell 2⟩ ?_
    clear hK K' hb1
    have hS : (fun w' : World => (w'.cell? ⟨b8, 0, none⟩ = some (.bool n8) ∧ w'.cell? ⟨b8, 1, none⟩ = some (.slice ao8 l8 c8)) ∧ w'.cell? ⟨b8, 2, none⟩ = some (.int .i64 x8)) V1 := ⟨⟨HAN8.out.1.cell 0, HAN8.out.1.cell 1⟩, HAN8.out.1.cell 2⟩
    repeat (refine wpPl_takeL (v := ?_) rfl rfl (fun _ _ _ h => h) rfl (fun w' hSw => ?_) hS ?_; rotate_left; (focus (go_simp; with_reducible rfl)); simp only [List.setIfInBounds_toArray, List.set_cons_zero, List.set_cons_succ])
    clear hS
    refine wpPl_goL rfl rfl fun K' hK => ?_
    go_simp
    refine (rZero_any _).mono ?_
    rintro e1 V2 ⟨q, rfl, -, -, hb1⟩
    replace HW := Lib.hid (HW.out.later hb1)
    replace HAN8 := Lib.hid (HAN8.out.below hb1)
    refine hK _ _ ⟨⟨HAN8.out.1.cell 0, HAN8.out.1.cell 1⟩, HAN8.out.1.cell 2⟩ ?_
    clear hK K' hb1
    refine wpPl_nil ?_
    simp only [List.drop_succ_cons, List.drop_zero]
    skip
    unfold ExV at *
    go_wp2_with fail
    refine (rIs_all K WZ WE _ k8 q 0 _ HAN8.out.2 (XIs.no HKN.out) (HT.out.2.2.1.below HT.out.2.2.2 HW.out.2) (Nat.lt_of_lt_of_le HT.out.2.2.2 HW.out.2.size)).mono ?_
    rintro e8 w8 ⟨rfl, hb⟩
    replace HW := Lib.hid (HW.out.later hb)
    clear hb
    go_wp2_with fail
    refine (awake_any _ (HT.out.1.below HT.out.2.1 HW.out.2) (Nat.lt_of_lt_of_le HT.out.2.1 HW.out.2.size)).mono ?_
    rintro e11 w11 ⟨rfl, hb⟩
    have HBE := Lib.hid (HW.out.later hb).2
    clear hb
    go_wp2
    go_ret
    exact ⟨rfl, HBE.out⟩

end Go.Proofs.YtjoajbbapfgaoaaGreatDoor
