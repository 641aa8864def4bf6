/- Walks: dyads that were handed in: May, take, Round. Printed by wip/gen/inp2.py. -/
import Derived.Test.YtfcddnccmdjhfaaGreatDoorZRki
import Derived.Test.YtfcddnccmdjhfaaGreatDoorGM
namespace Go.Proofs.YtfcddnccmdjhfaaGreatDoor
open Go.RowKit

/-- As DyAt, but that nothing is said of the words' block's type. -/
def DyI (w : World) (v : Value) (z e : Int) : Prop := ∃ sl, v = DyV (decide (z < 0)) sl e ∧ RawI w sl (ln 32 z.natAbs) z.natAbs

theorem DyI.below {w w' : World} {v : Value} {z e : Int} (h : DyI w v z e) (hb : Below w.heap.size w w') : DyI w' v z e := by
  obtain ⟨sl, h1, h2⟩ := h; exact ⟨sl, h1, h2.below hb⟩

theorem DyIn.goodI {w : World} {v : Value} {neg : Bool} {n N : Nat} {e : Int} (h : DyIn w v neg n N e) (hm : mayB neg n N e = true) : DyI w v (sgZ neg N) e ∧ GoodD (sgZ neg N) e := by
  obtain ⟨sl, rfl, hr, -⟩ := h
  have hr2 := hr
  obtain ⟨-, -, -, -, hN, -⟩ := hr2
  obtain ⟨h1, h2, h3⟩ := mayB_good hN hm
  refine ⟨⟨sl, by rw [h3], ?_⟩, h1⟩
  rw [sgZ_abs, ← h2]; exact hr

set_option maxRecDepth 100000 in
set_option maxHeartbeats 4000000 in
theorem dMay_in (v : Value) (neg : Bool) (n N : Nat) (e : Int) (w : World) (hv : DyIn w v neg n N e) :
    Calls Tryz.prog 24 #[v] w (Gives (.bool (mayB neg n N e)) w) := by
  obtain ⟨sl, rfl, ⟨ao, cap, rfl, -, -, -, hc⟩, hn⟩ := hv
  unfold DyV mayB
  by_cases h0 : n = 0
  · subst h0
    rw [if_pos rfl]
    clear hc hn
    cases neg
    · by_cases h1 : e = 0
      · subst h1
        rw [show (!false && decide ((0 : Int) = 0)) = true by decide]
        try clear h1
        go_enter Tryz.func24, Tryz.ntmps24
        go_wp2
        go_ret
        exact ⟨by first | rfl | simp [*], Below.alloc_self _ _⟩
      · have h2 : (e == 0) = false := by simpa using h1
        rw [show (!false && decide (e = 0)) = false by simp [h1]]
        try clear h1
        go_enter Tryz.func24, Tryz.ntmps24
        go_wp2
        go_ret
        exact ⟨by first | rfl | simp [*], Below.alloc_self _ _⟩
    · rw [show (!true && decide (e = 0)) = false by simp]
      go_enter Tryz.func24, Tryz.ntmps24
      go_wp2
      go_ret
      exact ⟨by first | rfl | simp [*], Below.alloc_self _ _⟩
  · rw [if_neg h0]
    have hl0 : 0 < n := by omega
    obtain ⟨b, off, rfl, hb, hcc⟩ := hc hl0
    have c1 := hcc (n - 1) (by omega)
    have c0 := hcc 0 hl0
    rw [Nat.add_zero] at c0
    clear hcc hc
    have hd0 : dg 32 N (n - 1) < 4294967296 := dg_lt 32 N (n - 1)
    have hd1 : dg 32 N 0 < 4294967296 := dg_lt 32 N 0
    generalize dg 32 N (n - 1) = dt at *
    generalize dg 32 N 0 = d0 at *
    have hn0 : ((n : Int) == 0) = false := by simp; omega
    by_cases hA : n ≤ 2048
    · have fA : n ≤ 2048 := hA
      by_cases hB : dt ≠ 0
      · have fB : ((dt : Int) != 0) = true := by simp; omega
        by_cases hC : d0 % 2 = 1
        · have fC : ((d0 : Int) % 2 == 1) = true := by simp; omega
          by_cases hD : -100000 ≤ e
          · have fD : -100000 ≤ e := hD
            by_cases hE : e ≤ 100000
            · have fE : e ≤ 100000 := hE
              rw [show (decide (n ≤ 2048) && (decide (dt ≠ 0) && (decide (d0 % 2 = 1) && (decide (-100000 ≤ e) && decide (e ≤ 100000))))) = true by simp [hA, hB, hC, hD, hE]]
              clear hA hB hC hD hE
              go_enter Tryz.func24, Tryz.ntmps24
              go_wp2
              go_ret
              exact ⟨by first | rfl | simp [*], Below.alloc_self _ _⟩
            · have fE : decide (e ≤ 100000) = false := by simp; omega
              rw [show (decide (n ≤ 2048) && (decide (dt ≠ 0) && (decide (d0 % 2 = 1) && (decide (-100000 ≤ e) && decide (e ≤ 100000))))) = false by simp [hE]]
              clear hA hB hC hD hE
              go_enter Tryz.func24, Tryz.ntmps24
              go_wp2
              go_ret
              exact ⟨by first | rfl | simp [*], Below.alloc_self _ _⟩
          · have fD : e < -100000 := by omega
            rw [show (decide (n ≤ 2048) && (decide (dt ≠ 0) && (decide (d0 % 2 = 1) && (decide (-100000 ≤ e) && decide (e ≤ 100000))))) = false by simp [hD]]
            clear hA hB hC hD
            go_enter Tryz.func24, Tryz.ntmps24
            go_wp2
            go_ret
            exact ⟨by first | rfl | simp [*], Below.alloc_self _ _⟩
        · have fC : ((d0 : Int) % 2 == 1) = false := by simp; omega
          rw [show (decide (n ≤ 2048) && (decide (dt ≠ 0) && (decide (d0 % 2 = 1) && (decide (-100000 ≤ e) && decide (e ≤ 100000))))) = false by simp [hC]]
          clear hA hB hC
          go_enter Tryz.func24, Tryz.ntmps24
          go_wp2
          go_ret
          exact ⟨by first | rfl | simp [*], Below.alloc_self _ _⟩
      · have fB : ((dt : Int) != 0) = false := by simp; omega
        rw [show (decide (n ≤ 2048) && (decide (dt ≠ 0) && (decide (d0 % 2 = 1) && (decide (-100000 ≤ e) && decide (e ≤ 100000))))) = false by simp [hB]]
        clear hA hB
        go_enter Tryz.func24, Tryz.ntmps24
        go_wp2
        go_ret
        exact ⟨by first | rfl | simp [*], Below.alloc_self _ _⟩
    · have fA : 2048 < n := by omega
      rw [show (decide (n ≤ 2048) && (decide (dt ≠ 0) && (decide (d0 % 2 = 1) && (decide (-100000 ≤ e) && decide (e ≤ 100000))))) = false by simp [hA]]
      clear hA
      go_enter Tryz.func24, Tryz.ntmps24
      go_wp2
      go_ret
      exact ⟨by first | rfl | simp [*], Below.alloc_self _ _⟩

set_option maxRecDepth 100000 in
set_option maxHeartbeats 800000 in
theorem may_true_in (v : Value) (z e : Int) (w : World) (hv : DyI w v z e) (hg : GoodD z e) :
    Calls Tryz.prog 24 #[v] w (Gives (.bool true) w) := by
  obtain ⟨sl, rfl, hr⟩ := hv
  obtain ⟨hn, hbl, he1, he2⟩ := hg
  obtain ⟨ao, cap, rfl, hcap, hN, -, hc⟩ := hr
  unfold DyV
  rcases hn with ⟨rfl, rfl⟩ | hodd
  · have e0 : ln 32 (0 : Int).natAbs = 0 := ln_zero 32
    have e1 : decide ((0 : Int) < 0) = false := rfl
    rw [e0, e1]
    clear hcap hN hc hbl e0 e1
    go_enter Tryz.func24, Tryz.ntmps24
    go_wp2
    go_ret
    exact ⟨rfl, Below.alloc_self _ _⟩
  · have hl0 : 0 < ln 32 z.natAbs := (ln_pos_iff (by decide)).2 (by omega)
    have hl1 : ln 32 z.natAbs ≤ 2048 := by
      unfold ln; omega
    obtain ⟨b, off, rfl, hb, hcc⟩ := hc hl0
    have c1 := hcc (ln 32 z.natAbs - 1) (by omega)
    have c0 := hcc 0 hl0
    rw [Nat.add_zero] at c0
    clear hcc
    have ht := dg_top (s := 32) (N := z.natAbs) (by decide) (by omega)
    have hz := dg_zero_mod z.natAbs
    generalize dg 32 z.natAbs (ln 32 z.natAbs - 1) = dt at *
    generalize dg 32 z.natAbs 0 = d0 at *
    generalize ln 32 z.natAbs = n at *
    have hdt : ((dt : Int) != 0) = true := by simp; omega
    have hd0 : ((d0 : Int) % 2 == 1) = true := by simp; omega
    have hn0 : ((n : Int) == 0) = false := by simp; omega
    generalize decide (z < 0) = neg at *
    clear hc hN hodd hbl ht hz
    go_enter Tryz.func24, Tryz.ntmps24
    go_wp2
    go_ret
    exact ⟨rfl, Below.alloc_self _ _⟩

set_option maxRecDepth 100000 in
set_option maxHeartbeats 800000 in
theorem take_in (neg : Bool) (e : Int) (sl : Value) (n N : Nat) (w : World) (h : RawI w sl n N) (hn : n ≤ 1073741824) :
    Calls Tryz.prog 48 #[.agg #[.bool neg, sl, .int .i64 e]] w (ExNew (if neg then -(N : Int) else N) e w) := by
  have HR := Lib.hid h
  obtain ⟨ao, cap, rfl, hcap, hN, -, hc⟩ := h
  have HN := Lib.hid hN
  have HC := Lib.hid hc
  have HR0 := Lib.hid (TakeRel.start neg (.slice ao n cap) e n N w hN)
  obtain ⟨z, hz⟩ : ∃ z, (if neg then -(N : Int) else N) = z := ⟨_, rfl⟩
  rw [hz]
  have HF := Lib.hid hz
  clear hN hc hz
  go_enter Tryz.func48, Tryz.ntmps48
  go_wp2
  go_loopw [4] (fun i wr => ∃ (k : Nat) (j : Int), k ≤ n ∧ i = .int .i64 j ∧ j + 1 = k ∧ Hid (TakeRel N (w.heap.size + 1 + 1) k #[.bool neg, .slice ao n cap, .int .i64 e] w wr))
    (fun i _ => (intOf i + 1).toNat)
  case atStart => exact ⟨n, _, Nat.le_refl _, rfl, by omega, HR0⟩
  case round =>
    obtain ⟨k, j, hk, rfl, hj, HT⟩ := hrel
    obtain ⟨q0, q1, q2, q3, q4, q5⟩ := HT.out.2.1.cells3
    by_cases h0 : k = 0
    · subst h0
      obtain rfl : j = -1 := by omega
      obtain ⟨r0, r1, r2, r3⟩ := HT.out.2.2.1.cells2
      cases neg
      · have HE : Hid (((N / 2 ^ (32 * 0) : Nat) : Int) = z) := Lib.hid (by rw [← HF.out]; simp)
        go_wp2
        refine bodyPost_ret (v := ExV (w.heap.size + 1 + 1) e) (by simp [results, Tryz.results48, go_sem, r0, r1, ExV]) rfl ⟨_, rfl, by omega, ?_, ?_⟩
        · rw [← HE.out]
          exact (HT.out.1.setOther HT.out.2.2.1 objT_exact (by omega) _).setOther (HT.out.2.2.1.set _) objT_exact (by omega) _
        · exact (HT.out.2.2.2.1.setCell (by simp) _).setCell (by simp) _
      · have HE : Hid (-((N / 2 ^ (32 * 0) : Nat) : Int) = z) := Lib.hid (by rw [← HF.out]; simp)
        go_wp2_with fail
        refine (Neg_any _ 0 _ 0 _ _ HT.out.1.1 HT.out.1 ?_).mono ?_
        · exact Nat.le_trans (ln64_div HN.out _) (by omega)
        rintro e2 w2 ⟨rfl, hi2, hm2⟩
        rw [HE.out] at hi2
        have HT2 := Lib.hid (HT.out.lsh hm2)
        have HI2 := Lib.hid hi2
        obtain ⟨q0, q1, q2, q3, q4, q5⟩ := HT2.out.1.cells3
        obtain ⟨r0, r1, r2, r3⟩ := HT2.out.2.1.cells2
        clear hi2 hm2
        go_wp2
        refine bodyPost_ret (v := ExV (w.heap.size + 1 + 1) e) (by simp [results, Tryz.results48, go_sem, r0, r1, ExV]) rfl ⟨_, rfl, by omega, ?_, ?_⟩
        · exact (HI2.out.setOther HT2.out.2.1 objT_exact (by omega) _).setOther (HT2.out.2.1.set _) objT_exact (by omega) _
        · exact (HT2.out.2.2.setCell (by simp) _).setCell (by simp) _
    · obtain ⟨i, rfl⟩ : ∃ i, k = i + 1 := ⟨k - 1, by omega⟩
      obtain rfl : j = (i : Int) := by omega
      obtain ⟨b1, off, rfl, hb1, hcc⟩ := HC.out (by omega)
      have HCC := Lib.hid (hcc i (by omega))
      have HB1 := Lib.hid hb1
      clear h0 hj hcc hb1
      go_wp2_with fail
      refine (Lsh_any _ 0 _ 0 32 _ _ HT.out.1.1 HT.out.1 ?_ (by omega)).mono ?_
      · exact Nat.le_trans (ln64_div HN.out _) (by omega)
      rintro e2 w2 ⟨rfl, hi2, hm2⟩
      have HT2 := Lib.hid (HT.out.lsh hm2)
      have HI2 := Lib.hid hi2
      clear q0 q1 q2 q3 q4 q5 hi2 hm2
      obtain ⟨q0, q1, q2, q3, q4, q5⟩ := HT2.out.1.cells3
      have hcell := (HT2.out.2.2.cell (p := ⟨b1, off + i, none⟩) HB1.out).trans HCC.out
      have hd := dg_lt 32 N i
      generalize hdd : dg 32 N i = d at *
      have HD := Lib.hid hdd
      clear hdd
      go_wp2_with fail
      refine (NewInt_any d _ (by omega) (by omega)).mono ?_
      rintro e3 w3 ⟨b3, rfl, hb3, hi3, hB3⟩
      have HB3 := Lib.hid hB3
      have HI3 := Lib.hid hi3
      have HI23 := Lib.hid (HI2.out.below hB3)
      have hb32 : w2.heap.size ≤ b3 := hb3
      clear hb3 hi3 hB3
      go_wp2_with fail
      refine (Or_any _ 0 _ 0 _ 0 _ _ _ HI23.out.1 HI23.out HI3.out ?_ ?_).mono ?_
      · exact Nat.le_trans (ln64_shl HN.out _) (by omega)
      · exact Nat.le_trans (ln_of_lt (s := 64) (n := 1) (by decide) (by rw [Int.natAbs_natCast]; omega)) (by omega)
      rintro e4 w4 ⟨rfl, hi4, hm4⟩
      have HT4 : Hid (TakeRel N (w.heap.size + 1 + 1) i #[.bool neg, .slice (some ⟨b1, off, none⟩) n cap, .int .i64 e] w w4) := by
        refine Lib.hid ⟨?_, (HT2.out.1.below HB3.out).mod hm4 (by omega), (HT2.out.2.1.below HB3.out).mod hm4 (by omega), ?_, rfl⟩
        · rw [← HD.out, take_or] at hi4; exact hi4
        · exact hm4.below (HT2.out.2.2.trans (HB3.out.mono HT2.out.2.2.size)) (by omega) (HT2.out.2.2.trans (HB3.out.mono HT2.out.2.2.size)).size
      clear hi4 hm4 hd
      go_wp2_with fail
      go_roundw
      case rel => exact ⟨i, _, by omega, rfl, by omega, HT4⟩
      case measure => simp [intOf]

set_option maxRecDepth 100000 in
set_option maxHeartbeats 1600000 in
theorem dRound_norm_in (va : Value) (z e mode : Int) (w : World) (ha : DyI w va z e) (hga : GoodD z e) (hm1 : 0 ≤ mode) (hm2 : mode ≤ 4) (hT : Tab64 w) (hTs : 1 < w.heap.size)
    (hfit : lastE z e 53 (-1074) + bl (roundZ z e 53 (-1074) mode) ≤ 1024) :
    Calls Tryz.prog 11 #[va, .int .i64 mode] w (Gives (.tuple #[.float .f64 (mkB (decide (z < 0)) (roundZ z e 53 (-1074) mode) (lastE z e 53 (-1074))), .int .i64 0]) w) := by
  have HA := Lib.hid ha
  obtain ⟨sa, rfl, hra⟩ := ha
  have HRa := Lib.hid hra
  obtain ⟨aa, ca, rfl, -⟩ := hra
  have HG := Lib.hid hga
  have HF := Lib.hid (set_fin z)
  have HT := Lib.hid (And.intro hT hTs)
  have HL : Hid (ln 32 z.natAbs ≤ 1073741824) := Lib.hid (Nat.le_trans (ln_le_bl 32 _ (by decide)) (Nat.le_trans hga.2.1 (by decide)))
  have HRD : Hid (∀ (b : Nat) (W : World), IntAt W b 0 z → Calls Tryz.prog 53 #[ExV b e, .int .i64 53, .int .i64 (-1074), .int .i64 mode] W (Rounds z e 53 (-1074) mode W)) :=
    Lib.hid fun b W h => rounded_any b z e 53 (-1074) mode W h (Nat.le_trans hga.2.1 (by decide)) (by have := hga.2.2.1; omega) (by have := hga.2.2.2; omega) (by decide) (by decide) (by decide) (by decide) (by omega)
  have hl1 : -1074 ≤ lastE z e 53 (-1074) := by unfold lastE; omega
  have hl2 : lastE z e 53 (-1074) ≤ 1024 := by omega
  have hmB := roundZ_le z e 53 (-1074) mode 53 rfl
  have HOF := Lib.hid fun W hW => aOf_any (decide (z < 0)) (roundZ z e 53 (-1074) mode) (lastE z e 53 (-1074)) W (fits_round hfit (by omega)) hW
  unfold DyV Rounds at *
  generalize roundZ z e 53 (-1074) mode = m at *
  generalize lastE z e 53 (-1074) = last at *
  have hfit2 : decide ((1024 : Int) < last + (bl m : Int)) = false := by simp; omega
  have HBM : Hid (bl ((m : Int)).natAbs = bl m) := Lib.hid (by rw [Int.natAbs_natCast])
  have hblm : bl m ≤ 54 := Nat.le_trans (bl_mono hmB) (by rw [bl_two_pow]; omega)
  have HM64 : Hid (dg 64 ((m : Int)).natAbs 0 = m) := Lib.hid (dg64_0 (by omega))
  generalize mkB (decide (z < 0)) m last = R at *
  generalize decide (z < 0) = na at *
  generalize z.natAbs = Na at *
  generalize ln 32 Na = la at *
  generalize bl m = q at *
  have HW0 := Lib.hid (BlkT.new w #[.bool na, .slice aa la ca, .int .i64 e] 24)
  clear hga hT hTs hmB
  go_enter Tryz.func11, Tryz.ntmps11
  go_wp2_with fail
  refine (may_true_in _ z e _ (HA.out.below (below1 _ _)) HG.out).mono ?_
  rintro e1 w1 ⟨rfl, hb1⟩
  have HW1 : Hid (BlkT w1 w.heap.size 24 #[.bool na, .slice aa la ca, .int .i64 e] ∧ Below w.heap.size w w1) := Lib.hid ⟨HW0.out.below hb1, (below1 _ _).trans (hb1.mono (below1 _ _).size)⟩
  obtain ⟨x0, x1, x2, x3, x4, x5⟩ := HW1.out.1.cells3
  clear hb1 HW0
  go_wp2_with fail
  refine (known_any mode _ hm1 hm2).mono ?_
  rintro e2 w2 ⟨rfl, rfl⟩
  go_wp2_with fail
  refine (take_in na e _ la Na _ (HRa.out.below HW1.out.2) HL.out).mono ?_
  rintro e3 w3 ⟨p, rfl, hp, hi3, hb3⟩
  rw [HF.out] at hi3
  have HW3 : Hid (BlkT w3 w.heap.size 24 #[.bool na, .slice aa la ca, .int .i64 e] ∧ Below w.heap.size w w3) := Lib.hid ⟨HW1.out.1.below hb3, HW1.out.2.trans (hb3.mono HW1.out.2.size)⟩
  have HI3 := Lib.hid hi3
  clear hp hi3 hb3 HW1 x0 x1 x2 x3 x4 x5
  unfold ExV at *
  go_wp2_with fail
  refine (HRD.out p _ (HI3.out.below (below1 _ _))).mono ?_
  rintro e4 w4 ⟨p2, rfl, hi4, hb4⟩
  have HW4 : Hid (BlkT w4 w.heap.size 24 #[.bool na, .slice aa la ca, .int .i64 e] ∧ Below w.heap.size w w4) := Lib.hid ⟨(HW3.out.1.alloc _).below hb4, (HW3.out.2.alloc HW3.out.2.size _).trans (hb4.mono (HW3.out.2.alloc HW3.out.2.size _).size)⟩
  have HI4 := Lib.hid hi4
  clear hi4 hb4 HW3 HI3
  go_wp2_with fail
  refine (BitLen_any p2 0 _ _ HI4.out).mono ?_
  rintro e5 w5 ⟨rfl, rfl⟩
  rw [HBM.out]
  go_wp2
  refine wp_region_pl (fun w' : World => w'.cell? ⟨w.heap.size, 0, none⟩ = some (.bool na)) 11 (.take 0 (.take 1 (.take 2 (.take 4 (.run 3 (.take 5 (.run 6 (.take 7 (.take 8 (.take 9 (.take 10 .nil))))))))))) (by kernel_rfl) (by kernel_rfl) ?_
  have HW5 : Hid (BlkT w4.drew w.heap.size 24 #[.bool na, .slice aa la ca, .int .i64 e] ∧ Below w.heap.size w w4.drew) := Lib.hid ⟨HW4.out.1.below (drew_below _), HW4.out.2.drew⟩
  have HI5 := Lib.hid (HI4.out.below (drew_below _))
  clear HW4 HI4
  generalize w4.drew = V at HW5 HI5 ⊢
  have hS : (fun w' : World => w'.cell? ⟨w.heap.size, 0, none⟩ = some (.bool na)) V := HW5.out.1.cell 0
  repeat (refine wpPl_take (v := ?_) rfl (fun _ _ _ h => h) rfl (fun w' hSw => ?_) hS ?_; rotate_left; focus (go_simp; with_reducible rfl); try simp only [Act.put, List.setIfInBounds_toArray, List.set_cons_zero, List.set_cons_succ])
  refine wpPl_run rfl fun K' hK => ?_
  go_simp
  refine (Uint64_any p2 0 _ _ HI5.out).mono ?_
  rintro e6 w6 ⟨rfl, rfl⟩
  rw [HM64.out]
  refine hK _ _ hS ?_
  clear hK K'
  repeat (refine wpPl_take (v := ?_) rfl (fun _ _ _ h => h) rfl (fun w' hSw => ?_) hS ?_; rotate_left; focus (go_simp; with_reducible rfl); try simp only [Act.put, List.setIfInBounds_toArray, List.set_cons_zero, List.set_cons_succ])
  clear hS
  refine wpPl_run rfl fun K' hK => ?_
  go_simp
  refine (HOF.out _ (HT.out.1.below HT.out.2 HW5.out.2) (Nat.lt_of_lt_of_le HT.out.2 HW5.out.2.size)).mono ?_
  rintro e7 w7 ⟨rfl, hb7⟩
  have HW7 : Hid (BlkT w7 w.heap.size 24 #[.bool na, .slice aa la ca, .int .i64 e] ∧ Below w.heap.size w w7) := Lib.hid ⟨HW5.out.1.below hb7, HW5.out.2.trans (hb7.mono HW5.out.2.size)⟩
  have hS : (fun w' : World => w'.cell? ⟨w.heap.size, 0, none⟩ = some (.bool na)) w7 := HW7.out.1.cell 0
  refine hK _ _ hS ?_
  clear hK K' hb7 HW5 HI5
  repeat (refine wpPl_take (v := ?_) rfl (fun _ _ _ h => h) rfl (fun w' hSw => ?_) hS ?_; rotate_left; focus (go_simp; with_reducible rfl); try simp only [Act.put, List.setIfInBounds_toArray, List.set_cons_zero, List.set_cons_succ])
  clear hS
  refine wpPl_nil ?_
  simp only [List.drop_succ_cons, List.drop_zero]
  go_wp2
  go_ret2
  exact ⟨rfl, HW7.out.2⟩

set_option maxRecDepth 100000 in
set_option maxHeartbeats 1600000 in
theorem dRound_great_in (va : Value) (z e mode : Int) (w : World) (ha : DyI w va z e) (hga : GoodD z e) (hm1 : 0 ≤ mode) (hm2 : mode ≤ 4) (hT : Tab64 w) (hTs : 1 < w.heap.size)
    (hfit : ¬ lastE z e 53 (-1074) + bl (roundZ z e 53 (-1074) mode) ≤ 1024) :
    Calls Tryz.prog 11 #[va, .int .i64 mode] w (Gives (.tuple #[.float .f64 ((if decide (z < 0) then kSign else 0) + (if beyB (decide (z < 0)) mode then kInf - 1 else kInf)), .int .i64 0]) w) := by
  have HA := Lib.hid ha
  obtain ⟨sa, rfl, hra⟩ := ha
  have HRa := Lib.hid hra
  obtain ⟨aa, ca, rfl, -⟩ := hra
  have HG := Lib.hid hga
  have HF := Lib.hid (set_fin z)
  have HT := Lib.hid (And.intro hT hTs)
  have HL : Hid (ln 32 z.natAbs ≤ 1073741824) := Lib.hid (Nat.le_trans (ln_le_bl 32 _ (by decide)) (Nat.le_trans hga.2.1 (by decide)))
  have HRD : Hid (∀ (b : Nat) (W : World), IntAt W b 0 z → Calls Tryz.prog 53 #[ExV b e, .int .i64 53, .int .i64 (-1074), .int .i64 mode] W (Rounds z e 53 (-1074) mode W)) :=
    Lib.hid fun b W h => rounded_any b z e 53 (-1074) mode W h (Nat.le_trans hga.2.1 (by decide)) (by have := hga.2.2.1; omega) (by have := hga.2.2.2; omega) (by decide) (by decide) (by decide) (by decide) (by omega)
  have hl1 : -1074 ≤ lastE z e 53 (-1074) := by unfold lastE; omega
  have hl2 : lastE z e 53 (-1074) ≤ 200000 := by have := hga.2.1; have := hga.2.2.2; unfold lastE; omega
  have hmB := roundZ_le z e 53 (-1074) mode 53 rfl
  have HBY := Lib.hid fun W => beyond_any (decide (z < 0)) mode W hm1 hm2
  have HSG1 := Lib.hid fun W => signed_any 9218868437227405311 (decide (z < 0)) W (by decide)
  have HSG2 := Lib.hid fun W => signed_any 9218868437227405312 (decide (z < 0)) W (by decide)
  unfold DyV Rounds at *
  rw [show kInf - 1 = 9218868437227405311 by decide, show kInf = 9218868437227405312 from rfl]
  generalize roundZ z e 53 (-1074) mode = m at *
  generalize lastE z e 53 (-1074) = last at *
  have hfit2 : decide ((1024 : Int) < last + (bl m : Int)) = true := by simp; omega
  have HBM : Hid (bl ((m : Int)).natAbs = bl m) := Lib.hid (by rw [Int.natAbs_natCast])
  have hblm : bl m ≤ 54 := Nat.le_trans (bl_mono hmB) (by rw [bl_two_pow]; omega)
  generalize beyB (decide (z < 0)) mode = by1 at *
  generalize hN : (if decide (z < 0) then kSign else 0) = sg at *
  clear hN
  generalize hR : sg + (if by1 = true then 9218868437227405311 else 9218868437227405312) = R
  have HR1 : Hid (by1 = true → sg + 9218868437227405311 = R) := Lib.hid fun h => by rw [← hR, if_pos h]
  have HR2 : Hid (by1 = false → sg + 9218868437227405312 = R) := Lib.hid fun h => by rw [← hR, h]; rfl
  clear hR
  generalize decide (z < 0) = na at *
  generalize z.natAbs = Na at *
  generalize ln 32 Na = la at *
  generalize bl m = q at *
  have HW0 := Lib.hid (BlkT.new w #[.bool na, .slice aa la ca, .int .i64 e] 24)
  clear hga hT hTs hmB
  go_enter Tryz.func11, Tryz.ntmps11
  go_wp2_with fail
  refine (may_true_in _ z e _ (HA.out.below (below1 _ _)) HG.out).mono ?_
  rintro e1 w1 ⟨rfl, hb1⟩
  have HW1 : Hid (BlkT w1 w.heap.size 24 #[.bool na, .slice aa la ca, .int .i64 e] ∧ Below w.heap.size w w1) := Lib.hid ⟨HW0.out.below hb1, (below1 _ _).trans (hb1.mono (below1 _ _).size)⟩
  obtain ⟨x0, x1, x2, x3, x4, x5⟩ := HW1.out.1.cells3
  clear hb1 HW0
  go_wp2_with fail
  refine (known_any mode _ hm1 hm2).mono ?_
  rintro e2 w2 ⟨rfl, rfl⟩
  go_wp2_with fail
  refine (take_in na e _ la Na _ (HRa.out.below HW1.out.2) HL.out).mono ?_
  rintro e3 w3 ⟨p, rfl, hp, hi3, hb3⟩
  rw [HF.out] at hi3
  have HW3 : Hid (BlkT w3 w.heap.size 24 #[.bool na, .slice aa la ca, .int .i64 e] ∧ Below w.heap.size w w3) := Lib.hid ⟨HW1.out.1.below hb3, HW1.out.2.trans (hb3.mono HW1.out.2.size)⟩
  have HI3 := Lib.hid hi3
  clear hp hi3 hb3 HW1 x0 x1 x2 x3 x4 x5
  unfold ExV at *
  go_wp2_with fail
  refine (HRD.out p _ (HI3.out.below (below1 _ _))).mono ?_
  rintro e4 w4 ⟨p2, rfl, hi4, hb4⟩
  have HW4 : Hid (BlkT w4 w.heap.size 24 #[.bool na, .slice aa la ca, .int .i64 e] ∧ Below w.heap.size w w4) := Lib.hid ⟨(HW3.out.1.alloc _).below hb4, (HW3.out.2.alloc HW3.out.2.size _).trans (hb4.mono (HW3.out.2.alloc HW3.out.2.size _).size)⟩
  have HI4 := Lib.hid hi4
  clear hi4 hb4 HW3 HI3
  go_wp2_with fail
  refine (BitLen_any p2 0 _ _ HI4.out).mono ?_
  rintro e5 w5 ⟨rfl, rfl⟩
  rw [HBM.out]
  obtain ⟨x0, x1, x2, x3, x4, x5⟩ := HW4.out.1.cells3
  go_wp2_with fail
  refine (HBY.out _).mono ?_
  rintro e6 w6 ⟨rfl, hb6⟩
  have HW6 : Hid (BlkT w6 w.heap.size 24 #[.bool na, .slice aa la ca, .int .i64 e] ∧ Below w.heap.size w w6) := Lib.hid ⟨HW4.out.1.below hb6, HW4.out.2.trans (hb6.mono HW4.out.2.size)⟩
  clear hb6 x0 x1 x2 x3 x4 x5 HW4
  cases by1
  · have HR := Lib.hid (HR2.out rfl)
    clear HR1 HR2
    go_wp2
    refine wp_region_pl (fun w' : World => w'.cell? ⟨w.heap.size, 0, none⟩ = some (.bool na)) 4 (.take 1 (.take 2 (.run 0 (.run 3 .nil)))) (by kernel_rfl) (by kernel_rfl) ?_
    have HW7 : Hid (BlkT w6.drew w.heap.size 24 #[.bool na, .slice aa la ca, .int .i64 e] ∧ Below w.heap.size w w6.drew) := Lib.hid ⟨HW6.out.1.below (drew_below _), HW6.out.2.drew⟩
    clear HW6
    generalize w6.drew = V at HW7 ⊢
    have hS : (fun w' : World => w'.cell? ⟨w.heap.size, 0, none⟩ = some (.bool na)) V := HW7.out.1.cell 0
    repeat (refine wpPl_take (v := ?_) rfl (fun _ _ _ h => h) rfl (fun w' hSw => ?_) hS ?_; rotate_left; focus (go_simp; with_reducible rfl); try simp only [Act.put, List.setIfInBounds_toArray, List.set_cons_zero, List.set_cons_succ])
    refine wpPl_run rfl fun K' hK => ?_
    go_simp
    refine (inf_any _).mono ?_
    rintro e8 w8 ⟨rfl, hb8⟩
    have HW8 : Hid (BlkT w8 w.heap.size 24 #[.bool na, .slice aa la ca, .int .i64 e] ∧ Below w.heap.size w w8) := Lib.hid ⟨HW7.out.1.below hb8, HW7.out.2.trans (hb8.mono HW7.out.2.size)⟩
    have hS : (fun w' : World => w'.cell? ⟨w.heap.size, 0, none⟩ = some (.bool na)) w8 := HW8.out.1.cell 0
    refine hK _ _ hS ?_
    clear hK K' hb8 HW7
    refine wpPl_run rfl fun K' hK => ?_
    go_simp
    refine (HSG2.out _).mono ?_
    rintro e9 w9 ⟨rfl, hb9⟩
    have HW9 : Hid (BlkT w9 w.heap.size 24 #[.bool na, .slice aa la ca, .int .i64 e] ∧ Below w.heap.size w w9) := Lib.hid ⟨HW8.out.1.below hb9, HW8.out.2.trans (hb9.mono HW8.out.2.size)⟩
    have hS : (fun w' : World => w'.cell? ⟨w.heap.size, 0, none⟩ = some (.bool na)) w9 := HW9.out.1.cell 0
    refine hK _ _ hS ?_
    clear hK K' hb9 HW8 hS
    refine wpPl_nil ?_
    simp only [List.drop_succ_cons, List.drop_zero]
    go_wp2
    go_ret2
    exact ⟨by rw [← HR.out]; rfl, HW9.out.2⟩
  · have HR := Lib.hid (HR1.out rfl)
    clear HR1 HR2
    obtain ⟨x0, x1, x2, x3, x4, x5⟩ := HW6.out.1.cells3
    go_wp2_with fail
    refine (HSG1.out _).mono ?_
    rintro e9 w9 ⟨rfl, hb9⟩
    have HB9 := Lib.hid (HW6.out.2.trans (hb9.mono HW6.out.2.size))
    clear hb9
    go_wp2
    go_ret2
    exact ⟨by rw [← HR.out]; rfl, HB9.out⟩

/-- Any dyad, any mode: its number. -/
theorem dRound_in (va : Value) (z e mode : Int) (w : World) (ha : DyI w va z e) (hga : GoodD z e) (hm1 : 0 ≤ mode) (hm2 : mode ≤ 4) (hT : Tab64 w) (hTs : 1 < w.heap.size) :
    Calls Tryz.prog 11 #[va, .int .i64 mode] w (Gives (.tuple #[.float .f64 (rndB z e mode), .int .i64 0]) w) := by
  unfold rndB
  by_cases h : lastE z e 53 (-1074) + bl (roundZ z e 53 (-1074) mode) ≤ 1024
  · rw [if_pos h]; exact dRound_norm_in va z e mode w ha hga hm1 hm2 hT hTs h
  · rw [if_neg h]; exact dRound_great_in va z e mode w ha hga hm1 hm2 hT hTs h

end Go.Proofs.YtfcddnccmdjhfaaGreatDoor
