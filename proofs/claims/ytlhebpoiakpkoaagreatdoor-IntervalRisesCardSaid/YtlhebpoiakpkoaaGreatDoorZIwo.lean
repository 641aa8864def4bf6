/- Walk: IntervalRises. Printed by wip/gen/iv16.py. -/
import Derived.Test.YtlhebpoiakpkoaaGreatDoorII
import Derived.Test.YtlhebpoiakpkoaaGreatDoorZBks
import Derived.Test.YtlhebpoiakpkoaaGreatDoorZIvt
namespace Go.Proofs.YtlhebpoiakpkoaaGreatDoor
open Go.RowKit
attribute [local go_sem] run_store_f

set_option maxRecDepth 100000 in
set_option maxHeartbeats 25600000 in
theorem intervalRises_any (p0 p1 q0 q1 r0 r1 s0 s1 : Nat) (n : Int) (w : World) (hp0 : W64 p0) (hp1 : W64 p1) (hq0 : W64 q0) (hq1 : W64 q1) (hr0 : W64 r0) (hr1 : W64 r1) (hs0 : W64 s0) (hs1 : W64 s1) (hT : TabB w) :
    Calls Tryz.prog 5 #[.agg #[.int .u64 p0, .int .u64 p1], .agg #[.int .u64 q0, .int .u64 q1], .agg #[.int .u64 r0, .int .u64 r1], .agg #[.int .u64 s0, .int .u64 s1], .int .i64 n] w (Gives (.bool true) w) := by
  have okA := ivK_ok hp0 hp1
  have okB := ivK_ok hq0 hq1
  have okC := hullK_ok okA (ivK_ok hr0 hr1)
  have okD := hullK_ok okB (ivK_ok hs0 hs1)
  have inA : inK (ivK p0 p1) (hullK (ivK p0 p1) (ivK r0 r1)) = true := in_hull_l (in_refl _)
  have inB : inK (ivK q0 q1) (hullK (ivK q0 q1) (ivK s0 s1)) = true := in_hull_l (in_refl _)
  have HAW := Lib.hid fun W ht => awake6_any W ht
  have HOp := Lib.hid fun W => lof_any p0 p1 W
  have HOq := Lib.hid fun W => lof_any q0 q1 W
  have HOr := Lib.hid fun W => lof_any r0 r1 W
  have HOs := Lib.hid fun W => lof_any s0 s1 W
  have HT := Lib.hid hT
  have HCA := Lib.hid fun W => hull_any p0 p1 r0 r1 W hp0 hp1 hr0 hr1
  have HDB := Lib.hid fun W => hull_any q0 q1 s0 s1 W hq0 hq1 hs0 hs1
  have HIA := Lib.hid fun W => in_any p0 p1 (ivL (hullK (ivK p0 p1) (ivK r0 r1))) (ivH (hullK (ivK p0 p1) (ivK r0 r1))) W hp0 hp1 (ivL_lt okC) (ivH_lt okC)
  rw [ivK_back okC, inA] at HIA
  have HIB := Lib.hid fun W => in_any q0 q1 (ivL (hullK (ivK q0 q1) (ivK s0 s1))) (ivH (hullK (ivK q0 q1) (ivK s0 s1))) W hq0 hq1 (ivL_lt okD) (ivH_lt okD)
  rw [ivK_back okD, inB] at HIB
  obtain ⟨z, hz⟩ : ∃ z, n.tmod 17 = z := ⟨_, rfl⟩
  have hz1 : -17 < z ∧ z < 17 := by
    have h1 := Int.natAbs_tmod n 17
    have h2 : n.natAbs % 17 < 17 := Nat.mod_lt _ (by decide)
    rw [← hz]
    simp only [show (17 : Int).natAbs = 17 from rfl] at h1
    omega
  obtain ⟨k, hk⟩ : ∃ k : Nat, (z + 17).tmod 17 = (k : Int) := ⟨((z + 17).tmod 17).toNat, by rw [Int.toNat_of_nonneg (Int.tmod_nonneg _ (by omega))]⟩
  have hk1 : k ≤ 16 := by
    have := Int.tmod_lt_of_pos (z + 17) (show (0 : Int) < 17 by omega)
    omega
  have hw1 : IntKind.i64.wrap z = z := IntWalk.i64_in _ (by omega)
  have hw2 : IntKind.i64.wrap (z + 17) = z + 17 := IntWalk.i64_in _ (by omega)
  have hw3 : IntKind.i64.wrap (k : Int) = (k : Int) := IntWalk.i64_in _ (by omega)
  clear hz1
  have HP1 := Lib.hid fun W (ht : TabB W) => pow_iv p0 p1 k W hp0 hp1 hk1 ht
  have HP2 := Lib.hid fun W (ht : TabB W) => pow_iv (ivL (hullK (ivK p0 p1) (ivK r0 r1))) (ivH (hullK (ivK p0 p1) (ivK r0 r1))) k W (ivL_lt okC) (ivH_lt okC) hk1 ht
  rw [ivK_back okC] at HP2
  have HPI := Lib.hid fun W => in_any (ivL (powK (ivK p0 p1) k)) (ivH (powK (ivK p0 p1) k)) (ivL (powK (hullK (ivK p0 p1) (ivK r0 r1)) k)) (ivH (powK (hullK (ivK p0 p1) (ivK r0 r1)) k)) W (ivL_lt (powK_ok okA k)) (ivH_lt (powK_ok okA k)) (ivL_lt (powK_ok okC k)) (ivH_lt (powK_ok okC k))
  rw [ivK_back (powK_ok okA k), ivK_back (powK_ok okC k), powK_in okA okC k inA] at HPI
  clear hk1
  have ok1 : Iok (addK (ivK p0 p1) (ivK q0 q1)) := addK_ok okA okB
  have ok2 : Iok (addK (hullK (ivK p0 p1) (ivK r0 r1)) (hullK (ivK q0 q1) (ivK s0 s1))) := addK_ok okC okD
  have hin : inK (addK (ivK p0 p1) (ivK q0 q1)) (addK (hullK (ivK p0 p1) (ivK r0 r1)) (hullK (ivK q0 q1) (ivK s0 s1))) = true := addK_in okA okB okC okD inA inB
  have HAD1 := Lib.hid fun W (ht : TabB W) => add_iv p0 p1 q0 q1 W hp0 hp1 hq0 hq1 ht
  have HAD2 := Lib.hid fun W (ht : TabB W) => add_iv (ivL (hullK (ivK p0 p1) (ivK r0 r1))) (ivH (hullK (ivK p0 p1) (ivK r0 r1))) (ivL (hullK (ivK q0 q1) (ivK s0 s1))) (ivH (hullK (ivK q0 q1) (ivK s0 s1))) W (ivL_lt okC) (ivH_lt okC) (ivL_lt okD) (ivH_lt okD) ht
  rw [ivK_back okC, ivK_back okD] at HAD2
  have HIAD := Lib.hid fun W => in_any (ivL (addK (ivK p0 p1) (ivK q0 q1))) (ivH (addK (ivK p0 p1) (ivK q0 q1))) (ivL (addK (hullK (ivK p0 p1) (ivK r0 r1)) (hullK (ivK q0 q1) (ivK s0 s1)))) (ivH (addK (hullK (ivK p0 p1) (ivK r0 r1)) (hullK (ivK q0 q1) (ivK s0 s1)))) W (ivL_lt ok1) (ivH_lt ok1) (ivL_lt ok2) (ivH_lt ok2)
  rw [ivK_back ok1, ivK_back ok2, hin] at HIAD
  clear ok1 ok2 hin
  have ok1 : Iok (subK (ivK p0 p1) (ivK q0 q1)) := addK_ok okA (negK_ok okB)
  have ok2 : Iok (subK (hullK (ivK p0 p1) (ivK r0 r1)) (hullK (ivK q0 q1) (ivK s0 s1))) := addK_ok okC (negK_ok okD)
  have hin : inK (subK (ivK p0 p1) (ivK q0 q1)) (subK (hullK (ivK p0 p1) (ivK r0 r1)) (hullK (ivK q0 q1) (ivK s0 s1))) = true := subK_in okA okB okC okD inA inB
  have HSU1 := Lib.hid fun W (ht : TabB W) => sub_iv p0 p1 q0 q1 W hp0 hp1 hq0 hq1 ht
  have HSU2 := Lib.hid fun W (ht : TabB W) => sub_iv (ivL (hullK (ivK p0 p1) (ivK r0 r1))) (ivH (hullK (ivK p0 p1) (ivK r0 r1))) (ivL (hullK (ivK q0 q1) (ivK s0 s1))) (ivH (hullK (ivK q0 q1) (ivK s0 s1))) W (ivL_lt okC) (ivH_lt okC) (ivL_lt okD) (ivH_lt okD) ht
  rw [ivK_back okC, ivK_back okD] at HSU2
  have HISU := Lib.hid fun W => in_any (ivL (subK (ivK p0 p1) (ivK q0 q1))) (ivH (subK (ivK p0 p1) (ivK q0 q1))) (ivL (subK (hullK (ivK p0 p1) (ivK r0 r1)) (hullK (ivK q0 q1) (ivK s0 s1)))) (ivH (subK (hullK (ivK p0 p1) (ivK r0 r1)) (hullK (ivK q0 q1) (ivK s0 s1)))) W (ivL_lt ok1) (ivH_lt ok1) (ivL_lt ok2) (ivH_lt ok2)
  rw [ivK_back ok1, ivK_back ok2, hin] at HISU
  clear ok1 ok2 hin
  have ok1 : Iok (mulK (ivK p0 p1) (ivK q0 q1)) := mulK_ok okA okB
  have ok2 : Iok (mulK (hullK (ivK p0 p1) (ivK r0 r1)) (hullK (ivK q0 q1) (ivK s0 s1))) := mulK_ok okC okD
  have hin : inK (mulK (ivK p0 p1) (ivK q0 q1)) (mulK (hullK (ivK p0 p1) (ivK r0 r1)) (hullK (ivK q0 q1) (ivK s0 s1))) = true := mulK_in okA okB okC okD inA inB
  have HMU1 := Lib.hid fun W (ht : TabB W) => mul_iv p0 p1 q0 q1 W hp0 hp1 hq0 hq1 ht
  have HMU2 := Lib.hid fun W (ht : TabB W) => mul_iv (ivL (hullK (ivK p0 p1) (ivK r0 r1))) (ivH (hullK (ivK p0 p1) (ivK r0 r1))) (ivL (hullK (ivK q0 q1) (ivK s0 s1))) (ivH (hullK (ivK q0 q1) (ivK s0 s1))) W (ivL_lt okC) (ivH_lt okC) (ivL_lt okD) (ivH_lt okD) ht
  rw [ivK_back okC, ivK_back okD] at HMU2
  have HIMU := Lib.hid fun W => in_any (ivL (mulK (ivK p0 p1) (ivK q0 q1))) (ivH (mulK (ivK p0 p1) (ivK q0 q1))) (ivL (mulK (hullK (ivK p0 p1) (ivK r0 r1)) (hullK (ivK q0 q1) (ivK s0 s1)))) (ivH (mulK (hullK (ivK p0 p1) (ivK r0 r1)) (hullK (ivK q0 q1) (ivK s0 s1)))) W (ivL_lt ok1) (ivH_lt ok1) (ivL_lt ok2) (ivH_lt ok2)
  rw [ivK_back ok1, ivK_back ok2, hin] at HIMU
  clear ok1 ok2 hin
  have ok1 : Iok (divK (ivK p0 p1) (ivK q0 q1)) := divK_ok okA okB
  have ok2 : Iok (divK (hullK (ivK p0 p1) (ivK r0 r1)) (hullK (ivK q0 q1) (ivK s0 s1))) := divK_ok okC okD
  have hin : inK (divK (ivK p0 p1) (ivK q0 q1)) (divK (hullK (ivK p0 p1) (ivK r0 r1)) (hullK (ivK q0 q1) (ivK s0 s1))) = true := divK_in okA okB okC okD inA inB
  have HDI1 := Lib.hid fun W (ht : TabB W) => div_iv p0 p1 q0 q1 W hp0 hp1 hq0 hq1 ht
  have HDI2 := Lib.hid fun W (ht : TabB W) => div_iv (ivL (hullK (ivK p0 p1) (ivK r0 r1))) (ivH (hullK (ivK p0 p1) (ivK r0 r1))) (ivL (hullK (ivK q0 q1) (ivK s0 s1))) (ivH (hullK (ivK q0 q1) (ivK s0 s1))) W (ivL_lt okC) (ivH_lt okC) (ivL_lt okD) (ivH_lt okD) ht
  rw [ivK_back okC, ivK_back okD] at HDI2
  have HIDI := Lib.hid fun W => in_any (ivL (divK (ivK p0 p1) (ivK q0 q1))) (ivH (divK (ivK p0 p1) (ivK q0 q1))) (ivL (divK (hullK (ivK p0 p1) (ivK r0 r1)) (hullK (ivK q0 q1) (ivK s0 s1)))) (ivH (divK (hullK (ivK p0 p1) (ivK r0 r1)) (hullK (ivK q0 q1) (ivK s0 s1)))) W (ivL_lt ok1) (ivH_lt ok1) (ivL_lt ok2) (ivH_lt ok2)
  rw [ivK_back ok1, ivK_back ok2, hin] at HIDI
  clear ok1 ok2 hin
  have ok1 : Iok (sqK (ivK p0 p1)) := sqK_ok okA
  have ok2 : Iok (sqK (hullK (ivK p0 p1) (ivK r0 r1))) := sqK_ok okC
  have hin : inK (sqK (ivK p0 p1)) (sqK (hullK (ivK p0 p1) (ivK r0 r1))) = true := sqK_in okA okC inA
  have HSQ1 := Lib.hid fun W (ht : TabB W) => sqrt_iv p0 p1 W hp0 hp1 ht
  have HSQ2 := Lib.hid fun W (ht : TabB W) => sqrt_iv (ivL (hullK (ivK p0 p1) (ivK r0 r1))) (ivH (hullK (ivK p0 p1) (ivK r0 r1))) W (ivL_lt okC) (ivH_lt okC) ht
  rw [ivK_back okC] at HSQ2
  have HISQ := Lib.hid fun W => in_any (ivL (sqK (ivK p0 p1))) (ivH (sqK (ivK p0 p1))) (ivL (sqK (hullK (ivK p0 p1) (ivK r0 r1)))) (ivH (sqK (hullK (ivK p0 p1) (ivK r0 r1)))) W (ivL_lt ok1) (ivH_lt ok1) (ivL_lt ok2) (ivH_lt ok2)
  rw [ivK_back ok1, ivK_back ok2, hin] at HISQ
  clear ok1 ok2 hin
  have ok1 : Iok (hullK (ivK p0 p1) (ivK q0 q1)) := hullK_ok okA okB
  have ok2 : Iok (hullK (hullK (ivK p0 p1) (ivK r0 r1)) (hullK (ivK q0 q1) (ivK s0 s1))) := hullK_ok okC okD
  have hin : inK (hullK (ivK p0 p1) (ivK q0 q1)) (hullK (hullK (ivK p0 p1) (ivK r0 r1)) (hullK (ivK q0 q1) (ivK s0 s1))) = true := hullK_in inA inB
  have HHU1 := Lib.hid fun W => hull_any p0 p1 q0 q1 W hp0 hp1 hq0 hq1
  have HHU2 := Lib.hid fun W => hull_any (ivL (hullK (ivK p0 p1) (ivK r0 r1))) (ivH (hullK (ivK p0 p1) (ivK r0 r1))) (ivL (hullK (ivK q0 q1) (ivK s0 s1))) (ivH (hullK (ivK q0 q1) (ivK s0 s1))) W (ivL_lt okC) (ivH_lt okC) (ivL_lt okD) (ivH_lt okD)
  rw [ivK_back okC, ivK_back okD] at HHU2
  have HIHU := Lib.hid fun W => in_any (ivL (hullK (ivK p0 p1) (ivK q0 q1))) (ivH (hullK (ivK p0 p1) (ivK q0 q1))) (ivL (hullK (hullK (ivK p0 p1) (ivK r0 r1)) (hullK (ivK q0 q1) (ivK s0 s1)))) (ivH (hullK (hullK (ivK p0 p1) (ivK r0 r1)) (hullK (ivK q0 q1) (ivK s0 s1)))) W (ivL_lt ok1) (ivH_lt ok1) (ivL_lt ok2) (ivH_lt ok2)
  rw [ivK_back ok1, ivK_back ok2, hin] at HIHU
  clear ok1 ok2 hin
  have ok1 : Iok (meetK (ivK p0 p1) (ivK q0 q1)) := meetK_ok okA okB
  have ok2 : Iok (meetK (hullK (ivK p0 p1) (ivK r0 r1)) (hullK (ivK q0 q1) (ivK s0 s1))) := meetK_ok okC okD
  have hin : inK (meetK (ivK p0 p1) (ivK q0 q1)) (meetK (hullK (ivK p0 p1) (ivK r0 r1)) (hullK (ivK q0 q1) (ivK s0 s1))) = true := meetK_in inA inB
  have HME1 := Lib.hid fun W => meet_any p0 p1 q0 q1 W hp0 hp1 hq0 hq1
  have HME2 := Lib.hid fun W => meet_any (ivL (hullK (ivK p0 p1) (ivK r0 r1))) (ivH (hullK (ivK p0 p1) (ivK r0 r1))) (ivL (hullK (ivK q0 q1) (ivK s0 s1))) (ivH (hullK (ivK q0 q1) (ivK s0 s1))) W (ivL_lt okC) (ivH_lt okC) (ivL_lt okD) (ivH_lt okD)
  rw [ivK_back okC, ivK_back okD] at HME2
  have HIME := Lib.hid fun W => in_any (ivL (meetK (ivK p0 p1) (ivK q0 q1))) (ivH (meetK (ivK p0 p1) (ivK q0 q1))) (ivL (meetK (hullK (ivK p0 p1) (ivK r0 r1)) (hullK (ivK q0 q1) (ivK s0 s1)))) (ivH (meetK (hullK (ivK p0 p1) (ivK r0 r1)) (hullK (ivK q0 q1) (ivK s0 s1)))) W (ivL_lt ok1) (ivH_lt ok1) (ivL_lt ok2) (ivH_lt ok2)
  rw [ivK_back ok1, ivK_back ok2, hin] at HIME
  clear ok1 ok2 hin
  have ok1 : Iok (absK (ivK p0 p1)) := absK_ok okA
  have ok2 : Iok (absK (hullK (ivK p0 p1) (ivK r0 r1))) := absK_ok okC
  have hin : inK (absK (ivK p0 p1)) (absK (hullK (ivK p0 p1) (ivK r0 r1))) = true := absK_in okA inA
  have HAB1 := Lib.hid fun W => absI_any p0 p1 W hp0 hp1
  have HAB2 := Lib.hid fun W => absI_any (ivL (hullK (ivK p0 p1) (ivK r0 r1))) (ivH (hullK (ivK p0 p1) (ivK r0 r1))) W (ivL_lt okC) (ivH_lt okC)
  rw [ivK_back okC] at HAB2
  have HIAB := Lib.hid fun W => in_any (ivL (absK (ivK p0 p1))) (ivH (absK (ivK p0 p1))) (ivL (absK (hullK (ivK p0 p1) (ivK r0 r1)))) (ivH (absK (hullK (ivK p0 p1) (ivK r0 r1)))) W (ivL_lt ok1) (ivH_lt ok1) (ivL_lt ok2) (ivH_lt ok2)
  rw [ivK_back ok1, ivK_back ok2, hin] at HIAB
  clear ok1 ok2 hin
  have ok1 : Iok (negK (ivK p0 p1)) := negK_ok okA
  have ok2 : Iok (negK (hullK (ivK p0 p1) (ivK r0 r1))) := negK_ok okC
  have hin : inK (negK (ivK p0 p1)) (negK (hullK (ivK p0 p1) (ivK r0 r1))) = true := negK_in inA
  have HNE1 := Lib.hid fun W => neg_any p0 p1 W hp0 hp1
  have HNE2 := Lib.hid fun W => neg_any (ivL (hullK (ivK p0 p1) (ivK r0 r1))) (ivH (hullK (ivK p0 p1) (ivK r0 r1))) W (ivL_lt okC) (ivH_lt okC)
  rw [ivK_back okC] at HNE2
  have HINE := Lib.hid fun W => in_any (ivL (negK (ivK p0 p1))) (ivH (negK (ivK p0 p1))) (ivL (negK (hullK (ivK p0 p1) (ivK r0 r1)))) (ivH (negK (hullK (ivK p0 p1) (ivK r0 r1)))) W (ivL_lt ok1) (ivH_lt ok1) (ivL_lt ok2) (ivH_lt ok2)
  rw [ivK_back ok1, ivK_back ok2, hin] at HINE
  clear ok1 ok2 hin
  clear okA okB okC okD inA inB hp0 hp1 hq0 hq1 hr0 hr1 hs0 hs1 hT
  generalize ivL (addK (ivK p0 p1) (ivK q0 q1)) = ada0 at *
  generalize ivH (addK (ivK p0 p1) (ivK q0 q1)) = ada1 at *
  generalize ivL (addK (hullK (ivK p0 p1) (ivK r0 r1)) (hullK (ivK q0 q1) (ivK s0 s1))) = adb0 at *
  generalize ivH (addK (hullK (ivK p0 p1) (ivK r0 r1)) (hullK (ivK q0 q1) (ivK s0 s1))) = adb1 at *
  generalize ivL (subK (ivK p0 p1) (ivK q0 q1)) = sua0 at *
  generalize ivH (subK (ivK p0 p1) (ivK q0 q1)) = sua1 at *
  generalize ivL (subK (hullK (ivK p0 p1) (ivK r0 r1)) (hullK (ivK q0 q1) (ivK s0 s1))) = sub0 at *
  generalize ivH (subK (hullK (ivK p0 p1) (ivK r0 r1)) (hullK (ivK q0 q1) (ivK s0 s1))) = sub1 at *
  generalize ivL (mulK (ivK p0 p1) (ivK q0 q1)) = mua0 at *
  generalize ivH (mulK (ivK p0 p1) (ivK q0 q1)) = mua1 at *
  generalize ivL (mulK (hullK (ivK p0 p1) (ivK r0 r1)) (hullK (ivK q0 q1) (ivK s0 s1))) = mub0 at *
  generalize ivH (mulK (hullK (ivK p0 p1) (ivK r0 r1)) (hullK (ivK q0 q1) (ivK s0 s1))) = mub1 at *
  generalize ivL (divK (ivK p0 p1) (ivK q0 q1)) = dia0 at *
  generalize ivH (divK (ivK p0 p1) (ivK q0 q1)) = dia1 at *
  generalize ivL (divK (hullK (ivK p0 p1) (ivK r0 r1)) (hullK (ivK q0 q1) (ivK s0 s1))) = dib0 at *
  generalize ivH (divK (hullK (ivK p0 p1) (ivK r0 r1)) (hullK (ivK q0 q1) (ivK s0 s1))) = dib1 at *
  generalize ivL (sqK (ivK p0 p1)) = sqa0 at *
  generalize ivH (sqK (ivK p0 p1)) = sqa1 at *
  generalize ivL (sqK (hullK (ivK p0 p1) (ivK r0 r1))) = sqb0 at *
  generalize ivH (sqK (hullK (ivK p0 p1) (ivK r0 r1))) = sqb1 at *
  generalize ivL (hullK (ivK p0 p1) (ivK q0 q1)) = hua0 at *
  generalize ivH (hullK (ivK p0 p1) (ivK q0 q1)) = hua1 at *
  generalize ivL (hullK (hullK (ivK p0 p1) (ivK r0 r1)) (hullK (ivK q0 q1) (ivK s0 s1))) = hub0 at *
  generalize ivH (hullK (hullK (ivK p0 p1) (ivK r0 r1)) (hullK (ivK q0 q1) (ivK s0 s1))) = hub1 at *
  generalize ivL (meetK (ivK p0 p1) (ivK q0 q1)) = mea0 at *
  generalize ivH (meetK (ivK p0 p1) (ivK q0 q1)) = mea1 at *
  generalize ivL (meetK (hullK (ivK p0 p1) (ivK r0 r1)) (hullK (ivK q0 q1) (ivK s0 s1))) = meb0 at *
  generalize ivH (meetK (hullK (ivK p0 p1) (ivK r0 r1)) (hullK (ivK q0 q1) (ivK s0 s1))) = meb1 at *
  generalize ivL (absK (ivK p0 p1)) = aba0 at *
  generalize ivH (absK (ivK p0 p1)) = aba1 at *
  generalize ivL (absK (hullK (ivK p0 p1) (ivK r0 r1))) = abb0 at *
  generalize ivH (absK (hullK (ivK p0 p1) (ivK r0 r1))) = abb1 at *
  generalize ivL (negK (ivK p0 p1)) = nea0 at *
  generalize ivH (negK (ivK p0 p1)) = nea1 at *
  generalize ivL (negK (hullK (ivK p0 p1) (ivK r0 r1))) = neb0 at *
  generalize ivH (negK (hullK (ivK p0 p1) (ivK r0 r1))) = neb1 at *
  generalize ivL (powK (ivK p0 p1) k) = g0 at *
  generalize ivH (powK (ivK p0 p1) k) = g1 at *
  generalize ivL (powK (hullK (ivK p0 p1) (ivK r0 r1)) k) = h0 at *
  generalize ivH (powK (hullK (ivK p0 p1) (ivK r0 r1)) k) = h1 at *
  generalize ivL (hullK (ivK p0 p1) (ivK r0 r1)) = c0 at *
  generalize ivH (hullK (ivK p0 p1) (ivK r0 r1)) = c1 at *
  generalize ivL (hullK (ivK q0 q1) (ivK s0 s1)) = d0 at *
  generalize ivH (hullK (ivK q0 q1) (ivK s0 s1)) = d1 at *
  have HW0 := Lib.hid (Bks.new4 w 24 #[.int .u64 p0, .int .u64 p1] #[.int .u64 q0, .int .u64 q1] #[.int .u64 r0, .int .u64 r1] #[.int .u64 s0, .int .u64 s1])
  go_enter Tryz.func5, Tryz.ntmps5
  go_wp2_with fail
  refine (HAW.out _ (HT.out.below HW0.out.2)).mono ?_
  rintro e1 w1 ⟨rfl, hb1⟩
  have HW := Lib.hid (HW0.out.later hb1)
  clear HW0 hb1 HAW
  go_wp2
  refine wp_region_q (fun w' : World => (w'.cell? ⟨w.heap.size, 0, none⟩ = some (.int .u64 p0) ∧ w'.cell? ⟨w.heap.size, 1, none⟩ = some (.int .u64 p1)) ∧ w'.cell? ⟨w.heap.size + 1, 0, none⟩ = some (.int .u64 q0) ∧ w'.cell? ⟨w.heap.size + 1, 1, none⟩ = some (.int .u64 q1)) 6 (.take 0 (.take 2 (.bag [(1, 23, []), (3, 25, []), (4, 11, []), (5, 12, [])] .nil))) (by kernel_rfl) (by kernel_rfl) ?_
  replace HW := Lib.hid (HW.out.later (drew_below _))
  generalize World.drew _ = W3 at HW ⊢
  have HSZ : Hid (SzLe W3 W3.heap.size) := Lib.hid (Nat.le_refl _)
  have HLT := Lib.hid HW.out.lt
  have HSW : Hid (w.heap.size ≤ W3.heap.size) := Lib.hid HW.out.size
  generalize W3.heap.size = nB at HSZ HLT HSW
  have hS : (fun w' : World => (w'.cell? ⟨w.heap.size, 0, none⟩ = some (.int .u64 p0) ∧ w'.cell? ⟨w.heap.size, 1, none⟩ = some (.int .u64 p1)) ∧ w'.cell? ⟨w.heap.size + 1, 0, none⟩ = some (.int .u64 q0) ∧ w'.cell? ⟨w.heap.size + 1, 1, none⟩ = some (.int .u64 q1)) W3 := HW.out.two2
  repeat (refine wpPq_takeL (v := ?_) rfl rfl (fun _ _ _ h => h) rfl (fun w' hSw => ?_) hS ?_; rotate_left; (focus (go_simp; with_reducible rfl)); simp only [List.setIfInBounds_toArray, List.set_cons_zero, List.set_cons_succ])
  clear hS
  have hAp : ∀ j ∈ ([4, 5] : List Nat), ∀ s w', (pick [(1, fun v w' => v = .agg #[.float .f64 p0, .float .f64 p1]), (3, fun v w' => v = .agg #[.float .f64 q0, .float .f64 q1]), (4, fun v w' => ∃ r, v = .pointer (some ⟨r, 0, none⟩) ∧ nB ≤ r ∧ BlkT w' r 27 #[.float .f64 0, .float .f64 0]), (5, fun v w' => ∃ r, v = .pointer (some ⟨r, 0, none⟩) ∧ nB ≤ r ∧ BlkT w' r 27 #[.float .f64 0, .float .f64 0])]) j (.pointer (some ⟨s, 0, none⟩)) w' → s < w'.heap.size := (bag_cons (fun s w' h => by obtain ⟨r, hr, -, hB⟩ := (h : (fun (v : Value) (w' : World) => ∃ r, v = .pointer (some ⟨r, 0, none⟩) ∧ nB ≤ r ∧ BlkT w' r 27 #[.float .f64 0, .float .f64 0]) (.pointer (some ⟨s, 0, none⟩)) w'); simp only [Value.pointer.injEq, Option.some.injEq, Addr.mk.injEq, and_true] at hr; subst hr; exact hB.lt) (bag_cons (fun s w' h => by obtain ⟨r, hr, -, hB⟩ := (h : (fun (v : Value) (w' : World) => ∃ r, v = .pointer (some ⟨r, 0, none⟩) ∧ nB ≤ r ∧ BlkT w' r 27 #[.float .f64 0, .float .f64 0]) (.pointer (some ⟨s, 0, none⟩)) w'); simp only [Value.pointer.injEq, Option.some.injEq, Addr.mk.injEq, and_true] at hr; subst hr; exact hB.lt) bag_nil))
  refine wpPq_bagD [4, 5] (pick [(1, fun v w' => v = .agg #[.float .f64 p0, .float .f64 p1]), (3, fun v w' => v = .agg #[.float .f64 q0, .float .f64 q1]), (4, fun v w' => ∃ r, v = .pointer (some ⟨r, 0, none⟩) ∧ nB ≤ r ∧ BlkT w' r 27 #[.float .f64 0, .float .f64 0]), (5, fun v w' => ∃ r, v = .pointer (some ⟨r, 0, none⟩) ∧ nB ≤ r ∧ BlkT w' r 27 #[.float .f64 0, .float .f64 0])]) (pick_mono (bag_cons (fun v w1 w2 hv1 hb => hv1) (bag_cons (fun v w1 w2 hv3 hb => hv3) (bag_cons (fun v w1 w2 ⟨r4, hv4, hl4, hB4⟩ hb => ⟨r4, hv4, hl4, hB4.below hb⟩) (bag_cons (fun v w1 w2 ⟨r5, hv5, hl5, hB5⟩ hb => ⟨r5, hv5, hl5, hB5.below hb⟩) bag_nil))))) (fun w' hb => (HW.out.later hb).two2) (by simp [prE]) (fun _ _ _ _ _ h => h) (by decide) (bag_cons (bagD_one rfl (BagStep.other (by decide) ?_)) (bag_cons (bagD_one rfl (BagStep.other (by decide) ?_)) (bag_cons (bagD_one rfl (BagStep.fresh hAp ?_)) (bag_cons (bagD_one rfl (BagStep.fresh hAp ?_)) bag_nil)))) bag_nil ?_
  · intro a' V hdf hin hdep hb1 K hK
    have i22 : a'.tmps[22]?.getD undef = .agg #[.int .u64 p0, .int .u64 p1] := evT (hin 22 (by decide))
    clear hin hdep hdf
    have HW := Lib.hid (HW.out.later hb1)
    have HSZ := Lib.hid (HSZ.out.below hb1)
    go_simp
    refine (HOp.out _).mono ?_
    rintro e1 V2 ⟨rfl, hb2⟩
    exact hK _ _ rfl hb2
  · intro a' V hdf hin hdep hb1 K hK
    have i24 : a'.tmps[24]?.getD undef = .agg #[.int .u64 q0, .int .u64 q1] := evT (hin 24 (by decide))
    clear hin hdep hdf
    have HW := Lib.hid (HW.out.later hb1)
    have HSZ := Lib.hid (HSZ.out.below hb1)
    go_simp
    refine (HOq.out _).mono ?_
    rintro e1 V2 ⟨rfl, hb2⟩
    exact hK _ _ rfl hb2
  · intro a' V hdf hin hdep hb1 K hK
    clear hin hdep hdf
    have HW := Lib.hid (HW.out.later hb1)
    have HSZ := Lib.hid (HSZ.out.below hb1)
    go_simp
    exact hK _ ⟨_, rfl, HSZ.out, BlkT.new V _ _⟩ (Below.alloc_self _ _)
  · intro a' V hdf hin hdep hb1 K hK
    clear hin hdep hdf
    have HW := Lib.hid (HW.out.later hb1)
    have HSZ := Lib.hid (HSZ.out.below hb1)
    go_simp
    exact hK _ ⟨_, rfl, HSZ.out, BlkT.new V _ _⟩ (Below.alloc_self _ _)
  intro vals B1 hb1 hR hNE
  replace HW := Lib.hid (HW.out.later hb1)
  replace HSZ := Lib.hid (HSZ.out.below hb1)
  obtain hv1 : (fun (v : Value) (w' : World) => v = .agg #[.float .f64 p0, .float .f64 p1]) (vals 1) B1 := hR (1, 23) (by decide)
  dsimp only at hv1
  obtain hv3 : (fun (v : Value) (w' : World) => v = .agg #[.float .f64 q0, .float .f64 q1]) (vals 3) B1 := hR (3, 25) (by decide)
  dsimp only at hv3
  obtain ⟨r4, hv4, hl4, hB4⟩ : (fun (v : Value) (w' : World) => ∃ r, v = .pointer (some ⟨r, 0, none⟩) ∧ nB ≤ r ∧ BlkT w' r 27 #[.float .f64 0, .float .f64 0]) (vals 4) B1 := hR (4, 11) (by decide)
  obtain ⟨r5, hv5, hl5, hB5⟩ : (fun (v : Value) (w' : World) => ∃ r, v = .pointer (some ⟨r, 0, none⟩) ∧ nB ≤ r ∧ BlkT w' r 27 #[.float .f64 0, .float .f64 0]) (vals 5) B1 := hR (5, 12) (by decide)
  have hne4_5 := hNE (4, 11) (by decide) (5, 12) (by decide) (by decide) (by decide) (by decide) r4 r5 hv4 hv5
  clear hNE hAp
  clear hb1 hR
  simp only [prE, List.flatMap_cons, List.flatMap_nil, List.cons_append, List.nil_append, List.append_nil, setD, List.setIfInBounds_toArray, List.set_cons_zero, List.set_cons_succ, hv1, hv3, hv4, hv5]
  clear vals hv1 hv3 hv4 hv5
  refine wpPq_nil ?_
  simp only [List.drop_succ_cons, List.drop_zero]
  have HS := Lib.hid (Bks.sub (HW.out.fill2 hB4 hB5 (Nat.le_trans HSW.out hl4) (Nat.le_trans HSW.out hl5) hne4_5 (fun q m e => by have := HLT.out q m; omega) (fun q m e => by have := HLT.out q m; omega) (.float .f64 p0) (.float .f64 p1) (.float .f64 q0) (.float .f64 q1)) (l' := [(r4, 27, #[.float .f64 p0, .float .f64 p1]), (r5, 27, #[.float .f64 q0, .float .f64 q1]), (w.heap.size + 1 + 1, 24, #[.int .u64 r0, .int .u64 r1]), (w.heap.size + 1 + 1 + 1, 24, #[.int .u64 s0, .int .u64 s1])]) (by intro t m; simp only [List.mem_cons, List.not_mem_nil, or_false] at m ⊢; rcases m with rfl | rfl | rfl | rfl <;> simp))
  obtain ⟨f60, f61, f62, f63⟩ := hB4.cells2
  obtain ⟨f70, f71, f72, f73⟩ := hB5.cells2
  have hne' : r5 ≠ r4 := hne4_5.symm
  clear HW HLT HSZ HSW hB4 hB5 hl4 hl5
  go_upto_region 4 with fail
  clear f60 f61 f62 f63 f70 f71 f72 f73 hne4_5 hne'
  generalize World.setCell (World.setCell (World.setCell (World.setCell _ _ _) _ _) _ _) _ _ = W4 at HS ⊢
  refine wp_region_q (fun w' : World => ((w'.cell? ⟨r4, 0, none⟩ = some (.float .f64 p0) ∧ w'.cell? ⟨r4, 1, none⟩ = some (.float .f64 p1)) ∧ w'.cell? ⟨r5, 0, none⟩ = some (.float .f64 q0) ∧ w'.cell? ⟨r5, 1, none⟩ = some (.float .f64 q1)) ∧ (w'.cell? ⟨w.heap.size + 1 + 1, 0, none⟩ = some (.int .u64 r0) ∧ w'.cell? ⟨w.heap.size + 1 + 1, 1, none⟩ = some (.int .u64 r1)) ∧ w'.cell? ⟨w.heap.size + 1 + 1 + 1, 0, none⟩ = some (.int .u64 s0) ∧ w'.cell? ⟨w.heap.size + 1 + 1 + 1, 1, none⟩ = some (.int .u64 s1)) 10 (.take 0 (.take 1 (.take 4 (.take 5 (.bag [(2, 28, []), (3, 29, []), (6, 32, []), (7, 33, []), (8, 13, []), (9, 14, [])] .nil))))) (by kernel_rfl) (by kernel_rfl) ?_
  replace HS := Lib.hid (HS.out.later (drew_below _))
  generalize World.drew _ = W5 at HS ⊢
  have HSZ : Hid (SzLe W5 W5.heap.size) := Lib.hid (Nat.le_refl _)
  have HLT := Lib.hid HS.out.lt
  have HSW : Hid (w.heap.size ≤ W5.heap.size) := Lib.hid HS.out.size
  generalize W5.heap.size = nB at HSZ HLT HSW
  have hS : (fun w' : World => ((w'.cell? ⟨r4, 0, none⟩ = some (.float .f64 p0) ∧ w'.cell? ⟨r4, 1, none⟩ = some (.float .f64 p1)) ∧ w'.cell? ⟨r5, 0, none⟩ = some (.float .f64 q0) ∧ w'.cell? ⟨r5, 1, none⟩ = some (.float .f64 q1)) ∧ (w'.cell? ⟨w.heap.size + 1 + 1, 0, none⟩ = some (.int .u64 r0) ∧ w'.cell? ⟨w.heap.size + 1 + 1, 1, none⟩ = some (.int .u64 r1)) ∧ w'.cell? ⟨w.heap.size + 1 + 1 + 1, 0, none⟩ = some (.int .u64 s0) ∧ w'.cell? ⟨w.heap.size + 1 + 1 + 1, 1, none⟩ = some (.int .u64 s1)) W5 := HS.out.two4
  repeat (refine wpPq_takeL (v := ?_) rfl rfl (fun _ _ _ h => h) rfl (fun w' hSw => ?_) hS ?_; rotate_left; (focus (go_simp; with_reducible rfl)); simp only [List.setIfInBounds_toArray, List.set_cons_zero, List.set_cons_succ])
  clear hS
  have hAp : ∀ j ∈ ([8, 9] : List Nat), ∀ s w', (pick [(2, fun v w' => v = .agg #[.float .f64 r0, .float .f64 r1]), (3, fun v w' => v = .agg #[.float .f64 c0, .float .f64 c1]), (6, fun v w' => v = .agg #[.float .f64 s0, .float .f64 s1]), (7, fun v w' => v = .agg #[.float .f64 d0, .float .f64 d1]), (8, fun v w' => ∃ r, v = .pointer (some ⟨r, 0, none⟩) ∧ nB ≤ r ∧ BlkT w' r 27 #[.float .f64 0, .float .f64 0]), (9, fun v w' => ∃ r, v = .pointer (some ⟨r, 0, none⟩) ∧ nB ≤ r ∧ BlkT w' r 27 #[.float .f64 0, .float .f64 0])]) j (.pointer (some ⟨s, 0, none⟩)) w' → s < w'.heap.size := (bag_cons (fun s w' h => by obtain ⟨r, hr, -, hB⟩ := (h : (fun (v : Value) (w' : World) => ∃ r, v = .pointer (some ⟨r, 0, none⟩) ∧ nB ≤ r ∧ BlkT w' r 27 #[.float .f64 0, .float .f64 0]) (.pointer (some ⟨s, 0, none⟩)) w'); simp only [Value.pointer.injEq, Option.some.injEq, Addr.mk.injEq, and_true] at hr; subst hr; exact hB.lt) (bag_cons (fun s w' h => by obtain ⟨r, hr, -, hB⟩ := (h : (fun (v : Value) (w' : World) => ∃ r, v = .pointer (some ⟨r, 0, none⟩) ∧ nB ≤ r ∧ BlkT w' r 27 #[.float .f64 0, .float .f64 0]) (.pointer (some ⟨s, 0, none⟩)) w'); simp only [Value.pointer.injEq, Option.some.injEq, Addr.mk.injEq, and_true] at hr; subst hr; exact hB.lt) bag_nil))
  refine wpPq_bagD [8, 9] (pick [(2, fun v w' => v = .agg #[.float .f64 r0, .float .f64 r1]), (3, fun v w' => v = .agg #[.float .f64 c0, .float .f64 c1]), (6, fun v w' => v = .agg #[.float .f64 s0, .float .f64 s1]), (7, fun v w' => v = .agg #[.float .f64 d0, .float .f64 d1]), (8, fun v w' => ∃ r, v = .pointer (some ⟨r, 0, none⟩) ∧ nB ≤ r ∧ BlkT w' r 27 #[.float .f64 0, .float .f64 0]), (9, fun v w' => ∃ r, v = .pointer (some ⟨r, 0, none⟩) ∧ nB ≤ r ∧ BlkT w' r 27 #[.float .f64 0, .float .f64 0])]) (pick_mono (bag_cons (fun v w1 w2 hv2 hb => hv2) (bag_cons (fun v w1 w2 hv3 hb => hv3) (bag_cons (fun v w1 w2 hv6 hb => hv6) (bag_cons (fun v w1 w2 hv7 hb => hv7) (bag_cons (fun v w1 w2 ⟨r8, hv8, hl8, hB8⟩ hb => ⟨r8, hv8, hl8, hB8.below hb⟩) (bag_cons (fun v w1 w2 ⟨r9, hv9, hl9, hB9⟩ hb => ⟨r9, hv9, hl9, hB9.below hb⟩) bag_nil))))))) (fun w' hb => (HS.out.later hb).two4) (by simp [prE]) (fun _ _ _ _ _ h => h) (by decide) (bag_cons (bagD_one rfl (BagStep.other (by decide) ?_)) (bag_cons (bagD_one rfl (BagStep.other (by decide) ?_)) (bag_cons (bagD_one rfl (BagStep.other (by decide) ?_)) (bag_cons (bagD_one rfl (BagStep.other (by decide) ?_)) (bag_cons (bagD_one rfl (BagStep.fresh hAp ?_)) (bag_cons (bagD_one rfl (BagStep.fresh hAp ?_)) bag_nil)))))) bag_nil ?_
  · intro a' V hdf hin hdep hb1 K hK
    have i27 : a'.tmps[27]?.getD undef = .agg #[.int .u64 r0, .int .u64 r1] := evT (hin 27 (by decide))
    clear hin hdep hdf
    have HS := Lib.hid (HS.out.later hb1)
    have HSZ := Lib.hid (HSZ.out.below hb1)
    go_simp
    refine (HOr.out _).mono ?_
    rintro e1 V2 ⟨rfl, hb2⟩
    exact hK _ _ rfl hb2
  · intro a' V hdf hin hdep hb1 K hK
    have i26 : a'.tmps[26]?.getD undef = .agg #[.float .f64 p0, .float .f64 p1] := evT (hin 26 (by decide))
    obtain hv2 : (fun (v : Value) (w' : World) => v = .agg #[.float .f64 r0, .float .f64 r1]) (a'.tmps.getD 28 undef) V := hdep ⟨2, .data⟩ (by simp) rfl 28 (by decide)
    dsimp only at hv2
    replace hv2 := evT hv2
    clear hin hdep hdf
    have HS := Lib.hid (HS.out.later hb1)
    have HSZ := Lib.hid (HSZ.out.below hb1)
    go_simp
    refine (HCA.out _).mono ?_
    rintro e1 V2 ⟨rfl, hb2⟩
    exact hK _ _ rfl hb2
  · intro a' V hdf hin hdep hb1 K hK
    have i31 : a'.tmps[31]?.getD undef = .agg #[.int .u64 s0, .int .u64 s1] := evT (hin 31 (by decide))
    clear hin hdep hdf
    have HS := Lib.hid (HS.out.later hb1)
    have HSZ := Lib.hid (HSZ.out.below hb1)
    go_simp
    refine (HOs.out _).mono ?_
    rintro e1 V2 ⟨rfl, hb2⟩
    exact hK _ _ rfl hb2
  · intro a' V hdf hin hdep hb1 K hK
    have i30 : a'.tmps[30]?.getD undef = .agg #[.float .f64 q0, .float .f64 q1] := evT (hin 30 (by decide))
    obtain hv6 : (fun (v : Value) (w' : World) => v = .agg #[.float .f64 s0, .float .f64 s1]) (a'.tmps.getD 32 undef) V := hdep ⟨6, .data⟩ (by simp) rfl 32 (by decide)
    dsimp only at hv6
    replace hv6 := evT hv6
    clear hin hdep hdf
    have HS := Lib.hid (HS.out.later hb1)
    have HSZ := Lib.hid (HSZ.out.below hb1)
    go_simp
    refine (HDB.out _).mono ?_
    rintro e1 V2 ⟨rfl, hb2⟩
    exact hK _ _ rfl hb2
  · intro a' V hdf hin hdep hb1 K hK
    clear hin hdep hdf
    have HS := Lib.hid (HS.out.later hb1)
    have HSZ := Lib.hid (HSZ.out.below hb1)
    go_simp
    exact hK _ ⟨_, rfl, HSZ.out, BlkT.new V _ _⟩ (Below.alloc_self _ _)
  · intro a' V hdf hin hdep hb1 K hK
    clear hin hdep hdf
    have HS := Lib.hid (HS.out.later hb1)
    have HSZ := Lib.hid (HSZ.out.below hb1)
    go_simp
    exact hK _ ⟨_, rfl, HSZ.out, BlkT.new V _ _⟩ (Below.alloc_self _ _)
  intro vals B1 hb1 hR hNE
  replace HS := Lib.hid (HS.out.later hb1)
  replace HSZ := Lib.hid (HSZ.out.below hb1)
  obtain hv2 : (fun (v : Value) (w' : World) => v = .agg #[.float .f64 r0, .float .f64 r1]) (vals 2) B1 := hR (2, 28) (by decide)
  dsimp only at hv2
  obtain hv3 : (fun (v : Value) (w' : World) => v = .agg #[.float .f64 c0, .float .f64 c1]) (vals 3) B1 := hR (3, 29) (by decide)
  dsimp only at hv3
  obtain hv6 : (fun (v : Value) (w' : World) => v = .agg #[.float .f64 s0, .float .f64 s1]) (vals 6) B1 := hR (6, 32) (by decide)
  dsimp only at hv6
  obtain hv7 : (fun (v : Value) (w' : World) => v = .agg #[.float .f64 d0, .float .f64 d1]) (vals 7) B1 := hR (7, 33) (by decide)
  dsimp only at hv7
  obtain ⟨r8, hv8, hl8, hB8⟩ : (fun (v : Value) (w' : World) => ∃ r, v = .pointer (some ⟨r, 0, none⟩) ∧ nB ≤ r ∧ BlkT w' r 27 #[.float .f64 0, .float .f64 0]) (vals 8) B1 := hR (8, 13) (by decide)
  obtain ⟨r9, hv9, hl9, hB9⟩ : (fun (v : Value) (w' : World) => ∃ r, v = .pointer (some ⟨r, 0, none⟩) ∧ nB ≤ r ∧ BlkT w' r 27 #[.float .f64 0, .float .f64 0]) (vals 9) B1 := hR (9, 14) (by decide)
  have hne8_9 := hNE (8, 13) (by decide) (9, 14) (by decide) (by decide) (by decide) (by decide) r8 r9 hv8 hv9
  clear hNE hAp
  clear hb1 hR
  simp only [prE, List.flatMap_cons, List.flatMap_nil, List.cons_append, List.nil_append, List.append_nil, setD, List.setIfInBounds_toArray, List.set_cons_zero, List.set_cons_succ, hv2, hv3, hv6, hv7, hv8, hv9]
  clear vals hv2 hv3 hv6 hv7 hv8 hv9
  refine wpPq_nil ?_
  simp only [List.drop_succ_cons, List.drop_zero]
  have HS := Lib.hid (Bks.sub (HS.out.fill2 hB8 hB9 (Nat.le_trans HSW.out hl8) (Nat.le_trans HSW.out hl9) hne8_9 (fun q m e => by have := HLT.out q m; omega) (fun q m e => by have := HLT.out q m; omega) (.float .f64 c0) (.float .f64 c1) (.float .f64 d0) (.float .f64 d1)) (l' := [(r4, 27, #[.float .f64 p0, .float .f64 p1]), (r5, 27, #[.float .f64 q0, .float .f64 q1]), (r8, 27, #[.float .f64 c0, .float .f64 c1]), (r9, 27, #[.float .f64 d0, .float .f64 d1])]) (by intro t m; simp only [List.mem_cons, List.not_mem_nil, or_false] at m ⊢; rcases m with rfl | rfl | rfl | rfl <;> simp))
  obtain ⟨f60, f61, f62, f63⟩ := hB8.cells2
  obtain ⟨f70, f71, f72, f73⟩ := hB9.cells2
  have hne' : r9 ≠ r8 := hne8_9.symm
  clear HLT HSZ HSW hB8 hB9 hl8 hl9
  go_upto_region 5 with fail
  clear f60 f61 f62 f63 f70 f71 f72 f73 hne8_9 hne'
  generalize World.setCell (World.setCell (World.setCell (World.setCell _ _ _) _ _) _ _) _ _ = W6 at HS ⊢
  obtain ⟨⟨⟨g20, g21⟩, g22, g23⟩, ⟨g24, g25⟩, g26, g27⟩ := HS.out.two4
  go_wp2_with fail
  refine (HIA.out _).mono ?_
  rintro e7 w7 ⟨rfl, hb7⟩
  replace HS := Lib.hid (HS.out.later hb7)
  clear hb7
  clear g20 g21 g22 g23 g24 g25 g26 g27
  obtain ⟨⟨⟨g20, g21⟩, g22, g23⟩, ⟨g24, g25⟩, g26, g27⟩ := HS.out.two4
  go_wp2_with fail
  refine (HIB.out _).mono ?_
  rintro e8 w8 ⟨rfl, hb8⟩
  replace HS := Lib.hid (HS.out.later hb8)
  clear hb8
  clear g20 g21 g22 g23 g24 g25 g26 g27
  obtain ⟨⟨⟨g20, g21⟩, g22, g23⟩, ⟨g24, g25⟩, g26, g27⟩ := HS.out.two4
  go_wp2_with fail
  refine (HP1.out _ (HT.out.below HS.out.2)).mono ?_
  rintro e9 w9 ⟨rfl, hb9⟩
  replace HS := Lib.hid (HS.out.later hb9)
  clear hb9
  clear g20 g21 g22 g23 g24 g25 g26 g27
  obtain ⟨⟨⟨g20, g21⟩, g22, g23⟩, ⟨g24, g25⟩, g26, g27⟩ := HS.out.two4
  go_upto_region 9 with fail
  replace HS := Lib.hid (HS.out.alloc #[.float .f64 g0, .float .f64 g1] 27)
  clear g20 g21 g22 g23 g24 g25 g26 g27
  generalize World.alloc w9 _ = W10 at HS ⊢
  generalize w9.heap.size = r10 at HS ⊢
  obtain ⟨⟨⟨g20, g21⟩, g22, g23⟩, ⟨g24, g25⟩, g26, g27⟩ := HS.out.tail.two4
  go_wp2_with fail
  refine (HP2.out _ (HT.out.below HS.out.2)).mono ?_
  rintro e11 w11 ⟨rfl, hb11⟩
  replace HS := Lib.hid (HS.out.later hb11)
  clear hb11
  clear g20 g21 g22 g23 g24 g25 g26 g27
  obtain ⟨⟨⟨g20, g21⟩, g22, g23⟩, ⟨g24, g25⟩, g26, g27⟩ := HS.out.tail.two4
  go_upto_region 10 with fail
  replace HS := Lib.hid (HS.out.alloc #[.float .f64 h0, .float .f64 h1] 27)
  clear g20 g21 g22 g23 g24 g25 g26 g27
  generalize World.alloc w11 _ = W12 at HS ⊢
  generalize w11.heap.size = r11 at HS ⊢
  refine wp_region_pl (fun w' : World => ((w'.cell? ⟨r11, 0, none⟩ = some (.float .f64 h0) ∧ w'.cell? ⟨r11, 1, none⟩ = some (.float .f64 h1)) ∧ w'.cell? ⟨r10, 0, none⟩ = some (.float .f64 g0) ∧ w'.cell? ⟨r10, 1, none⟩ = some (.float .f64 g1)) ∧ ((w'.cell? ⟨r4, 0, none⟩ = some (.float .f64 p0) ∧ w'.cell? ⟨r4, 1, none⟩ = some (.float .f64 p1)) ∧ w'.cell? ⟨r5, 0, none⟩ = some (.float .f64 q0) ∧ w'.cell? ⟨r5, 1, none⟩ = some (.float .f64 q1)) ∧ (w'.cell? ⟨r8, 0, none⟩ = some (.float .f64 c0) ∧ w'.cell? ⟨r8, 1, none⟩ = some (.float .f64 c1)) ∧ w'.cell? ⟨r9, 0, none⟩ = some (.float .f64 d0) ∧ w'.cell? ⟨r9, 1, none⟩ = some (.float .f64 d1)) 76 (.take 0 (.take 1 (.take 3 (.take 4 (.run 2 (.run 5 (.run 6 (.take 7 (.take 8 (.take 9 (.take 11 (.take 12 (.run 10 (.run 13 (.run 14 (.take 15 (.take 16 (.take 17 (.take 18 (.take 20 (.take 21 (.run 19 (.run 22 (.run 23 (.take 24 (.take 25 (.take 26 (.take 27 (.take 29 (.take 30 (.run 28 (.run 31 (.run 32 (.take 33 (.take 34 (.take 35 (.take 37 (.run 36 (.run 38 (.run 39 (.take 40 (.take 41 (.take 42 (.take 43 (.take 45 (.take 46 (.run 44 (.run 47 (.run 48 (.take 49 (.take 50 (.take 51 (.take 52 (.take 54 (.take 55 (.run 53 (.run 56 (.run 57 (.take 58 (.take 59 (.take 60 (.take 62 (.run 61 (.run 63 (.run 64 (.take 65 (.take 66 (.take 67 (.take 69 (.run 68 (.run 70 (.run 71 (.take 72 (.take 73 (.take 74 (.take 75 (.nil))))))))))))))))))))))))))))))))))))))))))))))))))))))))))))))))))))))))))))) (by kernel_rfl) (by kernel_rfl) ?_
  replace HS := Lib.hid (HS.out.later (drew_below _))
  generalize World.drew _ = W25 at HS ⊢
  have hS : (fun w' : World => ((w'.cell? ⟨r11, 0, none⟩ = some (.float .f64 h0) ∧ w'.cell? ⟨r11, 1, none⟩ = some (.float .f64 h1)) ∧ w'.cell? ⟨r10, 0, none⟩ = some (.float .f64 g0) ∧ w'.cell? ⟨r10, 1, none⟩ = some (.float .f64 g1)) ∧ ((w'.cell? ⟨r4, 0, none⟩ = some (.float .f64 p0) ∧ w'.cell? ⟨r4, 1, none⟩ = some (.float .f64 p1)) ∧ w'.cell? ⟨r5, 0, none⟩ = some (.float .f64 q0) ∧ w'.cell? ⟨r5, 1, none⟩ = some (.float .f64 q1)) ∧ (w'.cell? ⟨r8, 0, none⟩ = some (.float .f64 c0) ∧ w'.cell? ⟨r8, 1, none⟩ = some (.float .f64 c1)) ∧ w'.cell? ⟨r9, 0, none⟩ = some (.float .f64 d0) ∧ w'.cell? ⟨r9, 1, none⟩ = some (.float .f64 d1)) W25 := HS.out.two6
  repeat (first | (refine wpPl_takeL (v := ?_) rfl rfl (fun _ _ _ h => h) rfl (fun w' hSw => ?_) hS ?_; rotate_left; (focus (go_simp; with_reducible rfl)); simp only [List.setIfInBounds_toArray, List.set_cons_zero, List.set_cons_succ]) | (refine wpPl_skipL rfl rfl (fun _ _ _ h => h) rfl hS ?_; simp only [List.setIfInBounds_toArray, List.set_cons_zero, List.set_cons_succ]))
  clear hS
  refine wpPl_goL rfl rfl fun K' hK => ?_
  go_simp
  refine (HAD1.out _ (HT.out.below HS.out.2)).mono ?_
  rintro e1 W25v1 ⟨rfl, hb1⟩
  replace HS := Lib.hid (HS.out.later hb1)
  clear HAD1
  refine hK _ _ HS.out.two6 ?_
  clear hK K' hb1
  try simp only [Act.put, List.setIfInBounds_toArray, List.set_cons_zero, List.set_cons_succ]
  have hS : (fun w' : World => ((w'.cell? ⟨r11, 0, none⟩ = some (.float .f64 h0) ∧ w'.cell? ⟨r11, 1, none⟩ = some (.float .f64 h1)) ∧ w'.cell? ⟨r10, 0, none⟩ = some (.float .f64 g0) ∧ w'.cell? ⟨r10, 1, none⟩ = some (.float .f64 g1)) ∧ ((w'.cell? ⟨r4, 0, none⟩ = some (.float .f64 p0) ∧ w'.cell? ⟨r4, 1, none⟩ = some (.float .f64 p1)) ∧ w'.cell? ⟨r5, 0, none⟩ = some (.float .f64 q0) ∧ w'.cell? ⟨r5, 1, none⟩ = some (.float .f64 q1)) ∧ (w'.cell? ⟨r8, 0, none⟩ = some (.float .f64 c0) ∧ w'.cell? ⟨r8, 1, none⟩ = some (.float .f64 c1)) ∧ w'.cell? ⟨r9, 0, none⟩ = some (.float .f64 d0) ∧ w'.cell? ⟨r9, 1, none⟩ = some (.float .f64 d1)) W25v1 := HS.out.two6
  repeat (first | (refine wpPl_takeL (v := ?_) rfl rfl (fun _ _ _ h => h) rfl (fun w' hSw => ?_) hS ?_; rotate_left; (focus (go_simp; with_reducible rfl)); simp only [List.setIfInBounds_toArray, List.set_cons_zero, List.set_cons_succ]) | (refine wpPl_skipL rfl rfl (fun _ _ _ h => h) rfl hS ?_; simp only [List.setIfInBounds_toArray, List.set_cons_zero, List.set_cons_succ]))
  clear hS
  refine wpPl_goL rfl rfl fun K' hK => ?_
  go_simp
  refine (HAD2.out _ (HT.out.below HS.out.2)).mono ?_
  rintro e1 W25v2 ⟨rfl, hb1⟩
  replace HS := Lib.hid (HS.out.later hb1)
  clear HAD2
  refine hK _ _ HS.out.two6 ?_
  clear hK K' hb1
  try simp only [Act.put, List.setIfInBounds_toArray, List.set_cons_zero, List.set_cons_succ]
  have hS : (fun w' : World => ((w'.cell? ⟨r11, 0, none⟩ = some (.float .f64 h0) ∧ w'.cell? ⟨r11, 1, none⟩ = some (.float .f64 h1)) ∧ w'.cell? ⟨r10, 0, none⟩ = some (.float .f64 g0) ∧ w'.cell? ⟨r10, 1, none⟩ = some (.float .f64 g1)) ∧ ((w'.cell? ⟨r4, 0, none⟩ = some (.float .f64 p0) ∧ w'.cell? ⟨r4, 1, none⟩ = some (.float .f64 p1)) ∧ w'.cell? ⟨r5, 0, none⟩ = some (.float .f64 q0) ∧ w'.cell? ⟨r5, 1, none⟩ = some (.float .f64 q1)) ∧ (w'.cell? ⟨r8, 0, none⟩ = some (.float .f64 c0) ∧ w'.cell? ⟨r8, 1, none⟩ = some (.float .f64 c1)) ∧ w'.cell? ⟨r9, 0, none⟩ = some (.float .f64 d0) ∧ w'.cell? ⟨r9, 1, none⟩ = some (.float .f64 d1)) W25v2 := HS.out.two6
  repeat (first | (refine wpPl_takeL (v := ?_) rfl rfl (fun _ _ _ h => h) rfl (fun w' hSw => ?_) hS ?_; rotate_left; (focus (go_simp; with_reducible rfl)); simp only [List.setIfInBounds_toArray, List.set_cons_zero, List.set_cons_succ]) | (refine wpPl_skipL rfl rfl (fun _ _ _ h => h) rfl hS ?_; simp only [List.setIfInBounds_toArray, List.set_cons_zero, List.set_cons_succ]))
  clear hS
  refine wpPl_goL rfl rfl fun K' hK => ?_
  go_simp
  refine (HIAD.out _).mono ?_
  rintro e1 W25v3 ⟨rfl, hb1⟩
  replace HS := Lib.hid (HS.out.later hb1)
  clear HIAD
  refine hK _ _ HS.out.two6 ?_
  clear hK K' hb1
  try simp only [Act.put, List.setIfInBounds_toArray, List.set_cons_zero, List.set_cons_succ]
  have hS : (fun w' : World => ((w'.cell? ⟨r11, 0, none⟩ = some (.float .f64 h0) ∧ w'.cell? ⟨r11, 1, none⟩ = some (.float .f64 h1)) ∧ w'.cell? ⟨r10, 0, none⟩ = some (.float .f64 g0) ∧ w'.cell? ⟨r10, 1, none⟩ = some (.float .f64 g1)) ∧ ((w'.cell? ⟨r4, 0, none⟩ = some (.float .f64 p0) ∧ w'.cell? ⟨r4, 1, none⟩ = some (.float .f64 p1)) ∧ w'.cell? ⟨r5, 0, none⟩ = some (.float .f64 q0) ∧ w'.cell? ⟨r5, 1, none⟩ = some (.float .f64 q1)) ∧ (w'.cell? ⟨r8, 0, none⟩ = some (.float .f64 c0) ∧ w'.cell? ⟨r8, 1, none⟩ = some (.float .f64 c1)) ∧ w'.cell? ⟨r9, 0, none⟩ = some (.float .f64 d0) ∧ w'.cell? ⟨r9, 1, none⟩ = some (.float .f64 d1)) W25v3 := HS.out.two6
  repeat (first | (refine wpPl_takeL (v := ?_) rfl rfl (fun _ _ _ h => h) rfl (fun w' hSw => ?_) hS ?_; rotate_left; (focus (go_simp; with_reducible rfl)); simp only [List.setIfInBounds_toArray, List.set_cons_zero, List.set_cons_succ]) | (refine wpPl_skipL rfl rfl (fun _ _ _ h => h) rfl hS ?_; simp only [List.setIfInBounds_toArray, List.set_cons_zero, List.set_cons_succ]))
  clear hS
  refine wpPl_goL rfl rfl fun K' hK => ?_
  go_simp
  refine (HSU1.out _ (HT.out.below HS.out.2)).mono ?_
  rintro e1 W25v4 ⟨rfl, hb1⟩
  replace HS := Lib.hid (HS.out.later hb1)
  clear HSU1
  refine hK _ _ HS.out.two6 ?_
  clear hK K' hb1
  try simp only [Act.put, List.setIfInBounds_toArray, List.set_cons_zero, List.set_cons_succ]
  have hS : (fun w' : World => ((w'.cell? ⟨r11, 0, none⟩ = some (.float .f64 h0) ∧ w'.cell? ⟨r11, 1, none⟩ = some (.float .f64 h1)) ∧ w'.cell? ⟨r10, 0, none⟩ = some (.float .f64 g0) ∧ w'.cell? ⟨r10, 1, none⟩ = some (.float .f64 g1)) ∧ ((w'.cell? ⟨r4, 0, none⟩ = some (.float .f64 p0) ∧ w'.cell? ⟨r4, 1, none⟩ = some (.float .f64 p1)) ∧ w'.cell? ⟨r5, 0, none⟩ = some (.float .f64 q0) ∧ w'.cell? ⟨r5, 1, none⟩ = some (.float .f64 q1)) ∧ (w'.cell? ⟨r8, 0, none⟩ = some (.float .f64 c0) ∧ w'.cell? ⟨r8, 1, none⟩ = some (.float .f64 c1)) ∧ w'.cell? ⟨r9, 0, none⟩ = some (.float .f64 d0) ∧ w'.cell? ⟨r9, 1, none⟩ = some (.float .f64 d1)) W25v4 := HS.out.two6
  repeat (first | (refine wpPl_takeL (v := ?_) rfl rfl (fun _ _ _ h => h) rfl (fun w' hSw => ?_) hS ?_; rotate_left; (focus (go_simp; with_reducible rfl)); simp only [List.setIfInBounds_toArray, List.set_cons_zero, List.set_cons_succ]) | (refine wpPl_skipL rfl rfl (fun _ _ _ h => h) rfl hS ?_; simp only [List.setIfInBounds_toArray, List.set_cons_zero, List.set_cons_succ]))
  clear hS
  refine wpPl_goL rfl rfl fun K' hK => ?_
  go_simp
  refine (HSU2.out _ (HT.out.below HS.out.2)).mono ?_
  rintro e1 W25v5 ⟨rfl, hb1⟩
  replace HS := Lib.hid (HS.out.later hb1)
  clear HSU2
  refine hK _ _ HS.out.two6 ?_
  clear hK K' hb1
  try simp only [Act.put, List.setIfInBounds_toArray, List.set_cons_zero, List.set_cons_succ]
  have hS : (fun w' : World => ((w'.cell? ⟨r11, 0, none⟩ = some (.float .f64 h0) ∧ w'.cell? ⟨r11, 1, none⟩ = some (.float .f64 h1)) ∧ w'.cell? ⟨r10, 0, none⟩ = some (.float .f64 g0) ∧ w'.cell? ⟨r10, 1, none⟩ = some (.float .f64 g1)) ∧ ((w'.cell? ⟨r4, 0, none⟩ = some (.float .f64 p0) ∧ w'.cell? ⟨r4, 1, none⟩ = some (.float .f64 p1)) ∧ w'.cell? ⟨r5, 0, none⟩ = some (.float .f64 q0) ∧ w'.cell? ⟨r5, 1, none⟩ = some (.float .f64 q1)) ∧ (w'.cell? ⟨r8, 0, none⟩ = some (.float .f64 c0) ∧ w'.cell? ⟨r8, 1, none⟩ = some (.float .f64 c1)) ∧ w'.cell? ⟨r9, 0, none⟩ = some (.float .f64 d0) ∧ w'.cell? ⟨r9, 1, none⟩ = some (.float .f64 d1)) W25v5 := HS.out.two6
  repeat (first | (refine wpPl_takeL (v := ?_) rfl rfl (fun _ _ _ h => h) rfl (fun w' hSw => ?_) hS ?_; rotate_left; (focus (go_simp; with_reducible rfl)); simp only [List.setIfInBounds_toArray, List.set_cons_zero, List.set_cons_succ]) | (refine wpPl_skipL rfl rfl (fun _ _ _ h => h) rfl hS ?_; simp only [List.setIfInBounds_toArray, List.set_cons_zero, List.set_cons_succ]))
  clear hS
  refine wpPl_goL rfl rfl fun K' hK => ?_
  go_simp
  refine (HISU.out _).mono ?_
  rintro e1 W25v6 ⟨rfl, hb1⟩
  replace HS := Lib.hid (HS.out.later hb1)
  clear HISU
  refine hK _ _ HS.out.two6 ?_
  clear hK K' hb1
  try simp only [Act.put, List.setIfInBounds_toArray, List.set_cons_zero, List.set_cons_succ]
  have hS : (fun w' : World => ((w'.cell? ⟨r11, 0, none⟩ = some (.float .f64 h0) ∧ w'.cell? ⟨r11, 1, none⟩ = some (.float .f64 h1)) ∧ w'.cell? ⟨r10, 0, none⟩ = some (.float .f64 g0) ∧ w'.cell? ⟨r10, 1, none⟩ = some (.float .f64 g1)) ∧ ((w'.cell? ⟨r4, 0, none⟩ = some (.float .f64 p0) ∧ w'.cell? ⟨r4, 1, none⟩ = some (.float .f64 p1)) ∧ w'.cell? ⟨r5, 0, none⟩ = some (.float .f64 q0) ∧ w'.cell? ⟨r5, 1, none⟩ = some (.float .f64 q1)) ∧ (w'.cell? ⟨r8, 0, none⟩ = some (.float .f64 c0) ∧ w'.cell? ⟨r8, 1, none⟩ = some (.float .f64 c1)) ∧ w'.cell? ⟨r9, 0, none⟩ = some (.float .f64 d0) ∧ w'.cell? ⟨r9, 1, none⟩ = some (.float .f64 d1)) W25v6 := HS.out.two6
  repeat (first | (refine wpPl_takeL (v := ?_) rfl rfl (fun _ _ _ h => h) rfl (fun w' hSw => ?_) hS ?_; rotate_left; (focus (go_simp; with_reducible rfl)); simp only [List.setIfInBounds_toArray, List.set_cons_zero, List.set_cons_succ]) | (refine wpPl_skipL rfl rfl (fun _ _ _ h => h) rfl hS ?_; simp only [List.setIfInBounds_toArray, List.set_cons_zero, List.set_cons_succ]))
  clear hS
  refine wpPl_goL rfl rfl fun K' hK => ?_
  go_simp
  refine (HMU1.out _ (HT.out.below HS.out.2)).mono ?_
  rintro e1 W25v7 ⟨rfl, hb1⟩
  replace HS := Lib.hid (HS.out.later hb1)
  clear HMU1
  refine hK _ _ HS.out.two6 ?_
  clear hK K' hb1
  try simp only [Act.put, List.setIfInBounds_toArray, List.set_cons_zero, List.set_cons_succ]
  have hS : (fun w' : World => ((w'.cell? ⟨r11, 0, none⟩ = some (.float .f64 h0) ∧ w'.cell? ⟨r11, 1, none⟩ = some (.float .f64 h1)) ∧ w'.cell? ⟨r10, 0, none⟩ = some (.float .f64 g0) ∧ w'.cell? ⟨r10, 1, none⟩ = some (.float .f64 g1)) ∧ ((w'.cell? ⟨r4, 0, none⟩ = some (.float .f64 p0) ∧ w'.cell? ⟨r4, 1, none⟩ = some (.float .f64 p1)) ∧ w'.cell? ⟨r5, 0, none⟩ = some (.float .f64 q0) ∧ w'.cell? ⟨r5, 1, none⟩ = some (.float .f64 q1)) ∧ (w'.cell? ⟨r8, 0, none⟩ = some (.float .f64 c0) ∧ w'.cell? ⟨r8, 1, none⟩ = some (.float .f64 c1)) ∧ w'.cell? ⟨r9, 0, none⟩ = some (.float .f64 d0) ∧ w'.cell? ⟨r9, 1, none⟩ = some (.float .f64 d1)) W25v7 := HS.out.two6
  repeat (first | (refine wpPl_takeL (v := ?_) rfl rfl (fun _ _ _ h => h) rfl (fun w' hSw => ?_) hS ?_; rotate_left; (focus (go_simp; with_reducible rfl)); simp only [List.setIfInBounds_toArray, List.set_cons_zero, List.set_cons_succ]) | (refine wpPl_skipL rfl rfl (fun _ _ _ h => h) rfl hS ?_; simp only [List.setIfInBounds_toArray, List.set_cons_zero, List.set_cons_succ]))
  clear hS
  refine wpPl_goL rfl rfl fun K' hK => ?_
  go_simp
  refine (HMU2.out _ (HT.out.below HS.out.2)).mono ?_
  rintro e1 W25v8 ⟨rfl, hb1⟩
  replace HS := Lib.hid (HS.out.later hb1)
  clear HMU2
  refine hK _ _ HS.out.two6 ?_
  clear hK K' hb1
  try simp only [Act.put, List.setIfInBounds_toArray, List.set_cons_zero, List.set_cons_succ]
  have hS : (fun w' : World => ((w'.cell? ⟨r11, 0, none⟩ = some (.float .f64 h0) ∧ w'.cell? ⟨r11, 1, none⟩ = some (.float .f64 h1)) ∧ w'.cell? ⟨r10, 0, none⟩ = some (.float .f64 g0) ∧ w'.cell? ⟨r10, 1, none⟩ = some (.float .f64 g1)) ∧ ((w'.cell? ⟨r4, 0, none⟩ = some (.float .f64 p0) ∧ w'.cell? ⟨r4, 1, none⟩ = some (.float .f64 p1)) ∧ w'.cell? ⟨r5, 0, none⟩ = some (.float .f64 q0) ∧ w'.cell? ⟨r5, 1, none⟩ = some (.float .f64 q1)) ∧ (w'.cell? ⟨r8, 0, none⟩ = some (.float .f64 c0) ∧ w'.cell? ⟨r8, 1, none⟩ = some (.float .f64 c1)) ∧ w'.cell? ⟨r9, 0, none⟩ = some (.float .f64 d0) ∧ w'.cell? ⟨r9, 1, none⟩ = some (.float .f64 d1)) W25v8 := HS.out.two6
  repeat (first | (refine wpPl_takeL (v := ?_) rfl rfl (fun _ _ _ h => h) rfl (fun w' hSw => ?_) hS ?_; rotate_left; (focus (go_simp; with_reducible rfl)); simp only [List.setIfInBounds_toArray, List.set_cons_zero, List.set_cons_succ]) | (refine wpPl_skipL rfl rfl (fun _ _ _ h => h) rfl hS ?_; simp only [List.setIfInBounds_toArray, List.set_cons_zero, List.set_cons_succ]))
  clear hS
  refine wpPl_goL rfl rfl fun K' hK => ?_
  go_simp
  refine (HIMU.out _).mono ?_
  rintro e1 W25v9 ⟨rfl, hb1⟩
  replace HS := Lib.hid (HS.out.later hb1)
  clear HIMU
  refine hK _ _ HS.out.two6 ?_
  clear hK K' hb1
  try simp only [Act.put, List.setIfInBounds_toArray, List.set_cons_zero, List.set_cons_succ]
  have hS : (fun w' : World => ((w'.cell? ⟨r11, 0, none⟩ = some (.float .f64 h0) ∧ w'.cell? ⟨r11, 1, none⟩ = some (.float .f64 h1)) ∧ w'.cell? ⟨r10, 0, none⟩ = some (.float .f64 g0) ∧ w'.cell? ⟨r10, 1, none⟩ = some (.float .f64 g1)) ∧ ((w'.cell? ⟨r4, 0, none⟩ = some (.float .f64 p0) ∧ w'.cell? ⟨r4, 1, none⟩ = some (.float .f64 p1)) ∧ w'.cell? ⟨r5, 0, none⟩ = some (.float .f64 q0) ∧ w'.cell? ⟨r5, 1, none⟩ = some (.float .f64 q1)) ∧ (w'.cell? ⟨r8, 0, none⟩ = some (.float .f64 c0) ∧ w'.cell? ⟨r8, 1, none⟩ = some (.float .f64 c1)) ∧ w'.cell? ⟨r9, 0, none⟩ = some (.float .f64 d0) ∧ w'.cell? ⟨r9, 1, none⟩ = some (.float .f64 d1)) W25v9 := HS.out.two6
  repeat (first | (refine wpPl_takeL (v := ?_) rfl rfl (fun _ _ _ h => h) rfl (fun w' hSw => ?_) hS ?_; rotate_left; (focus (go_simp; with_reducible rfl)); simp only [List.setIfInBounds_toArray, List.set_cons_zero, List.set_cons_succ]) | (refine wpPl_skipL rfl rfl (fun _ _ _ h => h) rfl hS ?_; simp only [List.setIfInBounds_toArray, List.set_cons_zero, List.set_cons_succ]))
  clear hS
  refine wpPl_goL rfl rfl fun K' hK => ?_
  go_simp
  refine (HDI1.out _ (HT.out.below HS.out.2)).mono ?_
  rintro e1 W25v10 ⟨rfl, hb1⟩
  replace HS := Lib.hid (HS.out.later hb1)
  clear HDI1
  refine hK _ _ HS.out.two6 ?_
  clear hK K' hb1
  try simp only [Act.put, List.setIfInBounds_toArray, List.set_cons_zero, List.set_cons_succ]
  have hS : (fun w' : World => ((w'.cell? ⟨r11, 0, none⟩ = some (.float .f64 h0) ∧ w'.cell? ⟨r11, 1, none⟩ = some (.float .f64 h1)) ∧ w'.cell? ⟨r10, 0, none⟩ = some (.float .f64 g0) ∧ w'.cell? ⟨r10, 1, none⟩ = some (.float .f64 g1)) ∧ ((w'.cell? ⟨r4, 0, none⟩ = some (.float .f64 p0) ∧ w'.cell? ⟨r4, 1, none⟩ = some (.float .f64 p1)) ∧ w'.cell? ⟨r5, 0, none⟩ = some (.float .f64 q0) ∧ w'.cell? ⟨r5, 1, none⟩ = some (.float .f64 q1)) ∧ (w'.cell? ⟨r8, 0, none⟩ = some (.float .f64 c0) ∧ w'.cell? ⟨r8, 1, none⟩ = some (.float .f64 c1)) ∧ w'.cell? ⟨r9, 0, none⟩ = some (.float .f64 d0) ∧ w'.cell? ⟨r9, 1, none⟩ = some (.float .f64 d1)) W25v10 := HS.out.two6
  repeat (first | (refine wpPl_takeL (v := ?_) rfl rfl (fun _ _ _ h => h) rfl (fun w' hSw => ?_) hS ?_; rotate_left; (focus (go_simp; with_reducible rfl)); simp only [List.setIfInBounds_toArray, List.set_cons_zero, List.set_cons_succ]) | (refine wpPl_skipL rfl rfl (fun _ _ _ h => h) rfl hS ?_; simp only [List.setIfInBounds_toArray, List.set_cons_zero, List.set_cons_succ]))
  clear hS
  refine wpPl_goL rfl rfl fun K' hK => ?_
  go_simp
  refine (HDI2.out _ (HT.out.below HS.out.2)).mono ?_
  rintro e1 W25v11 ⟨rfl, hb1⟩
  replace HS := Lib.hid (HS.out.later hb1)
  clear HDI2
  refine hK _ _ HS.out.two6 ?_
  clear hK K' hb1
  try simp only [Act.put, List.setIfInBounds_toArray, List.set_cons_zero, List.set_cons_succ]
  have hS : (fun w' : World => ((w'.cell? ⟨r11, 0, none⟩ = some (.float .f64 h0) ∧ w'.cell? ⟨r11, 1, none⟩ = some (.float .f64 h1)) ∧ w'.cell? ⟨r10, 0, none⟩ = some (.float .f64 g0) ∧ w'.cell? ⟨r10, 1, none⟩ = some (.float .f64 g1)) ∧ ((w'.cell? ⟨r4, 0, none⟩ = some (.float .f64 p0) ∧ w'.cell? ⟨r4, 1, none⟩ = some (.float .f64 p1)) ∧ w'.cell? ⟨r5, 0, none⟩ = some (.float .f64 q0) ∧ w'.cell? ⟨r5, 1, none⟩ = some (.float .f64 q1)) ∧ (w'.cell? ⟨r8, 0, none⟩ = some (.float .f64 c0) ∧ w'.cell? ⟨r8, 1, none⟩ = some (.float .f64 c1)) ∧ w'.cell? ⟨r9, 0, none⟩ = some (.float .f64 d0) ∧ w'.cell? ⟨r9, 1, none⟩ = some (.float .f64 d1)) W25v11 := HS.out.two6
  repeat (first | (refine wpPl_takeL (v := ?_) rfl rfl (fun _ _ _ h => h) rfl (fun w' hSw => ?_) hS ?_; rotate_left; (focus (go_simp; with_reducible rfl)); simp only [List.setIfInBounds_toArray, List.set_cons_zero, List.set_cons_succ]) | (refine wpPl_skipL rfl rfl (fun _ _ _ h => h) rfl hS ?_; simp only [List.setIfInBounds_toArray, List.set_cons_zero, List.set_cons_succ]))
  clear hS
  refine wpPl_goL rfl rfl fun K' hK => ?_
  go_simp
  refine (HIDI.out _).mono ?_
  rintro e1 W25v12 ⟨rfl, hb1⟩
  replace HS := Lib.hid (HS.out.later hb1)
  clear HIDI
  refine hK _ _ HS.out.two6 ?_
  clear hK K' hb1
  try simp only [Act.put, List.setIfInBounds_toArray, List.set_cons_zero, List.set_cons_succ]
  have hS : (fun w' : World => ((w'.cell? ⟨r11, 0, none⟩ = some (.float .f64 h0) ∧ w'.cell? ⟨r11, 1, none⟩ = some (.float .f64 h1)) ∧ w'.cell? ⟨r10, 0, none⟩ = some (.float .f64 g0) ∧ w'.cell? ⟨r10, 1, none⟩ = some (.float .f64 g1)) ∧ ((w'.cell? ⟨r4, 0, none⟩ = some (.float .f64 p0) ∧ w'.cell? ⟨r4, 1, none⟩ = some (.float .f64 p1)) ∧ w'.cell? ⟨r5, 0, none⟩ = some (.float .f64 q0) ∧ w'.cell? ⟨r5, 1, none⟩ = some (.float .f64 q1)) ∧ (w'.cell? ⟨r8, 0, none⟩ = some (.float .f64 c0) ∧ w'.cell? ⟨r8, 1, none⟩ = some (.float .f64 c1)) ∧ w'.cell? ⟨r9, 0, none⟩ = some (.float .f64 d0) ∧ w'.cell? ⟨r9, 1, none⟩ = some (.float .f64 d1)) W25v12 := HS.out.two6
  repeat (first | (refine wpPl_takeL (v := ?_) rfl rfl (fun _ _ _ h => h) rfl (fun w' hSw => ?_) hS ?_; rotate_left; (focus (go_simp; with_reducible rfl)); simp only [List.setIfInBounds_toArray, List.set_cons_zero, List.set_cons_succ]) | (refine wpPl_skipL rfl rfl (fun _ _ _ h => h) rfl hS ?_; simp only [List.setIfInBounds_toArray, List.set_cons_zero, List.set_cons_succ]))
  clear hS
  refine wpPl_goL rfl rfl fun K' hK => ?_
  go_simp
  refine (HSQ1.out _ (HT.out.below HS.out.2)).mono ?_
  rintro e1 W25v13 ⟨rfl, hb1⟩
  replace HS := Lib.hid (HS.out.later hb1)
  clear HSQ1
  refine hK _ _ HS.out.two6 ?_
  clear hK K' hb1
  try simp only [Act.put, List.setIfInBounds_toArray, List.set_cons_zero, List.set_cons_succ]
  have hS : (fun w' : World => ((w'.cell? ⟨r11, 0, none⟩ = some (.float .f64 h0) ∧ w'.cell? ⟨r11, 1, none⟩ = some (.float .f64 h1)) ∧ w'.cell? ⟨r10, 0, none⟩ = some (.float .f64 g0) ∧ w'.cell? ⟨r10, 1, none⟩ = some (.float .f64 g1)) ∧ ((w'.cell? ⟨r4, 0, none⟩ = some (.float .f64 p0) ∧ w'.cell? ⟨r4, 1, none⟩ = some (.float .f64 p1)) ∧ w'.cell? ⟨r5, 0, none⟩ = some (.float .f64 q0) ∧ w'.cell? ⟨r5, 1, none⟩ = some (.float .f64 q1)) ∧ (w'.cell? ⟨r8, 0, none⟩ = some (.float .f64 c0) ∧ w'.cell? ⟨r8, 1, none⟩ = some (.float .f64 c1)) ∧ w'.cell? ⟨r9, 0, none⟩ = some (.float .f64 d0) ∧ w'.cell? ⟨r9, 1, none⟩ = some (.float .f64 d1)) W25v13 := HS.out.two6
  repeat (first | (refine wpPl_takeL (v := ?_) rfl rfl (fun _ _ _ h => h) rfl (fun w' hSw => ?_) hS ?_; rotate_left; (focus (go_simp; with_reducible rfl)); simp only [List.setIfInBounds_toArray, List.set_cons_zero, List.set_cons_succ]) | (refine wpPl_skipL rfl rfl (fun _ _ _ h => h) rfl hS ?_; simp only [List.setIfInBounds_toArray, List.set_cons_zero, List.set_cons_succ]))
  clear hS
  refine wpPl_goL rfl rfl fun K' hK => ?_
  go_simp
  refine (HSQ2.out _ (HT.out.below HS.out.2)).mono ?_
  rintro e1 W25v14 ⟨rfl, hb1⟩
  replace HS := Lib.hid (HS.out.later hb1)
  clear HSQ2
  refine hK _ _ HS.out.two6 ?_
  clear hK K' hb1
  try simp only [Act.put, List.setIfInBounds_toArray, List.set_cons_zero, List.set_cons_succ]
  have hS : (fun w' : World => ((w'.cell? ⟨r11, 0, none⟩ = some (.float .f64 h0) ∧ w'.cell? ⟨r11, 1, none⟩ = some (.float .f64 h1)) ∧ w'.cell? ⟨r10, 0, none⟩ = some (.float .f64 g0) ∧ w'.cell? ⟨r10, 1, none⟩ = some (.float .f64 g1)) ∧ ((w'.cell? ⟨r4, 0, none⟩ = some (.float .f64 p0) ∧ w'.cell? ⟨r4, 1, none⟩ = some (.float .f64 p1)) ∧ w'.cell? ⟨r5, 0, none⟩ = some (.float .f64 q0) ∧ w'.cell? ⟨r5, 1, none⟩ = some (.float .f64 q1)) ∧ (w'.cell? ⟨r8, 0, none⟩ = some (.float .f64 c0) ∧ w'.cell? ⟨r8, 1, none⟩ = some (.float .f64 c1)) ∧ w'.cell? ⟨r9, 0, none⟩ = some (.float .f64 d0) ∧ w'.cell? ⟨r9, 1, none⟩ = some (.float .f64 d1)) W25v14 := HS.out.two6
  repeat (first | (refine wpPl_takeL (v := ?_) rfl rfl (fun _ _ _ h => h) rfl (fun w' hSw => ?_) hS ?_; rotate_left; (focus (go_simp; with_reducible rfl)); simp only [List.setIfInBounds_toArray, List.set_cons_zero, List.set_cons_succ]) | (refine wpPl_skipL rfl rfl (fun _ _ _ h => h) rfl hS ?_; simp only [List.setIfInBounds_toArray, List.set_cons_zero, List.set_cons_succ]))
  clear hS
  refine wpPl_goL rfl rfl fun K' hK => ?_
  go_simp
  refine (HISQ.out _).mono ?_
  rintro e1 W25v15 ⟨rfl, hb1⟩
  replace HS := Lib.hid (HS.out.later hb1)
  clear HISQ
  refine hK _ _ HS.out.two6 ?_
  clear hK K' hb1
  try simp only [Act.put, List.setIfInBounds_toArray, List.set_cons_zero, List.set_cons_succ]
  have hS : (fun w' : World => ((w'.cell? ⟨r11, 0, none⟩ = some (.float .f64 h0) ∧ w'.cell? ⟨r11, 1, none⟩ = some (.float .f64 h1)) ∧ w'.cell? ⟨r10, 0, none⟩ = some (.float .f64 g0) ∧ w'.cell? ⟨r10, 1, none⟩ = some (.float .f64 g1)) ∧ ((w'.cell? ⟨r4, 0, none⟩ = some (.float .f64 p0) ∧ w'.cell? ⟨r4, 1, none⟩ = some (.float .f64 p1)) ∧ w'.cell? ⟨r5, 0, none⟩ = some (.float .f64 q0) ∧ w'.cell? ⟨r5, 1, none⟩ = some (.float .f64 q1)) ∧ (w'.cell? ⟨r8, 0, none⟩ = some (.float .f64 c0) ∧ w'.cell? ⟨r8, 1, none⟩ = some (.float .f64 c1)) ∧ w'.cell? ⟨r9, 0, none⟩ = some (.float .f64 d0) ∧ w'.cell? ⟨r9, 1, none⟩ = some (.float .f64 d1)) W25v15 := HS.out.two6
  repeat (first | (refine wpPl_takeL (v := ?_) rfl rfl (fun _ _ _ h => h) rfl (fun w' hSw => ?_) hS ?_; rotate_left; (focus (go_simp; with_reducible rfl)); simp only [List.setIfInBounds_toArray, List.set_cons_zero, List.set_cons_succ]) | (refine wpPl_skipL rfl rfl (fun _ _ _ h => h) rfl hS ?_; simp only [List.setIfInBounds_toArray, List.set_cons_zero, List.set_cons_succ]))
  clear hS
  refine wpPl_goL rfl rfl fun K' hK => ?_
  go_simp
  refine (HHU1.out _).mono ?_
  rintro e1 W25v16 ⟨rfl, hb1⟩
  replace HS := Lib.hid (HS.out.later hb1)
  clear HHU1
  refine hK _ _ HS.out.two6 ?_
  clear hK K' hb1
  try simp only [Act.put, List.setIfInBounds_toArray, List.set_cons_zero, List.set_cons_succ]
  have hS : (fun w' : World => ((w'.cell? ⟨r11, 0, none⟩ = some (.float .f64 h0) ∧ w'.cell? ⟨r11, 1, none⟩ = some (.float .f64 h1)) ∧ w'.cell? ⟨r10, 0, none⟩ = some (.float .f64 g0) ∧ w'.cell? ⟨r10, 1, none⟩ = some (.float .f64 g1)) ∧ ((w'.cell? ⟨r4, 0, none⟩ = some (.float .f64 p0) ∧ w'.cell? ⟨r4, 1, none⟩ = some (.float .f64 p1)) ∧ w'.cell? ⟨r5, 0, none⟩ = some (.float .f64 q0) ∧ w'.cell? ⟨r5, 1, none⟩ = some (.float .f64 q1)) ∧ (w'.cell? ⟨r8, 0, none⟩ = some (.float .f64 c0) ∧ w'.cell? ⟨r8, 1, none⟩ = some (.float .f64 c1)) ∧ w'.cell? ⟨r9, 0, none⟩ = some (.float .f64 d0) ∧ w'.cell? ⟨r9, 1, none⟩ = some (.float .f64 d1)) W25v16 := HS.out.two6
  repeat (first | (refine wpPl_takeL (v := ?_) rfl rfl (fun _ _ _ h => h) rfl (fun w' hSw => ?_) hS ?_; rotate_left; (focus (go_simp; with_reducible rfl)); simp only [List.setIfInBounds_toArray, List.set_cons_zero, List.set_cons_succ]) | (refine wpPl_skipL rfl rfl (fun _ _ _ h => h) rfl hS ?_; simp only [List.setIfInBounds_toArray, List.set_cons_zero, List.set_cons_succ]))
  clear hS
  refine wpPl_goL rfl rfl fun K' hK => ?_
  go_simp
  refine (HHU2.out _).mono ?_
  rintro e1 W25v17 ⟨rfl, hb1⟩
  replace HS := Lib.hid (HS.out.later hb1)
  clear HHU2
  refine hK _ _ HS.out.two6 ?_
  clear hK K' hb1
  try simp only [Act.put, List.setIfInBounds_toArray, List.set_cons_zero, List.set_cons_succ]
  have hS : (fun w' : World => ((w'.cell? ⟨r11, 0, none⟩ = some (.float .f64 h0) ∧ w'.cell? ⟨r11, 1, none⟩ = some (.float .f64 h1)) ∧ w'.cell? ⟨r10, 0, none⟩ = some (.float .f64 g0) ∧ w'.cell? ⟨r10, 1, none⟩ = some (.float .f64 g1)) ∧ ((w'.cell? ⟨r4, 0, none⟩ = some (.float .f64 p0) ∧ w'.cell? ⟨r4, 1, none⟩ = some (.float .f64 p1)) ∧ w'.cell? ⟨r5, 0, none⟩ = some (.float .f64 q0) ∧ w'.cell? ⟨r5, 1, none⟩ = some (.float .f64 q1)) ∧ (w'.cell? ⟨r8, 0, none⟩ = some (.float .f64 c0) ∧ w'.cell? ⟨r8, 1, none⟩ = some (.float .f64 c1)) ∧ w'.cell? ⟨r9, 0, none⟩ = some (.float .f64 d0) ∧ w'.cell? ⟨r9, 1, none⟩ = some (.float .f64 d1)) W25v17 := HS.out.two6
  repeat (first | (refine wpPl_takeL (v := ?_) rfl rfl (fun _ _ _ h => h) rfl (fun w' hSw => ?_) hS ?_; rotate_left; (focus (go_simp; with_reducible rfl)); simp only [List.setIfInBounds_toArray, List.set_cons_zero, List.set_cons_succ]) | (refine wpPl_skipL rfl rfl (fun _ _ _ h => h) rfl hS ?_; simp only [List.setIfInBounds_toArray, List.set_cons_zero, List.set_cons_succ]))
  clear hS
  refine wpPl_goL rfl rfl fun K' hK => ?_
  go_simp
  refine (HIHU.out _).mono ?_
  rintro e1 W25v18 ⟨rfl, hb1⟩
  replace HS := Lib.hid (HS.out.later hb1)
  clear HIHU
  refine hK _ _ HS.out.two6 ?_
  clear hK K' hb1
  try simp only [Act.put, List.setIfInBounds_toArray, List.set_cons_zero, List.set_cons_succ]
  have hS : (fun w' : World => ((w'.cell? ⟨r11, 0, none⟩ = some (.float .f64 h0) ∧ w'.cell? ⟨r11, 1, none⟩ = some (.float .f64 h1)) ∧ w'.cell? ⟨r10, 0, none⟩ = some (.float .f64 g0) ∧ w'.cell? ⟨r10, 1, none⟩ = some (.float .f64 g1)) ∧ ((w'.cell? ⟨r4, 0, none⟩ = some (.float .f64 p0) ∧ w'.cell? ⟨r4, 1, none⟩ = some (.float .f64 p1)) ∧ w'.cell? ⟨r5, 0, none⟩ = some (.float .f64 q0) ∧ w'.cell? ⟨r5, 1, none⟩ = some (.float .f64 q1)) ∧ (w'.cell? ⟨r8, 0, none⟩ = some (.float .f64 c0) ∧ w'.cell? ⟨r8, 1, none⟩ = some (.float .f64 c1)) ∧ w'.cell? ⟨r9, 0, none⟩ = some (.float .f64 d0) ∧ w'.cell? ⟨r9, 1, none⟩ = some (.float .f64 d1)) W25v18 := HS.out.two6
  repeat (first | (refine wpPl_takeL (v := ?_) rfl rfl (fun _ _ _ h => h) rfl (fun w' hSw => ?_) hS ?_; rotate_left; (focus (go_simp; with_reducible rfl)); simp only [List.setIfInBounds_toArray, List.set_cons_zero, List.set_cons_succ]) | (refine wpPl_skipL rfl rfl (fun _ _ _ h => h) rfl hS ?_; simp only [List.setIfInBounds_toArray, List.set_cons_zero, List.set_cons_succ]))
  clear hS
  refine wpPl_goL rfl rfl fun K' hK => ?_
  go_simp
  refine (HME1.out _).mono ?_
  rintro e1 W25v19 ⟨rfl, hb1⟩
  replace HS := Lib.hid (HS.out.later hb1)
  clear HME1
  refine hK _ _ HS.out.two6 ?_
  clear hK K' hb1
  try simp only [Act.put, List.setIfInBounds_toArray, List.set_cons_zero, List.set_cons_succ]
  have hS : (fun w' : World => ((w'.cell? ⟨r11, 0, none⟩ = some (.float .f64 h0) ∧ w'.cell? ⟨r11, 1, none⟩ = some (.float .f64 h1)) ∧ w'.cell? ⟨r10, 0, none⟩ = some (.float .f64 g0) ∧ w'.cell? ⟨r10, 1, none⟩ = some (.float .f64 g1)) ∧ ((w'.cell? ⟨r4, 0, none⟩ = some (.float .f64 p0) ∧ w'.cell? ⟨r4, 1, none⟩ = some (.float .f64 p1)) ∧ w'.cell? ⟨r5, 0, none⟩ = some (.float .f64 q0) ∧ w'.cell? ⟨r5, 1, none⟩ = some (.float .f64 q1)) ∧ (w'.cell? ⟨r8, 0, none⟩ = some (.float .f64 c0) ∧ w'.cell? ⟨r8, 1, none⟩ = some (.float .f64 c1)) ∧ w'.cell? ⟨r9, 0, none⟩ = some (.float .f64 d0) ∧ w'.cell? ⟨r9, 1, none⟩ = some (.float .f64 d1)) W25v19 := HS.out.two6
  repeat (first | (refine wpPl_takeL (v := ?_) rfl rfl (fun _ _ _ h => h) rfl (fun w' hSw => ?_) hS ?_; rotate_left; (focus (go_simp; with_reducible rfl)); simp only [List.setIfInBounds_toArray, List.set_cons_zero, List.set_cons_succ]) | (refine wpPl_skipL rfl rfl (fun _ _ _ h => h) rfl hS ?_; simp only [List.setIfInBounds_toArray, List.set_cons_zero, List.set_cons_succ]))
  clear hS
  refine wpPl_goL rfl rfl fun K' hK => ?_
  go_simp
  refine (HME2.out _).mono ?_
  rintro e1 W25v20 ⟨rfl, hb1⟩
  replace HS := Lib.hid (HS.out.later hb1)
  clear HME2
  refine hK _ _ HS.out.two6 ?_
  clear hK K' hb1
  try simp only [Act.put, List.setIfInBounds_toArray, List.set_cons_zero, List.set_cons_succ]
  have hS : (fun w' : World => ((w'.cell? ⟨r11, 0, none⟩ = some (.float .f64 h0) ∧ w'.cell? ⟨r11, 1, none⟩ = some (.float .f64 h1)) ∧ w'.cell? ⟨r10, 0, none⟩ = some (.float .f64 g0) ∧ w'.cell? ⟨r10, 1, none⟩ = some (.float .f64 g1)) ∧ ((w'.cell? ⟨r4, 0, none⟩ = some (.float .f64 p0) ∧ w'.cell? ⟨r4, 1, none⟩ = some (.float .f64 p1)) ∧ w'.cell? ⟨r5, 0, none⟩ = some (.float .f64 q0) ∧ w'.cell? ⟨r5, 1, none⟩ = some (.float .f64 q1)) ∧ (w'.cell? ⟨r8, 0, none⟩ = some (.float .f64 c0) ∧ w'.cell? ⟨r8, 1, none⟩ = some (.float .f64 c1)) ∧ w'.cell? ⟨r9, 0, none⟩ = some (.float .f64 d0) ∧ w'.cell? ⟨r9, 1, none⟩ = some (.float .f64 d1)) W25v20 := HS.out.two6
  repeat (first | (refine wpPl_takeL (v := ?_) rfl rfl (fun _ _ _ h => h) rfl (fun w' hSw => ?_) hS ?_; rotate_left; (focus (go_simp; with_reducible rfl)); simp only [List.setIfInBounds_toArray, List.set_cons_zero, List.set_cons_succ]) | (refine wpPl_skipL rfl rfl (fun _ _ _ h => h) rfl hS ?_; simp only [List.setIfInBounds_toArray, List.set_cons_zero, List.set_cons_succ]))
  clear hS
  refine wpPl_goL rfl rfl fun K' hK => ?_
  go_simp
  refine (HIME.out _).mono ?_
  rintro e1 W25v21 ⟨rfl, hb1⟩
  replace HS := Lib.hid (HS.out.later hb1)
  clear HIME
  refine hK _ _ HS.out.two6 ?_
  clear hK K' hb1
  try simp only [Act.put, List.setIfInBounds_toArray, List.set_cons_zero, List.set_cons_succ]
  have hS : (fun w' : World => ((w'.cell? ⟨r11, 0, none⟩ = some (.float .f64 h0) ∧ w'.cell? ⟨r11, 1, none⟩ = some (.float .f64 h1)) ∧ w'.cell? ⟨r10, 0, none⟩ = some (.float .f64 g0) ∧ w'.cell? ⟨r10, 1, none⟩ = some (.float .f64 g1)) ∧ ((w'.cell? ⟨r4, 0, none⟩ = some (.float .f64 p0) ∧ w'.cell? ⟨r4, 1, none⟩ = some (.float .f64 p1)) ∧ w'.cell? ⟨r5, 0, none⟩ = some (.float .f64 q0) ∧ w'.cell? ⟨r5, 1, none⟩ = some (.float .f64 q1)) ∧ (w'.cell? ⟨r8, 0, none⟩ = some (.float .f64 c0) ∧ w'.cell? ⟨r8, 1, none⟩ = some (.float .f64 c1)) ∧ w'.cell? ⟨r9, 0, none⟩ = some (.float .f64 d0) ∧ w'.cell? ⟨r9, 1, none⟩ = some (.float .f64 d1)) W25v21 := HS.out.two6
  repeat (first | (refine wpPl_takeL (v := ?_) rfl rfl (fun _ _ _ h => h) rfl (fun w' hSw => ?_) hS ?_; rotate_left; (focus (go_simp; with_reducible rfl)); simp only [List.setIfInBounds_toArray, List.set_cons_zero, List.set_cons_succ]) | (refine wpPl_skipL rfl rfl (fun _ _ _ h => h) rfl hS ?_; simp only [List.setIfInBounds_toArray, List.set_cons_zero, List.set_cons_succ]))
  clear hS
  refine wpPl_goL rfl rfl fun K' hK => ?_
  go_simp
  refine (HAB1.out _).mono ?_
  rintro e1 W25v22 ⟨rfl, hb1⟩
  replace HS := Lib.hid (HS.out.later hb1)
  clear HAB1
  refine hK _ _ HS.out.two6 ?_
  clear hK K' hb1
  try simp only [Act.put, List.setIfInBounds_toArray, List.set_cons_zero, List.set_cons_succ]
  have hS : (fun w' : World => ((w'.cell? ⟨r11, 0, none⟩ = some (.float .f64 h0) ∧ w'.cell? ⟨r11, 1, none⟩ = some (.float .f64 h1)) ∧ w'.cell? ⟨r10, 0, none⟩ = some (.float .f64 g0) ∧ w'.cell? ⟨r10, 1, none⟩ = some (.float .f64 g1)) ∧ ((w'.cell? ⟨r4, 0, none⟩ = some (.float .f64 p0) ∧ w'.cell? ⟨r4, 1, none⟩ = some (.float .f64 p1)) ∧ w'.cell? ⟨r5, 0, none⟩ = some (.float .f64 q0) ∧ w'.cell? ⟨r5, 1, none⟩ = some (.float .f64 q1)) ∧ (w'.cell? ⟨r8, 0, none⟩ = some (.float .f64 c0) ∧ w'.cell? ⟨r8, 1, none⟩ = some (.float .f64 c1)) ∧ w'.cell? ⟨r9, 0, none⟩ = some (.float .f64 d0) ∧ w'.cell? ⟨r9, 1, none⟩ = some (.float .f64 d1)) W25v22 := HS.out.two6
  repeat (first | (refine wpPl_takeL (v := ?_) rfl rfl (fun _ _ _ h => h) rfl (fun w' hSw => ?_) hS ?_; rotate_left; (focus (go_simp; with_reducible rfl)); simp only [List.setIfInBounds_toArray, List.set_cons_zero, List.set_cons_succ]) | (refine wpPl_skipL rfl rfl (fun _ _ _ h => h) rfl hS ?_; simp only [List.setIfInBounds_toArray, List.set_cons_zero, List.set_cons_succ]))
  clear hS
  refine wpPl_goL rfl rfl fun K' hK => ?_
  go_simp
  refine (HAB2.out _).mono ?_
  rintro e1 W25v23 ⟨rfl, hb1⟩
  replace HS := Lib.hid (HS.out.later hb1)
  clear HAB2
  refine hK _ _ HS.out.two6 ?_
  clear hK K' hb1
  try simp only [Act.put, List.setIfInBounds_toArray, List.set_cons_zero, List.set_cons_succ]
  have hS : (fun w' : World => ((w'.cell? ⟨r11, 0, none⟩ = some (.float .f64 h0) ∧ w'.cell? ⟨r11, 1, none⟩ = some (.float .f64 h1)) ∧ w'.cell? ⟨r10, 0, none⟩ = some (.float .f64 g0) ∧ w'.cell? ⟨r10, 1, none⟩ = some (.float .f64 g1)) ∧ ((w'.cell? ⟨r4, 0, none⟩ = some (.float .f64 p0) ∧ w'.cell? ⟨r4, 1, none⟩ = some (.float .f64 p1)) ∧ w'.cell? ⟨r5, 0, none⟩ = some (.float .f64 q0) ∧ w'.cell? ⟨r5, 1, none⟩ = some (.float .f64 q1)) ∧ (w'.cell? ⟨r8, 0, none⟩ = some (.float .f64 c0) ∧ w'.cell? ⟨r8, 1, none⟩ = some (.float .f64 c1)) ∧ w'.cell? ⟨r9, 0, none⟩ = some (.float .f64 d0) ∧ w'.cell? ⟨r9, 1, none⟩ = some (.float .f64 d1)) W25v23 := HS.out.two6
  repeat (first | (refine wpPl_takeL (v := ?_) rfl rfl (fun _ _ _ h => h) rfl (fun w' hSw => ?_) hS ?_; rotate_left; (focus (go_simp; with_reducible rfl)); simp only [List.setIfInBounds_toArray, List.set_cons_zero, List.set_cons_succ]) | (refine wpPl_skipL rfl rfl (fun _ _ _ h => h) rfl hS ?_; simp only [List.setIfInBounds_toArray, List.set_cons_zero, List.set_cons_succ]))
  clear hS
  refine wpPl_goL rfl rfl fun K' hK => ?_
  go_simp
  refine (HIAB.out _).mono ?_
  rintro e1 W25v24 ⟨rfl, hb1⟩
  replace HS := Lib.hid (HS.out.later hb1)
  clear HIAB
  refine hK _ _ HS.out.two6 ?_
  clear hK K' hb1
  try simp only [Act.put, List.setIfInBounds_toArray, List.set_cons_zero, List.set_cons_succ]
  have hS : (fun w' : World => ((w'.cell? ⟨r11, 0, none⟩ = some (.float .f64 h0) ∧ w'.cell? ⟨r11, 1, none⟩ = some (.float .f64 h1)) ∧ w'.cell? ⟨r10, 0, none⟩ = some (.float .f64 g0) ∧ w'.cell? ⟨r10, 1, none⟩ = some (.float .f64 g1)) ∧ ((w'.cell? ⟨r4, 0, none⟩ = some (.float .f64 p0) ∧ w'.cell? ⟨r4, 1, none⟩ = some (.float .f64 p1)) ∧ w'.cell? ⟨r5, 0, none⟩ = some (.float .f64 q0) ∧ w'.cell? ⟨r5, 1, none⟩ = some (.float .f64 q1)) ∧ (w'.cell? ⟨r8, 0, none⟩ = some (.float .f64 c0) ∧ w'.cell? ⟨r8, 1, none⟩ = some (.float .f64 c1)) ∧ w'.cell? ⟨r9, 0, none⟩ = some (.float .f64 d0) ∧ w'.cell? ⟨r9, 1, none⟩ = some (.float .f64 d1)) W25v24 := HS.out.two6
  repeat (first | (refine wpPl_takeL (v := ?_) rfl rfl (fun _ _ _ h => h) rfl (fun w' hSw => ?_) hS ?_; rotate_left; (focus (go_simp; with_reducible rfl)); simp only [List.setIfInBounds_toArray, List.set_cons_zero, List.set_cons_succ]) | (refine wpPl_skipL rfl rfl (fun _ _ _ h => h) rfl hS ?_; simp only [List.setIfInBounds_toArray, List.set_cons_zero, List.set_cons_succ]))
  clear hS
  refine wpPl_goL rfl rfl fun K' hK => ?_
  go_simp
  refine (HNE1.out _).mono ?_
  rintro e1 W25v25 ⟨rfl, hb1⟩
  replace HS := Lib.hid (HS.out.later hb1)
  clear HNE1
  refine hK _ _ HS.out.two6 ?_
  clear hK K' hb1
  try simp only [Act.put, List.setIfInBounds_toArray, List.set_cons_zero, List.set_cons_succ]
  have hS : (fun w' : World => ((w'.cell? ⟨r11, 0, none⟩ = some (.float .f64 h0) ∧ w'.cell? ⟨r11, 1, none⟩ = some (.float .f64 h1)) ∧ w'.cell? ⟨r10, 0, none⟩ = some (.float .f64 g0) ∧ w'.cell? ⟨r10, 1, none⟩ = some (.float .f64 g1)) ∧ ((w'.cell? ⟨r4, 0, none⟩ = some (.float .f64 p0) ∧ w'.cell? ⟨r4, 1, none⟩ = some (.float .f64 p1)) ∧ w'.cell? ⟨r5, 0, none⟩ = some (.float .f64 q0) ∧ w'.cell? ⟨r5, 1, none⟩ = some (.float .f64 q1)) ∧ (w'.cell? ⟨r8, 0, none⟩ = some (.float .f64 c0) ∧ w'.cell? ⟨r8, 1, none⟩ = some (.float .f64 c1)) ∧ w'.cell? ⟨r9, 0, none⟩ = some (.float .f64 d0) ∧ w'.cell? ⟨r9, 1, none⟩ = some (.float .f64 d1)) W25v25 := HS.out.two6
  repeat (first | (refine wpPl_takeL (v := ?_) rfl rfl (fun _ _ _ h => h) rfl (fun w' hSw => ?_) hS ?_; rotate_left; (focus (go_simp; with_reducible rfl)); simp only [List.setIfInBounds_toArray, List.set_cons_zero, List.set_cons_succ]) | (refine wpPl_skipL rfl rfl (fun _ _ _ h => h) rfl hS ?_; simp only [List.setIfInBounds_toArray, List.set_cons_zero, List.set_cons_succ]))
  clear hS
  refine wpPl_goL rfl rfl fun K' hK => ?_
  go_simp
  refine (HNE2.out _).mono ?_
  rintro e1 W25v26 ⟨rfl, hb1⟩
  replace HS := Lib.hid (HS.out.later hb1)
  clear HNE2
  refine hK _ _ HS.out.two6 ?_
  clear hK K' hb1
  try simp only [Act.put, List.setIfInBounds_toArray, List.set_cons_zero, List.set_cons_succ]
  have hS : (fun w' : World => ((w'.cell? ⟨r11, 0, none⟩ = some (.float .f64 h0) ∧ w'.cell? ⟨r11, 1, none⟩ = some (.float .f64 h1)) ∧ w'.cell? ⟨r10, 0, none⟩ = some (.float .f64 g0) ∧ w'.cell? ⟨r10, 1, none⟩ = some (.float .f64 g1)) ∧ ((w'.cell? ⟨r4, 0, none⟩ = some (.float .f64 p0) ∧ w'.cell? ⟨r4, 1, none⟩ = some (.float .f64 p1)) ∧ w'.cell? ⟨r5, 0, none⟩ = some (.float .f64 q0) ∧ w'.cell? ⟨r5, 1, none⟩ = some (.float .f64 q1)) ∧ (w'.cell? ⟨r8, 0, none⟩ = some (.float .f64 c0) ∧ w'.cell? ⟨r8, 1, none⟩ = some (.float .f64 c1)) ∧ w'.cell? ⟨r9, 0, none⟩ = some (.float .f64 d0) ∧ w'.cell? ⟨r9, 1, none⟩ = some (.float .f64 d1)) W25v26 := HS.out.two6
  repeat (first | (refine wpPl_takeL (v := ?_) rfl rfl (fun _ _ _ h => h) rfl (fun w' hSw => ?_) hS ?_; rotate_left; (focus (go_simp; with_reducible rfl)); simp only [List.setIfInBounds_toArray, List.set_cons_zero, List.set_cons_succ]) | (refine wpPl_skipL rfl rfl (fun _ _ _ h => h) rfl hS ?_; simp only [List.setIfInBounds_toArray, List.set_cons_zero, List.set_cons_succ]))
  clear hS
  refine wpPl_goL rfl rfl fun K' hK => ?_
  go_simp
  refine (HINE.out _).mono ?_
  rintro e1 W25v27 ⟨rfl, hb1⟩
  replace HS := Lib.hid (HS.out.later hb1)
  clear HINE
  refine hK _ _ HS.out.two6 ?_
  clear hK K' hb1
  try simp only [Act.put, List.setIfInBounds_toArray, List.set_cons_zero, List.set_cons_succ]
  have hS : (fun w' : World => ((w'.cell? ⟨r11, 0, none⟩ = some (.float .f64 h0) ∧ w'.cell? ⟨r11, 1, none⟩ = some (.float .f64 h1)) ∧ w'.cell? ⟨r10, 0, none⟩ = some (.float .f64 g0) ∧ w'.cell? ⟨r10, 1, none⟩ = some (.float .f64 g1)) ∧ ((w'.cell? ⟨r4, 0, none⟩ = some (.float .f64 p0) ∧ w'.cell? ⟨r4, 1, none⟩ = some (.float .f64 p1)) ∧ w'.cell? ⟨r5, 0, none⟩ = some (.float .f64 q0) ∧ w'.cell? ⟨r5, 1, none⟩ = some (.float .f64 q1)) ∧ (w'.cell? ⟨r8, 0, none⟩ = some (.float .f64 c0) ∧ w'.cell? ⟨r8, 1, none⟩ = some (.float .f64 c1)) ∧ w'.cell? ⟨r9, 0, none⟩ = some (.float .f64 d0) ∧ w'.cell? ⟨r9, 1, none⟩ = some (.float .f64 d1)) W25v27 := HS.out.two6
  repeat (first | (refine wpPl_takeL (v := ?_) rfl rfl (fun _ _ _ h => h) rfl (fun w' hSw => ?_) hS ?_; rotate_left; (focus (go_simp; with_reducible rfl)); simp only [List.setIfInBounds_toArray, List.set_cons_zero, List.set_cons_succ]) | (refine wpPl_skipL rfl rfl (fun _ _ _ h => h) rfl hS ?_; simp only [List.setIfInBounds_toArray, List.set_cons_zero, List.set_cons_succ]))
  clear hS
  refine wpPl_nil ?_
  simp only [List.append_eq, List.cons_append, List.nil_append, List.drop_succ_cons, List.drop_zero]
  obtain ⟨⟨⟨g30, g31⟩, g32, g33⟩, ⟨⟨g20, g21⟩, g22, g23⟩, ⟨g24, g25⟩, g26, g27⟩ := HS.out.two6
  go_wp2_with fail
  refine (HPI.out _).mono ?_
  rintro e58 w58 ⟨rfl, hb58⟩
  replace HS := Lib.hid (HS.out.later hb58)
  clear hb58
  clear g20 g21 g22 g23 g24 g25 g26 g27 g30 g31 g32 g33
  obtain ⟨⟨⟨g30, g31⟩, g32, g33⟩, ⟨⟨g20, g21⟩, g22, g23⟩, ⟨g24, g25⟩, g26, g27⟩ := HS.out.two6
  go_wp2
  go_ret
  exact ⟨rfl, HS.out.2⟩

end Go.Proofs.YtlhebpoiakpkoaaGreatDoor
