/- Walks: what is cut off a whole number, by a mode. Printed by wip/gen/dyb.py. -/
import Derived.Test.YtfmecpembnmnkaaGreatDoorGJ
namespace Go.Proofs.YtfmecpembnmnkaaGreatDoor
section
open Go.RowKit
def upB (N d : Nat) (neg : Bool) (mode : Int) : Bool :=
 if N % 2 ^ d = 0 then false
 else if mode = 3 then !neg
 else if mode = 4 then neg
 else if mode = 1 then decide (2 ^ (d - 1) ≤ N % 2 ^ d)
 else if mode = 0 then decide (2 ^ (d - 1) < N % 2 ^ d) || (decide (N % 2 ^ d = 2 ^ (d - 1)) && decide (N / 2 ^ d % 2 = 1))
 else false
def cutZ (N : Nat) (down : Int) (neg : Bool) (mode : Int) : Nat :=
 if down ≤ 0 then N * 2 ^ (-down).toNat else N / 2 ^ down.toNat + (if upB N down.toNat neg mode then 1 else 0)
theorem up_z {N d : Nat} {neg : Bool} {mode : Int} (h : N % 2 ^ d = 0) : upB N d neg mode = false := by unfold upB; rw [if_pos h]
theorem up_0 {N d : Nat} {neg : Bool} (h : ¬ N % 2 ^ d = 0) : upB N d neg 0 = (decide (2 ^ (d - 1) < N % 2 ^ d) || (decide (N % 2 ^ d = 2 ^ (d - 1)) && decide (N / 2 ^ d % 2 = 1))) := by unfold upB; rw [if_neg h]; rfl
theorem up_1 {N d : Nat} {neg : Bool} (h : ¬ N % 2 ^ d = 0) : upB N d neg 1 = decide (2 ^ (d - 1) ≤ N % 2 ^ d) := by unfold upB; rw [if_neg h]; rfl
theorem up_2 {N d : Nat} {neg : Bool} (h : ¬ N % 2 ^ d = 0) : upB N d neg 2 = false := by unfold upB; rw [if_neg h]; rfl
theorem up_3 {N d : Nat} {neg : Bool} (h : ¬ N % 2 ^ d = 0) : upB N d neg 3 = !neg := by unfold upB; rw [if_neg h]; rfl
theorem up_4 {N d : Nat} {neg : Bool} (h : ¬ N % 2 ^ d = 0) : upB N d neg 4 = neg := by unfold upB; rw [if_neg h]; rfl
theorem cut_fin {N d : Nat} {neg : Bool} {mode cz : Int} {q : Nat} (h : ((N / 2 ^ d + (if upB N d neg mode then 1 else 0) : Nat) : Int) = cz) (hq : N / 2 ^ d = q) : (upB N d neg mode = false → cz = q) ∧ (upB N d neg mode = true → cz = (q : Int) + 1) := by
 subst h; subst hq
 exact ⟨fun h => by rw [h]; simp, fun h => by rw [h]; simp⟩
theorem rest_eq (N d : Nat) : (N : Int) - (N : Int) / 2 ^ d * 2 ^ d = ((N % 2 ^ d : Nat) : Int) := by
 have h := Nat.div_add_mod N (2 ^ d)
 have e : (N : Int) / 2 ^ d * 2 ^ d = ((2 ^ d * (N / 2 ^ d) : Nat) : Int) := by simp [Int.mul_comm]
 rw [e]; omega
theorem pow_half (d : Nat) : (1 : Int) * 2 ^ d = ((2 ^ d : Nat) : Int) := by simp
theorem cmpZ_cases (a b : Nat) : (cmpZ (a : Int) b = 1 ∧ b < a) ∨ (cmpZ (a : Int) b = 0 ∧ a = b) ∨ (cmpZ (a : Int) b = -1 ∧ a < b) := by
 unfold cmpZ
 by_cases h1 : (a : Int) < b
 ·rw [if_pos h1]; omega
 ·rw [if_neg h1]
  by_cases h2 : (b : Int) < a
  ·rw [if_pos h2]; omega
  ·rw [if_neg h2]; omega
theorem bl_div_le (N k : Nat) : bl (N / 2 ^ k) ≤ bl N := bl_mono (Nat.div_le_self _ _)
theorem bl_pow (d : Nat) : bl (2 ^ d) ≤ d + 1 := bl_le_of_lt (by rw [Nat.pow_succ]; have := Nat.two_pow_pos d; omega)
def Own1 (w0 W : World) (b : Nat) (z : Int) : Prop := IntAt W b 0 z ∧ w0.heap.size ≤ b
theorem Own1.later {w0 W V : World} {b : Nat} {z : Int} (h : Own1 w0 W b z) (hb : Below W.heap.size W V) : Own1 w0 V b z := ⟨h.1.below hb, h.2⟩
theorem Own1.mod {w0 W V : World} {b c : Nat} {z y : Int} (h : Own1 w0 W b z) (hm : Mod c 0 W V) (hne : b ≠ c) (hc : IntAt W c 0 y) : Own1 w0 V b z := ⟨h.1.mod hm (.inl hne) hc.1.2.1, h.2⟩
theorem drewN_below (w : World) (n : Nat) : Below w.heap.size w (w.drewN n) := ⟨rfl, rfl, rfl, Nat.le_refl _, fun _ _ => rfl⟩
set_option maxRecDepth 100000 in
set_option maxHeartbeats 400000 in
theorem cut_shl (b N : Nat) (down : Int) (neg : Bool) (mode : Int) (w : World) (hx : IntAt w b 0 (N : Int)) (hl : bl N ≤ 34359738368) (h1 : down ≤ 0) (h2 : -1099511627776 ≤ down) :
  Calls Tryz.prog 258 #[.pointer (some ⟨b, 0, none⟩), .int .i64 down, .bool neg, .int .i64 mode] w (News .u64 64 (cutZ N down neg mode : Nat) w) := by
 have HX := Lib.hid hx
 have HL := Lib.hid hl
 have HN : Hid (-down = ((-down).toNat : Int)) := Lib.hid (by omega)
 have HN2 : Hid ((-down).toNat ≤ 1099511627776) := Lib.hid (by omega)
 unfold cutZ
 rw [if_pos h1]
 generalize (-down).toNat = n at *
 have HE : Hid ((N : Int) * 2 ^ n = ((N * 2 ^ n : Nat) : Int)) := Lib.hid (by simp)
 clear hx hl
 have HZ := Lib.hid (IntK.zero (k := .u64) (s := 64) w _ objT_int)
 go_enter Tryz.func258, Tryz.ntmps258
 go_wp2_with fail
 refine (Lsh_at _ 0 _ 0 n _ N _ HZ.out.1 (HX.out.below (below1 _ _)) (by rw [Int.natAbs_natCast]; exact ln_of_bl (Nat.le_trans HL.out (by decide))) HN2.out HN.out).mono ?_
 rintro e2 w2 ⟨rfl, hi2, hm2⟩
 rw [HE.out] at hi2
 have HI := Lib.hid hi2
 have HB := Lib.hid (hm2.below (below1 _ _) (Nat.le_refl _) (below1 _ _).size)
 clear hi2 hm2
 go_wp2
 go_ret
 exact ⟨_, rfl, Nat.le_refl _, HI.out, HB.out⟩
set_option maxRecDepth 100000 in
set_option maxHeartbeats 4000000 in
theorem cut_shr (b N d : Nat) (neg : Bool) (mode : Int) (w : World) (hx : IntAt w b 0 (N : Int)) (hl : bl N ≤ 34359738368) (h1 : 0 < d) (h2 : d ≤ 17179869184) (hmode : mode = 0 ∨ mode = 1 ∨ mode = 2 ∨ mode = 3 ∨ mode = 4) :
  Calls Tryz.prog 258 #[.pointer (some ⟨b, 0, none⟩), .int .i64 d, .bool neg, .int .i64 mode] w (News .u64 64 ((N / 2 ^ d + (if upB N d neg mode then 1 else 0) : Nat) : Int) w) := by
 have HX := Lib.hid hx
 have HL := Lib.hid hl
 have HCC := Lib.hid (cmpZ_cases (N % 2 ^ d) (2 ^ (d - 1)))
 obtain ⟨cz, hcz⟩ : ∃ cz : Int, ((N / 2 ^ d + (if upB N d neg mode then 1 else 0) : Nat) : Int) = cz := ⟨_, rfl⟩
 rw [hcz]
 obtain ⟨q, hq⟩ : ∃ q, N / 2 ^ d = q := ⟨_, rfl⟩
 obtain ⟨r, hr⟩ : ∃ r, N % 2 ^ d = r := ⟨_, rfl⟩
 obtain ⟨P, hP⟩ : ∃ P, 2 ^ (d - 1) = P := ⟨_, rfl⟩
 have HCZ := Lib.hid (cut_fin hcz hq)
 have HRQ := Lib.hid (And.intro hr (And.intro hq hP))
 have HPB : Hid (bl P ≤ 34359738368) := Lib.hid (by rw [← hP]; exact Nat.le_trans (bl_pow _) (by omega))
 have HRB : Hid (bl r ≤ 34359738368) := Lib.hid (by rw [← hr]; exact Nat.le_trans (bl_mono (Nat.mod_le _ _)) hl)
 have HRE := Lib.hid (rest_eq N d)
 have HPH := Lib.hid (pow_half (d - 1))
 have HDQ : Hid ((N : Int) / 2 ^ d = ((N / 2 ^ d : Nat) : Int)) := Lib.hid (by simp)
 have HLQ : Hid (bl (N / 2 ^ d) ≤ 34359738368) := Lib.hid (Nat.le_trans (bl_div_le _ _) hl)
 have HDM : Hid ((d : Int) - 1 = ((d - 1 : Nat) : Int)) := Lib.hid (by omega)
 rw [hr, hP] at HCC
 rw [hr] at HRE
 rw [hP] at HPH
 rw [hq] at HDQ HLQ
 rw [HDQ.out] at HRE
 clear hx hl hcz hq hr hP
 have HZ := Lib.hid (IntK.zero (k := .u64) (s := 64) w _ objT_int)
 go_enter Tryz.func258, Tryz.ntmps258
 go_wp2_with fail
 refine (Rsh_at _ 0 _ 0 d _ N _ HZ.out.1 (HX.out.below (below1 _ _)) (by rw [Int.natAbs_natCast]; exact ln_of_bl (Nat.le_trans HL.out (by decide))) (by omega) rfl).mono ?_
 rintro e1 w1 ⟨rfl, hi1, hm1⟩
 have HB1 := Lib.hid (hm1.below (below1 _ _) (Nat.le_refl _) (below1 _ _).size)
 rw [HDQ.out] at hi1
 have HQ1 : Hid (Own1 w w1 w.heap.size (q : Int)) := Lib.hid ⟨hi1, Nat.le_refl _⟩
 clear hi1 hm1 HZ
 obtain ⟨qb, hqb⟩ : ∃ qb, w.heap.size = qb := ⟨_, rfl⟩
 rw [hqb] at HQ1 ⊢
 have HQB := Lib.hid hqb
 clear hqb
 go_wp2_with fail
 have HZ1 := Lib.hid (IntK.zero1 (k := .u64) (s := 64) w1 (.cells #[.bool false, .slice none 0 0] 220) _ objT_int)
 have HQ2 := Lib.hid (HQ1.out.later (below2 w1 (.cells #[.bool false, .slice none 0 0] 220) (.cells #[.bool false, .slice none 0 0] 220)))
 refine (Lsh_at _ 0 qb 0 d _ q _ HZ1.out.1 HQ2.out.1 (by rw [Int.natAbs_natCast]; exact ln_of_bl (Nat.le_trans HLQ.out (by decide))) (by omega) rfl).mono ?_
 rintro e2 w2 ⟨rfl, hi2, hm2⟩
 have HB2 : Hid (Below w1.heap.size w1 w2) := Lib.hid (hm2.below (below2 _ _ _) (by omega) (below2 _ _ _).size)
 have HZ2 := Lib.hid (((IntK.zero (k := .u64) (s := 64) w1 _ objT_int).below (Below.alloc_self _ (.cells #[.bool false, .slice none 0 0] 220))).mod hm2 (.inl (by omega)) (IntK.zero1 (k := .u64) (s := 64) w1 (.cells #[.bool false, .slice none 0 0] 220) _ objT_int).1.2.1)
 have HQ3 := Lib.hid (HQ1.out.later HB2.out)
 have HL2 := Lib.hid hi2
 have HQR : Hid (qb ≠ w1.heap.size) := Lib.hid (by have := HQ1.out.1.1.1; omega)
 clear hi2 hm2 HZ1 HQ2 HQ1
 have HBA := Lib.hid (HB1.out.trans (HB2.out.mono HB1.out.size))
 have HR0 : Hid (w.heap.size ≤ w1.heap.size) := Lib.hid HB1.out.size
 generalize w1.heap.size + 1 = tb at *
 generalize w1.heap.size = rb at *
 go_wp2_with fail
 refine (Sub_any rb 0 _ 0 tb 0 _ _ _ HZ2.out.1 (HX.out.below HBA.out) HL2.out (by rw [Int.natAbs_natCast]; exact ln_of_bl (Nat.le_trans HL.out (by decide))) ?_).mono ?_
 ·exact ln_of_bl (Nat.le_trans (bl_shl _ _) (by rw [Int.natAbs_natCast]; have := HLQ.out; omega))
 rintro e3 w3 ⟨rfl, hi3, hm3⟩
 rw [HRE.out] at hi3
 have HQ4 := Lib.hid (HQ3.out.mod hm3 HQR.out HZ2.out)
 have HR4 : Hid (Own1 w w3 rb (r : Nat)) := Lib.hid ⟨hi3, HR0.out⟩
 have HB3 := Lib.hid (hm3.below HBA.out HR0.out HBA.out.size)
 clear hi3 hm3 HZ2 HL2 HQ3 HBA HB1 HB2 HR0 HQR
 go_wp2_with fail
 refine (NewInt_any 1 _ (by omega) (by omega)).mono ?_
 rintro e4 w4 ⟨ob, rfl, hob, hi4, hb4⟩
 have HZ4 := Lib.hid ((IntK.zero (k := .u64) (s := 64) w3 _ objT_int).below hb4)
 have HO4 := Lib.hid hi4
 have HB34 : Hid (Below w3.heap.size w3 w4) := Lib.hid ((below1 w3 _).trans (hb4.mono (below1 w3 _).size))
 clear hob hi4 hb4
 go_wp2_with fail
 refine (Lsh_at _ 0 ob 0 (d - 1) _ 1 _ HZ4.out.1 HO4.out (by decide) (by omega) HDM.out).mono ?_
 rintro e5 w5 ⟨rfl, hi5, hm5⟩
 rw [HPH.out] at hi5
 have HB35 : Hid (Below w3.heap.size w3 w5) := Lib.hid (hm5.below HB34.out (Nat.le_refl _) HB34.out.size)
 have HH5 := Lib.hid hi5
 have HQ5 := Lib.hid (HQ4.out.later HB35.out)
 have HR5 := Lib.hid (HR4.out.later HB35.out)
 have HB5 := Lib.hid (HB3.out.trans (HB35.out.mono HB3.out.size))
 clear hi5 hm5 HZ4 HO4 HB34 HB35 HQ4 HR4 HB3
 generalize w3.heap.size = hb at *
 go_wp2_with fail
 refine (Cmp_any rb 0 hb 0 r P _ HR5.out.1 HH5.out).mono ?_
 rintro e6 wd ⟨rfl, nd, rfl⟩
 have HQ := Lib.hid (HQ5.out.later (drewN_below w5 nd))
 have HR := Lib.hid (HR5.out.later (drewN_below w5 nd))
 have HB := Lib.hid (HB5.out.trans ((drewN_below w5 nd).mono HB5.out.size))
 generalize w5.drewN nd = w6 at HQ HR HB ⊢
 clear HQ5 HR5 HB5 HH5
 generalize cmpZ (r : Int) (P : Int) = h0 at HCC ⊢
 by_cases hrest : r = 0
 ·have HS : Hid (((r : Nat) : Int).sign = 0) := Lib.hid (by rw [hrest]; rfl)
  have H0 : Hid (N % 2 ^ d = 0) := Lib.hid (by rw [HRQ.out.1]; exact hrest)
  clear hrest
  have HU : Hid (cz = q) := Lib.hid (HCZ.out.1 (up_z H0.out))
  go_wp2_with fail
  refine (Sign_any rb 0 _ _ HR.out.1).mono ?_
  rintro e6 w6 ⟨rfl, rfl⟩
  rw [HS.out]
  go_wp2
  go_ret
  exact ⟨qb, rfl, HQ.out.2, by rw [HU.out]; exact HQ.out.1, HB.out⟩
 ·obtain ⟨sg, HS, hsg⟩ : ∃ sg, Hid (((r : Nat) : Int).sign = sg) ∧ (sg == 0) = false := ⟨_, Lib.hid rfl, sg_ne (by omega)⟩
  have H0 : Hid (¬ N % 2 ^ d = 0) := Lib.hid (by rw [HRQ.out.1]; exact hrest)
  clear hrest
  rcases hmode with rfl | rfl | rfl | rfl | rfl
  ·rcases HCC.out with ⟨rfl, h'⟩ | ⟨rfl, h'⟩ | ⟨rfl, h'⟩
   ·skip
    have HW := Lib.hid h'
    clear h'
    have HU : Hid (cz = (q : Int) + 1) := Lib.hid (HCZ.out.2 (by rw [up_0 H0.out, HRQ.out.1, HRQ.out.2.1, HRQ.out.2.2]; simp; have := HW.out; omega))
    go_wp2_with fail
    refine (Sign_any rb 0 _ _ HR.out.1).mono ?_
    rintro e6 w6 ⟨rfl, rfl⟩
    rw [HS.out]
    go_wp2_with fail
    refine (NewInt_any 1 _ (by omega) (by omega)).mono ?_
    rintro e9 w9 ⟨ob, rfl, hob, hi9, hb9⟩
    have HQ9 := Lib.hid (HQ.out.later hb9)
    have HB9 := Lib.hid (HB.out.trans (hb9.mono HB.out.size))
    have HO9 := Lib.hid hi9
    clear hob hi9 hb9
    go_wp2_with fail
    refine (Add_any qb 0 qb 0 ob 0 _ _ _ HQ9.out.1.1 HQ9.out.1 HO9.out ?_ (by decide)).mono ?_
    ·rw [Int.natAbs_natCast]; exact ln_of_bl (Nat.le_trans HLQ.out (by decide))
    rintro e9 w10 ⟨rfl, hi10, hm10⟩
    have HF := Lib.hid hi10
    have HB10 := Lib.hid (hm10.below HB9.out HQ9.out.2 HB9.out.size)
    clear hi10 hm10
    go_wp2
    go_ret
    exact ⟨qb, rfl, HQ.out.2, by rw [HU.out]; exact HF.out, HB10.out⟩
   ·by_cases hq : q % 2 = 1
    ·have HBT : Hid ((((q : Nat) : Int).natAbs / 2 ^ 0 % 2 : Nat) = 1) := Lib.hid (by rw [Int.natAbs_natCast]; simpa using hq)
     have HW := Lib.hid (And.intro h' hq)
     clear h' hq
     have HU : Hid (cz = (q : Int) + 1) := Lib.hid (HCZ.out.2 (by rw [up_0 H0.out, HRQ.out.1, HRQ.out.2.1, HRQ.out.2.2]; simp; have := HW.out; omega))
     go_wp2_with fail
     refine (Sign_any rb 0 _ _ HR.out.1).mono ?_
     rintro e6 w6 ⟨rfl, rfl⟩
     rw [HS.out]
     go_wp2_with fail
     refine (Bit_any qb 0 0 _ _ HQ.out.1 (by omega)).mono ?_
     rintro e7 w7 ⟨rfl, rfl⟩
     rw [HBT.out]
     go_wp2_with fail
     refine (NewInt_any 1 _ (by omega) (by omega)).mono ?_
     rintro e9 w9 ⟨ob, rfl, hob, hi9, hb9⟩
     have HQ9 := Lib.hid (HQ.out.later hb9)
     have HB9 := Lib.hid (HB.out.trans (hb9.mono HB.out.size))
     have HO9 := Lib.hid hi9
     clear hob hi9 hb9
     go_wp2_with fail
     refine (Add_any qb 0 qb 0 ob 0 _ _ _ HQ9.out.1.1 HQ9.out.1 HO9.out ?_ (by decide)).mono ?_
     ·rw [Int.natAbs_natCast]; exact ln_of_bl (Nat.le_trans HLQ.out (by decide))
     rintro e9 w10 ⟨rfl, hi10, hm10⟩
     have HF := Lib.hid hi10
     have HB10 := Lib.hid (hm10.below HB9.out HQ9.out.2 HB9.out.size)
     clear hi10 hm10
     go_wp2
     go_ret
     exact ⟨qb, rfl, HQ.out.2, by rw [HU.out]; exact HF.out, HB10.out⟩
    ·have HBT : Hid ((((q : Nat) : Int).natAbs / 2 ^ 0 % 2 : Nat) = 0) := Lib.hid (by rw [Int.natAbs_natCast]; simpa using (by omega : q % 2 = 0))
     have HW := Lib.hid (And.intro h' hq)
     clear h' hq
     have HU : Hid (cz = q) := Lib.hid (HCZ.out.1 (by rw [up_0 H0.out, HRQ.out.1, HRQ.out.2.1, HRQ.out.2.2]; simp; have := HW.out; omega))
     go_wp2_with fail
     refine (Sign_any rb 0 _ _ HR.out.1).mono ?_
     rintro e6 w6 ⟨rfl, rfl⟩
     rw [HS.out]
     go_wp2_with fail
     refine (Bit_any qb 0 0 _ _ HQ.out.1 (by omega)).mono ?_
     rintro e7 w7 ⟨rfl, rfl⟩
     rw [HBT.out]
     go_wp2
     go_ret
     exact ⟨qb, rfl, HQ.out.2, by rw [HU.out]; exact HQ.out.1, HB.out⟩
   ·skip
    have HW := Lib.hid h'
    clear h'
    have HU : Hid (cz = q) := Lib.hid (HCZ.out.1 (by rw [up_0 H0.out, HRQ.out.1, HRQ.out.2.1, HRQ.out.2.2]; simp; have := HW.out; omega))
    go_wp2_with fail
    refine (Sign_any rb 0 _ _ HR.out.1).mono ?_
    rintro e6 w6 ⟨rfl, rfl⟩
    rw [HS.out]
    go_wp2
    go_ret
    exact ⟨qb, rfl, HQ.out.2, by rw [HU.out]; exact HQ.out.1, HB.out⟩
  ·rcases HCC.out with ⟨rfl, h'⟩ | ⟨rfl, h'⟩ | ⟨rfl, h'⟩
   ·skip
    have HW := Lib.hid h'
    clear h'
    have HU : Hid (cz = (q : Int) + 1) := Lib.hid (HCZ.out.2 (by rw [up_1 H0.out, HRQ.out.1, HRQ.out.2.2]; simp; have := HW.out; omega))
    go_wp2_with fail
    refine (Sign_any rb 0 _ _ HR.out.1).mono ?_
    rintro e6 w6 ⟨rfl, rfl⟩
    rw [HS.out]
    go_wp2_with fail
    refine (NewInt_any 1 _ (by omega) (by omega)).mono ?_
    rintro e9 w9 ⟨ob, rfl, hob, hi9, hb9⟩
    have HQ9 := Lib.hid (HQ.out.later hb9)
    have HB9 := Lib.hid (HB.out.trans (hb9.mono HB.out.size))
    have HO9 := Lib.hid hi9
    clear hob hi9 hb9
    go_wp2_with fail
    refine (Add_any qb 0 qb 0 ob 0 _ _ _ HQ9.out.1.1 HQ9.out.1 HO9.out ?_ (by decide)).mono ?_
    ·rw [Int.natAbs_natCast]; exact ln_of_bl (Nat.le_trans HLQ.out (by decide))
    rintro e9 w10 ⟨rfl, hi10, hm10⟩
    have HF := Lib.hid hi10
    have HB10 := Lib.hid (hm10.below HB9.out HQ9.out.2 HB9.out.size)
    clear hi10 hm10
    go_wp2
    go_ret
    exact ⟨qb, rfl, HQ.out.2, by rw [HU.out]; exact HF.out, HB10.out⟩
   ·skip
    have HW := Lib.hid h'
    clear h'
    have HU : Hid (cz = (q : Int) + 1) := Lib.hid (HCZ.out.2 (by rw [up_1 H0.out, HRQ.out.1, HRQ.out.2.2]; simp; have := HW.out; omega))
    go_wp2_with fail
    refine (Sign_any rb 0 _ _ HR.out.1).mono ?_
    rintro e6 w6 ⟨rfl, rfl⟩
    rw [HS.out]
    go_wp2_with fail
    refine (NewInt_any 1 _ (by omega) (by omega)).mono ?_
    rintro e9 w9 ⟨ob, rfl, hob, hi9, hb9⟩
    have HQ9 := Lib.hid (HQ.out.later hb9)
    have HB9 := Lib.hid (HB.out.trans (hb9.mono HB.out.size))
    have HO9 := Lib.hid hi9
    clear hob hi9 hb9
    go_wp2_with fail
    refine (Add_any qb 0 qb 0 ob 0 _ _ _ HQ9.out.1.1 HQ9.out.1 HO9.out ?_ (by decide)).mono ?_
    ·rw [Int.natAbs_natCast]; exact ln_of_bl (Nat.le_trans HLQ.out (by decide))
    rintro e9 w10 ⟨rfl, hi10, hm10⟩
    have HF := Lib.hid hi10
    have HB10 := Lib.hid (hm10.below HB9.out HQ9.out.2 HB9.out.size)
    clear hi10 hm10
    go_wp2
    go_ret
    exact ⟨qb, rfl, HQ.out.2, by rw [HU.out]; exact HF.out, HB10.out⟩
   ·skip
    have HW := Lib.hid h'
    clear h'
    have HU : Hid (cz = q) := Lib.hid (HCZ.out.1 (by rw [up_1 H0.out, HRQ.out.1, HRQ.out.2.2]; simp; have := HW.out; omega))
    go_wp2_with fail
    refine (Sign_any rb 0 _ _ HR.out.1).mono ?_
    rintro e6 w6 ⟨rfl, rfl⟩
    rw [HS.out]
    go_wp2
    go_ret
    exact ⟨qb, rfl, HQ.out.2, by rw [HU.out]; exact HQ.out.1, HB.out⟩
  ·have HU : Hid (cz = q) := Lib.hid (HCZ.out.1 (up_2 H0.out))
   go_wp2_with fail
   refine (Sign_any rb 0 _ _ HR.out.1).mono ?_
   rintro e6 w6 ⟨rfl, rfl⟩
   rw [HS.out]
   go_wp2
   go_ret
   exact ⟨qb, rfl, HQ.out.2, by rw [HU.out]; exact HQ.out.1, HB.out⟩
  ·cases neg
   ·have HU : Hid (cz = (q : Int) + 1) := Lib.hid (HCZ.out.2 (by rw [up_3 H0.out]; rfl))
    go_wp2_with fail
    refine (Sign_any rb 0 _ _ HR.out.1).mono ?_
    rintro e6 w6 ⟨rfl, rfl⟩
    rw [HS.out]
    go_wp2_with fail
    refine (NewInt_any 1 _ (by omega) (by omega)).mono ?_
    rintro e9 w9 ⟨ob, rfl, hob, hi9, hb9⟩
    have HQ9 := Lib.hid (HQ.out.later hb9)
    have HB9 := Lib.hid (HB.out.trans (hb9.mono HB.out.size))
    have HO9 := Lib.hid hi9
    clear hob hi9 hb9
    go_wp2_with fail
    refine (Add_any qb 0 qb 0 ob 0 _ _ _ HQ9.out.1.1 HQ9.out.1 HO9.out ?_ (by decide)).mono ?_
    ·rw [Int.natAbs_natCast]; exact ln_of_bl (Nat.le_trans HLQ.out (by decide))
    rintro e9 w10 ⟨rfl, hi10, hm10⟩
    have HF := Lib.hid hi10
    have HB10 := Lib.hid (hm10.below HB9.out HQ9.out.2 HB9.out.size)
    clear hi10 hm10
    go_wp2
    go_ret
    exact ⟨qb, rfl, HQ.out.2, by rw [HU.out]; exact HF.out, HB10.out⟩
   ·have HU : Hid (cz = q) := Lib.hid (HCZ.out.1 (by rw [up_3 H0.out]; rfl))
    go_wp2_with fail
    refine (Sign_any rb 0 _ _ HR.out.1).mono ?_
    rintro e6 w6 ⟨rfl, rfl⟩
    rw [HS.out]
    go_wp2
    go_ret
    exact ⟨qb, rfl, HQ.out.2, by rw [HU.out]; exact HQ.out.1, HB.out⟩
  ·cases neg
   ·have HU : Hid (cz = q) := Lib.hid (HCZ.out.1 (up_4 H0.out))
    go_wp2_with fail
    refine (Sign_any rb 0 _ _ HR.out.1).mono ?_
    rintro e6 w6 ⟨rfl, rfl⟩
    rw [HS.out]
    go_wp2
    go_ret
    exact ⟨qb, rfl, HQ.out.2, by rw [HU.out]; exact HQ.out.1, HB.out⟩
   ·have HU : Hid (cz = (q : Int) + 1) := Lib.hid (HCZ.out.2 (up_4 H0.out))
    go_wp2_with fail
    refine (Sign_any rb 0 _ _ HR.out.1).mono ?_
    rintro e6 w6 ⟨rfl, rfl⟩
    rw [HS.out]
    go_wp2_with fail
    refine (NewInt_any 1 _ (by omega) (by omega)).mono ?_
    rintro e9 w9 ⟨ob, rfl, hob, hi9, hb9⟩
    have HQ9 := Lib.hid (HQ.out.later hb9)
    have HB9 := Lib.hid (HB.out.trans (hb9.mono HB.out.size))
    have HO9 := Lib.hid hi9
    clear hob hi9 hb9
    go_wp2_with fail
    refine (Add_any qb 0 qb 0 ob 0 _ _ _ HQ9.out.1.1 HQ9.out.1 HO9.out ?_ (by decide)).mono ?_
    ·rw [Int.natAbs_natCast]; exact ln_of_bl (Nat.le_trans HLQ.out (by decide))
    rintro e9 w10 ⟨rfl, hi10, hm10⟩
    have HF := Lib.hid hi10
    have HB10 := Lib.hid (hm10.below HB9.out HQ9.out.2 HB9.out.size)
    clear hi10 hm10
    go_wp2
    go_ret
    exact ⟨qb, rfl, HQ.out.2, by rw [HU.out]; exact HF.out, HB10.out⟩
end
section
open Go.RowKit
theorem cut_any (b N : Nat) (down : Int) (neg : Bool) (mode : Int) (w : World) (hx : IntAt w b 0 (N : Int)) (hl : bl N ≤ 34359738368) (h1 : -1099511627776 ≤ down) (h2 : down ≤ 17179869184) (hmode : mode = 0 ∨ mode = 1 ∨ mode = 2 ∨ mode = 3 ∨ mode = 4) :
  Calls Tryz.prog 258 #[.pointer (some ⟨b, 0, none⟩), .int .i64 down, .bool neg, .int .i64 mode] w (News .u64 64 (cutZ N down neg mode : Nat) w) := by
 by_cases h : down ≤ 0
 ·exact cut_shl b N down neg mode w hx hl h h1
 ·obtain ⟨d, rfl⟩ : ∃ d : Nat, down = d := ⟨down.toNat, by omega⟩
  have := cut_shr b N d neg mode w hx hl (by omega) (by omega) hmode
  unfold cutZ
  rw [if_neg h, Int.toNat_natCast]
  exact this
def lastE (z e digits least : Int) : Int := max (e + bl z.natAbs - digits) least
def roundZ (z e digits least mode : Int) : Nat := cutZ z.natAbs (lastE z e digits least - e) (decide (z < 0)) mode
def Rounds (z e digits least mode : Int) (w : World) (en : Ending) (w' : World) : Prop :=
 ∃ p, en = .returned (.tuple #[.pointer (some ⟨p, 0, none⟩), .int .i64 (lastE z e digits least)]) ∧ IntAt w' p 0 (roundZ z e digits least mode : Nat) ∧ Below w.heap.size w w'
set_option maxRecDepth 100000 in
set_option maxHeartbeats 1600000 in
theorem rounded_any (b : Nat) (z e digits least mode : Int) (w : World) (hx : IntAt w b 0 z) (hl : bl z.natAbs ≤ 1000000) (he1 : -1000000 ≤ e) (he2 : e ≤ 1000000) (hd1 : 0 ≤ digits) (hd2 : digits ≤ 100) (hs1 : -2000 ≤ least) (hs2 : least ≤ 0)
  (hmode : mode = 0 ∨ mode = 1 ∨ mode = 2 ∨ mode = 3 ∨ mode = 4) :
  Calls Tryz.prog 219 #[ExV b e, .int .i64 digits, .int .i64 least, .int .i64 mode] w (Rounds z e digits least mode w) := by
 have HX := Lib.hid hx
 have HC : Hid (∀ (p : Nat) (W : World), IntAt W p 0 (z.natAbs : Int) → Calls Tryz.prog 258 #[.pointer (some ⟨p, 0, none⟩), .int .i64 (lastE z e digits least - e), .bool (decide (z < 0)), .int .i64 mode] W (News .u64 64 (roundZ z e digits least mode : Nat) W)) := by
  refine Lib.hid fun p W h => cut_any p _ _ _ _ W h (Nat.le_trans hl (by decide)) ?_ ?_ hmode
  ·unfold lastE; omega
  ·unfold lastE; omega
 obtain ⟨last, hlast⟩ : ∃ last, lastE z e digits least = last := ⟨_, rfl⟩
 have hmax : max (e + (bl z.natAbs : Int) - digits) least = last := hlast
 have HLE := Lib.hid hlast
 obtain ⟨sg, HS, hneg⟩ : ∃ sg, Hid (z.sign = sg) ∧ decide (sg < 0) = decide (z < 0) := ⟨_, Lib.hid rfl, sg_neg z⟩
 obtain ⟨neg, hneg2⟩ : ∃ neg, decide (z < 0) = neg := ⟨_, rfl⟩
 rw [hneg2] at hneg
 obtain ⟨q, hq⟩ : ∃ q, bl z.natAbs = q := ⟨_, rfl⟩
 rw [hq] at hmax
 have HBL : Hid (bl ((z.natAbs : Nat) : Int).natAbs = q) := Lib.hid (by rw [Int.natAbs_natCast]; exact hq)
 have HLZ : Hid (ln 64 z.natAbs ≤ 68719476736) := Lib.hid (ln_of_bl (Nat.le_trans hl (by decide)))
 have hb1 : -3000000 ≤ last := by omega
 have hb2 : last ≤ 3000000 := by omega
 have hq2 : q ≤ 1000000 := by omega
 rw [hlast, hneg2] at HC
 have hw1 : IntKind.i64.wrap (e + (q : Int)) = e + q := IntWalk.i64_in _ (by omega)
 have hw2 : IntKind.i64.wrap (e + (q : Int) - digits) = e + q - digits := IntWalk.i64_in _ (by omega)
 have hw3 : IntKind.i64.wrap (last - e) = last - e := IntWalk.i64_in _ (by omega)
 have HM := Lib.hid hmax
 have HW := Lib.hid (And.intro hw1 (And.intro hw2 hw3))
 have HNG := Lib.hid hneg
 have HBX : Hid (BlkT ((w.alloc (.cells #[.pointer (some ⟨b, 0, none⟩), .int .i64 e] 199)).alloc (.cells #[.bool false, .slice none 0 0] 220)) w.heap.size 199 #[.pointer (some ⟨b, 0, none⟩), .int .i64 e]) := Lib.hid ((BlkT.new w _ _).alloc _)
 have HZ := Lib.hid (IntK.zero1 (k := .u64) (s := 64) w (.cells #[.pointer (some ⟨b, 0, none⟩), .int .i64 e] 199) _ objT_int)
 clear hx hl hmax hq hlast hneg hneg2 hw1 hw2 hw3 hmode
 unfold ExV
 go_enter Tryz.func219, Tryz.ntmps219
 go_wp2_with fail
 refine (Abs_any _ 0 _ 0 z _ HZ.out.1 (HX.out.below (below2 _ _ _)) HLZ.out).mono ?_
 rintro e1 w1 ⟨rfl, hi1, hm1⟩
 have HB1 := Lib.hid (hm1.below (below2 w (.cells #[.pointer (some ⟨b, 0, none⟩), .int .i64 e] 199) _) (by omega) (below2 _ _ _).size)
 have HP1 := Lib.hid (HBX.out.mod hm1 (by omega))
 have HA1 := Lib.hid hi1
 clear hi1 hm1 HBX HZ
 generalize w.heap.size + 1 = ab at *
 go_wp2
 refine wp_region_pl (fun w' : World => w'.cell? ⟨w.heap.size, 0, none⟩ = some (.pointer (some ⟨b, 0, none⟩)) ∧ w'.cell? ⟨w.heap.size, 1, none⟩ = some (.int .i64 e)) 9 (.take 0 (.take 1 (.take 2 (.take 5 (.take 7 (.run 3 (.take 4 (.take 6 (.take 8 .nil))))))))) (by kernel_rfl) (by kernel_rfl) ?_
 have HB2 := Lib.hid (HB1.out.drew)
 have HP2 := Lib.hid (HP1.out.below (drew_below w1))
 have HA2 := Lib.hid (HA1.out.below (drew_below w1))
 clear HB1 HP1 HA1
 generalize w1.drew = W at HB2 HP2 HA2 ⊢
 have hS : (fun w' : World => w'.cell? ⟨w.heap.size, 0, none⟩ = some (.pointer (some ⟨b, 0, none⟩)) ∧ w'.cell? ⟨w.heap.size, 1, none⟩ = some (.int .i64 e)) W := ⟨HP2.out.cell 0, HP2.out.cell 1⟩
 repeat (refine wpPl_take (v := ?_) rfl (fun _ _ _ h => h) rfl (fun w' hSw => ?_) hS ?_; rotate_left; focus (go_simp; with_reducible rfl); try simp only [Act.put, setL])
 refine wpPl_run rfl fun K' hK => ?_
 go_simp
 refine (BitLen_any ab 0 _ _ HA2.out).mono ?_
 rintro e2 w2 ⟨rfl, rfl⟩
 rw [HBL.out]
 refine hK _ _ hS ?_
 clear hK K'
 have hw1 := HW.out.1
 have hw2 := HW.out.2.1
 have hmax := HM.out
 repeat (refine wpPl_take (v := ?_) rfl (fun _ _ _ h => h) rfl (fun w' hSw => ?_) hS ?_; rotate_left; focus (go_simp; with_reducible rfl); try simp only [Act.put, setL])
 clear hS
 refine wpPl_nil ?_
 simp only [drL]
 clear hw1 hw2 hmax
 go_wp2
 refine wp_region_pl (fun w' : World => w'.cell? ⟨w.heap.size, 0, none⟩ = some (.pointer (some ⟨b, 0, none⟩)) ∧ w'.cell? ⟨w.heap.size, 1, none⟩ = some (.int .i64 e)) 13 (.take 0 (.take 1 (.take 2 (.take 3 (.take 4 (.take 5 (.take 6 (.take 9 (.take 11 (.run 7 (.take 8 (.run 10 (.take 12 .nil))))))))))))) (by kernel_rfl) (by kernel_rfl) ?_
 have HB3 := Lib.hid (HB2.out.drew)
 have HP3 := Lib.hid (HP2.out.below (drew_below W))
 have HA3 := Lib.hid (HA2.out.below (drew_below W))
 clear HB2 HP2 HA2
 generalize W.drew = V at HB3 HP3 HA3 ⊢
 have hS : (fun w' : World => w'.cell? ⟨w.heap.size, 0, none⟩ = some (.pointer (some ⟨b, 0, none⟩)) ∧ w'.cell? ⟨w.heap.size, 1, none⟩ = some (.int .i64 e)) V := ⟨HP3.out.cell 0, HP3.out.cell 1⟩
 have hw3 := HW.out.2.2
 repeat (refine wpPl_take (v := ?_) rfl (fun _ _ _ h => h) rfl (fun w' hSw => ?_) hS ?_; rotate_left; focus (go_simp; with_reducible rfl); try simp only [Act.put, setL])
 clear hw3
 refine wpPl_run rfl fun K' hK => ?_
 go_simp
 refine (Sign_any b 0 _ _ (HX.out.below HB3.out)).mono ?_
 rintro e2 w2 ⟨rfl, rfl⟩
 rw [HS.out]
 refine hK _ _ hS ?_
 clear hK K'
 have hneg := HNG.out
 repeat (refine wpPl_take (v := ?_) rfl (fun _ _ _ h => h) rfl (fun w' hSw => ?_) hS ?_; rotate_left; focus (go_simp; with_reducible rfl); try simp only [Act.put, setL])
 clear hS hneg
 refine wpPl_run rfl fun K' hK => ?_
 go_simp
 refine (HC.out ab _ HA3.out).mono ?_
 rintro e3 w3 ⟨p, rfl, hp, hi3, hb3⟩
 have HB4 := Lib.hid (HB3.out.trans (hb3.mono HB3.out.size))
 have HP4 := Lib.hid (HP3.out.below hb3)
 have HI4 := Lib.hid hi3
 have hS : (fun w' : World => w'.cell? ⟨w.heap.size, 0, none⟩ = some (.pointer (some ⟨b, 0, none⟩)) ∧ w'.cell? ⟨w.heap.size, 1, none⟩ = some (.int .i64 e)) w3 := ⟨HP4.out.cell 0, HP4.out.cell 1⟩
 refine hK _ _ hS ?_
 clear hK K' hp hi3 hb3
 repeat (refine wpPl_take (v := ?_) rfl (fun _ _ _ h => h) rfl (fun w' hSw => ?_) hS ?_; rotate_left; focus (go_simp; with_reducible rfl); try simp only [Act.put, setL])
 clear hS
 refine wpPl_nil ?_
 simp only [drL]
 go_wp2
 go_ret2
 exact ⟨p, by rw [HLE.out]; rfl, HI4.out, HB4.out⟩
end
section
open Go.RowKit
def joinB (neg : Bool) (e f : Nat) : Nat := (if neg then kSign else 0) + e * kHid + f
theorem join_or {e f : Nat} (he : e < 2048) (hf : f < kHid) : bits .or .u64 ((e * kHid : Nat) : Int) (f : Int) = ((e * kHid + f : Nat) : Int) := by
 unfold kHid at *
 have h0 := bits_or_u64_nat (e * 4503599627370496) f (by omega) (by omega)
 rw [h0]
 congr 1
 have := Nat.two_pow_add_eq_or_of_lt (i := 52) (b := f) hf e
 rw [Nat.mul_comm] at this
 exact this.symm
theorem join_sign {x : Nat} (hx : x < kSign) : bits .or .u64 (x : Int) (kSign : Int) = ((kSign + x : Nat) : Int) := by
 unfold kSign at *
 have h0 := bits_or_u64_nat x 9223372036854775808 (by omega) (by omega)
 rw [h0]
 congr 1
 have := Nat.two_pow_add_eq_or_of_lt (i := 63) (b := x) hx 1
 rw [Nat.or_comm]; exact this.symm
theorem joinB_fields {neg : Bool} {e f : Nat} (he : e < 2048) (hf : f < kHid) : expF (joinB neg e f) = e ∧ fracF (joinB neg e f) = f ∧ sgnB (joinB neg e f) = neg ∧ joinB neg e f < 18446744073709551616 := by
 unfold joinB expF fracF sgnB kSign kHid at *
 cases neg
 ·simp only [Bool.false_eq_true, if_false, decide_eq_false_iff_not]; omega
 ·simp only [if_true, decide_eq_true_eq]; omega
set_option maxRecDepth 100000 in
set_option maxHeartbeats 800000 in
theorem join_any (neg : Bool) (e f : Nat) (w : World) (he : e < 2047) (hf : f < kHid) :
  Calls Tryz.prog 282 #[.bool neg, .int .i64 e, .int .u64 f, F64] w (Gives (.tuple #[.int .u64 (joinB neg e f : Nat), .int .i64 0]) w) := by
 obtain ⟨f1, f2, f3, f4⟩ := joinB_fields (neg := neg) (show e < 2048 by omega) hf
 have HCN : Hid (canonB (joinB neg e f) = joinB neg e f) := Lib.hid (canonB_fin (by omega))
 have H4 := Lib.hid f4
 have HO : Hid (bits .or .u64 ((e : Int) * 4503599627370496) (f : Int) = ((e * kHid + f : Nat) : Int)) := Lib.hid (by have := join_or (show e < 2048 by omega) hf; rw [Int.natCast_mul] at this; exact this)
 have HCA := Lib.hid fun b h w => canon_any b w h
 have HJ : Hid ((neg = false → joinB neg e f = e * kHid + f) ∧ (neg = true → joinB neg e f = kSign + (e * kHid + f))) := Lib.hid ⟨fun h => by unfold joinB; rw [h]; simp, fun h => by unfold joinB; rw [h]; simp; omega⟩
 have HJS := Lib.hid (join_sign (show e * kHid + f < kSign by unfold kHid kSign at *; omega))
 have HH := Lib.hid fun w => hidden_any w
 have HSg := Lib.hid fun w => sign_any w
 have H0 := Lib.hid (Fmt3.new w 162)
 unfold F64 at *
 obtain ⟨c0, c1, c2⟩ := H0.out.2
 have hge : decide ((kHid : Int) ≤ (f : Int)) = false := by simp; omega
 clear f1 f2 f3 f4
 generalize e * kHid + f = x at HO HJ HJS
 generalize kHid = kh at hge HH hf
 generalize kSign = ks at HSg HJS HJ
 generalize joinB neg e f = R at *
 cases neg
 ·obtain rfl : R = x := HJ.out.1 rfl
  go_enter Tryz.func282, Tryz.ntmps282
  go_wp2_with fail
  refine (HH.out _).mono ?_
  rintro e1 w1 ⟨rfl, hb1⟩
  have HB1 := Lib.hid ((below1 w _).trans (hb1.mono (by simp)))
  have HF1 := Lib.hid (H0.out.below hb1)
  obtain ⟨-, d0, d1, d2⟩ := HF1.out
  clear c0 c1 c2 hb1
  go_wp2_with fail
  rw [HO.out]
  refine (HCA.out R H4.out _).mono ?_
  rintro e2 w2 ⟨rfl, hb2⟩
  rw [HCN.out]
  have HB2 := Lib.hid (HB1.out.trans (hb2.mono HB1.out.size))
  clear hb2
  go_wp2
  go_ret2
  exact ⟨rfl, HB2.out⟩
 ·obtain rfl : R = ks + x := HJ.out.2 rfl
  go_enter Tryz.func282, Tryz.ntmps282
  go_wp2_with fail
  refine (HH.out _).mono ?_
  rintro e1 w1 ⟨rfl, hb1⟩
  have HB1 := Lib.hid ((below1 w _).trans (hb1.mono (by simp)))
  have HF1 := Lib.hid (H0.out.below hb1)
  obtain ⟨-, d0, d1, d2⟩ := HF1.out
  clear c0 c1 c2 hb1
  go_wp2_with fail
  rw [HO.out]
  refine (HSg.out _).mono ?_
  rintro e2 w2 ⟨rfl, hb2⟩
  have HB2 := Lib.hid (HB1.out.trans (hb2.mono HB1.out.size))
  have HF2 := Lib.hid (HF1.out.below hb2)
  clear d0 d1 d2 hb2
  obtain ⟨-, d0, d1, d2⟩ := HF2.out
  go_wp2_with fail
  rw [HJS.out]
  refine (HCA.out _ H4.out _).mono ?_
  rintro e2 w3 ⟨rfl, hb3⟩
  rw [HCN.out]
  have HB3 := Lib.hid (HB2.out.trans (hb3.mono HB2.out.size))
  clear hb3
  go_wp2
  go_ret2
  exact ⟨rfl, HB3.out⟩
def mkB (neg : Bool) (m : Nat) (e : Int) : Nat :=
 if m = 0 then joinB neg 0 0
 else
  let t := Lib.ctz 64 m
  let down := min (53 - (bl (m / 2 ^ t) : Int)) (e + t + 1074)
  let M := m / 2 ^ t * 2 ^ down.toNat
  if M < kHid then joinB neg 0 M else joinB neg (e + t - down + 1075).toNat (M - kHid)
set_option maxRecDepth 100000 in
set_option maxHeartbeats 800000 in
theorem made_zero (neg : Bool) (e : Int) (w : World) :
  Calls Tryz.prog 261 #[.agg #[.bool neg, .int .u64 0, .int .i64 e], F64] w (Gives (.tuple #[.int .u64 (joinB neg 0 0 : Nat), .int .i64 0]) w) := by
 have HJ := Lib.hid fun W => join_any neg 0 0 W (by decide) (by decide)
 unfold F64 at *
 go_enter Tryz.func261, Tryz.ntmps261
 go_wp2_with fail
 refine (HJ.out _).mono ?_
 rintro e1 w1 ⟨rfl, hb1⟩
 have HB1 := Lib.hid ((below2 w _ _).trans (hb1.mono (below2 w _ _).size))
 clear hb1
 go_wp2
 go_ret2
 exact ⟨rfl, HB1.out⟩
end
section
open Go.RowKit
theorem hid_lt_u64 {a D : Nat} (h : a * 2 ^ D < 18446744073709551616) : IntKind.u64.wrap ((a : Int) * 2 ^ D) = ((a * 2 ^ D : Nat) : Int) := by
 have e : ((a : Int) * 2 ^ D) = ((a * 2 ^ D : Nat) : Int) := by simp
 rw [e]; exact wrap_u64_lt _ h
set_option maxRecDepth 100000 in
set_option maxHeartbeats 1600000 in
theorem made_walk (neg : Bool) (m t a L D M : Nat) (e e' : Int) (w : World) (hm0 : m ≠ 0) (hm : m < 18446744073709551616) (ht : Lib.ctz 64 m = t) (ha : m / 2 ^ t = a) (he : e + t = e') (hL : bl a = L) (hD : min (53 - (L : Int)) (e' + 1074) = D) (hM : a * 2 ^ D = M)
  (hL53 : L ≤ 53) (he' : -1074 ≤ e') (hb1 : -2150 ≤ e) (hb2 : e ≤ 2150) (hM53 : M < 9007199254740992) (hE : ¬ M < kHid → e' - D + 1075 < 2047) (hE1 : ¬ M < kHid → 1 ≤ e' - D + 1075)
  (hT : Tab64 w) (hTs : 1 < w.heap.size) :
  Calls Tryz.prog 261 #[.agg #[.bool neg, .int .u64 m, .int .i64 e], F64] w (Gives (.tuple #[.int .u64 ((if M < kHid then joinB neg 0 M else joinB neg (e' - D + 1075).toNat (M - kHid) : Nat) : Int), .int .i64 0]) w) := by
 obtain ⟨R, hR⟩ : ∃ R, (if M < kHid then joinB neg 0 M else joinB neg (e' - D + 1075).toNat (M - kHid)) = R := ⟨_, rfl⟩
 rw [hR]
 have HR : Hid ((M < kHid → R = joinB neg 0 M) ∧ (¬ M < kHid → R = joinB neg (e' - D + 1075).toNat (M - kHid))) := Lib.hid ⟨fun h => by rw [← hR, if_pos h], fun h => by rw [← hR, if_neg h]⟩
 clear hR
 have HTZ : Hid (∀ W : World, Tab64 W → Calls Tryz.prog 283 #[.int .u64 m] W fun e W' => e = .returned (.int .i64 t) ∧ W = W') :=
  Lib.hid fun W hW => by rw [← ht]; exact tz64_any m hm hm0 W hW
 have ha64 : a < 18446744073709551616 := by rw [← ha]; exact Nat.lt_of_le_of_lt (Nat.div_le_self _ _) hm
 have HLN : Hid (∀ W : World, Calls Tryz.prog 281 #[.int .u64 a] W fun e W' => e = .returned (.int .i64 L) ∧ W = W') :=
  Lib.hid fun W => by rw [← hL]; exact len64_any a ha64 W
 have HSH : Hid (IntKind.u64.wrap ((a : Int) * 2 ^ D) = (M : Int)) := Lib.hid (by rw [hid_lt_u64 (by omega), hM])
 have HSR : Hid ((m : Int) / 2 ^ t = (a : Int)) := Lib.hid (by rw [← ha]; simp)
 have ht64 : t < 64 := by rw [← ht]; exact (Lib.lowest_bit 64 m hm0 hm).2
 have HH := Lib.hid fun w => hidden_any w
 have HJ0 : Hid (M < kHid → ∀ W, Calls Tryz.prog 282 #[.bool neg, .int .i64 0, .int .u64 M, F64] W (Gives (.tuple #[.int .u64 (joinB neg 0 M : Nat), .int .i64 0]) W)) :=
  Lib.hid fun h W => join_any neg 0 M W (by decide) h
 have HJ1 : Hid (¬ M < kHid → ∀ W, Calls Tryz.prog 282 #[.bool neg, .int .i64 (e' - D + 1075), .int .u64 ((M : Int) - kHid), F64] W (Gives (.tuple #[.int .u64 (joinB neg (e' - D + 1075).toNat (M - kHid) : Nat), .int .i64 0]) W)) := by
  refine Lib.hid fun h W => ?_
  have h1 := hE h
  have h2 := hE1 h
  have := join_any neg (e' - D + 1075).toNat (M - kHid) W (by omega) (by unfold kHid at *; omega)
  rw [show (((e' - D + 1075).toNat : Nat) : Int) = e' - D + 1075 by omega, show ((M - kHid : Nat) : Int) = (M : Int) - kHid by omega] at this
  exact this
 have HWR : Hid (¬ M < kHid → IntKind.u64.wrap ((M : Int) - kHid) = (M : Int) - kHid) := by
  refine Lib.hid fun h => ?_
  rw [IntKind.wrap_u64]; unfold kHid at *; omega
 have hD0 : D ≤ 53 := by omega
 have hmz : ((m : Int) == 0) = false := by simp; omega
 have hw1 : IntKind.i64.wrap (e + (t : Int)) = e' := by rw [IntWalk.i64_in _ (by omega)]; exact he
 have HW1 := Lib.hid hw1
 have HHD := Lib.hid hD
 have HEE := Lib.hid (And.intro hE hE1)
 have HTT := Lib.hid (And.intro hT hTs)
 have he2 : e' ≤ 2214 := by omega
 have hq1 : decide ((2150 : Int) < e) = false := by simp; omega
 have hq2 : decide (e < (-2150 : Int)) = false := by simp; omega
 have hq3 : decide ((53 : Int) < (L : Int)) = false := by simp; omega
 have hq4 : decide (e' < (-1074 : Int)) = false := by simp; omega
 unfold F64 at *
 have HF0 : Hid (BlkT ((w.alloc (.cells #[.bool neg, .int .u64 m, .int .i64 e] 229)).alloc (.cells #[.int .u64 52, .int .i64 2047, .int .i64 1075] 162)) w.heap.size 229 #[.bool neg, .int .u64 m, .int .i64 e] ∧
    BlkT ((w.alloc (.cells #[.bool neg, .int .u64 m, .int .i64 e] 229)).alloc (.cells #[.int .u64 52, .int .i64 2047, .int .i64 1075] 162)) (w.heap.size + 1) 162 #[.int .u64 52, .int .i64 2047, .int .i64 1075] ∧
    Below w.heap.size w ((w.alloc (.cells #[.bool neg, .int .u64 m, .int .i64 e] 229)).alloc (.cells #[.int .u64 52, .int .i64 2047, .int .i64 1075] 162))) := Lib.hid ⟨(BlkT.new w _ _).alloc _, BlkT.new1 w _ _ _, below2 _ _ _⟩
 clear hm0 hm ht ha he hL hD hM hM53 hE hE1 hT hTs ha64 hw1
 go_enter Tryz.func261, Tryz.ntmps261
 go_wp2_with fail
 refine (HTZ.out _ (HTT.out.1.below HTT.out.2 HF0.out.2.2)).mono ?_
 rintro e1 w1 ⟨rfl, rfl⟩
 go_wp2
 generalize hW : ((w.alloc (.cells #[.bool neg, .int .u64 m, .int .i64 e] 229)).alloc (.cells #[.int .u64 52, .int .i64 2047, .int .i64 1075] 162)) = W at HF0 ⊢
 clear hW
 refine wp_region_pl (fun w' : World => w'.cell? ⟨w.heap.size, 1, none⟩ = some (.int .u64 m) ∧ w'.cell? ⟨w.heap.size, 2, none⟩ = some (.int .i64 e)) 9 (.take 0 (.take 1 (.take 2 (.take 3 (.take 4 (.take 5 (.take 6 (.take 7 (.take 8 .nil))))))))) (by kernel_rfl) (by kernel_rfl) ?_
 have HF1 : Hid (BlkT W.drew w.heap.size 229 #[.bool neg, .int .u64 m, .int .i64 e] ∧ BlkT W.drew (w.heap.size + 1) 162 #[.int .u64 52, .int .i64 2047, .int .i64 1075] ∧ Below w.heap.size w W.drew) :=
  Lib.hid ⟨HF0.out.1.below (drew_below _), HF0.out.2.1.below (drew_below _), HF0.out.2.2.drew⟩
 clear HF0
 generalize W.drew = V at HF1 ⊢
 have hS : (fun w' : World => w'.cell? ⟨w.heap.size, 1, none⟩ = some (.int .u64 m) ∧ w'.cell? ⟨w.heap.size, 2, none⟩ = some (.int .i64 e)) V := ⟨HF1.out.1.cell 1, HF1.out.1.cell 2⟩
 have hw1 := HW1.out
 have hsr := HSR.out
 repeat (refine wpPl_take (v := ?_) rfl (fun _ _ _ h => h) rfl (fun w' hSw => ?_) hS ?_; rotate_left; focus (go_simp; with_reducible rfl); try simp only [Act.put, setL])
 clear hS hw1 hsr
 refine wpPl_nil ?_
 simp only [drL]
 have hw4 : IntKind.i64.wrap (e' - (D : Int)) = e' - D := IntWalk.i64_in _ (by omega)
 have hmin := HHD.out
 go_wp2_with fail
 refine (HLN.out _).mono ?_
 rintro e2 w2 ⟨rfl, rfl⟩
 obtain ⟨x0, x1, x2, x3, x4, x5⟩ := HF1.out.1.cells3
 obtain ⟨y0, y1, y2, y3, y4, y5⟩ := HF1.out.2.1.cells3
 go_wp2_with fail
 rw [HSH.out]
 refine (HH.out _).mono ?_
 rintro e3 w3 ⟨rfl, hb3⟩
 have HF3 : Hid (BlkT w3 w.heap.size 229 #[.bool neg, .int .u64 m, .int .i64 e] ∧ BlkT w3 (w.heap.size + 1) 162 #[.int .u64 52, .int .i64 2047, .int .i64 1075] ∧ Below w.heap.size w w3) :=
  Lib.hid ⟨HF1.out.1.below hb3, HF1.out.2.1.below hb3, HF1.out.2.2.trans (hb3.mono HF1.out.2.2.size)⟩
 clear hb3 x0 x1 x2 x3 x4 x5 y0 y1 y2 y3 y4 y5 hq1 hq2 hq3 hq4 hmin hmz HF1
 generalize kHid = kh at *
 obtain ⟨x0, x1, x2, x3, x4, x5⟩ := HF3.out.1.cells3
 obtain ⟨y0, y1, y2, y3, y4, y5⟩ := HF3.out.2.1.cells3
 by_cases hlt : M < kh
 ·have hlt2 : decide (M < kh) = true := decide_eq_true hlt
  have HJ := Lib.hid (HJ0.out hlt)
  have HRR := Lib.hid (HR.out.1 hlt)
  clear hlt
  go_wp2_with fail
  refine (HJ.out _).mono ?_
  rintro e4 w4 ⟨rfl, hb4⟩
  have HB4 := Lib.hid (HF3.out.2.2.trans (hb4.mono HF3.out.2.2.size))
  clear hb4
  go_wp2
  go_ret2
  exact ⟨by rw [HRR.out]; rfl, HB4.out⟩
 ·have hlt2 : decide (M < kh) = false := decide_eq_false hlt
  have HJ := Lib.hid (HJ1.out hlt)
  have HRR := Lib.hid (HR.out.2 hlt)
  have hE1 := HEE.out.1 hlt
  have HWW := Lib.hid (HWR.out hlt)
  clear hlt
  go_wp2
  refine wp_region_pl (fun w' : World => w'.cell? ⟨w.heap.size, 0, none⟩ = some (.bool neg) ∧ (w'.cell? ⟨w.heap.size + 1, 0, none⟩ = some (.int .u64 52) ∧ w'.cell? ⟨w.heap.size + 1, 1, none⟩ = some (.int .i64 2047)) ∧ w'.cell? ⟨w.heap.size + 1, 2, none⟩ = some (.int .i64 1075)) 11 (.take 0 (.take 1 (.take 2 (.take 3 (.take 4 (.take 7 (.run 5 (.take 6 (.run 8 (.take 9 (.take 10 .nil))))))))))) (by kernel_rfl) (by kernel_rfl) ?_
  have HF4 : Hid (BlkT w3.drew w.heap.size 229 #[.bool neg, .int .u64 m, .int .i64 e] ∧ BlkT w3.drew (w.heap.size + 1) 162 #[.int .u64 52, .int .i64 2047, .int .i64 1075] ∧ Below w.heap.size w w3.drew) :=
   Lib.hid ⟨HF3.out.1.below (drew_below _), HF3.out.2.1.below (drew_below _), HF3.out.2.2.drew⟩
  clear x0 x1 x2 x3 x4 x5 y0 y1 y2 y3 y4 y5 HF3 hlt2
  generalize w3.drew = V4 at HF4 ⊢
  have hS : (fun w' : World => w'.cell? ⟨w.heap.size, 0, none⟩ = some (.bool neg) ∧ (w'.cell? ⟨w.heap.size + 1, 0, none⟩ = some (.int .u64 52) ∧ w'.cell? ⟨w.heap.size + 1, 1, none⟩ = some (.int .i64 2047)) ∧ w'.cell? ⟨w.heap.size + 1, 2, none⟩ = some (.int .i64 1075)) V4 := ⟨HF4.out.1.cell 0, ⟨HF4.out.2.1.cell 0, HF4.out.2.1.cell 1⟩, HF4.out.2.1.cell 2⟩
  repeat (refine wpPl_take (v := ?_) rfl (fun _ _ _ h => h) rfl (fun w' hSw => ?_) hS ?_; rotate_left; focus (go_simp; with_reducible rfl); try simp only [Act.put, setL])
  clear hS
  refine wpPl_run rfl fun K' hK => ?_
  go_simp
  refine (HH.out _).mono ?_
  rintro e5 w5 ⟨rfl, hb5⟩
  have HF5 : Hid (BlkT w5 w.heap.size 229 #[.bool neg, .int .u64 m, .int .i64 e] ∧ BlkT w5 (w.heap.size + 1) 162 #[.int .u64 52, .int .i64 2047, .int .i64 1075] ∧ Below w.heap.size w w5) :=
   Lib.hid ⟨HF4.out.1.below hb5, HF4.out.2.1.below hb5, HF4.out.2.2.trans (hb5.mono HF4.out.2.2.size)⟩
  have hS : (fun w' : World => w'.cell? ⟨w.heap.size, 0, none⟩ = some (.bool neg) ∧ (w'.cell? ⟨w.heap.size + 1, 0, none⟩ = some (.int .u64 52) ∧ w'.cell? ⟨w.heap.size + 1, 1, none⟩ = some (.int .i64 2047)) ∧ w'.cell? ⟨w.heap.size + 1, 2, none⟩ = some (.int .i64 1075)) w5 := ⟨HF5.out.1.cell 0, ⟨HF5.out.2.1.cell 0, HF5.out.2.1.cell 1⟩, HF5.out.2.1.cell 2⟩
  refine hK _ _ hS ?_
  clear hK K' hb5 HF4
  have hww := HWW.out
  repeat (refine wpPl_take (v := ?_) rfl (fun _ _ _ h => h) rfl (fun w' hSw => ?_) hS ?_; rotate_left; focus (go_simp; with_reducible rfl); try simp only [Act.put, setL])
  clear hS hww
  refine wpPl_run rfl fun K' hK => ?_
  go_simp
  refine (HJ.out _).mono ?_
  rintro e6 w6 ⟨rfl, hb6⟩
  have HF6 : Hid (BlkT w6 w.heap.size 229 #[.bool neg, .int .u64 m, .int .i64 e] ∧ BlkT w6 (w.heap.size + 1) 162 #[.int .u64 52, .int .i64 2047, .int .i64 1075] ∧ Below w.heap.size w w6) :=
   Lib.hid ⟨HF5.out.1.below hb6, HF5.out.2.1.below hb6, HF5.out.2.2.trans (hb6.mono HF5.out.2.2.size)⟩
  have hS : (fun w' : World => w'.cell? ⟨w.heap.size, 0, none⟩ = some (.bool neg) ∧ (w'.cell? ⟨w.heap.size + 1, 0, none⟩ = some (.int .u64 52) ∧ w'.cell? ⟨w.heap.size + 1, 1, none⟩ = some (.int .i64 2047)) ∧ w'.cell? ⟨w.heap.size + 1, 2, none⟩ = some (.int .i64 1075)) w6 := ⟨HF6.out.1.cell 0, ⟨HF6.out.2.1.cell 0, HF6.out.2.1.cell 1⟩, HF6.out.2.1.cell 2⟩
  refine hK _ _ hS ?_
  clear hK K' hb6 HF5
  repeat (refine wpPl_take (v := ?_) rfl (fun _ _ _ h => h) rfl (fun w' hSw => ?_) hS ?_; rotate_left; focus (go_simp; with_reducible rfl); try simp only [Act.put, setL])
  clear hS
  refine wpPl_nil ?_
  simp only [drL]
  go_wp2
  go_ret2
  exact ⟨by rw [HRR.out]; rfl, HF6.out.2.2⟩
end
end Go.Proofs.YtfmecpembnmnkaaGreatDoor
