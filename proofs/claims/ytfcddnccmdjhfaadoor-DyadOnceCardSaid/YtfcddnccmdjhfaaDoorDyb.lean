/- Walks: what is cut off a whole number, by a mode. Printed by wip/gen/dyb.py. -/
import Derived.Test.YtfcddnccmdjhfaaDoorDya
namespace Go.Proofs.YtfcddnccmdjhfaaDoor
open Go.RowKit

/-- Whether a mode goes up from N / 2^d, rounded down. -/
def upB (N d : Nat) (neg : Bool) (mode : Int) : Bool :=
  if N % 2 ^ d = 0 then false
  else if mode = 3 then !neg
  else if mode = 4 then neg
  else if mode = 1 then decide (2 ^ (d - 1) ≤ N % 2 ^ d)
  else if mode = 0 then decide (2 ^ (d - 1) < N % 2 ^ d) || (decide (N % 2 ^ d = 2 ^ (d - 1)) && decide (N / 2 ^ d % 2 = 1))
  else false

/-- N / 2^down, rounded by a mode. -/
def cutZ (N : Nat) (down : Int) (neg : Bool) (mode : Int) : Nat :=
  if down ≤ 0 then N * 2 ^ (-down).toNat else N / 2 ^ down.toNat + (if upB N down.toNat neg mode then 1 else 0)

theorem up_z {N d : Nat} {neg : Bool} {mode : Int} (h : N % 2 ^ d = 0) : upB N d neg mode = false := by unfold upB; rw [if_pos h]
theorem up_0 {N d : Nat} {neg : Bool} (h : ¬ N % 2 ^ d = 0) : upB N d neg 0 = (decide (2 ^ (d - 1) < N % 2 ^ d) || (decide (N % 2 ^ d = 2 ^ (d - 1)) && decide (N / 2 ^ d % 2 = 1))) := by unfold upB; rw [if_neg h]; rfl
theorem up_1 {N d : Nat} {neg : Bool} (h : ¬ N % 2 ^ d = 0) : upB N d neg 1 = decide (2 ^ (d - 1) ≤ N % 2 ^ d) := by unfold upB; rw [if_neg h]; rfl
theorem up_2 {N d : Nat} {neg : Bool} (h : ¬ N % 2 ^ d = 0) : upB N d neg 2 = false := by unfold upB; rw [if_neg h]; rfl
theorem up_3 {N d : Nat} {neg : Bool} (h : ¬ N % 2 ^ d = 0) : upB N d neg 3 = !neg := by unfold upB; rw [if_neg h]; rfl
theorem up_4 {N d : Nat} {neg : Bool} (h : ¬ N % 2 ^ d = 0) : upB N d neg 4 = neg := by unfold upB; rw [if_neg h]; rfl

/-- What the walk of cut's tail needs to know. -/
theorem cut_fin {N d : Nat} {neg : Bool} {mode cz : Int} {q : Nat} (h : ((N / 2 ^ d + (if upB N d neg mode then 1 else 0) : Nat) : Int) = cz) (hq : N / 2 ^ d = q) : (upB N d neg mode = false → cz = q) ∧ (upB N d neg mode = true → cz = (q : Int) + 1) := by
  subst h; subst hq
  exact ⟨fun h => by rw [h]; simp, fun h => by rw [h]; simp⟩

theorem rest_eq (N d : Nat) : (N : Int) - (N : Int) / 2 ^ d * 2 ^ d = ((N % 2 ^ d : Nat) : Int) := by
  have h := Nat.div_add_mod N (2 ^ d)
  have e : (N : Int) / 2 ^ d * 2 ^ d = ((2 ^ d * (N / 2 ^ d) : Nat) : Int) := by simp [Int.mul_comm]
  rw [e]; omega

theorem pow_half (d : Nat) : (1 : Int) * 2 ^ d = ((2 ^ d : Nat) : Int) := by simp

theorem cmpZ_cases (a b : Nat) : (cmpZ (a : Int) b = 1 ∧ b < a) ∨ (cmpZ (a : Int) b = 0 ∧ a = b) ∨ (cmpZ (a : Int) b = -1 ∧ a < b) := by
  unfold cmpZ
  by_cases h1 : (a : Int) < b
  · rw [if_pos h1]; omega
  · rw [if_neg h1]
    by_cases h2 : (b : Int) < a
    · rw [if_pos h2]; omega
    · rw [if_neg h2]; omega

theorem bl_div_le (N k : Nat) : bl (N / 2 ^ k) ≤ bl N := bl_mono (Nat.div_le_self _ _)

theorem bl_pow (d : Nat) : bl (2 ^ d) ≤ d + 1 := bl_le_of_lt (by rw [Nat.pow_succ]; have := Nat.two_pow_pos d; omega)

/-- A number of the call's own, new since w0. -/
def Own1 (w0 W : World) (b : Nat) (z : Int) : Prop := IntAt W b 0 z ∧ w0.heap.size ≤ b

theorem Own1.later {w0 W V : World} {b : Nat} {z : Int} (h : Own1 w0 W b z) (hb : Below W.heap.size W V) : Own1 w0 V b z := ⟨h.1.below hb, h.2⟩

theorem Own1.mod {w0 W V : World} {b c : Nat} {z y : Int} (h : Own1 w0 W b z) (hm : Mod c 0 W V) (hne : b ≠ c) (hc : IntAt W c 0 y) : Own1 w0 V b z := ⟨h.1.mod hm (.inl hne) hc.1.2.1, h.2⟩

theorem drewN_below (w : World) (n : Nat) : Below w.heap.size w (w.drewN n) := ⟨rfl, rfl, rfl, Nat.le_refl _, fun _ _ => rfl⟩

set_option maxRecDepth 100000 in
set_option maxHeartbeats 400000 in
theorem cut_shl (b N : Nat) (down : Int) (neg : Bool) (mode : Int) (w : World) (hx : IntAt w b 0 (N : Int)) (hl : bl N ≤ 34359738368) (h1 : down ≤ 0) (h2 : -1099511627776 ≤ down) :
    Calls Tryd.prog 58 #[.pointer (some ⟨b, 0, none⟩), .int .i64 down, .bool neg, .int .i64 mode] w (News .u64 64 (cutZ N down neg mode : Nat) w) := by
  have HX := Lib.hid hx
  have HL := Lib.hid hl
  have HN : Hid (-down = ((-down).toNat : Int)) := Lib.hid (by omega)
  have HN2 : Hid ((-down).toNat ≤ 1099511627776) := Lib.hid (by omega)
  unfold cutZ
  rw [if_pos h1]
  generalize (-down).toNat = n at *
  have HE : Hid ((N : Int) * 2 ^ n = ((N * 2 ^ n : Nat) : Int)) := Lib.hid (by simp)
  clear hx hl
  have HZ := Lib.hid (IntK.zero (k := .u64) (s := 64) w _ objT_int)
  go_enter Tryd.func58, Tryd.ntmps58
  go_wp2_with fail
  refine (Lsh_at _ 0 _ 0 n _ N _ HZ.out.1 (HX.out.below (below1 _ _)) (by rw [Int.natAbs_natCast]; exact ln_of_bl (Nat.le_trans HL.out (by decide))) HN2.out HN.out).mono ?_
  rintro e2 w2 ⟨rfl, hi2, hm2⟩
  rw [HE.out] at hi2
  have HI := Lib.hid hi2
  have HB := Lib.hid (hm2.below (below1 _ _) (Nat.le_refl _) (below1 _ _).size)
  clear hi2 hm2
  go_wp2
  go_ret
  exact ⟨_, rfl, Nat.le_refl _, HI.out, HB.out⟩

set_option maxRecDepth 100000 in
set_option maxHeartbeats 4000000 in
theorem cut_shr (b N d : Nat) (neg : Bool) (mode : Int) (w : World) (hx : IntAt w b 0 (N : Int)) (hl : bl N ≤ 34359738368) (h1 : 0 < d) (h2 : d ≤ 17179869184) (hmode : mode = 0 ∨ mode = 1 ∨ mode = 2 ∨ mode = 3 ∨ mode = 4) :
    Calls Tryd.prog 58 #[.pointer (some ⟨b, 0, none⟩), .int .i64 d, .bool neg, .int .i64 mode] w (News .u64 64 ((N / 2 ^ d + (if upB N d neg mode then 1 else 0) : Nat) : Int) w) := by
  have HX := Lib.hid hx
  have HL := Lib.hid hl
  have HCC := Lib.hid (cmpZ_cases (N % 2 ^ d) (2 ^ (d - 1)))
  obtain ⟨cz, hcz⟩ : ∃ cz : Int, ((N / 2 ^ d + (if upB N d neg mode then 1 else 0) : Nat) : Int) = cz := ⟨_, rfl⟩
  rw [hcz]
  obtain ⟨q, hq⟩ : ∃ q, N / 2 ^ d = q := ⟨_, rfl⟩
  obtain ⟨r, hr⟩ : ∃ r, N % 2 ^ d = r := ⟨_, rfl⟩
  obtain ⟨P, hP⟩ : ∃ P, 2 ^ (d - 1) = P := ⟨_, rfl⟩
  have HCZ := Lib.hid (cut_fin hcz hq)
  have HRQ := Lib.hid (And.intro hr (And.intro hq hP))
  have HPB : Hid (bl P ≤ 34359738368) := Lib.hid (by rw [← hP]; exact Nat.le_trans (bl_pow _) (by omega))
  have HRB : Hid (bl r ≤ 34359738368) := Lib.hid (by rw [← hr]; exact Nat.le_trans (bl_mono (Nat.mod_le _ _)) hl)
  have HRE := Lib.hid (rest_eq N d)
  have HPH := Lib.hid (pow_half (d - 1))
  have HDQ : Hid ((N : Int) / 2 ^ d = ((N / 2 ^ d : Nat) : Int)) := Lib.hid (by simp)
  have HLQ : Hid (bl (N / 2 ^ d) ≤ 34359738368) := Lib.hid (Nat.le_trans (bl_div_le _ _) hl)
  have HDM : Hid ((d : Int) - 1 = ((d - 1 : Nat) : Int)) := Lib.hid (by omega)
  rw [hr, hP] at HCC
  rw [hr] at HRE
  rw [hP] at HPH
  rw [hq] at HDQ HLQ
  rw [HDQ.out] at HRE
  clear hx hl hcz hq hr hP
  have HZ := Lib.hid (IntK.zero (k := .u64) (s := 64) w _ objT_int)
  go_enter Tryd.func58, Tryd.ntmps58
  go_wp2_with fail
  refine (Rsh_at _ 0 _ 0 d _ N _ HZ.out.1 (HX.out.below (below1 _ _)) (by rw [Int.natAbs_natCast]; exact ln_of_bl (Nat.le_trans HL.out (by decide))) (by omega) rfl).mono ?_
  rintro e1 w1 ⟨rfl, hi1, hm1⟩
  have HB1 := Lib.hid (hm1.below (below1 _ _) (Nat.le_refl _) (below1 _ _).size)
  rw [HDQ.out] at hi1
  have HQ1 : Hid (Own1 w w1 w.heap.size (q : Int)) := Lib.hid ⟨hi1, Nat.le_refl _⟩
  clear hi1 hm1 HZ
  obtain ⟨qb, hqb⟩ : ∃ qb, w.heap.size = qb := ⟨_, rfl⟩
  rw [hqb] at HQ1 ⊢
  have HQB := Lib.hid hqb
  clear hqb
  go_wp2_with fail
  have HZ1 := Lib.hid (IntK.zero1 (k := .u64) (s := 64) w1 (.cells #[.bool false, .slice none 0 0] 60) _ objT_int)
  have HQ2 := Lib.hid (HQ1.out.later (below2 w1 (.cells #[.bool false, .slice none 0 0] 60) (.cells #[.bool false, .slice none 0 0] 60)))
  refine (Lsh_at _ 0 qb 0 d _ q _ HZ1.out.1 HQ2.out.1 (by rw [Int.natAbs_natCast]; exact ln_of_bl (Nat.le_trans HLQ.out (by decide))) (by omega) rfl).mono ?_
  rintro e2 w2 ⟨rfl, hi2, hm2⟩
  have HB2 : Hid (Below w1.heap.size w1 w2) := Lib.hid (hm2.below (below2 _ _ _) (by omega) (below2 _ _ _).size)
  have HZ2 := Lib.hid (((IntK.zero (k := .u64) (s := 64) w1 _ objT_int).below (Below.alloc_self _ (.cells #[.bool false, .slice none 0 0] 60))).mod hm2 (.inl (by omega)) (IntK.zero1 (k := .u64) (s := 64) w1 (.cells #[.bool false, .slice none 0 0] 60) _ objT_int).1.2.1)
  have HQ3 := Lib.hid (HQ1.out.later HB2.out)
  have HL2 := Lib.hid hi2
  have HQR : Hid (qb ≠ w1.heap.size) := Lib.hid (by have := HQ1.out.1.1.1; omega)
  clear hi2 hm2 HZ1 HQ2 HQ1
  have HBA := Lib.hid (HB1.out.trans (HB2.out.mono HB1.out.size))
  have HR0 : Hid (w.heap.size ≤ w1.heap.size) := Lib.hid HB1.out.size
  generalize w1.heap.size + 1 = tb at *
  generalize w1.heap.size = rb at *
  go_wp2_with fail
  refine (Sub_any rb 0 _ 0 tb 0 _ _ _ HZ2.out.1 (HX.out.below HBA.out) HL2.out (by rw [Int.natAbs_natCast]; exact ln_of_bl (Nat.le_trans HL.out (by decide))) ?_).mono ?_
  · exact ln_of_bl (Nat.le_trans (bl_shl _ _) (by rw [Int.natAbs_natCast]; have := HLQ.out; omega))
  rintro e3 w3 ⟨rfl, hi3, hm3⟩
  rw [HRE.out] at hi3
  have HQ4 := Lib.hid (HQ3.out.mod hm3 HQR.out HZ2.out)
  have HR4 : Hid (Own1 w w3 rb (r : Nat)) := Lib.hid ⟨hi3, HR0.out⟩
  have HB3 := Lib.hid (hm3.below HBA.out HR0.out HBA.out.size)
  clear hi3 hm3 HZ2 HL2 HQ3 HBA HB1 HB2 HR0 HQR
  go_wp2_with fail
  refine (NewInt_any 1 _ (by omega) (by omega)).mono ?_
  rintro e4 w4 ⟨ob, rfl, hob, hi4, hb4⟩
  have HZ4 := Lib.hid ((IntK.zero (k := .u64) (s := 64) w3 _ objT_int).below hb4)
  have HO4 := Lib.hid hi4
  have HB34 : Hid (Below w3.heap.size w3 w4) := Lib.hid ((below1 w3 _).trans (hb4.mono (below1 w3 _).size))
  clear hob hi4 hb4
  go_wp2_with fail
  refine (Lsh_at _ 0 ob 0 (d - 1) _ 1 _ HZ4.out.1 HO4.out (by decide) (by omega) HDM.out).mono ?_
  rintro e5 w5 ⟨rfl, hi5, hm5⟩
  rw [HPH.out] at hi5
  have HB35 : Hid (Below w3.heap.size w3 w5) := Lib.hid (hm5.below HB34.out (Nat.le_refl _) HB34.out.size)
  have HH5 := Lib.hid hi5
  have HQ5 := Lib.hid (HQ4.out.later HB35.out)
  have HR5 := Lib.hid (HR4.out.later HB35.out)
  have HB5 := Lib.hid (HB3.out.trans (HB35.out.mono HB3.out.size))
  clear hi5 hm5 HZ4 HO4 HB34 HB35 HQ4 HR4 HB3
  generalize w3.heap.size = hb at *
  go_wp2_with fail
  refine (Cmp_any rb 0 hb 0 r P _ HR5.out.1 HH5.out).mono ?_
  rintro e6 wd ⟨rfl, nd, rfl⟩
  have HQ := Lib.hid (HQ5.out.later (drewN_below w5 nd))
  have HR := Lib.hid (HR5.out.later (drewN_below w5 nd))
  have HB := Lib.hid (HB5.out.trans ((drewN_below w5 nd).mono HB5.out.size))
  generalize w5.drewN nd = w6 at HQ HR HB ⊢
  clear HQ5 HR5 HB5 HH5
  generalize cmpZ (r : Int) (P : Int) = h0 at HCC ⊢
  by_cases hrest : r = 0
  · have HS : Hid (((r : Nat) : Int).sign = 0) := Lib.hid (by rw [hrest]; rfl)
    have H0 : Hid (N % 2 ^ d = 0) := Lib.hid (by rw [HRQ.out.1]; exact hrest)
    clear hrest
    have HU : Hid (cz = q) := Lib.hid (HCZ.out.1 (up_z H0.out))
    go_wp2_with fail
    refine (Sign_any rb 0 _ _ HR.out.1).mono ?_
    rintro e6 w6 ⟨rfl, rfl⟩
    rw [HS.out]
    go_wp2
    go_ret
    exact ⟨qb, rfl, HQ.out.2, by rw [HU.out]; exact HQ.out.1, HB.out⟩
  · obtain ⟨sg, HS, hsg⟩ : ∃ sg, Hid (((r : Nat) : Int).sign = sg) ∧ (sg == 0) = false := ⟨_, Lib.hid rfl, sg_ne (by omega)⟩
    have H0 : Hid (¬ N % 2 ^ d = 0) := Lib.hid (by rw [HRQ.out.1]; exact hrest)
    clear hrest
    rcases hmode with rfl | rfl | rfl | rfl | rfl
    · rcases HCC.out with ⟨rfl, h'⟩ | ⟨rfl, h'⟩ | ⟨rfl, h'⟩
      · skip
        have HW := Lib.hid h'
        clear h'
        have HU : Hid (cz = (q : Int) + 1) := Lib.hid (HCZ.out.2 (by rw [up_0 H0.out, HRQ.out.1, HRQ.out.2.1, HRQ.out.2.2]; simp; have := HW.out; omega))
        go_wp2_with fail
        refine (Sign_any rb 0 _ _ HR.out.1).mono ?_
        rintro e6 w6 ⟨rfl, rfl⟩
        rw [HS.out]
        go_wp2_with fail
        refine (NewInt_any 1 _ (by omega) (by omega)).mono ?_
        rintro e9 w9 ⟨ob, rfl, hob, hi9, hb9⟩
        have HQ9 := Lib.hid (HQ.out.later hb9)
        have HB9 := Lib.hid (HB.out.trans (hb9.mono HB.out.size))
        have HO9 := Lib.hid hi9
        clear hob hi9 hb9
        go_wp2_with fail
        refine (Add_any qb 0 qb 0 ob 0 _ _ _ HQ9.out.1.1 HQ9.out.1 HO9.out ?_ (by decide)).mono ?_
        · rw [Int.natAbs_natCast]; exact ln_of_bl (Nat.le_trans HLQ.out (by decide))
        rintro e9 w10 ⟨rfl, hi10, hm10⟩
        have HF := Lib.hid hi10
        have HB10 := Lib.hid (hm10.below HB9.out HQ9.out.2 HB9.out.size)
        clear hi10 hm10
        go_wp2
        go_ret
        exact ⟨qb, rfl, HQ.out.2, by rw [HU.out]; exact HF.out, HB10.out⟩
      · by_cases hq : q % 2 = 1
        · have HBT : Hid ((((q : Nat) : Int).natAbs / 2 ^ 0 % 2 : Nat) = 1) := Lib.hid (by rw [Int.natAbs_natCast]; simpa using hq)
          have HW := Lib.hid (And.intro h' hq)
          clear h' hq
          have HU : Hid (cz = (q : Int) + 1) := Lib.hid (HCZ.out.2 (by rw [up_0 H0.out, HRQ.out.1, HRQ.out.2.1, HRQ.out.2.2]; simp; have := HW.out; omega))
          go_wp2_with fail
          refine (Sign_any rb 0 _ _ HR.out.1).mono ?_
          rintro e6 w6 ⟨rfl, rfl⟩
          rw [HS.out]
          go_wp2_with fail
          refine (Bit_any qb 0 0 _ _ HQ.out.1 (by omega)).mono ?_
          rintro e7 w7 ⟨rfl, rfl⟩
          rw [HBT.out]
          go_wp2_with fail
          refine (NewInt_any 1 _ (by omega) (by omega)).mono ?_
          rintro e9 w9 ⟨ob, rfl, hob, hi9, hb9⟩
          have HQ9 := Lib.hid (HQ.out.later hb9)
          have HB9 := Lib.hid (HB.out.trans (hb9.mono HB.out.size))
          have HO9 := Lib.hid hi9
          clear hob hi9 hb9
          go_wp2_with fail
          refine (Add_any qb 0 qb 0 ob 0 _ _ _ HQ9.out.1.1 HQ9.out.1 HO9.out ?_ (by decide)).mono ?_
          · rw [Int.natAbs_natCast]; exact ln_of_bl (Nat.le_trans HLQ.out (by decide))
          rintro e9 w10 ⟨rfl, hi10, hm10⟩
          have HF := Lib.hid hi10
          have HB10 := Lib.hid (hm10.below HB9.out HQ9.out.2 HB9.out.size)
          clear hi10 hm10
          go_wp2
          go_ret
          exact ⟨qb, rfl, HQ.out.2, by rw [HU.out]; exact HF.out, HB10.out⟩
        · have HBT : Hid ((((q : Nat) : Int).natAbs / 2 ^ 0 % 2 : Nat) = 0) := Lib.hid (by rw [Int.natAbs_natCast]; simpa using (by omega : q % 2 = 0))
          have HW := Lib.hid (And.intro h' hq)
          clear h' hq
          have HU : Hid (cz = q) := Lib.hid (HCZ.out.1 (by rw [up_0 H0.out, HRQ.out.1, HRQ.out.2.1, HRQ.out.2.2]; simp; have := HW.out; omega))
          go_wp2_with fail
          refine (Sign_any rb 0 _ _ HR.out.1).mono ?_
          rintro e6 w6 ⟨rfl, rfl⟩
          rw [HS.out]
          go_wp2_with fail
          refine (Bit_any qb 0 0 _ _ HQ.out.1 (by omega)).mono ?_
          rintro e7 w7 ⟨rfl, rfl⟩
          rw [HBT.out]
          go_wp2
          go_ret
          exact ⟨qb, rfl, HQ.out.2, by rw [HU.out]; exact HQ.out.1, HB.out⟩
      · skip
        have HW := Lib.hid h'
        clear h'
        have HU : Hid (cz = q) := Lib.hid (HCZ.out.1 (by rw [up_0 H0.out, HRQ.out.1, HRQ.out.2.1, HRQ.out.2.2]; simp; have := HW.out; omega))
        go_wp2_with fail
        refine (Sign_any rb 0 _ _ HR.out.1).mono ?_
        rintro e6 w6 ⟨rfl, rfl⟩
        rw [HS.out]
        go_wp2
        go_ret
        exact ⟨qb, rfl, HQ.out.2, by rw [HU.out]; exact HQ.out.1, HB.out⟩
    · rcases HCC.out with ⟨rfl, h'⟩ | ⟨rfl, h'⟩ | ⟨rfl, h'⟩
      · skip
        have HW := Lib.hid h'
        clear h'
        have HU : Hid (cz = (q : Int) + 1) := Lib.hid (HCZ.out.2 (by rw [up_1 H0.out, HRQ.out.1, HRQ.out.2.2]; simp; have := HW.out; omega))
        go_wp2_with fail
        refine (Sign_any rb 0 _ _ HR.out.1).mono ?_
        rintro e6 w6 ⟨rfl, rfl⟩
        rw [HS.out]
        go_wp2_with fail
        refine (NewInt_any 1 _ (by omega) (by omega)).mono ?_
        rintro e9 w9 ⟨ob, rfl, hob, hi9, hb9⟩
        have HQ9 := Lib.hid (HQ.out.later hb9)
        have HB9 := Lib.hid (HB.out.trans (hb9.mono HB.out.size))
        have HO9 := Lib.hid hi9
        clear hob hi9 hb9
        go_wp2_with fail
        refine (Add_any qb 0 qb 0 ob 0 _ _ _ HQ9.out.1.1 HQ9.out.1 HO9.out ?_ (by decide)).mono ?_
        · rw [Int.natAbs_natCast]; exact ln_of_bl (Nat.le_trans HLQ.out (by decide))
        rintro e9 w10 ⟨rfl, hi10, hm10⟩
        have HF := Lib.hid hi10
        have HB10 := Lib.hid (hm10.below HB9.out HQ9.out.2 HB9.out.size)
        clear hi10 hm10
        go_wp2
        go_ret
        exact ⟨qb, rfl, HQ.out.2, by rw [HU.out]; exact HF.out, HB10.out⟩
      · skip
        have HW := Lib.hid h'
        clear h'
        have HU : Hid (cz = (q : Int) + 1) := Lib.hid (HCZ.out.2 (by rw [up_1 H0.out, HRQ.out.1, HRQ.out.2.2]; simp; have := HW.out; omega))
        go_wp2_with fail
        refine (Sign_any rb 0 _ _ HR.out.1).mono ?_
        rintro e6 w6 ⟨rfl, rfl⟩
        rw [HS.out]
        go_wp2_with fail
        refine (NewInt_any 1 _ (by omega) (by omega)).mono ?_
        rintro e9 w9 ⟨ob, rfl, hob, hi9, hb9⟩
        have HQ9 := Lib.hid (HQ.out.later hb9)
        have HB9 := Lib.hid (HB.out.trans (hb9.mono HB.out.size))
        have HO9 := Lib.hid hi9
        clear hob hi9 hb9
        go_wp2_with fail
        refine (Add_any qb 0 qb 0 ob 0 _ _ _ HQ9.out.1.1 HQ9.out.1 HO9.out ?_ (by decide)).mono ?_
        · rw [Int.natAbs_natCast]; exact ln_of_bl (Nat.le_trans HLQ.out (by decide))
        rintro e9 w10 ⟨rfl, hi10, hm10⟩
        have HF := Lib.hid hi10
        have HB10 := Lib.hid (hm10.below HB9.out HQ9.out.2 HB9.out.size)
        clear hi10 hm10
        go_wp2
        go_ret
        exact ⟨qb, rfl, HQ.out.2, by rw [HU.out]; exact HF.out, HB10.out⟩
      · skip
        have HW := Lib.hid h'
        clear h'
        have HU : Hid (cz = q) := Lib.hid (HCZ.out.1 (by rw [up_1 H0.out, HRQ.out.1, HRQ.out.2.2]; simp; have := HW.out; omega))
        go_wp2_with fail
        refine (Sign_any rb 0 _ _ HR.out.1).mono ?_
        rintro e6 w6 ⟨rfl, rfl⟩
        rw [HS.out]
        go_wp2
        go_ret
        exact ⟨qb, rfl, HQ.out.2, by rw [HU.out]; exact HQ.out.1, HB.out⟩
    · have HU : Hid (cz = q) := Lib.hid (HCZ.out.1 (up_2 H0.out))
      go_wp2_with fail
      refine (Sign_any rb 0 _ _ HR.out.1).mono ?_
      rintro e6 w6 ⟨rfl, rfl⟩
      rw [HS.out]
      go_wp2
      go_ret
      exact ⟨qb, rfl, HQ.out.2, by rw [HU.out]; exact HQ.out.1, HB.out⟩
    · cases neg
      · have HU : Hid (cz = (q : Int) + 1) := Lib.hid (HCZ.out.2 (by rw [up_3 H0.out]; rfl))
        go_wp2_with fail
        refine (Sign_any rb 0 _ _ HR.out.1).mono ?_
        rintro e6 w6 ⟨rfl, rfl⟩
        rw [HS.out]
        go_wp2_with fail
        refine (NewInt_any 1 _ (by omega) (by omega)).mono ?_
        rintro e9 w9 ⟨ob, rfl, hob, hi9, hb9⟩
        have HQ9 := Lib.hid (HQ.out.later hb9)
        have HB9 := Lib.hid (HB.out.trans (hb9.mono HB.out.size))
        have HO9 := Lib.hid hi9
        clear hob hi9 hb9
        go_wp2_with fail
        refine (Add_any qb 0 qb 0 ob 0 _ _ _ HQ9.out.1.1 HQ9.out.1 HO9.out ?_ (by decide)).mono ?_
        · rw [Int.natAbs_natCast]; exact ln_of_bl (Nat.le_trans HLQ.out (by decide))
        rintro e9 w10 ⟨rfl, hi10, hm10⟩
        have HF := Lib.hid hi10
        have HB10 := Lib.hid (hm10.below HB9.out HQ9.out.2 HB9.out.size)
        clear hi10 hm10
        go_wp2
        go_ret
        exact ⟨qb, rfl, HQ.out.2, by rw [HU.out]; exact HF.out, HB10.out⟩
      · have HU : Hid (cz = q) := Lib.hid (HCZ.out.1 (by rw [up_3 H0.out]; rfl))
        go_wp2_with fail
        refine (Sign_any rb 0 _ _ HR.out.1).mono ?_
        rintro e6 w6 ⟨rfl, rfl⟩
        rw [HS.out]
        go_wp2
        go_ret
        exact ⟨qb, rfl, HQ.out.2, by rw [HU.out]; exact HQ.out.1, HB.out⟩
    · cases neg
      · have HU : Hid (cz = q) := Lib.hid (HCZ.out.1 (up_4 H0.out))
        go_wp2_with fail
        refine (Sign_any rb 0 _ _ HR.out.1).mono ?_
        rintro e6 w6 ⟨rfl, rfl⟩
        rw [HS.out]
        go_wp2
        go_ret
        exact ⟨qb, rfl, HQ.out.2, by rw [HU.out]; exact HQ.out.1, HB.out⟩
      · have HU : Hid (cz = (q : Int) + 1) := Lib.hid (HCZ.out.2 (up_4 H0.out))
        go_wp2_with fail
        refine (Sign_any rb 0 _ _ HR.out.1).mono ?_
        rintro e6 w6 ⟨rfl, rfl⟩
        rw [HS.out]
        go_wp2_with fail
        refine (NewInt_any 1 _ (by omega) (by omega)).mono ?_
        rintro e9 w9 ⟨ob, rfl, hob, hi9, hb9⟩
        have HQ9 := Lib.hid (HQ.out.later hb9)
        have HB9 := Lib.hid (HB.out.trans (hb9.mono HB.out.size))
        have HO9 := Lib.hid hi9
        clear hob hi9 hb9
        go_wp2_with fail
        refine (Add_any qb 0 qb 0 ob 0 _ _ _ HQ9.out.1.1 HQ9.out.1 HO9.out ?_ (by decide)).mono ?_
        · rw [Int.natAbs_natCast]; exact ln_of_bl (Nat.le_trans HLQ.out (by decide))
        rintro e9 w10 ⟨rfl, hi10, hm10⟩
        have HF := Lib.hid hi10
        have HB10 := Lib.hid (hm10.below HB9.out HQ9.out.2 HB9.out.size)
        clear hi10 hm10
        go_wp2
        go_ret
        exact ⟨qb, rfl, HQ.out.2, by rw [HU.out]; exact HF.out, HB10.out⟩

end Go.Proofs.YtfcddnccmdjhfaaDoor
