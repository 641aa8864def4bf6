/- Walks: the references' Near. Printed by wip/gen/near.py. -/
import Derived.Test.YtjoajbbapfgaoaaGreatDoorZRn1
import Derived.Test.YtjoajbbapfgaoaaGreatDoorGP
namespace Go.Proofs.YtjoajbbapfgaoaaGreatDoor
open Go.RowKit

/-- A number of the call's own, new since w0. -/
def ROwn1 (w0 W : World) (b : Nat) (z : Int) : Prop := RInt W b z ∧ w0.heap.size ≤ b

theorem ROwn1.later {w0 W V : World} {b : Nat} {z : Int} (h : ROwn1 w0 W b z) (hb : Below W.heap.size W V) : ROwn1 w0 V b z := ⟨h.1.below hb, h.2⟩

theorem ROwn1.mod {w0 W V : World} {b c : Nat} {z y : Int} (h : ROwn1 w0 W b z) (hm : Mod c 0 W V) (hne : b ≠ c) (hc : RInt W c y) : ROwn1 w0 V b z := ⟨h.1.mod hm (.inl hne) hc.1.2.1, h.2⟩

theorem ediv_natAbs_le (z : Int) (d : Nat) : (z / 2 ^ d).natAbs ≤ z.natAbs := Int.natAbs_ediv_le_natAbs _ _

set_option maxRecDepth 100000 in
set_option maxHeartbeats 400000 in
theorem rNear_shl (b : Nat) (z down mode : Int) (w : World) (hx : RInt w b z) (hl : bl z.natAbs ≤ 34359738368) (h1 : down ≤ 0) (h2 : -1099511627776 ≤ down) :
    Calls Tryz.prog 35 #[.pointer (some ⟨b, 0, none⟩), .int .i64 down, .int .i64 mode] w (News .u32 32 (nearZ z down mode) w) := by
  have HX := Lib.hid hx
  have HL := Lib.hid hl
  have HN : Hid (-down = ((-down).toNat : Int)) := Lib.hid (by omega)
  have HN2 : Hid ((-down).toNat ≤ 1099511627776) := Lib.hid (by omega)
  rw [nearZ_shl h1]
  generalize (-down).toNat = n at *
  clear hx hl
  have HZ := Lib.hid (IntK.zero (k := .u32) (s := 32) w _ objT_rint)
  go_enter Tryz.func35, Tryz.ntmps35
  go_wp2_with fail
  refine (rLsh_at _ 0 _ 0 n _ z _ HZ.out.1 (HX.out.below (below1 _ _)) (rln_of_bl (Nat.le_trans HL.out (by decide))) HN2.out HN.out).mono ?_
  rintro e2 w2 ⟨rfl, hi2, hm2⟩
  have HI := Lib.hid hi2
  have HB := Lib.hid (hm2.below (below1 _ _) (Nat.le_refl _) (below1 _ _).size)
  clear hi2 hm2
  go_wp2
  go_ret
  exact ⟨_, rfl, Nat.le_refl _, HI.out, HB.out⟩

set_option maxRecDepth 100000 in
set_option maxHeartbeats 4000000 in
theorem rNear_shr (b : Nat) (z : Int) (d : Nat) (mode : Int) (w : World) (hx : RInt w b z) (hl : bl z.natAbs ≤ 34359738368) (h1 : 0 < d) (h2 : d ≤ 17179869184) (hmode : mode = 0 ∨ mode = 1 ∨ mode = 2 ∨ mode = 3 ∨ mode = 4) :
    Calls Tryz.prog 35 #[.pointer (some ⟨b, 0, none⟩), .int .i64 d, .int .i64 mode] w (News .u32 32 (nearZ z d mode) w) := by
  have HX := Lib.hid hx
  have HL := Lib.hid hl
  obtain ⟨r, hr1, hr2, hr3, hr4⟩ := near_fin z d mode h1 hmode
  have HCC := Lib.hid (cmpZ_cases r (2 ^ (d - 1)))
  have HLQ : Hid (bl (z / 2 ^ d).natAbs ≤ 34359738368) := Lib.hid (Nat.le_trans (bl_mono (ediv_natAbs_le _ _)) hl)
  have HZ0' : Hid (r ≠ 0 → z ≠ 0) := Lib.hid (by
    intro h h0; subst h0
    rw [Int.zero_ediv, Int.zero_mul] at hr1; omega)
  obtain ⟨nz, hnz⟩ : ∃ nz, nearZ z d mode = nz := ⟨_, rfl⟩
  rw [hnz] at hr3 hr4 ⊢
  have HQE : Hid (z / 2 ^ d = z / 2 ^ d) := Lib.hid rfl
  obtain ⟨q, hq⟩ : ∃ q, z / 2 ^ d = q := ⟨_, rfl⟩
  obtain ⟨P, hP⟩ : ∃ P, 2 ^ (d - 1) = P := ⟨_, rfl⟩
  have HPH : Hid ((1 : Int) * 2 ^ (d - 1) = (P : Int)) := Lib.hid (by rw [← hP]; exact pow_half _)
  rw [hq] at hr1 hr3 hr4 HLQ
  rw [hP] at hr4 HCC
  have HDQ := Lib.hid hq
  have HRE := Lib.hid hr1
  have HCZA := Lib.hid hr3
  have HCZB := Lib.hid hr4
  have HRB : Hid (bl r ≤ 34359738368) := Lib.hid (Nat.le_trans (bl_le_of_lt hr2) (by omega))
  have HDM : Hid ((d : Int) - 1 = ((d - 1 : Nat) : Int)) := Lib.hid (by omega)
  clear hx hl hnz hq hr1 hr2 hr3 hr4 hP HQE
  have HZ := Lib.hid (IntK.zero (k := .u32) (s := 32) w _ objT_rint)
  go_enter Tryz.func35, Tryz.ntmps35
  go_wp2_with fail
  refine (rRsh_at _ 0 _ 0 d _ z _ HZ.out.1 (HX.out.below (below1 _ _)) (rln_of_bl (Nat.le_trans HL.out (by decide))) (by omega) rfl).mono ?_
  rintro e1 w1 ⟨rfl, hi1, hm1⟩
  have HB1 := Lib.hid (hm1.below (below1 _ _) (Nat.le_refl _) (below1 _ _).size)
  rw [HDQ.out] at hi1
  have HQ1 : Hid (ROwn1 w w1 w.heap.size q) := Lib.hid ⟨hi1, Nat.le_refl _⟩
  clear hi1 hm1 HZ
  obtain ⟨qb, hqb⟩ : ∃ qb, w.heap.size = qb := ⟨_, rfl⟩
  rw [hqb] at HQ1 ⊢
  have HQB := Lib.hid hqb
  clear hqb
  go_wp2_with fail
  have HZ1 := Lib.hid (IntK.zero1 (k := .u32) (s := 32) w1 (.cells #[.bool false, .slice none 0 0] 108) _ objT_rint)
  have HQ2 := Lib.hid (HQ1.out.later (below2 w1 (.cells #[.bool false, .slice none 0 0] 108) (.cells #[.bool false, .slice none 0 0] 108)))
  refine (rLsh_at _ 0 qb 0 d _ q _ HZ1.out.1 HQ2.out.1 (rln_of_bl (Nat.le_trans HLQ.out (by decide))) (by omega) rfl).mono ?_
  rintro e2 w2 ⟨rfl, hi2, hm2⟩
  have HB2 : Hid (Below w1.heap.size w1 w2) := Lib.hid (hm2.below (below2 _ _ _) (by omega) (below2 _ _ _).size)
  have HZ2 := Lib.hid (((IntK.zero (k := .u32) (s := 32) w1 _ objT_rint).below (Below.alloc_self _ (.cells #[.bool false, .slice none 0 0] 108))).mod hm2 (.inl (by omega)) (IntK.zero1 (k := .u32) (s := 32) w1 (.cells #[.bool false, .slice none 0 0] 108) _ objT_rint).1.2.1)
  have HQ3 := Lib.hid (HQ1.out.later HB2.out)
  have HL2 := Lib.hid hi2
  have HQR : Hid (qb ≠ w1.heap.size) := Lib.hid (by have := HQ1.out.1.1.1; omega)
  clear hi2 hm2 HZ1 HQ2 HQ1
  have HBA := Lib.hid (HB1.out.trans (HB2.out.mono HB1.out.size))
  have HR0 : Hid (w.heap.size ≤ w1.heap.size) := Lib.hid HB1.out.size
  generalize w1.heap.size + 1 = tb at *
  generalize w1.heap.size = rb at *
  go_wp2_with fail
  refine (rSub_any rb 0 _ 0 tb 0 _ _ _ HZ2.out.1 (HX.out.below HBA.out) HL2.out (rln_of_bl (Nat.le_trans HL.out (by decide))) ?_).mono ?_
  · exact rln_of_bl (Nat.le_trans (bl_shl _ _) (by have := HLQ.out; omega))
  rintro e3 w3 ⟨rfl, hi3, hm3⟩
  rw [HRE.out] at hi3
  have HQ4 := Lib.hid (HQ3.out.mod hm3 HQR.out HZ2.out)
  have HR4 : Hid (ROwn1 w w3 rb (r : Nat)) := Lib.hid ⟨hi3, HR0.out⟩
  have HB3 := Lib.hid (hm3.below HBA.out HR0.out HBA.out.size)
  clear hi3 hm3 HZ2 HL2 HQ3 HBA HB1 HB2 HR0 HQR
  by_cases hrest : r = 0
  · have HS : Hid (((r : Nat) : Int).sign = 0) := Lib.hid (by rw [hrest]; rfl)
    have HU : Hid (nz = q) := Lib.hid (HCZA.out hrest)
    clear hrest
    go_wp2_with fail
    refine (rSign_any rb 0 _ _ HR4.out.1).mono ?_
    rintro e6 w6 ⟨rfl, rfl⟩
    rw [HS.out]
    go_wp2
    go_ret
    exact ⟨qb, rfl, HQ4.out.2, by rw [HU.out]; exact HQ4.out.1, HB3.out⟩
  obtain ⟨sg, HS, hsg⟩ : ∃ sg, Hid (((r : Nat) : Int).sign = sg) ∧ (sg == 0) = false := ⟨_, Lib.hid rfl, sg_ne (by omega)⟩
  have HCZ := Lib.hid (HCZB.out hrest)
  have HZ0 := Lib.hid (HZ0'.out hrest)
  clear hrest HCZA HCZB HZ0'
  go_wp2_with fail
  refine (rSign_any rb 0 _ _ HR4.out.1).mono ?_
  rintro e3 w3' ⟨rfl, rfl⟩
  rw [HS.out]
  go_wp2_with fail
  clear hsg HS
  refine (rNewInt_any 1 _ (by omega) (by omega)).mono ?_
  rintro e4 w4 ⟨ob, rfl, hob, hi4, hb4⟩
  have HZ4 := Lib.hid ((IntK.zero (k := .u32) (s := 32) w3 _ objT_rint).below hb4)
  have HO4 := Lib.hid hi4
  have HB34 : Hid (Below w3.heap.size w3 w4) := Lib.hid ((below1 w3 _).trans (hb4.mono (below1 w3 _).size))
  have HQ4a := Lib.hid (HQ4.out.later HB34.out)
  clear hob hi4 hb4
  go_wp2_with fail
  refine (rAdd_any _ 0 qb 0 ob 0 _ _ _ HZ4.out.1 HQ4a.out.1 HO4.out (rln_of_bl (Nat.le_trans HLQ.out (by decide))) (by decide)).mono ?_
  rintro e5 w5 ⟨rfl, hi5, hm5⟩
  have HB35 : Hid (Below w3.heap.size w3 w5) := Lib.hid (hm5.below HB34.out (Nat.le_refl _) HB34.out.size)
  have HG5 : Hid (ROwn1 w w5 w3.heap.size (q + 1)) := Lib.hid ⟨hi5, HB3.out.size⟩
  have HQ5 := Lib.hid (HQ4.out.later HB35.out)
  have HR5 := Lib.hid (HR4.out.later HB35.out)
  have HB5 := Lib.hid (HB3.out.trans (HB35.out.mono HB3.out.size))
  clear hi5 hm5 HZ4 HO4 HB34 HB35 HQ4 HQ4a HR4 HB3
  generalize w3.heap.size = gb at *
  go_wp2_with fail
  refine (rNewInt_any 1 _ (by omega) (by omega)).mono ?_
  rintro e4 w4 ⟨ob, rfl, hob, hi4, hb4⟩
  have HZ4 := Lib.hid ((IntK.zero (k := .u32) (s := 32) w5 _ objT_rint).below hb4)
  have HO4 := Lib.hid hi4
  have HB34 : Hid (Below w5.heap.size w5 w4) := Lib.hid ((below1 w5 _).trans (hb4.mono (below1 w5 _).size))
  clear hob hi4 hb4
  go_wp2_with fail
  refine (rLsh_at _ 0 ob 0 (d - 1) _ 1 _ HZ4.out.1 HO4.out (by decide) (by omega) HDM.out).mono ?_
  rintro e6 w6 ⟨rfl, hi6, hm6⟩
  rw [HPH.out] at hi6
  have HB35 : Hid (Below w5.heap.size w5 w6) := Lib.hid (hm6.below HB34.out (Nat.le_refl _) HB34.out.size)
  have HH6 := Lib.hid hi6
  have HG6 := Lib.hid (HG5.out.later HB35.out)
  have HQ6 := Lib.hid (HQ5.out.later HB35.out)
  have HR6 := Lib.hid (HR5.out.later HB35.out)
  have HB6 := Lib.hid (HB5.out.trans (HB35.out.mono HB5.out.size))
  clear hi6 hm6 HZ4 HO4 HB34 HB35 HQ5 HR5 HB5 HG5
  generalize w5.heap.size = hb at *
  go_wp2_with fail
  refine (rCmp_any rb 0 hb 0 r P _ HR6.out.1 HH6.out).mono ?_
  rintro e6 wd ⟨rfl, nd, rfl⟩
  have HQ := Lib.hid (HQ6.out.later (drewN_below w6 nd))
  have HG := Lib.hid (HG6.out.later (drewN_below w6 nd))
  have HB := Lib.hid (HB6.out.trans ((drewN_below w6 nd).mono HB6.out.size))
  have HX6 := Lib.hid (HX.out.below HB.out)
  generalize w6.drewN nd = w8 at HQ HG HB HX6 ⊢
  clear HQ6 HR6 HB6 HH6 HG6
  generalize cmpZ (r : Int) (P : Int) = h0 at HCC ⊢
  rcases hmode with rfl | rfl | rfl | rfl | rfl
  · rcases HCC.out with ⟨rfl, h'⟩ | ⟨rfl, h'⟩ | ⟨rfl, h'⟩
    · have HUB : Hid (rupB z q r P 0 = true) := Lib.hid (by unfold rupB; rw [if_pos rfl, decide_eq_true h']; rfl)
      clear h'
      have HU : Hid (nz = q + 1) := Lib.hid (by rw [HCZ.out, HUB.out]; simp)
      go_wp2
      go_ret
      exact ⟨gb, rfl, HG.out.2, by rw [HU.out]; exact HG.out.1, HB.out⟩
    · by_cases hq : q % 2 = 1
      · have HBT : Hid (q % 2 = 1) := Lib.hid hq
        have HUB : Hid (rupB z q r P 0 = true) := Lib.hid (by unfold rupB; rw [if_pos rfl, decide_eq_true h', decide_eq_true hq]; simp)
        clear h' hq
        have HU : Hid (nz = q + 1) := Lib.hid (by rw [HCZ.out, HUB.out]; simp)
        go_wp2_with fail
        refine (rBit_any qb 0 _ _ HQ.out.1 (rln_of_bl (Nat.le_trans HLQ.out (by decide)))).mono ?_
        rintro e7 w7 ⟨rfl, hb7⟩
        replace HQ := Lib.hid (HQ.out.later hb7)
        replace HG := Lib.hid (HG.out.later hb7)
        replace HB := Lib.hid (HB.out.trans (hb7.mono HB.out.size))
        clear hb7
        rw [HBT.out]
        go_wp2
        go_ret
        exact ⟨gb, rfl, HG.out.2, by rw [HU.out]; exact HG.out.1, HB.out⟩
      · have HBT : Hid (q % 2 = 0) := Lib.hid (by omega)
        have HUB : Hid (rupB z q r P 0 = false) := Lib.hid (by unfold rupB; rw [if_pos rfl, decide_eq_false hq, decide_eq_false (by omega)]; simp)
        clear h' hq
        have HU : Hid (nz = q) := Lib.hid (by rw [HCZ.out, HUB.out]; simp)
        go_wp2_with fail
        refine (rBit_any qb 0 _ _ HQ.out.1 (rln_of_bl (Nat.le_trans HLQ.out (by decide)))).mono ?_
        rintro e7 w7 ⟨rfl, hb7⟩
        replace HQ := Lib.hid (HQ.out.later hb7)
        replace HG := Lib.hid (HG.out.later hb7)
        replace HB := Lib.hid (HB.out.trans (hb7.mono HB.out.size))
        clear hb7
        rw [HBT.out]
        go_wp2
        go_ret
        exact ⟨qb, rfl, HQ.out.2, by rw [HU.out]; exact HQ.out.1, HB.out⟩
    · have HUB : Hid (rupB z q r P 0 = false) := Lib.hid (by unfold rupB; rw [if_pos rfl, decide_eq_false (by omega), decide_eq_false (by omega)]; rfl)
      clear h'
      have HU : Hid (nz = q) := Lib.hid (by rw [HCZ.out, HUB.out]; simp)
      go_wp2
      go_ret
      exact ⟨qb, rfl, HQ.out.2, by rw [HU.out]; exact HQ.out.1, HB.out⟩
  · rcases HCC.out with ⟨rfl, h'⟩ | ⟨rfl, h'⟩ | ⟨rfl, h'⟩
    · have HUB : Hid (rupB z q r P 1 = true) := Lib.hid (by unfold rupB; rw [if_neg (by decide), if_pos rfl, decide_eq_true h']; rfl)
      clear h'
      have HU : Hid (nz = q + 1) := Lib.hid (by rw [HCZ.out, HUB.out]; simp)
      go_wp2
      go_ret
      exact ⟨gb, rfl, HG.out.2, by rw [HU.out]; exact HG.out.1, HB.out⟩
    · by_cases hq : 0 < z
      · have HSZ : Hid (z.sign = 1) := Lib.hid (Int.sign_eq_one_of_pos hq)
        have HUB : Hid (rupB z q r P 1 = true) := Lib.hid (by unfold rupB; rw [if_neg (by decide), if_pos rfl, decide_eq_true h', decide_eq_true hq]; simp)
        clear h' hq
        have HU : Hid (nz = q + 1) := Lib.hid (by rw [HCZ.out, HUB.out]; simp)
        go_wp2_with fail
        refine (rSign_any b 0 _ _ HX6.out).mono ?_
        rintro e7 w7 ⟨rfl, rfl⟩
        rw [HSZ.out]
        go_wp2
        go_ret
        exact ⟨gb, rfl, HG.out.2, by rw [HU.out]; exact HG.out.1, HB.out⟩
      · have HSZ : Hid (z.sign = -1) := Lib.hid (Int.sign_eq_neg_one_of_neg (by have := HZ0.out; omega))
        have HUB : Hid (rupB z q r P 1 = false) := Lib.hid (by unfold rupB; rw [if_neg (by decide), if_pos rfl, decide_eq_false hq, decide_eq_false (by omega)]; simp)
        clear h' hq
        have HU : Hid (nz = q) := Lib.hid (by rw [HCZ.out, HUB.out]; simp)
        go_wp2_with fail
        refine (rSign_any b 0 _ _ HX6.out).mono ?_
        rintro e7 w7 ⟨rfl, rfl⟩
        rw [HSZ.out]
        go_wp2
        go_ret
        exact ⟨qb, rfl, HQ.out.2, by rw [HU.out]; exact HQ.out.1, HB.out⟩
    · have HUB : Hid (rupB z q r P 1 = false) := Lib.hid (by unfold rupB; rw [if_neg (by decide), if_pos rfl, decide_eq_false (by omega), decide_eq_false (by omega)]; rfl)
      clear h'
      have HU : Hid (nz = q) := Lib.hid (by rw [HCZ.out, HUB.out]; simp)
      go_wp2
      go_ret
      exact ⟨qb, rfl, HQ.out.2, by rw [HU.out]; exact HQ.out.1, HB.out⟩
  · by_cases hq : z < 0
    · have HSZ : Hid (z.sign = -1) := Lib.hid (Int.sign_eq_neg_one_of_neg hq)
      have HUB : Hid (rupB z q r P 2 = true) := Lib.hid (by unfold rupB; rw [if_neg (by decide), if_neg (by decide), if_pos rfl, decide_eq_true hq])
      clear hq
      have HU : Hid (nz = q + 1) := Lib.hid (by rw [HCZ.out, HUB.out]; simp)
      go_wp2_with fail
      refine (rSign_any b 0 _ _ HX6.out).mono ?_
      rintro e7 w7 ⟨rfl, rfl⟩
      rw [HSZ.out]
      go_wp2
      go_ret
      exact ⟨gb, rfl, HG.out.2, by rw [HU.out]; exact HG.out.1, HB.out⟩
    · have HSZ : Hid (z.sign = 1) := Lib.hid (Int.sign_eq_one_of_pos (by have := HZ0.out; omega))
      have HUB : Hid (rupB z q r P 2 = false) := Lib.hid (by unfold rupB; rw [if_neg (by decide), if_neg (by decide), if_pos rfl, decide_eq_false hq])
      clear hq
      have HU : Hid (nz = q) := Lib.hid (by rw [HCZ.out, HUB.out]; simp)
      go_wp2_with fail
      refine (rSign_any b 0 _ _ HX6.out).mono ?_
      rintro e7 w7 ⟨rfl, rfl⟩
      rw [HSZ.out]
      go_wp2
      go_ret
      exact ⟨qb, rfl, HQ.out.2, by rw [HU.out]; exact HQ.out.1, HB.out⟩
  · have HUB : Hid (rupB z q r P 3 = true) := Lib.hid (by unfold rupB; rfl)
    have HU : Hid (nz = q + 1) := Lib.hid (by rw [HCZ.out, HUB.out]; simp)
    go_wp2
    go_ret
    exact ⟨gb, rfl, HG.out.2, by rw [HU.out]; exact HG.out.1, HB.out⟩
  · have HUB : Hid (rupB z q r P 4 = false) := Lib.hid (by unfold rupB; rfl)
    have HU : Hid (nz = q) := Lib.hid (by rw [HCZ.out, HUB.out]; simp)
    go_wp2
    go_ret
    exact ⟨qb, rfl, HQ.out.2, by rw [HU.out]; exact HQ.out.1, HB.out⟩

theorem rNear_any (b : Nat) (z down mode : Int) (w : World) (hx : RInt w b z) (hl : bl z.natAbs ≤ 34359738368) (h1 : -1099511627776 ≤ down) (h2 : down ≤ 17179869184) (hmode : mode = 0 ∨ mode = 1 ∨ mode = 2 ∨ mode = 3 ∨ mode = 4) :
    Calls Tryz.prog 35 #[.pointer (some ⟨b, 0, none⟩), .int .i64 down, .int .i64 mode] w (News .u32 32 (nearZ z down mode) w) := by
  by_cases h : down ≤ 0
  · exact rNear_shl b z down mode w hx hl h h1
  · obtain ⟨d, rfl⟩ : ∃ d : Nat, down = d := ⟨down.toNat, by omega⟩
    exact rNear_shr b z d mode w hx hl (by omega) (by omega) hmode

end Go.Proofs.YtjoajbbapfgaoaaGreatDoor
