/- Walk: DyadRises. Printed by wip/gen/ri3.py. -/
import Derived.Test.YtfcddnccmdjhfaaGreatDoorZRi3
import Derived.Deep.DeepCutAuto
namespace Go.Proofs.YtfcddnccmdjhfaaGreatDoor
open Go.RowKit

set_option maxRecDepth 100000 in
set_option maxHeartbeats 8000000 in
theorem rises_any (va vb : Value) (na nb : Bool) (n m Na Nb : Nat) (e f : Int) (w : World) (ha : DyIn w va na n Na e) (hb : DyIn w vb nb m Nb f)
    (hT : Tab64 w) (hTs : 1 < w.heap.size) :
    Calls Tryz.prog 3 #[va, vb] w (Gives (.bool true) w) := by
  have HT := Lib.hid (And.intro hT hTs)
  have HGA := Lib.hid (fun h => ha.goodI h)
  have HGB := Lib.hid (fun h => hb.goodI h)
  clear hT hTs
  obtain ⟨sa, rfl, hra, hna⟩ := ha
  obtain ⟨sb, rfl, hrb, hnb⟩ := hb
  have HA := Lib.hid (And.intro hra hna)
  have HB := Lib.hid (And.intro hrb hnb)
  obtain ⟨aa, ca, rfl, -⟩ := hra
  obtain ⟨ab, cb, rfl, -⟩ := hrb
  clear hna hnb
  obtain ⟨two, htwo⟩ : ∃ t, twoE na n Na e nb m Nb f = t := ⟨_, rfl⟩
  obtain ⟨C, hC⟩ : ∃ c, (if two = 0 then (plZ (sgZ na Na) e (-sgZ nb Nb) f).sign else 0) = c := ⟨_, rfl⟩
  have HTW := Lib.hid (And.intro htwo hC)
  clear htwo hC
  unfold DyV at *
  have HW := Lib.hid (Box2d.start w na nb (.slice aa n ca) (.slice ab m cb) e f)
  go_enter Tryz.func3, Tryz.ntmps3
  go_wp2
  refine wp_region_pl (fun w' : World => ((((w'.cell? ⟨w.heap.size, 0, none⟩ = some (.bool na) ∧ w'.cell? ⟨w.heap.size, 1, none⟩ = some (.slice aa n ca)) ∧ w'.cell? ⟨w.heap.size, 2, none⟩ = some (.int .i64 e)) ∧ w'.cell? ⟨w.heap.size + 1, 0, none⟩ = some (.bool nb)) ∧ w'.cell? ⟨w.heap.size + 1, 1, none⟩ = some (.slice ab m cb)) ∧ w'.cell? ⟨w.heap.size + 1, 2, none⟩ = some (.int .i64 f)) 9 (.take 0 (.take 2 (.run 1 (.run 3 (.run 4 (.take 5 (.take 6 (.take 7 (.take 8 .nil))))))))) (by kernel_rfl) (by kernel_rfl) ?_
  replace HW := Lib.hid (HW.out.later (drew_below _))
  generalize World.drew _ = W3 at HW ⊢
  have hS : (fun w' : World => ((((w'.cell? ⟨w.heap.size, 0, none⟩ = some (.bool na) ∧ w'.cell? ⟨w.heap.size, 1, none⟩ = some (.slice aa n ca)) ∧ w'.cell? ⟨w.heap.size, 2, none⟩ = some (.int .i64 e)) ∧ w'.cell? ⟨w.heap.size + 1, 0, none⟩ = some (.bool nb)) ∧ w'.cell? ⟨w.heap.size + 1, 1, none⟩ = some (.slice ab m cb)) ∧ w'.cell? ⟨w.heap.size + 1, 2, none⟩ = some (.int .i64 f)) W3 := HW.out.cells
  repeat (refine wpPl_takeL (v := ?_) rfl rfl (fun _ _ _ h => h) rfl (fun w' hSw => ?_) hS ?_; rotate_left; (focus (go_simp; with_reducible rfl)); simp only [List.setIfInBounds_toArray, List.set_cons_zero, List.set_cons_succ])
  clear hS
  refine wpPl_goL rfl rfl fun K' hK => ?_
  go_simp
  refine (twin_in na e _ n Na _ (HA.out.1.below HW.out.2.2) HA.out.2).mono ?_
  rintro e1 V1 ⟨sl, rfl, hr, -, hb1⟩
  obtain ⟨aoHTA, cHTA, rfl, -⟩ := id hr
  have HTA := Lib.hid hr
  clear hr
  unfold DyV
  replace HW := Lib.hid (HW.out.later hb1)
  refine hK _ _ HW.out.cells ?_
  clear hK K' hb1
  refine wpPl_goL rfl rfl fun K' hK => ?_
  go_simp
  refine (twin_in nb f _ m Nb _ (HB.out.1.below HW.out.2.2) HB.out.2).mono ?_
  rintro e1 V2 ⟨sl, rfl, hr, -, hb1⟩
  obtain ⟨aoHTB, cHTB, rfl, -⟩ := id hr
  have HTB := Lib.hid hr
  clear hr
  unfold DyV
  replace HW := Lib.hid (HW.out.later hb1)
  replace HTA := Lib.hid (HTA.out.below hb1)
  refine hK _ _ HW.out.cells ?_
  clear hK K' hb1
  refine wpPl_goL rfl rfl fun K' hK => ?_
  go_simp
  have HC := cmp_res _ _ na nb n m Na Nb e f V2 ⟨_, rfl, HTA.out, HA.out.2⟩ ⟨_, rfl, HTB.out, HB.out.2⟩
  rw [HTW.out.1, HTW.out.2] at HC
  unfold DyV at HC
  refine HC.mono ?_
  clear HC
  rintro e1 V3 ⟨rfl, hb1⟩
  replace HW := Lib.hid (HW.out.later hb1)
  replace HTA := Lib.hid (HTA.out.below hb1)
  replace HTB := Lib.hid (HTB.out.below hb1)
  refine hK _ _ HW.out.cells ?_
  clear hK K' hb1
  have hS : (fun w' : World => ((((w'.cell? ⟨w.heap.size, 0, none⟩ = some (.bool na) ∧ w'.cell? ⟨w.heap.size, 1, none⟩ = some (.slice aa n ca)) ∧ w'.cell? ⟨w.heap.size, 2, none⟩ = some (.int .i64 e)) ∧ w'.cell? ⟨w.heap.size + 1, 0, none⟩ = some (.bool nb)) ∧ w'.cell? ⟨w.heap.size + 1, 1, none⟩ = some (.slice ab m cb)) ∧ w'.cell? ⟨w.heap.size + 1, 2, none⟩ = some (.int .i64 f)) V3 := HW.out.cells
  repeat (refine wpPl_takeL (v := ?_) rfl rfl (fun _ _ _ h => h) rfl (fun w' hSw => ?_) hS ?_; rotate_left; (focus (go_simp; with_reducible rfl)); simp only [List.setIfInBounds_toArray, List.set_cons_zero, List.set_cons_succ])
  clear hS
  refine wpPl_nil ?_
  simp only [List.drop_succ_cons, List.drop_zero]
  clear HTA HTB
  by_cases h0 : two = 0
  rotate_left
  · have hb0 : (two != 0) = true := by simpa using h0
    clear h0
    go_wp2_with fail
    refine (awake_any _ (HT.out.1.below HT.out.2 HW.out.2.2) (Nat.lt_of_lt_of_le HT.out.2 HW.out.2.2.size)).mono ?_
    rintro e22 w22 ⟨rfl, hb22⟩
    have HBE := Lib.hid (HW.out.later hb22).2.2
    clear hb22
    go_wp2
    go_ret
    exact ⟨rfl, HBE.out⟩
  have hb0 : (two != 0) = false := by simp [h0]
  have HC2 : Hid ((DyI w (.agg #[.bool na, .slice aa n ca, .int .i64 e]) (sgZ na Na) e ∧ GoodD (sgZ na Na) e) ∧ (DyI w (.agg #[.bool nb, .slice ab m cb, .int .i64 f]) (sgZ nb Nb) f ∧ GoodD (sgZ nb Nb) f) ∧ C = (plZ (sgZ na Na) e (-sgZ nb Nb) f).sign) := by
    have h1 := HTW.out.1
    rw [h0] at h1
    unfold twoE at h1
    have h2 : (mayB na n Na e && mayB nb m Nb f) = true := by
      cases h : (mayB na n Na e && mayB nb m Nb f)
      · rw [h] at h1; exact absurd h1 (by decide)
      · rfl
    simp only [Bool.and_eq_true] at h2
    exact Lib.hid ⟨HGA.out h2.1, HGB.out h2.2, by rw [← HTW.out.2, if_pos h0]⟩
  have HLH : Hid (if 0 < C then LoHi w (.agg #[.bool nb, .slice ab m cb, .int .i64 f]) (.agg #[.bool na, .slice aa n ca, .int .i64 e]) (sgZ nb Nb) f (sgZ na Na) e else LoHi w (.agg #[.bool na, .slice aa n ca, .int .i64 e]) (.agg #[.bool nb, .slice ab m cb, .int .i64 f]) (sgZ na Na) e (sgZ nb Nb) f) := by
    obtain ⟨h1, h2, h3⟩ := HC2.out
    split
    · next h4 => exact Lib.hid ⟨h2, h1, sign_ge h1.2 h2.2 (by rw [← h3]; exact h4)⟩
    · next h4 => exact Lib.hid ⟨h1, h2, sign_le h1.2 h2.2 (by rw [← h3]; exact h4)⟩
  clear HC2 HTW HGA HGB HA HB h0
  generalize sgZ na Na = za at *
  generalize sgZ nb Nb = zb at *
  go_upto_if 29 with fail
  obtain ⟨cx, hcx⟩ : ∃ x, decide (0 < C) = x := ⟨_, rfl⟩
  rw [hcx]
  have HCX := Lib.hid hcx
  clear hcx
  go_cut [] from 28 to 31 (fun wx => ∃ (n1 n2 : Bool) (a1 a2 : Option Addr) (m1 c1 m2 c2 : Nat) (z1 e1 z2 e2 : Int), Hid (Box2d w wx n1 n2 (.slice a1 m1 c1) (.slice a2 m2 c2) e1 e2) ∧ Hid (LoHi w (.agg #[.bool n1, .slice a1 m1 c1, .int .i64 e1]) (.agg #[.bool n2, .slice a2 m2 c2, .int .i64 e2]) z1 e1 z2 e2))
  case first =>
    cases cx
    rotate_left
    · have HL2 : Hid (LoHi w (.agg #[.bool nb, .slice ab m cb, .int .i64 f]) (.agg #[.bool na, .slice aa n ca, .int .i64 e]) zb f za e) := by
        have := HLH.out
        rw [if_pos (of_decide_eq_true HCX.out)] at this
        exact Lib.hid this
      have HW2 := Lib.hid HW.out.swap
      obtain ⟨x0, x1, x2, x3, x4, x5⟩ := HW.out.1.cells3
      obtain ⟨y0, y1, y2, y3, y4, y5⟩ := HW.out.2.1.cells3
      clear HW HLH HCX
      go_wp2_with fail
      go_meet
      exact ⟨_, _, _, _, _, _, _, _, _, _, _, _, HW2, HL2⟩
    · have HL2 : Hid (LoHi w (.agg #[.bool na, .slice aa n ca, .int .i64 e]) (.agg #[.bool nb, .slice ab m cb, .int .i64 f]) za e zb f) := by
        have := HLH.out
        rw [if_neg (of_decide_eq_false HCX.out)] at this
        exact Lib.hid this
      clear HLH HCX
      go_wp2_with fail
      go_meet
      exact ⟨_, _, _, _, _, _, _, _, _, _, _, _, HW, HL2⟩
  case rest =>
  clear HW HLH
  obtain ⟨n1, n2, a1, a2, m1, c1, m2, c2, z1, e1, z2, e2, HW, HL⟩ := hcut
  clear hb0
  go_wp2
  go_loopw [7] (fun i wr => ∃ k : Nat, k ≤ 5 ∧ i = .int .i64 k ∧ Hid (Box2d w wr n1 n2 (.slice a1 m1 c1) (.slice a2 m2 c2) e1 e2))
    (fun i _ => (5 - intOf i).toNat)
  case atStart => exact ⟨0, by omega, rfl, HW⟩
  case round =>
    obtain ⟨k, hk, rfl, HW⟩ := hrel
    by_cases hlt : k < 5
    · have hlt2 : decide ((k : Int) < 5) = true := decide_eq_true (by omega)
      obtain ⟨x0, x1, x2, x3, x4, x5⟩ := HW.out.1.cells3
      go_wp2_with fail
      refine (dRound_in _ z1 e1 k _ (HL.out.1.1.below HW.out.2.2) HL.out.1.2 (by omega) (by omega) (HT.out.1.below HT.out.2 HW.out.2.2) (Nat.lt_of_lt_of_le HT.out.2 HW.out.2.2.size)).mono ?_
      rintro e3 w3 ⟨rfl, hb3⟩
      replace HW := Lib.hid (HW.out.later hb3)
      clear x0 x1 x2 x3 x4 x5 hb3
      obtain ⟨x0, x1, x2, x3, x4, x5⟩ := HW.out.2.1.cells3
      go_wp2_with fail
      refine (dRound_in _ z2 e2 k _ (HL.out.2.1.1.below HW.out.2.2) HL.out.2.1.2 (by omega) (by omega) (HT.out.1.below HT.out.2 HW.out.2.2) (Nat.lt_of_lt_of_le HT.out.2 HW.out.2.2.size)).mono ?_
      rintro e4 w4 ⟨rfl, hb4⟩
      replace HW := Lib.hid (HW.out.later hb4)
      clear x0 x1 x2 x3 x4 x5 hb4
      have HLE : Hid (ky (rndB z1 e1 k) ≤ ky (rndB z2 e2 k)) := Lib.hid (rnd_rises (M := 100000) k (by have := HL.out.1.2.2.2.1; omega) (by have := HL.out.2.1.2.2.2.1; omega) (good_zero_or HL.out.1.2) (good_zero_or HL.out.2.1.2) HL.out.2.2)
      have HR1 := Lib.hid (rnd_lt (k : Int) (good_zero_or HL.out.1.2))
      have HR2 := Lib.hid (rnd_lt (k : Int) (good_zero_or HL.out.2.1.2))
      generalize rndB z1 e1 k = r1 at *
      generalize rndB z2 e2 k = r2 at *
      rcases leq_ways HR1.out HR2.out HLE.out with ⟨hA, hB⟩ | ⟨hA, hB⟩
      all_goals
        clear HLE HR1 HR2
        go_wp2_with fail
        go_roundw
        case rel => exact ⟨k + 1, by omega, by go_num, HW⟩
        case measure => simp [intOf]; omega
    · have hlt2 : decide ((k : Int) < 5) = false := decide_eq_false (by omega)
      clear hlt hk
      have HAD := Lib.hid (rnd_adj (good_zero_or HL.out.1.2))
      have HR4 := Lib.hid (rnd_lt 4 (good_zero_or HL.out.1.2))
      have HR3 := Lib.hid (rnd_lt 3 (good_zero_or HL.out.1.2))
      have HDN : Hid (finB (rndB z1 e1 4) = true → (plZ (valZ (rndB z1 e1 4)) (pE (rndB z1 e1 4)) (-z1) e1).sign ≤ 0) := Lib.hid fun h =>
        sign_np (by have := pE_bd h; omega) (by have := HL.out.1.2.2.2.1; omega) (down_le (by decide) (by have := HL.out.1.2.2.2.1; omega) (good_zero_or HL.out.1.2) h)
      have HUP : Hid (finB (rndB z1 e1 3) = true → 0 ≤ (plZ (valZ (rndB z1 e1 3)) (pE (rndB z1 e1 3)) (-z1) e1).sign) := Lib.hid fun h =>
        sign_nn (by have := pE_bd h; omega) (by have := HL.out.1.2.2.2.1; omega) (up_ge (by decide) (by have := HL.out.1.2.2.2.1; omega) (good_zero_or HL.out.1.2) h)
      obtain ⟨x0, x1, x2, x3, x4, x5⟩ := HW.out.1.cells3
      go_wp2_with fail
      refine (dRound_in _ z1 e1 4 _ (HL.out.1.1.below HW.out.2.2) HL.out.1.2 (by omega) (by omega) (HT.out.1.below HT.out.2 HW.out.2.2) (Nat.lt_of_lt_of_le HT.out.2 HW.out.2.2.size)).mono ?_
      rintro e3 w3 ⟨rfl, hb3⟩
      replace HW := Lib.hid (HW.out.later hb3)
      clear x0 x1 x2 x3 x4 x5 hb3
      obtain ⟨x0, x1, x2, x3, x4, x5⟩ := HW.out.1.cells3
      go_wp2_with fail
      refine (dRound_in _ z1 e1 3 _ (HL.out.1.1.below HW.out.2.2) HL.out.1.2 (by omega) (by omega) (HT.out.1.below HT.out.2 HW.out.2.2) (Nat.lt_of_lt_of_le HT.out.2 HW.out.2.2.size)).mono ?_
      rintro e4 w4 ⟨rfl, hb4⟩
      replace HW := Lib.hid (HW.out.later hb4)
      clear x0 x1 x2 x3 x4 x5 hb4
      generalize rndB z1 e1 4 = dn at *
      generalize rndB z1 e1 3 = up at *
      have HNX := Lib.hid (ky_nx HR4.out.1 HAD.out.2.2.1 HAD.out.2.2.2)
      have HNC := Lib.hid fun W => rNext_any dn W HR4.out.1 HAD.out.2.2.1 HAD.out.2.2.2
      have HGE : Hid (ky up ≤ ky (nxB dn)) := Lib.hid (by have := HNX.out.1; have := HAD.out.2.1; omega)
      obtain ⟨x0, x1, x2, x3, x4, x5⟩ := HW.out.1.cells3
      obtain ⟨o1, o2, hA, hB, HO⟩ : ∃ o1 o2, (FloatKind.f64.format.order dn up == some Ordering.lt) = o1 ∧ (FloatKind.f64.format.order dn up == some Ordering.eq) = o2 ∧ Hid (o1 = true ∨ o2 = true) :=
        ⟨_, _, rfl, rfl, by rcases leq_ways HR4.out HR3.out HAD.out.1 with h | h; exact Lib.hid (.inl h.1); exact Lib.hid (.inr h.2)⟩
      go_upto_if 81 with fail
      go_cut [] from 71 to 81 (fun wx => wx = w4)
      case first =>
        cases o1 <;> cases o2
        · exact absurd HO.out (by decide)
        all_goals
          clear HAD HR4 HR3 HDN HUP HNX HNC HGE HO
          go_wp2_with fail
          go_meet
          exact rfl
      case rest =>
      obtain rfl := hcut
      clear hA hB HO x0 x1 x2 x3 x4 x5
      obtain ⟨x0, x1, x2, x3, x4, x5⟩ := HW.out.1.cells3
      go_wp2_with fail
      refine (rIn_I _ z1 e1 _ (HL.out.1.1.below HW.out.2.2) HL.out.1.2.2.1).mono ?_
      rintro e5 w5 ⟨p, rfl, -, hi, hb⟩
      have HXP : Hid (BlkT (w5.alloc (.cells #[.pointer (some ⟨p, 0, none⟩), .int .i64 e1] 35)) w5.heap.size 35 #[.pointer (some ⟨p, 0, none⟩), .int .i64 e1] ∧ RInt (w5.alloc (.cells #[.pointer (some ⟨p, 0, none⟩), .int .i64 e1] 35)) p z1) :=
        Lib.hid ⟨BlkT.new w5 _ _, hi.below (Below.alloc_self w5 _)⟩
      replace HW := Lib.hid ((HW.out.later hb).later (Below.alloc_self w5 (.cells #[.pointer (some ⟨p, 0, none⟩), .int .i64 e1] 35)))
      have HBE : Hid ((bl z1.natAbs ≤ 65536) ∧ -100000 ≤ e1 ∧ e1 ≤ 100000) := Lib.hid HL.out.1.2.2
      have HFD := Lib.hid fun W => rFinite_any dn W HR4.out.1
      have HFU := Lib.hid fun W => rFinite_any up W HR3.out.1
      have HOD := Lib.hid fun W h => rOf_any dn W HR4.out.1 h
      have HOU := Lib.hid fun W h => rOf_any up W HR3.out.1 h
      obtain ⟨s1, hs1⟩ : ∃ s, (plZ (valZ dn) (pE dn) (-z1) e1).sign = s := ⟨_, rfl⟩
      obtain ⟨s2, hs2⟩ : ∃ s, (plZ (valZ up) (pE up) (-z1) e1).sign = s := ⟨_, rfl⟩
      rw [hs1] at HDN
      rw [hs2] at HUP
      have HCD : Hid (finB dn = true → ∀ W q, RInt W q (valZ dn) → RInt W p z1 → Calls Tryz.prog 15 #[ExV q (pE dn), ExV p e1] W (Gives (.int .i64 s1) W)) := Lib.hid fun h W q h1 h2 => by
        have := rCmpX_any q p (valZ dn) (pE dn) z1 e1 W h1 h2 (Nat.le_trans val_bl (by decide)) (Nat.le_trans HBE.out.1 (by decide)) (by have := pE_bd h; omega) (by have := pE_bd h; omega) (by have := HBE.out.2; omega) (by have := HBE.out.2; omega)
        rw [hs1] at this; exact this
      have HCU : Hid (finB up = true → ∀ W q, RInt W q (valZ up) → RInt W p z1 → Calls Tryz.prog 15 #[ExV q (pE up), ExV p e1] W (Gives (.int .i64 s2) W)) := Lib.hid fun h W q h1 h2 => by
        have := rCmpX_any q p (valZ up) (pE up) z1 e1 W h1 h2 (Nat.le_trans val_bl (by decide)) (Nat.le_trans HBE.out.1 (by decide)) (by have := pE_bd h; omega) (by have := pE_bd h; omega) (by have := HBE.out.2; omega) (by have := HBE.out.2; omega)
        rw [hs2] at this; exact this
      clear hi hb hs1 hs2 x0 x1 x2 x3 x4 x5 HBE
      generalize valZ dn = vd at *
      generalize valZ up = vu at *
      generalize pE dn = pd at *
      generalize pE up = pu at *
      generalize finB dn = fd at *
      generalize finB up = fu at *
      unfold ExV
      go_wp2
      generalize w5.heap.size = b15 at HXP ⊢

      cases fd <;> cases fu
      · refine wp_region_pl (fun w' : World => w'.cell? ⟨b15, 0, none⟩ = some (.pointer (some ⟨p, 0, none⟩)) ∧ w'.cell? ⟨b15, 1, none⟩ = some (.int .i64 e1)) 16 (.take 0 (.run 1 (.take 2 (.take 3 (.take 5 (.run 4 (.run 6 (.take 7 (.take 8 (.take 9 (.take 10 (.run 11 (.take 12 (.take 13 (.take 15 (.run 14 .nil)))))))))))))))) (by kernel_rfl) (by kernel_rfl) ?_
        replace HW := Lib.hid (HW.out.later (drew_below _))
        replace HXP := Lib.hid (And.intro (HXP.out.1.below (drew_below _)) (HXP.out.2.below (drew_below _)))
        generalize World.drew _ = W18 at HW HXP ⊢
        have hS : (fun w' : World => w'.cell? ⟨b15, 0, none⟩ = some (.pointer (some ⟨p, 0, none⟩)) ∧ w'.cell? ⟨b15, 1, none⟩ = some (.int .i64 e1)) W18 := ⟨HXP.out.1.cell 0, HXP.out.1.cell 1⟩
        repeat (first | (refine wpPl_takeL (v := ?_) rfl rfl (fun _ _ _ h => h) rfl (fun w' hSw => ?_) hS ?_; rotate_left; (focus (go_simp; with_reducible rfl)); simp only [List.setIfInBounds_toArray, List.set_cons_zero, List.set_cons_succ]) | (refine wpPl_skipL rfl rfl (fun _ _ _ h => h) rfl hS ?_; simp only [List.setIfInBounds_toArray, List.set_cons_zero, List.set_cons_succ]))
        clear hS
        refine wpPl_goL rfl rfl fun K' hK => ?_
        go_simp
        refine (HFD.out _).mono ?_
        rintro e1 V1 ⟨rfl, hb1⟩
        replace HW := Lib.hid (HW.out.later hb1)
        replace HXP := Lib.hid (And.intro (HXP.out.1.below hb1) (HXP.out.2.below hb1))
        refine hK _ _ ⟨HXP.out.1.cell 0, HXP.out.1.cell 1⟩ ?_
        clear hK K' hb1
        have hS : (fun w' : World => w'.cell? ⟨b15, 0, none⟩ = some (.pointer (some ⟨p, 0, none⟩)) ∧ w'.cell? ⟨b15, 1, none⟩ = some (.int .i64 e1)) V1 := ⟨HXP.out.1.cell 0, HXP.out.1.cell 1⟩
        repeat (first | (refine wpPl_takeL (v := ?_) rfl rfl (fun _ _ _ h => h) rfl (fun w' hSw => ?_) hS ?_; rotate_left; (focus (go_simp; with_reducible rfl)); simp only [List.setIfInBounds_toArray, List.set_cons_zero, List.set_cons_succ]) | (refine wpPl_skipL rfl rfl (fun _ _ _ h => h) rfl hS ?_; simp only [List.setIfInBounds_toArray, List.set_cons_zero, List.set_cons_succ]))
        clear hS
        have hS : (fun w' : World => w'.cell? ⟨b15, 0, none⟩ = some (.pointer (some ⟨p, 0, none⟩)) ∧ w'.cell? ⟨b15, 1, none⟩ = some (.int .i64 e1)) V1 := ⟨HXP.out.1.cell 0, HXP.out.1.cell 1⟩
        refine wpPl_idleL rfl rfl rfl hS ?_
        simp only [List.setIfInBounds_toArray, List.set_cons_zero, List.set_cons_succ]
        clear hS
        have hS : (fun w' : World => w'.cell? ⟨b15, 0, none⟩ = some (.pointer (some ⟨p, 0, none⟩)) ∧ w'.cell? ⟨b15, 1, none⟩ = some (.int .i64 e1)) V1 := ⟨HXP.out.1.cell 0, HXP.out.1.cell 1⟩
        refine wpPl_idleL rfl rfl rfl hS ?_
        simp only [List.setIfInBounds_toArray, List.set_cons_zero, List.set_cons_succ]
        clear hS
        have hS : (fun w' : World => w'.cell? ⟨b15, 0, none⟩ = some (.pointer (some ⟨p, 0, none⟩)) ∧ w'.cell? ⟨b15, 1, none⟩ = some (.int .i64 e1)) V1 := ⟨HXP.out.1.cell 0, HXP.out.1.cell 1⟩
        repeat (first | (refine wpPl_takeL (v := ?_) rfl rfl (fun _ _ _ h => h) rfl (fun w' hSw => ?_) hS ?_; rotate_left; (focus (go_simp; with_reducible rfl)); simp only [List.setIfInBounds_toArray, List.set_cons_zero, List.set_cons_succ]) | (refine wpPl_skipL rfl rfl (fun _ _ _ h => h) rfl hS ?_; simp only [List.setIfInBounds_toArray, List.set_cons_zero, List.set_cons_succ]))
        clear hS
        refine wpPl_goL rfl rfl fun K' hK => ?_
        go_simp
        refine (HFU.out _).mono ?_
        rintro e1 V2 ⟨rfl, hb1⟩
        replace HW := Lib.hid (HW.out.later hb1)
        replace HXP := Lib.hid (And.intro (HXP.out.1.below hb1) (HXP.out.2.below hb1))
        refine hK _ _ ⟨HXP.out.1.cell 0, HXP.out.1.cell 1⟩ ?_
        clear hK K' hb1
        have hS : (fun w' : World => w'.cell? ⟨b15, 0, none⟩ = some (.pointer (some ⟨p, 0, none⟩)) ∧ w'.cell? ⟨b15, 1, none⟩ = some (.int .i64 e1)) V2 := ⟨HXP.out.1.cell 0, HXP.out.1.cell 1⟩
        repeat (first | (refine wpPl_takeL (v := ?_) rfl rfl (fun _ _ _ h => h) rfl (fun w' hSw => ?_) hS ?_; rotate_left; (focus (go_simp; with_reducible rfl)); simp only [List.setIfInBounds_toArray, List.set_cons_zero, List.set_cons_succ]) | (refine wpPl_skipL rfl rfl (fun _ _ _ h => h) rfl hS ?_; simp only [List.setIfInBounds_toArray, List.set_cons_zero, List.set_cons_succ]))
        clear hS
        have hS : (fun w' : World => w'.cell? ⟨b15, 0, none⟩ = some (.pointer (some ⟨p, 0, none⟩)) ∧ w'.cell? ⟨b15, 1, none⟩ = some (.int .i64 e1)) V2 := ⟨HXP.out.1.cell 0, HXP.out.1.cell 1⟩
        refine wpPl_idleL rfl rfl rfl hS ?_
        simp only [List.setIfInBounds_toArray, List.set_cons_zero, List.set_cons_succ]
        clear hS
        refine wpPl_nil ?_
        simp only [List.drop_succ_cons, List.drop_zero]
        clear HXP HFD HFU HOD HOU HCD HCU HDN HUP
        go_wp2_with fail
        refine (HNC.out _).mono ?_
        rintro e18 w18 ⟨rfl, hb18⟩
        replace HW := Lib.hid (HW.out.later hb18)
        clear hb18
        generalize nxB dn = nx at *
        obtain ⟨o1, hA⟩ : ∃ o, (FloatKind.f64.format.order dn up == some Ordering.eq) = o := ⟨_, rfl⟩
        rcases geq_ways ⟨HNX.out.2.1, HNX.out.2.2⟩ HR3.out HGE.out with ⟨hG, hE⟩ | ⟨hG, hE⟩
        all_goals
          clear HNX HNC HGE HR3 HR4 HAD
          cases o1
          all_goals
            go_wp2_with fail
            refine (awake_any _ (HT.out.1.below HT.out.2 HW.out.2.2) (Nat.lt_of_lt_of_le HT.out.2 HW.out.2.2.size)).mono ?_
            rintro e19 w19 ⟨rfl, hb19⟩
            have HBF := Lib.hid (HW.out.later hb19).2.2
            clear hb19
            go_wp2
            go_ret
            exact ⟨rfl, HBF.out⟩
      · have hu0 : decide (s2 < 0) = false := decide_eq_false (by have := HUP.out rfl; omega)
        refine wp_region_pl (fun w' : World => w'.cell? ⟨b15, 0, none⟩ = some (.pointer (some ⟨p, 0, none⟩)) ∧ w'.cell? ⟨b15, 1, none⟩ = some (.int .i64 e1)) 16 (.take 0 (.run 1 (.take 2 (.take 3 (.take 5 (.run 4 (.run 6 (.take 7 (.take 8 (.take 9 (.take 10 (.run 11 (.take 12 (.take 13 (.take 15 (.run 14 .nil)))))))))))))))) (by kernel_rfl) (by kernel_rfl) ?_
        replace HW := Lib.hid (HW.out.later (drew_below _))
        replace HXP := Lib.hid (And.intro (HXP.out.1.below (drew_below _)) (HXP.out.2.below (drew_below _)))
        generalize World.drew _ = W18 at HW HXP ⊢
        have hS : (fun w' : World => w'.cell? ⟨b15, 0, none⟩ = some (.pointer (some ⟨p, 0, none⟩)) ∧ w'.cell? ⟨b15, 1, none⟩ = some (.int .i64 e1)) W18 := ⟨HXP.out.1.cell 0, HXP.out.1.cell 1⟩
        repeat (first | (refine wpPl_takeL (v := ?_) rfl rfl (fun _ _ _ h => h) rfl (fun w' hSw => ?_) hS ?_; rotate_left; (focus (go_simp; with_reducible rfl)); simp only [List.setIfInBounds_toArray, List.set_cons_zero, List.set_cons_succ]) | (refine wpPl_skipL rfl rfl (fun _ _ _ h => h) rfl hS ?_; simp only [List.setIfInBounds_toArray, List.set_cons_zero, List.set_cons_succ]))
        clear hS
        refine wpPl_goL rfl rfl fun K' hK => ?_
        go_simp
        refine (HFD.out _).mono ?_
        rintro e1 V1 ⟨rfl, hb1⟩
        replace HW := Lib.hid (HW.out.later hb1)
        replace HXP := Lib.hid (And.intro (HXP.out.1.below hb1) (HXP.out.2.below hb1))
        refine hK _ _ ⟨HXP.out.1.cell 0, HXP.out.1.cell 1⟩ ?_
        clear hK K' hb1
        have hS : (fun w' : World => w'.cell? ⟨b15, 0, none⟩ = some (.pointer (some ⟨p, 0, none⟩)) ∧ w'.cell? ⟨b15, 1, none⟩ = some (.int .i64 e1)) V1 := ⟨HXP.out.1.cell 0, HXP.out.1.cell 1⟩
        repeat (first | (refine wpPl_takeL (v := ?_) rfl rfl (fun _ _ _ h => h) rfl (fun w' hSw => ?_) hS ?_; rotate_left; (focus (go_simp; with_reducible rfl)); simp only [List.setIfInBounds_toArray, List.set_cons_zero, List.set_cons_succ]) | (refine wpPl_skipL rfl rfl (fun _ _ _ h => h) rfl hS ?_; simp only [List.setIfInBounds_toArray, List.set_cons_zero, List.set_cons_succ]))
        clear hS
        have hS : (fun w' : World => w'.cell? ⟨b15, 0, none⟩ = some (.pointer (some ⟨p, 0, none⟩)) ∧ w'.cell? ⟨b15, 1, none⟩ = some (.int .i64 e1)) V1 := ⟨HXP.out.1.cell 0, HXP.out.1.cell 1⟩
        refine wpPl_idleL rfl rfl rfl hS ?_
        simp only [List.setIfInBounds_toArray, List.set_cons_zero, List.set_cons_succ]
        clear hS
        have hS : (fun w' : World => w'.cell? ⟨b15, 0, none⟩ = some (.pointer (some ⟨p, 0, none⟩)) ∧ w'.cell? ⟨b15, 1, none⟩ = some (.int .i64 e1)) V1 := ⟨HXP.out.1.cell 0, HXP.out.1.cell 1⟩
        refine wpPl_idleL rfl rfl rfl hS ?_
        simp only [List.setIfInBounds_toArray, List.set_cons_zero, List.set_cons_succ]
        clear hS
        have hS : (fun w' : World => w'.cell? ⟨b15, 0, none⟩ = some (.pointer (some ⟨p, 0, none⟩)) ∧ w'.cell? ⟨b15, 1, none⟩ = some (.int .i64 e1)) V1 := ⟨HXP.out.1.cell 0, HXP.out.1.cell 1⟩
        repeat (first | (refine wpPl_takeL (v := ?_) rfl rfl (fun _ _ _ h => h) rfl (fun w' hSw => ?_) hS ?_; rotate_left; (focus (go_simp; with_reducible rfl)); simp only [List.setIfInBounds_toArray, List.set_cons_zero, List.set_cons_succ]) | (refine wpPl_skipL rfl rfl (fun _ _ _ h => h) rfl hS ?_; simp only [List.setIfInBounds_toArray, List.set_cons_zero, List.set_cons_succ]))
        clear hS
        refine wpPl_goL rfl rfl fun K' hK => ?_
        go_simp
        refine (HFU.out _).mono ?_
        rintro e1 V2 ⟨rfl, hb1⟩
        replace HW := Lib.hid (HW.out.later hb1)
        replace HXP := Lib.hid (And.intro (HXP.out.1.below hb1) (HXP.out.2.below hb1))
        refine hK _ _ ⟨HXP.out.1.cell 0, HXP.out.1.cell 1⟩ ?_
        clear hK K' hb1
        have hS : (fun w' : World => w'.cell? ⟨b15, 0, none⟩ = some (.pointer (some ⟨p, 0, none⟩)) ∧ w'.cell? ⟨b15, 1, none⟩ = some (.int .i64 e1)) V2 := ⟨HXP.out.1.cell 0, HXP.out.1.cell 1⟩
        repeat (first | (refine wpPl_takeL (v := ?_) rfl rfl (fun _ _ _ h => h) rfl (fun w' hSw => ?_) hS ?_; rotate_left; (focus (go_simp; with_reducible rfl)); simp only [List.setIfInBounds_toArray, List.set_cons_zero, List.set_cons_succ]) | (refine wpPl_skipL rfl rfl (fun _ _ _ h => h) rfl hS ?_; simp only [List.setIfInBounds_toArray, List.set_cons_zero, List.set_cons_succ]))
        clear hS
        refine wpPl_goL rfl rfl fun K' hK => ?_
        go_simp
        refine (HOU.out _ rfl).mono ?_
        rintro e1 V3 ⟨qHQU, rfl, -, hi, hb1⟩
        have HQU := Lib.hid hi
        clear hi
        unfold ExV
        replace HW := Lib.hid (HW.out.later hb1)
        replace HXP := Lib.hid (And.intro (HXP.out.1.below hb1) (HXP.out.2.below hb1))
        refine hK _ _ ⟨HXP.out.1.cell 0, HXP.out.1.cell 1⟩ ?_
        clear hK K' hb1
        refine wpPl_nil ?_
        simp only [List.drop_succ_cons, List.drop_zero]
        go_wp2_with fail
        refine (HCU.out (by first | rfl | trivial) _ _ HQU.out HXP.out.2).mono ?_
        rintro e17 w17 ⟨rfl, hb17⟩
        replace HW := Lib.hid (HW.out.later hb17)
        clear hb17
        clear HXP HFD HFU HOD HOU HCD HCU HDN HUP
        go_wp2_with fail
        refine (HNC.out _).mono ?_
        rintro e18 w18 ⟨rfl, hb18⟩
        replace HW := Lib.hid (HW.out.later hb18)
        clear hb18
        generalize nxB dn = nx at *
        obtain ⟨o1, hA⟩ : ∃ o, (FloatKind.f64.format.order dn up == some Ordering.eq) = o := ⟨_, rfl⟩
        rcases geq_ways ⟨HNX.out.2.1, HNX.out.2.2⟩ HR3.out HGE.out with ⟨hG, hE⟩ | ⟨hG, hE⟩
        all_goals
          clear HNX HNC HGE HR3 HR4 HAD
          cases o1
          all_goals
            go_wp2_with fail
            refine (awake_any _ (HT.out.1.below HT.out.2 HW.out.2.2) (Nat.lt_of_lt_of_le HT.out.2 HW.out.2.2.size)).mono ?_
            rintro e19 w19 ⟨rfl, hb19⟩
            have HBF := Lib.hid (HW.out.later hb19).2.2
            clear hb19
            go_wp2
            go_ret
            exact ⟨rfl, HBF.out⟩
      · have hd0 : decide (0 < s1) = false := decide_eq_false (by have := HDN.out rfl; omega)
        refine wp_region_pl (fun w' : World => w'.cell? ⟨b15, 0, none⟩ = some (.pointer (some ⟨p, 0, none⟩)) ∧ w'.cell? ⟨b15, 1, none⟩ = some (.int .i64 e1)) 16 (.take 0 (.run 1 (.take 2 (.take 3 (.take 5 (.run 4 (.run 6 (.take 7 (.take 8 (.take 9 (.take 10 (.run 11 (.take 12 (.take 13 (.take 15 (.run 14 .nil)))))))))))))))) (by kernel_rfl) (by kernel_rfl) ?_
        replace HW := Lib.hid (HW.out.later (drew_below _))
        replace HXP := Lib.hid (And.intro (HXP.out.1.below (drew_below _)) (HXP.out.2.below (drew_below _)))
        generalize World.drew _ = W18 at HW HXP ⊢
        have hS : (fun w' : World => w'.cell? ⟨b15, 0, none⟩ = some (.pointer (some ⟨p, 0, none⟩)) ∧ w'.cell? ⟨b15, 1, none⟩ = some (.int .i64 e1)) W18 := ⟨HXP.out.1.cell 0, HXP.out.1.cell 1⟩
        repeat (first | (refine wpPl_takeL (v := ?_) rfl rfl (fun _ _ _ h => h) rfl (fun w' hSw => ?_) hS ?_; rotate_left; (focus (go_simp; with_reducible rfl)); simp only [List.setIfInBounds_toArray, List.set_cons_zero, List.set_cons_succ]) | (refine wpPl_skipL rfl rfl (fun _ _ _ h => h) rfl hS ?_; simp only [List.setIfInBounds_toArray, List.set_cons_zero, List.set_cons_succ]))
        clear hS
        refine wpPl_goL rfl rfl fun K' hK => ?_
        go_simp
        refine (HFD.out _).mono ?_
        rintro e1 V1 ⟨rfl, hb1⟩
        replace HW := Lib.hid (HW.out.later hb1)
        replace HXP := Lib.hid (And.intro (HXP.out.1.below hb1) (HXP.out.2.below hb1))
        refine hK _ _ ⟨HXP.out.1.cell 0, HXP.out.1.cell 1⟩ ?_
        clear hK K' hb1
        have hS : (fun w' : World => w'.cell? ⟨b15, 0, none⟩ = some (.pointer (some ⟨p, 0, none⟩)) ∧ w'.cell? ⟨b15, 1, none⟩ = some (.int .i64 e1)) V1 := ⟨HXP.out.1.cell 0, HXP.out.1.cell 1⟩
        repeat (first | (refine wpPl_takeL (v := ?_) rfl rfl (fun _ _ _ h => h) rfl (fun w' hSw => ?_) hS ?_; rotate_left; (focus (go_simp; with_reducible rfl)); simp only [List.setIfInBounds_toArray, List.set_cons_zero, List.set_cons_succ]) | (refine wpPl_skipL rfl rfl (fun _ _ _ h => h) rfl hS ?_; simp only [List.setIfInBounds_toArray, List.set_cons_zero, List.set_cons_succ]))
        clear hS
        refine wpPl_goL rfl rfl fun K' hK => ?_
        go_simp
        refine (HOD.out _ rfl).mono ?_
        rintro e1 V2 ⟨qHQD, rfl, -, hi, hb1⟩
        have HQD := Lib.hid hi
        clear hi
        unfold ExV
        replace HW := Lib.hid (HW.out.later hb1)
        replace HXP := Lib.hid (And.intro (HXP.out.1.below hb1) (HXP.out.2.below hb1))
        refine hK _ _ ⟨HXP.out.1.cell 0, HXP.out.1.cell 1⟩ ?_
        clear hK K' hb1
        refine wpPl_goL rfl rfl fun K' hK => ?_
        go_simp
        refine (HCD.out rfl _ _ HQD.out HXP.out.2).mono ?_
        rintro e1 V3 ⟨rfl, hb1⟩
        replace HW := Lib.hid (HW.out.later hb1)
        replace HXP := Lib.hid (And.intro (HXP.out.1.below hb1) (HXP.out.2.below hb1))
        replace HQD := Lib.hid (HQD.out.below hb1)
        refine hK _ _ ⟨HXP.out.1.cell 0, HXP.out.1.cell 1⟩ ?_
        clear hK K' hb1
        have hS : (fun w' : World => w'.cell? ⟨b15, 0, none⟩ = some (.pointer (some ⟨p, 0, none⟩)) ∧ w'.cell? ⟨b15, 1, none⟩ = some (.int .i64 e1)) V3 := ⟨HXP.out.1.cell 0, HXP.out.1.cell 1⟩
        repeat (first | (refine wpPl_takeL (v := ?_) rfl rfl (fun _ _ _ h => h) rfl (fun w' hSw => ?_) hS ?_; rotate_left; (focus (go_simp; with_reducible rfl)); simp only [List.setIfInBounds_toArray, List.set_cons_zero, List.set_cons_succ]) | (refine wpPl_skipL rfl rfl (fun _ _ _ h => h) rfl hS ?_; simp only [List.setIfInBounds_toArray, List.set_cons_zero, List.set_cons_succ]))
        clear hS
        refine wpPl_goL rfl rfl fun K' hK => ?_
        go_simp
        refine (HFU.out _).mono ?_
        rintro e1 V4 ⟨rfl, hb1⟩
        replace HW := Lib.hid (HW.out.later hb1)
        replace HXP := Lib.hid (And.intro (HXP.out.1.below hb1) (HXP.out.2.below hb1))
        replace HQD := Lib.hid (HQD.out.below hb1)
        refine hK _ _ ⟨HXP.out.1.cell 0, HXP.out.1.cell 1⟩ ?_
        clear hK K' hb1
        have hS : (fun w' : World => w'.cell? ⟨b15, 0, none⟩ = some (.pointer (some ⟨p, 0, none⟩)) ∧ w'.cell? ⟨b15, 1, none⟩ = some (.int .i64 e1)) V4 := ⟨HXP.out.1.cell 0, HXP.out.1.cell 1⟩
        repeat (first | (refine wpPl_takeL (v := ?_) rfl rfl (fun _ _ _ h => h) rfl (fun w' hSw => ?_) hS ?_; rotate_left; (focus (go_simp; with_reducible rfl)); simp only [List.setIfInBounds_toArray, List.set_cons_zero, List.set_cons_succ]) | (refine wpPl_skipL rfl rfl (fun _ _ _ h => h) rfl hS ?_; simp only [List.setIfInBounds_toArray, List.set_cons_zero, List.set_cons_succ]))
        clear hS
        have hS : (fun w' : World => w'.cell? ⟨b15, 0, none⟩ = some (.pointer (some ⟨p, 0, none⟩)) ∧ w'.cell? ⟨b15, 1, none⟩ = some (.int .i64 e1)) V4 := ⟨HXP.out.1.cell 0, HXP.out.1.cell 1⟩
        refine wpPl_idleL rfl rfl rfl hS ?_
        simp only [List.setIfInBounds_toArray, List.set_cons_zero, List.set_cons_succ]
        clear hS
        refine wpPl_nil ?_
        simp only [List.drop_succ_cons, List.drop_zero]
        clear HXP HFD HFU HOD HOU HCD HCU HDN HUP
        go_wp2_with fail
        refine (HNC.out _).mono ?_
        rintro e18 w18 ⟨rfl, hb18⟩
        replace HW := Lib.hid (HW.out.later hb18)
        clear hb18
        generalize nxB dn = nx at *
        obtain ⟨o1, hA⟩ : ∃ o, (FloatKind.f64.format.order dn up == some Ordering.eq) = o := ⟨_, rfl⟩
        rcases geq_ways ⟨HNX.out.2.1, HNX.out.2.2⟩ HR3.out HGE.out with ⟨hG, hE⟩ | ⟨hG, hE⟩
        all_goals
          clear HNX HNC HGE HR3 HR4 HAD
          cases o1
          all_goals
            go_wp2_with fail
            refine (awake_any _ (HT.out.1.below HT.out.2 HW.out.2.2) (Nat.lt_of_lt_of_le HT.out.2 HW.out.2.2.size)).mono ?_
            rintro e19 w19 ⟨rfl, hb19⟩
            have HBF := Lib.hid (HW.out.later hb19).2.2
            clear hb19
            go_wp2
            go_ret
            exact ⟨rfl, HBF.out⟩
      · have hd0 : decide (0 < s1) = false := decide_eq_false (by have := HDN.out rfl; omega)
        have hu0 : decide (s2 < 0) = false := decide_eq_false (by have := HUP.out rfl; omega)
        refine wp_region_pl (fun w' : World => w'.cell? ⟨b15, 0, none⟩ = some (.pointer (some ⟨p, 0, none⟩)) ∧ w'.cell? ⟨b15, 1, none⟩ = some (.int .i64 e1)) 16 (.take 0 (.run 1 (.take 2 (.take 3 (.take 5 (.run 4 (.run 6 (.take 7 (.take 8 (.take 9 (.take 10 (.run 11 (.take 12 (.take 13 (.take 15 (.run 14 .nil)))))))))))))))) (by kernel_rfl) (by kernel_rfl) ?_
        replace HW := Lib.hid (HW.out.later (drew_below _))
        replace HXP := Lib.hid (And.intro (HXP.out.1.below (drew_below _)) (HXP.out.2.below (drew_below _)))
        generalize World.drew _ = W18 at HW HXP ⊢
        have hS : (fun w' : World => w'.cell? ⟨b15, 0, none⟩ = some (.pointer (some ⟨p, 0, none⟩)) ∧ w'.cell? ⟨b15, 1, none⟩ = some (.int .i64 e1)) W18 := ⟨HXP.out.1.cell 0, HXP.out.1.cell 1⟩
        repeat (first | (refine wpPl_takeL (v := ?_) rfl rfl (fun _ _ _ h => h) rfl (fun w' hSw => ?_) hS ?_; rotate_left; (focus (go_simp; with_reducible rfl)); simp only [List.setIfInBounds_toArray, List.set_cons_zero, List.set_cons_succ]) | (refine wpPl_skipL rfl rfl (fun _ _ _ h => h) rfl hS ?_; simp only [List.setIfInBounds_toArray, List.set_cons_zero, List.set_cons_succ]))
        clear hS
        refine wpPl_goL rfl rfl fun K' hK => ?_
        go_simp
        refine (HFD.out _).mono ?_
        rintro e1 V1 ⟨rfl, hb1⟩
        replace HW := Lib.hid (HW.out.later hb1)
        replace HXP := Lib.hid (And.intro (HXP.out.1.below hb1) (HXP.out.2.below hb1))
        refine hK _ _ ⟨HXP.out.1.cell 0, HXP.out.1.cell 1⟩ ?_
        clear hK K' hb1
        have hS : (fun w' : World => w'.cell? ⟨b15, 0, none⟩ = some (.pointer (some ⟨p, 0, none⟩)) ∧ w'.cell? ⟨b15, 1, none⟩ = some (.int .i64 e1)) V1 := ⟨HXP.out.1.cell 0, HXP.out.1.cell 1⟩
        repeat (first | (refine wpPl_takeL (v := ?_) rfl rfl (fun _ _ _ h => h) rfl (fun w' hSw => ?_) hS ?_; rotate_left; (focus (go_simp; with_reducible rfl)); simp only [List.setIfInBounds_toArray, List.set_cons_zero, List.set_cons_succ]) | (refine wpPl_skipL rfl rfl (fun _ _ _ h => h) rfl hS ?_; simp only [List.setIfInBounds_toArray, List.set_cons_zero, List.set_cons_succ]))
        clear hS
        refine wpPl_goL rfl rfl fun K' hK => ?_
        go_simp
        refine (HOD.out _ rfl).mono ?_
        rintro e1 V2 ⟨qHQD, rfl, -, hi, hb1⟩
        have HQD := Lib.hid hi
        clear hi
        unfold ExV
        replace HW := Lib.hid (HW.out.later hb1)
        replace HXP := Lib.hid (And.intro (HXP.out.1.below hb1) (HXP.out.2.below hb1))
        refine hK _ _ ⟨HXP.out.1.cell 0, HXP.out.1.cell 1⟩ ?_
        clear hK K' hb1
        refine wpPl_goL rfl rfl fun K' hK => ?_
        go_simp
        refine (HCD.out rfl _ _ HQD.out HXP.out.2).mono ?_
        rintro e1 V3 ⟨rfl, hb1⟩
        replace HW := Lib.hid (HW.out.later hb1)
        replace HXP := Lib.hid (And.intro (HXP.out.1.below hb1) (HXP.out.2.below hb1))
        replace HQD := Lib.hid (HQD.out.below hb1)
        refine hK _ _ ⟨HXP.out.1.cell 0, HXP.out.1.cell 1⟩ ?_
        clear hK K' hb1
        have hS : (fun w' : World => w'.cell? ⟨b15, 0, none⟩ = some (.pointer (some ⟨p, 0, none⟩)) ∧ w'.cell? ⟨b15, 1, none⟩ = some (.int .i64 e1)) V3 := ⟨HXP.out.1.cell 0, HXP.out.1.cell 1⟩
        repeat (first | (refine wpPl_takeL (v := ?_) rfl rfl (fun _ _ _ h => h) rfl (fun w' hSw => ?_) hS ?_; rotate_left; (focus (go_simp; with_reducible rfl)); simp only [List.setIfInBounds_toArray, List.set_cons_zero, List.set_cons_succ]) | (refine wpPl_skipL rfl rfl (fun _ _ _ h => h) rfl hS ?_; simp only [List.setIfInBounds_toArray, List.set_cons_zero, List.set_cons_succ]))
        clear hS
        refine wpPl_goL rfl rfl fun K' hK => ?_
        go_simp
        refine (HFU.out _).mono ?_
        rintro e1 V4 ⟨rfl, hb1⟩
        replace HW := Lib.hid (HW.out.later hb1)
        replace HXP := Lib.hid (And.intro (HXP.out.1.below hb1) (HXP.out.2.below hb1))
        replace HQD := Lib.hid (HQD.out.below hb1)
        refine hK _ _ ⟨HXP.out.1.cell 0, HXP.out.1.cell 1⟩ ?_
        clear hK K' hb1
        have hS : (fun w' : World => w'.cell? ⟨b15, 0, none⟩ = some (.pointer (some ⟨p, 0, none⟩)) ∧ w'.cell? ⟨b15, 1, none⟩ = some (.int .i64 e1)) V4 := ⟨HXP.out.1.cell 0, HXP.out.1.cell 1⟩
        repeat (first | (refine wpPl_takeL (v := ?_) rfl rfl (fun _ _ _ h => h) rfl (fun w' hSw => ?_) hS ?_; rotate_left; (focus (go_simp; with_reducible rfl)); simp only [List.setIfInBounds_toArray, List.set_cons_zero, List.set_cons_succ]) | (refine wpPl_skipL rfl rfl (fun _ _ _ h => h) rfl hS ?_; simp only [List.setIfInBounds_toArray, List.set_cons_zero, List.set_cons_succ]))
        clear hS
        refine wpPl_goL rfl rfl fun K' hK => ?_
        go_simp
        refine (HOU.out _ rfl).mono ?_
        rintro e1 V5 ⟨qHQU, rfl, -, hi, hb1⟩
        have HQU := Lib.hid hi
        clear hi
        unfold ExV
        replace HW := Lib.hid (HW.out.later hb1)
        replace HXP := Lib.hid (And.intro (HXP.out.1.below hb1) (HXP.out.2.below hb1))
        replace HQD := Lib.hid (HQD.out.below hb1)
        refine hK _ _ ⟨HXP.out.1.cell 0, HXP.out.1.cell 1⟩ ?_
        clear hK K' hb1
        refine wpPl_nil ?_
        simp only [List.drop_succ_cons, List.drop_zero]
        go_wp2_with fail
        refine (HCU.out (by first | rfl | trivial) _ _ HQU.out HXP.out.2).mono ?_
        rintro e17 w17 ⟨rfl, hb17⟩
        replace HW := Lib.hid (HW.out.later hb17)
        clear hb17
        clear HXP HFD HFU HOD HOU HCD HCU HDN HUP
        go_wp2_with fail
        refine (HNC.out _).mono ?_
        rintro e18 w18 ⟨rfl, hb18⟩
        replace HW := Lib.hid (HW.out.later hb18)
        clear hb18
        generalize nxB dn = nx at *
        obtain ⟨o1, hA⟩ : ∃ o, (FloatKind.f64.format.order dn up == some Ordering.eq) = o := ⟨_, rfl⟩
        rcases geq_ways ⟨HNX.out.2.1, HNX.out.2.2⟩ HR3.out HGE.out with ⟨hG, hE⟩ | ⟨hG, hE⟩
        all_goals
          clear HNX HNC HGE HR3 HR4 HAD
          cases o1
          all_goals
            go_wp2_with fail
            refine (awake_any _ (HT.out.1.below HT.out.2 HW.out.2.2) (Nat.lt_of_lt_of_le HT.out.2 HW.out.2.2.size)).mono ?_
            rintro e19 w19 ⟨rfl, hb19⟩
            have HBF := Lib.hid (HW.out.later hb19).2.2
            clear hb19
            go_wp2
            go_ret
            exact ⟨rfl, HBF.out⟩

end Go.Proofs.YtfcddnccmdjhfaaGreatDoor
