/- Walk: SumNearest. Printed by wip/gen/ne5.py. -/
import Derived.Test.YtjoajbbapfgaoaaGreatDoorZNe3
import Derived.Test.YtjoajbbapfgaoaaGreatDoorZNe4
import Derived.Test.YtjoajbbapfgaoaaGreatDoorZFl8
import Derived.Test.YtjoajbbapfgaoaaGreatDoorZSm1
import Derived.Test.YtjoajbbapfgaoaaGreatDoorZRk5
namespace Go.Proofs.YtjoajbbapfgaoaaGreatDoor
open Go.RowKit

/-- One of the references' numbers in its box. -/
def XB0 (W : World) (b q : Nat) (z e : Int) : Prop := BlkT W b 34 #[.pointer (some ⟨q, 0, none⟩), .int .i64 e] ∧ RInt W q z
theorem XB0.below {W V : World} {b q : Nat} {z e : Int} (h : XB0 W b q z e) (hb : Below W.heap.size W V) : XB0 V b q z e := ⟨h.1.below hb, h.2.below hb⟩

/-- The sum's box, and what lay. -/
def NbX (w0 W : World) (b q : Nat) (S E : Int) : Prop := XB0 W b q S E ∧ Below w0.heap.size w0 W
theorem NbX.later {w0 W V : World} {b q : Nat} {S E : Int} (h : NbX w0 W b q S E) (hb : Below W.heap.size W V) : NbX w0 V b q S E := ⟨h.1.below hb, h.2.trans (hb.mono h.2.size)⟩
theorem NbX.cells {w0 W : World} {b q : Nat} {S E : Int} (h : NbX w0 W b q S E) : W.cell? ⟨b, 0, none⟩ = some (.pointer (some ⟨q, 0, none⟩)) ∧ W.cell? ⟨b, 1, none⟩ = some (.int .i64 E) := ⟨h.1.1.cell 0, h.1.1.cell 1⟩
theorem NbX.st2 {w0 W : World} {b q r : Nat} {S E f : Int} {a : Option Addr} (h : NbX w0 W b q S E) (hr : BlkT W r 34 #[.pointer a, .int .i64 f]) (hn : b < r) (h0 : w0.heap.size ≤ r) (x0 x1 : Value) : NbX w0 ((W.setCell ⟨r, 0, none⟩ x0).setCell ⟨r, 1, none⟩ x1) b q S E :=
  ⟨⟨(h.1.1.setOther (by omega) _).setOther (by omega) _, h.1.2.st2 hr _ _⟩, (h.2.setCell h0 _).setCell h0 _⟩

set_option maxRecDepth 100000 in
set_option maxHeartbeats 8000000 in
theorem nearest_any (v : Value) (l : List Nat) (o : Nat) (w : World) (hl : USl w v l) (ho : o < 18446744073709551616)
    (hT : Tab64 w) (hTs : 1 < w.heap.size) :
    Calls Tryz.prog 7 #[v, .int .u64 o] w (Gives (.bool true) w) := by
  have HT := Lib.hid (And.intro hT (And.intro hTs trivial))
  have HL := Lib.hid hl
  have HO := Lib.hid ho
  have hff := ffrom_eq o
  clear hT hTs
  obtain ⟨ao, cap, rfl, -⟩ := hl
  go_enter Tryz.func7, Tryz.ntmps7
  go_wp2_with fail
  refine (rOf64_any _ l _ HL.out).mono ?_
  rintro e1 w1 ⟨u, rfl, hfl, hb1⟩
  have HF := Lib.hid hfl
  have HB := Lib.hid hb1
  obtain ⟨fa, fc, rfl, -⟩ := hfl
  clear hb1
  by_cases hlen : 600 < l.length
  · have hd : decide ((600 : Int) < (l.length : Int)) = true := by simp; omega
    clear hlen
    go_wp2_with fail
    refine (awake5_any _ (HT.out.1.below HT.out.2.1 HB.out) (Nat.lt_of_lt_of_le HT.out.2.1 HB.out.size)).mono ?_
    rintro e9 w9 ⟨rfl, hb9⟩
    have HBE := Lib.hid (HB.out.trans (hb9.mono HB.out.size))
    clear hb9
    go_wp2
    go_ret
    exact ⟨rfl, HBE.out⟩
  have hd : decide ((600 : Int) < (l.length : Int)) = false := by simp; omega
  cases hall : l.all finB
  · go_wp2_with fail
    refine (rAllFinite_any _ l _ HF.out).mono ?_
    rintro e2 w2 ⟨rfl, hb2⟩
    rw [hall]
    replace HB := Lib.hid (HB.out.trans (hb2.mono HB.out.size))
    clear hb2 hall
    go_wp2_with fail
    refine (awake5_any _ (HT.out.1.below HT.out.2.1 HB.out) (Nat.lt_of_lt_of_le HT.out.2.1 HB.out.size)).mono ?_
    rintro e9 w9 ⟨rfl, hb9⟩
    have HBE := Lib.hid (HB.out.trans (hb9.mono HB.out.size))
    clear hb9
    go_wp2
    go_ret
    exact ⟨rfl, HBE.out⟩
  cases hof : finB o
  · go_wp2_with fail
    refine (rAllFinite_any _ l _ HF.out).mono ?_
    rintro e2 w2 ⟨rfl, hb2⟩
    rw [hall]
    replace HB := Lib.hid (HB.out.trans (hb2.mono HB.out.size))
    clear hb2 hall
    go_wp2_with fail
    refine (rFinite_any o _ HO.out).mono ?_
    rintro e3 w3 ⟨rfl, hb3⟩
    rw [hof]
    replace HB := Lib.hid (HB.out.trans (hb3.mono HB.out.size))
    clear hb3 hof
    go_wp2_with fail
    refine (awake5_any _ (HT.out.1.below HT.out.2.1 HB.out) (Nat.lt_of_lt_of_le HT.out.2.1 HB.out.size)).mono ?_
    rintro e9 w9 ⟨rfl, hb9⟩
    have HBE := Lib.hid (HB.out.trans (hb9.mono HB.out.size))
    clear hb9
    go_wp2
    go_ret
    exact ⟨rfl, HBE.out⟩
  have HALL := Lib.hid hall
  have HOF := Lib.hid hof
  have HEX := Lib.hid fun v W (h : FSl W v l) ht hts => exact_ok v l W h (by omega) ht hts
  have hs := prs_small (l := l) (by omega) hall l.length (Nat.le_refl _)
  rw [show (prs l).take l.length = prs l from List.take_of_length_le (by unfold prs; simp)] at hs
  have HN1 := Lib.hid fun hx => near_fin_law (l := l) (o := o) (by omega) hall HO.out hof hx
  have HN2 := Lib.hid fun hx => near_inf_law (l := l) (by omega) hall hx
  have HXL := Lib.hid (exB_lt hall)
  have HRS := Lib.hid fun v W (h : FSl W v l) => rSum_any v l W h hall
  go_wp2_with fail
  refine (rAllFinite_any _ l _ HF.out).mono ?_
  rintro e2 w2 ⟨rfl, hb2⟩
  rw [HALL.out]
  replace HB := Lib.hid (HB.out.trans (hb2.mono HB.out.size))
  replace HF := Lib.hid (HF.out.below hb2)
  clear hb2 hall hlen
  go_wp2_with fail
  refine (rFinite_any o _ HO.out).mono ?_
  rintro e3 w3 ⟨rfl, hb3⟩
  rw [HOF.out]
  replace HB := Lib.hid (HB.out.trans (hb3.mono HB.out.size))
  replace HF := Lib.hid (HF.out.below hb3)
  clear hb3 hof HALL
  go_wp2_with fail
  refine (HEX.out _ _ HF.out (HT.out.1.below HT.out.2.1 HB.out) (Nat.lt_of_lt_of_le HT.out.2.1 HB.out.size)).mono ?_
  rintro e4 w4 ⟨rfl, hb4⟩
  replace HB := Lib.hid (HB.out.trans (hb4.mono HB.out.size))
  replace HF := Lib.hid (HF.out.below hb4)
  clear hb4
  generalize exB l = x at *
  generalize (foldS (prs l)).1 = S at *
  generalize (foldS (prs l)).2 = E at *
  go_wp2_with fail
  refine (awake5_any _ (HT.out.1.below HT.out.2.1 HB.out) (Nat.lt_of_lt_of_le HT.out.2.1 HB.out.size)).mono ?_
  rintro e5 w5 ⟨rfl, hb5⟩
  replace HB := Lib.hid (HB.out.trans (hb5.mono HB.out.size))
  replace HF := Lib.hid (HF.out.below hb5)
  clear hb5
  go_wp2_with fail
  refine (HRS.out _ _ HF.out).mono ?_
  rintro e6 w6 ⟨q, rfl, hi6, hb6⟩
  replace HB := Lib.hid (HB.out.trans (hb6.mono HB.out.size))
  have HW : Hid (NbX w (w6.alloc (.cells #[.pointer (some ⟨q, 0, none⟩), .int .i64 E] 34)) w6.heap.size q S E) := Lib.hid ⟨⟨BlkT.new w6 _ _, hi6.below (Below.alloc_self w6 _)⟩, HB.out.alloc HB.out.size _⟩
  clear hi6 hb6 HB HF HEX HRS HT HL
  unfold ExV
  go_wp2_with fail
  generalize w6.alloc (.cells #[.pointer (some ⟨q, 0, none⟩), .int .i64 E] 34) = W0 at HW ⊢
  generalize w6.heap.size = b9 at HW ⊢
  refine (rFinite_any x _ HXL.out).mono ?_
  rintro e7 w7 ⟨rfl, hb7⟩
  replace HW := Lib.hid (HW.out.later hb7)
  clear hb7
  cases hfx : finB x
  · obtain ⟨k1, k2, k3⟩ := HN2.out hfx
    have hxx : (F6.order x x == some Ordering.eq) = true := by rw [order_self, k1]; rfl
    obtain ⟨sg, HSG⟩ : ∃ sg, Hid (S.sign = sg) := ⟨_, Lib.hid rfl⟩
    rw [HSG.out] at k3
    obtain ⟨bb, hbb⟩ : ∃ bb, decide (0 < sg) = bb := ⟨_, rfl⟩
    rw [hbb] at k3
    have hb2 : (bb == bb) = true := by simp
    obtain ⟨cg, HCG⟩ : ∃ cg, Hid ((plZ (S.natAbs : Int) E (-18014398509481983) 970).sign = cg) := ⟨_, Lib.hid rfl⟩
    rw [HCG.out] at k2
    have hcg : decide (0 ≤ cg) = true := decide_eq_true k2
    have HPL : Hid (plZ 9007199254740991 971 1 970 = 18014398509481983 ∧ plE 9007199254740991 971 1 970 = 970) := Lib.hid (by decide)
    have HOF := Lib.hid fun W => rOf_any 9218868437227405311 W (by decide) (by decide)
    rw [show valZ 9218868437227405311 = 9007199254740991 by decide, show pE 9218868437227405311 = 971 by decide] at HOF
    have HBS : Hid (bl (S.natAbs : Int).natAbs ≤ 34359738368) := Lib.hid (by rw [Int.natAbs_natCast]; omega)
    have HES : Hid (-8589934592 ≤ E ∧ E ≤ 8589934592) := Lib.hid ⟨by omega, by omega⟩
    clear k1 k2 HN1 HN2 hs
    go_wp2_with fail
    refine (HOF.out _).mono ?_
    rintro e8 w8 ⟨p8, rfl, -, hi8, hb8⟩
    replace HW := Lib.hid (HW.out.later hb8)
    have HI8 := Lib.hid hi8
    clear hi8 hb8
    unfold ExV
    go_wp2_with fail
    refine (rPower_any 970 _).mono ?_
    rintro e9 w9 ⟨p9, rfl, -, hi9, hb9⟩
    replace HW := Lib.hid (HW.out.later hb9)
    replace HI8 := Lib.hid (HI8.out.below hb9)
    have HI9 := Lib.hid hi9
    clear hi9 hb9
    unfold ExV
    go_wp2_with fail
    refine (rAddX_any p8 p9 9007199254740991 971 1 970 _ HI8.out HI9.out (by decide) (by decide) (by decide) (by decide) (by decide) (by decide)).mono ?_
    rintro e10 w10 ⟨p10, rfl, hi10, hb10⟩
    rw [HPL.out.1] at hi10
    rw [HPL.out.2]
    replace HW := Lib.hid (HW.out.later hb10)
    have HLT : Hid (b9 < w10.heap.size) := Lib.hid HW.out.1.1.lt
    have HX10 : Hid (XB0 (w10.alloc (.cells #[.pointer (some ⟨p10, 0, none⟩), .int .i64 970] 34)) w10.heap.size p10 18014398509481983 970) := Lib.hid ⟨BlkT.new w10 _ _, hi10.below (Below.alloc_self w10 _)⟩
    replace HW := Lib.hid (HW.out.later (Below.alloc_self w10 (.cells #[.pointer (some ⟨p10, 0, none⟩), .int .i64 970] 34)))
    clear hi10 hb10 HI8 HI9 HPL HOF
    unfold ExV
    go_wp2
    generalize w10.alloc (.cells #[.pointer (some ⟨p10, 0, none⟩), .int .i64 970] 34) = W1 at HW HX10 ⊢
    generalize w10.heap.size = b10 at HX10 ⊢
    refine wp_region_pl (fun w' : World => ((w'.cell? ⟨b9, 0, none⟩ = some (.pointer (some ⟨q, 0, none⟩)) ∧ w'.cell? ⟨b9, 1, none⟩ = some (.int .i64 E)) ∧ w'.cell? ⟨b10, 0, none⟩ = some (.pointer (some ⟨p10, 0, none⟩))) ∧ w'.cell? ⟨b10, 1, none⟩ = some (.int .i64 970)) 17 (.take 0 (.take 1 (.take 2 (.take 3 (.take 4 (.take 6 (.run 5 (.run 7 (.take 8 (.take 9 (.take 10 (.take 11 (.take 12 (.take 13 (.take 14 (.run 15 (.take 16 .nil))))))))))))))))) (by kernel_rfl) (by kernel_rfl) ?_
    replace HW := Lib.hid (HW.out.later (drew_below _))
    replace HX10 := Lib.hid (HX10.out.below (drew_below _))
    generalize World.drew _ = W2 at HW HX10 ⊢
    have hS : (fun w' : World => ((w'.cell? ⟨b9, 0, none⟩ = some (.pointer (some ⟨q, 0, none⟩)) ∧ w'.cell? ⟨b9, 1, none⟩ = some (.int .i64 E)) ∧ w'.cell? ⟨b10, 0, none⟩ = some (.pointer (some ⟨p10, 0, none⟩))) ∧ w'.cell? ⟨b10, 1, none⟩ = some (.int .i64 970)) W2 := ⟨⟨⟨HW.out.1.1.cell 0, HW.out.1.1.cell 1⟩, HX10.out.1.cell 0⟩, HX10.out.1.cell 1⟩
    repeat (refine wpPl_takeL (v := ?_) rfl rfl (fun _ _ _ h => h) rfl (fun w' hSw => ?_) hS ?_; rotate_left; (focus (go_simp; with_reducible rfl)); simp only [List.setIfInBounds_toArray, List.set_cons_zero, List.set_cons_succ])
    clear hS
    refine wpPl_goL rfl rfl fun K' hK => ?_
    go_simp
    refine (rAbsX_any q S E _ HW.out.1.2).mono ?_
    rintro e1 V1 ⟨pa, rfl, -, hi, hb1⟩
    have HA := Lib.hid hi
    clear hi
    unfold ExV
    replace HW := Lib.hid (HW.out.later hb1)
    replace HX10 := Lib.hid (HX10.out.below hb1)
    refine hK _ _ ⟨⟨⟨HW.out.1.1.cell 0, HW.out.1.1.cell 1⟩, HX10.out.1.cell 0⟩, HX10.out.1.cell 1⟩ ?_
    clear hK K' hb1
    refine wpPl_goL rfl rfl fun K' hK => ?_
    go_simp
    refine (rCmpX_any pa p10 (S.natAbs : Int) E 18014398509481983 970 _ HA.out HX10.out.2 HBS.out (by decide) HES.out.1 HES.out.2 (by decide) (by decide)).mono ?_
    rintro e1 V2 ⟨rfl, hb1⟩
    rw [HCG.out]
    replace HW := Lib.hid (HW.out.later hb1)
    replace HX10 := Lib.hid (HX10.out.below hb1)
    refine hK _ _ ⟨⟨⟨HW.out.1.1.cell 0, HW.out.1.1.cell 1⟩, HX10.out.1.cell 0⟩, HX10.out.1.cell 1⟩ ?_
    clear hK K' hb1
    have hS : (fun w' : World => ((w'.cell? ⟨b9, 0, none⟩ = some (.pointer (some ⟨q, 0, none⟩)) ∧ w'.cell? ⟨b9, 1, none⟩ = some (.int .i64 E)) ∧ w'.cell? ⟨b10, 0, none⟩ = some (.pointer (some ⟨p10, 0, none⟩))) ∧ w'.cell? ⟨b10, 1, none⟩ = some (.int .i64 970)) V2 := ⟨⟨⟨HW.out.1.1.cell 0, HW.out.1.1.cell 1⟩, HX10.out.1.cell 0⟩, HX10.out.1.cell 1⟩
    repeat (refine wpPl_takeL (v := ?_) rfl rfl (fun _ _ _ h => h) rfl (fun w' hSw => ?_) hS ?_; rotate_left; (focus (go_simp; with_reducible rfl)); simp only [List.setIfInBounds_toArray, List.set_cons_zero, List.set_cons_succ])
    clear hS
    refine wpPl_goL rfl rfl fun K' hK => ?_
    go_simp
    refine (rSign_any q 0 S _ HW.out.1.2).mono ?_
    rintro e1 V3 ⟨rfl, hwv⟩
    rw [HSG.out]
    have hb1 : Below V2.heap.size V2 V3 := by rw [← hwv]; exact Below.refl _ _
    clear hwv
    replace HW := Lib.hid (HW.out.later hb1)
    replace HX10 := Lib.hid (HX10.out.below hb1)
    refine hK _ _ ⟨⟨⟨HW.out.1.1.cell 0, HW.out.1.1.cell 1⟩, HX10.out.1.cell 0⟩, HX10.out.1.cell 1⟩ ?_
    clear hK K' hb1
    have hS : (fun w' : World => ((w'.cell? ⟨b9, 0, none⟩ = some (.pointer (some ⟨q, 0, none⟩)) ∧ w'.cell? ⟨b9, 1, none⟩ = some (.int .i64 E)) ∧ w'.cell? ⟨b10, 0, none⟩ = some (.pointer (some ⟨p10, 0, none⟩))) ∧ w'.cell? ⟨b10, 1, none⟩ = some (.int .i64 970)) V3 := ⟨⟨⟨HW.out.1.1.cell 0, HW.out.1.1.cell 1⟩, HX10.out.1.cell 0⟩, HX10.out.1.cell 1⟩
    repeat (refine wpPl_takeL (v := ?_) rfl rfl (fun _ _ _ h => h) rfl (fun w' hSw => ?_) hS ?_; rotate_left; (focus (go_simp; with_reducible rfl)); simp only [List.setIfInBounds_toArray, List.set_cons_zero, List.set_cons_succ])
    clear hS
    refine wpPl_nil ?_
    simp only [List.drop_succ_cons, List.drop_zero]
    skip
    go_wp2
    go_ret
    exact ⟨rfl, HW.out.2⟩
  · have HN := Lib.hid (HN1.out hfx)
    have hxb := pE_bd hfx
    have hob := pE_bd HOF.out
    have hxv := val_bl (b := x)
    have hov := val_bl (b := o)
    have HRX := Lib.hid fun W => rOf_any x W HXL.out hfx
    have HRO := Lib.hid fun W => rOf_any o W HO.out HOF.out
    generalize valZ x = zx at *
    generalize pE x = ex at *
    generalize valZ o = zo at *
    generalize pE o = eo at *
    have hbx := bl_plZ (z := S) (e := E) (y := -zx) (f := ex)
    have hbo := bl_plZ (z := S) (e := E) (y := -zo) (f := eo)
    rw [Int.natAbs_neg] at hbx hbo
    have hgx := plE_bd (z := S) (e := E) (y := -zx) (f := ex) (by omega) (by omega) (by omega) (by omega)
    have hgo := plE_bd (z := S) (e := E) (y := -zo) (f := eo) (by omega) (by omega) (by omega) (by omega)
    have HAX := Lib.hid fun b c W (h1 : RInt W b S) (h2 : RInt W c (-zx)) => rAddX_any b c S E (-zx) ex W h1 h2 (by omega) (by rw [Int.natAbs_neg]; omega) (by omega) (by omega) (by omega) (by omega)
    have HAO := Lib.hid fun b c W (h1 : RInt W b S) (h2 : RInt W c (-zo)) => rAddX_any b c S E (-zo) eo W h1 h2 (by omega) (by rw [Int.natAbs_neg]; omega) (by omega) (by omega) (by omega) (by omega)
    obtain ⟨Yx, hYx⟩ : ∃ y, plZ S E (-zx) ex = y := ⟨_, rfl⟩
    obtain ⟨Gx, hGx⟩ : ∃ y, plE S E (-zx) ex = y := ⟨_, rfl⟩
    obtain ⟨Yo, hYo⟩ : ∃ y, plZ S E (-zo) eo = y := ⟨_, rfl⟩
    obtain ⟨Go, hGo⟩ : ∃ y, plE S E (-zo) eo = y := ⟨_, rfl⟩
    rw [hYx] at hbx HAX HN
    rw [hGx] at hgx HAX HN
    rw [hYo] at hbo HAO HN
    rw [hGo] at hgo HAO HN
    have HCM := Lib.hid fun b c W (h1 : RInt W b (Yx.natAbs : Int)) (h2 : RInt W c (Yo.natAbs : Int)) => rCmpX_any b c (Yx.natAbs : Int) Gx (Yo.natAbs : Int) Go W h1 h2 (by rw [Int.natAbs_natCast]; omega) (by rw [Int.natAbs_natCast]; omega) (by omega) (by omega) (by omega) (by omega)
    obtain ⟨cg, hcg⟩ : ∃ cg, (plZ (Yx.natAbs : Int) Gx (-(Yo.natAbs : Int)) Go).sign = cg := ⟨_, rfl⟩
    rw [hcg] at HCM HN
    have hle : decide (cg ≤ 0) = true := decide_eq_true HN.out
    clear hYx hGx hYo hGo hcg HN HN1 HN2 hs hxb hob hxv hov hbx hbo hgx hgo
    go_wp2
    rename_i W1
    refine wp_region_q (fun w' : World => w'.cell? ⟨b9, 0, none⟩ = some (.pointer (some ⟨q, 0, none⟩)) ∧ w'.cell? ⟨b9, 1, none⟩ = some (.int .i64 E)) 7 (.take 0 (.take 1 (.bag [(2, 70, []), (3, 71, []), (4, 72, []), (5, 73, []), (6, 11, [])] .nil))) (by kernel_rfl) (by kernel_rfl) ?_
    replace HW := Lib.hid (HW.out.later (drew_below _))
    generalize World.drew _ = W3 at HW ⊢
    obtain ⟨B0, hB0⟩ : ∃ i, W3.heap.size = i := ⟨_, rfl⟩
    have HSZ : Hid (SzLe W3 B0) := Lib.hid (Nat.le_of_eq hB0.symm)
    have HLB : Hid (b9 < B0 ∧ w.heap.size ≤ B0) := Lib.hid (by rw [← hB0]; exact ⟨HW.out.1.1.lt, HW.out.2.size⟩)
    clear hB0
    have hS : (fun w' : World => w'.cell? ⟨b9, 0, none⟩ = some (.pointer (some ⟨q, 0, none⟩)) ∧ w'.cell? ⟨b9, 1, none⟩ = some (.int .i64 E)) W3 := HW.out.cells
    repeat (refine wpPq_takeL (v := ?_) rfl rfl (fun _ _ _ h => h) rfl (fun w' hSw => ?_) hS ?_; rotate_left; (focus (go_simp; with_reducible rfl)); simp only [List.setIfInBounds_toArray, List.set_cons_zero, List.set_cons_succ])
    clear hS
    refine wpPq_bag (pick [(2, fun v w' => ∃ p, v = ExV p ex ∧ RInt w' p zx), (3, fun v w' => ∃ p, v = ExV p ex ∧ RInt w' p (-zx)), (4, fun v w' => ∃ p, v = ExV p Gx ∧ RInt w' p Yx), (5, fun v w' => ∃ p, v = ExV p Gx ∧ RInt w' p (Yx.natAbs : Int)), (6, fun v w' => ∃ r, v = .pointer (some ⟨r, 0, none⟩) ∧ B0 ≤ r ∧ BlkT w' r 34 #[.pointer none, .int .i64 0])]) (pick_mono (bag_cons (fun v w1 w2 ⟨p2, hv2, hi2⟩ hb => ⟨p2, hv2, hi2.below hb⟩) (bag_cons (fun v w1 w2 ⟨p3, hv3, hi3⟩ hb => ⟨p3, hv3, hi3.below hb⟩) (bag_cons (fun v w1 w2 ⟨p4, hv4, hi4⟩ hb => ⟨p4, hv4, hi4.below hb⟩) (bag_cons (fun v w1 w2 ⟨p5, hv5, hi5⟩ hb => ⟨p5, hv5, hi5.below hb⟩) (bag_cons (fun v w1 w2 ⟨r6, hv6, hl6, hB6⟩ hb => ⟨r6, hv6, hl6, hB6.below hb⟩) bag_nil)))))) (fun w' hb => (HW.out.later hb).cells) (by simp [prE]) (fun _ _ _ _ _ h => h) (bag_cons (bag_one rfl ?_) (bag_cons (bag_one rfl ?_) (bag_cons (bag_one rfl ?_) (bag_cons (bag_one rfl ?_) (bag_cons (bag_one rfl ?_) bag_nil))))) bag_nil ?_
    · intro a' V hdf hin hdep hb1 K hK
      have i69 : a'.tmps[69]?.getD undef = .float .f64 x := evT (hin 69 (by decide))
      clear hin hdep hdf
      have HW := Lib.hid (HW.out.later hb1)
      have HSZ := Lib.hid (HSZ.out.below hb1)
      go_simp
      refine (HRX.out _).mono ?_
      rintro e1 V2 ⟨p, rfl, -, hi, hb2⟩
      exact hK _ _ ⟨p, rfl, hi⟩ hb2
    · intro a' V hdf hin hdep hb1 K hK
      obtain ⟨p2, hv2, hi2⟩ : (fun (v : Value) (w' : World) => ∃ p, v = ExV p ex ∧ RInt w' p zx) (a'.tmps.getD 70 undef) V := hdep ⟨2, .data⟩ (by simp) rfl 70 (by decide)
      replace hv2 := evT hv2
      clear hin hdep hdf
      have HW := Lib.hid (HW.out.later hb1)
      have HSZ := Lib.hid (HSZ.out.below hb1)
      simp only [ExV] at hv2
      go_simp
      refine (rNegX_any _ _ _ _ hi2).mono ?_
      rintro e1 V2 ⟨p, rfl, -, hi, hb2⟩
      exact hK _ _ ⟨p, rfl, hi⟩ hb2
    · intro a' V hdf hin hdep hb1 K hK
      have i68 : a'.tmps[68]?.getD undef = ExV q E := evT (hin 68 (by decide))
      obtain ⟨p3, hv3, hi3⟩ : (fun (v : Value) (w' : World) => ∃ p, v = ExV p ex ∧ RInt w' p (-zx)) (a'.tmps.getD 71 undef) V := hdep ⟨3, .data⟩ (by simp) rfl 71 (by decide)
      replace hv3 := evT hv3
      clear hin hdep hdf
      have HW := Lib.hid (HW.out.later hb1)
      have HSZ := Lib.hid (HSZ.out.below hb1)
      simp only [ExV] at hv3
      go_simp
      refine (HAX.out _ _ _ HW.out.1.2 hi3).mono ?_
      rintro e1 V2 ⟨p, rfl, hi, hb2⟩
      exact hK _ _ ⟨p, rfl, hi⟩ hb2
    · intro a' V hdf hin hdep hb1 K hK
      obtain ⟨p4, hv4, hi4⟩ : (fun (v : Value) (w' : World) => ∃ p, v = ExV p Gx ∧ RInt w' p Yx) (a'.tmps.getD 72 undef) V := hdep ⟨4, .data⟩ (by simp) rfl 72 (by decide)
      replace hv4 := evT hv4
      clear hin hdep hdf
      have HW := Lib.hid (HW.out.later hb1)
      have HSZ := Lib.hid (HSZ.out.below hb1)
      simp only [ExV] at hv4
      go_simp
      refine (rAbsX_any _ _ _ _ hi4).mono ?_
      rintro e1 V2 ⟨p, rfl, -, hi, hb2⟩
      exact hK _ _ ⟨p, rfl, hi⟩ hb2
    · intro a' V hdf hin hdep hb1 K hK
      clear hin hdep hdf
      have HW := Lib.hid (HW.out.later hb1)
      have HSZ := Lib.hid (HSZ.out.below hb1)
      go_simp
      exact hK _ _ ⟨_, rfl, HSZ.out, BlkT.new V _ _⟩ (Below.alloc_self _ _)
    intro vals B1 hb1 hR
    replace HW := Lib.hid (HW.out.later hb1)
    replace HSZ := Lib.hid (HSZ.out.below hb1)
    obtain ⟨p2, hv2, hi2⟩ : (fun (v : Value) (w' : World) => ∃ p, v = ExV p ex ∧ RInt w' p zx) (vals 2) B1 := hR (2, 70) (by decide)
    obtain ⟨p3, hv3, hi3⟩ : (fun (v : Value) (w' : World) => ∃ p, v = ExV p ex ∧ RInt w' p (-zx)) (vals 3) B1 := hR (3, 71) (by decide)
    obtain ⟨p4, hv4, hi4⟩ : (fun (v : Value) (w' : World) => ∃ p, v = ExV p Gx ∧ RInt w' p Yx) (vals 4) B1 := hR (4, 72) (by decide)
    obtain ⟨p5, hv5, hi5⟩ : (fun (v : Value) (w' : World) => ∃ p, v = ExV p Gx ∧ RInt w' p (Yx.natAbs : Int)) (vals 5) B1 := hR (5, 73) (by decide)
    obtain ⟨r6, hv6, hl6, hB6⟩ : (fun (v : Value) (w' : World) => ∃ r, v = .pointer (some ⟨r, 0, none⟩) ∧ B0 ≤ r ∧ BlkT w' r 34 #[.pointer none, .int .i64 0]) (vals 6) B1 := hR (6, 11) (by decide)
    clear hb1 hR
    simp only [prE, List.flatMap_cons, List.flatMap_nil, List.cons_append, List.nil_append, List.append_nil, setD, List.setIfInBounds_toArray, List.set_cons_zero, List.set_cons_succ, hv2, hv3, hv4, hv5, hv6]
    clear vals hv2 hv3 hv4 hv5 hv6
    refine wpPq_nil ?_
    simp only [List.drop_succ_cons, List.drop_zero]
    skip
    have HLT := Lib.hid (show b9 < r6 ∧ w.heap.size ≤ r6 from by have := HLB.out; omega)
    have HST := Lib.hid (And.intro (HW.out.st2 hB6 HLT.out.1 HLT.out.2 (.pointer (some ⟨p5, 0, none⟩)) (.int .i64 Gx))
      (show XB0 ((B1.setCell ⟨r6, 0, none⟩ (.pointer (some ⟨p5, 0, none⟩))).setCell ⟨r6, 1, none⟩ (.int .i64 Gx)) r6 p5 (Yx.natAbs : Int) Gx from ⟨(hB6.set (i := 0) _).set (i := 1) _, RInt.st2 hi5 hB6 _ _⟩))
    obtain ⟨t0, t1, t2, t3⟩ := hB6.cells2
    clear hi2 hi3 hi4 hi5 hl6 HW HSZ HLB hB6
    unfold ExV
    go_wp2
    generalize (B1.setCell ⟨r6, 0, none⟩ (.pointer (some ⟨p5, 0, none⟩))).setCell ⟨r6, 1, none⟩ (.int .i64 Gx) = W4 at HST ⊢
    have HW := Lib.hid HST.out.1
    have H11 := Lib.hid HST.out.2
    clear HST t0 t1 t2 t3
    refine wp_region_pl (fun w' : World => ((w'.cell? ⟨r6, 0, none⟩ = some (.pointer (some ⟨p5, 0, none⟩)) ∧ w'.cell? ⟨r6, 1, none⟩ = some (.int .i64 Gx)) ∧ w'.cell? ⟨b9, 0, none⟩ = some (.pointer (some ⟨q, 0, none⟩))) ∧ w'.cell? ⟨b9, 1, none⟩ = some (.int .i64 E)) 7 (.take 0 (.take 1 (.take 2 (.run 3 (.run 4 (.run 5 (.run 6 .nil))))))) (by kernel_rfl) (by kernel_rfl) ?_
    replace HW := Lib.hid (HW.out.later (drew_below _))
    replace H11 := Lib.hid (H11.out.below (drew_below _))
    generalize World.drew _ = W5 at HW H11 ⊢
    have hS : (fun w' : World => ((w'.cell? ⟨r6, 0, none⟩ = some (.pointer (some ⟨p5, 0, none⟩)) ∧ w'.cell? ⟨r6, 1, none⟩ = some (.int .i64 Gx)) ∧ w'.cell? ⟨b9, 0, none⟩ = some (.pointer (some ⟨q, 0, none⟩))) ∧ w'.cell? ⟨b9, 1, none⟩ = some (.int .i64 E)) W5 := ⟨⟨⟨H11.out.1.cell 0, H11.out.1.cell 1⟩, HW.out.1.1.cell 0⟩, HW.out.1.1.cell 1⟩
    repeat (refine wpPl_takeL (v := ?_) rfl rfl (fun _ _ _ h => h) rfl (fun w' hSw => ?_) hS ?_; rotate_left; (focus (go_simp; with_reducible rfl)); simp only [List.setIfInBounds_toArray, List.set_cons_zero, List.set_cons_succ])
    clear hS
    refine wpPl_goL rfl rfl fun K' hK => ?_
    go_simp
    refine (HRO.out _).mono ?_
    rintro e1 V1 ⟨pa, rfl, -, hi, hb1⟩
    have HA3 := Lib.hid hi
    clear hi
    unfold ExV
    replace HW := Lib.hid (HW.out.later hb1)
    replace H11 := Lib.hid (H11.out.below hb1)
    refine hK _ _ ⟨⟨⟨H11.out.1.cell 0, H11.out.1.cell 1⟩, HW.out.1.1.cell 0⟩, HW.out.1.1.cell 1⟩ ?_
    clear hK K' hb1
    refine wpPl_goL rfl rfl fun K' hK => ?_
    go_simp
    refine (rNegX_any _ _ _ _ HA3.out).mono ?_
    rintro e1 V2 ⟨pb, rfl, -, hi, hb1⟩
    have HA4 := Lib.hid hi
    clear hi
    unfold ExV
    replace HW := Lib.hid (HW.out.later hb1)
    replace H11 := Lib.hid (H11.out.below hb1)
    refine hK _ _ ⟨⟨⟨H11.out.1.cell 0, H11.out.1.cell 1⟩, HW.out.1.1.cell 0⟩, HW.out.1.1.cell 1⟩ ?_
    clear hK K' hb1
    refine wpPl_goL rfl rfl fun K' hK => ?_
    go_simp
    refine (HAO.out _ _ _ HW.out.1.2 HA4.out).mono ?_
    rintro e1 V3 ⟨pc, rfl, hi, hb1⟩
    have HA5 := Lib.hid hi
    clear hi
    unfold ExV
    replace HW := Lib.hid (HW.out.later hb1)
    replace H11 := Lib.hid (H11.out.below hb1)
    refine hK _ _ ⟨⟨⟨H11.out.1.cell 0, H11.out.1.cell 1⟩, HW.out.1.1.cell 0⟩, HW.out.1.1.cell 1⟩ ?_
    clear hK K' hb1
    refine wpPl_goL rfl rfl fun K' hK => ?_
    go_simp
    refine (rAbsX_any _ _ _ _ HA5.out).mono ?_
    rintro e1 V4 ⟨pd, rfl, -, hi, hb1⟩
    have HA6 := Lib.hid hi
    clear hi
    unfold ExV
    replace HW := Lib.hid (HW.out.later hb1)
    replace H11 := Lib.hid (H11.out.below hb1)
    refine hK _ _ ⟨⟨⟨H11.out.1.cell 0, H11.out.1.cell 1⟩, HW.out.1.1.cell 0⟩, HW.out.1.1.cell 1⟩ ?_
    clear hK K' hb1
    refine wpPl_nil ?_
    simp only [List.drop_succ_cons, List.drop_zero]
    skip
    go_wp2_with fail
    refine (HCM.out _ _ _ H11.out.2 HA6.out).mono ?_
    rintro e8 w8 ⟨rfl, hb8⟩
    have HBE := Lib.hid (HW.out.later hb8).2
    clear hb8
    go_wp2
    go_ret
    exact ⟨rfl, HBE.out⟩

end Go.Proofs.YtjoajbbapfgaoaaGreatDoor
