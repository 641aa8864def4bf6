/- Walk: IntervalCentre. Printed by wip/gen/iv18.py. -/
import Derived.Test.YtjokekmbnffpfaaGreatDoorZIwr
import Derived.Test.YtjokekmbnffpfaaGreatDoorGR
namespace Go.Proofs.YtjokekmbnffpfaaGreatDoor
open Go.RowKit
attribute [local go_sem] run_store_f

theorem Bks.two3 {w0 W : World} {l : List (Nat × Nat × Array Value)} {x y t u v s : Nat} {a b c d e f : Value} (h : Bks w0 W ((x, t, #[a, b]) :: (y, u, #[c, d]) :: (v, s, #[e, f]) :: l)) :
    ((W.cell? ⟨x, 0, none⟩ = some a ∧ W.cell? ⟨x, 1, none⟩ = some b) ∧ W.cell? ⟨y, 0, none⟩ = some c ∧ W.cell? ⟨y, 1, none⟩ = some d) ∧ W.cell? ⟨v, 0, none⟩ = some e ∧ W.cell? ⟨v, 1, none⟩ = some f := ⟨h.two2, h.tail.tail.two (.head _)⟩

/-- What the law compares: the signs. -/
theorem cen_signs {x y : Nat} (hx : W64 x) (hy : W64 y) (fx : finB x = true) (fy : finB y = true) {p : Int × Int} (e : ivK x y = some p) (hr : rdK x y < kInf) :
    (plZ (plZ (valZ (midB x y)) (pE (midB x y)) (-(valZ (kb (rdK x y)))) (pE (kb (rdK x y)))) (plE (valZ (midB x y)) (pE (midB x y)) (-(valZ (kb (rdK x y)))) (pE (kb (rdK x y)))) (-(valZ x)) (pE x)).sign ≤ 0 ∧
    0 ≤ (plZ (plZ (valZ (midB x y)) (pE (midB x y)) (valZ (kb (rdK x y))) (pE (kb (rdK x y)))) (plE (valZ (midB x y)) (pE (midB x y)) (valZ (kb (rdK x y))) (pE (kb (rdK x y)))) (-(valZ y)) (pE y)).sign ∧
    (wdK x y < kInf → 0 ≤ (plZ (valZ (kb (wdK x y))) (pE (kb (wdK x y))) (-(plZ (valZ y) (pE y) (-(valZ x)) (pE x))) (plE (valZ y) (pE y) (-(valZ x)) (pE x))).sign) := by
  obtain ⟨c1, c2, c3, c4, c5⟩ := cen_law hx hy fx fy e
  obtain ⟨wm, fm, -⟩ := mid_ok hx hy e
  obtain ⟨d1, d2⟩ := c4 hr
  have hk := kInf_pos
  obtain ⟨wr, fr, nr, kr⟩ := kb_fin (k := rdK x y) (by omega) hr
  have ex := pE_bd fx
  have ey := pE_bd fy
  have em := pE_bd fm
  have er := pE_bd fr
  have p1 := plE_in (z := valZ (midB x y)) (y := -(valZ (kb (rdK x y)))) em.1 em.2 er.1 er.2
  have p2 := plE_in (z := valZ (midB x y)) (y := valZ (kb (rdK x y))) em.1 em.2 er.1 er.2
  have p3 := plE_in (z := valZ y) (y := -(valZ x)) ey.1 ey.2 ex.1 ex.2
  have sneg : ∀ z e, sc 1074 (-z) e = -sc 1074 z e := fun z e => by unfold sc; rw [Int.neg_mul]
  refine ⟨(cmp_sc (M := 1074) (by omega) (by omega)).1.2 ?_, (cmp_sc (M := 1074) (by omega) (by omega)).2.1.2 ?_, fun hw => ?_⟩
  · rw [sc_pl (by omega) (by omega), sneg]
    show fI (midB x y) + -vv (rdK x y) ≤ fI x
    omega
  · rw [sc_pl (by omega) (by omega)]
    exact d2
  · obtain ⟨ww, fw, nw, kw⟩ := kb_fin (k := wdK x y) (by omega) hw
    have ew := pE_bd fw
    refine (cmp_sc (M := 1074) (by omega) (by omega)).2.1.2 ?_
    rw [sc_pl (by omega) (by omega), sneg]
    have := c5 hw
    show fI y + -fI x ≤ vv (wdK x y)
    omega

set_option maxRecDepth 100000 in
set_option maxHeartbeats 12800000 in
theorem intervalCentre_any (p0 p1 : Nat) (w : World) (hp0 : W64 p0) (hp1 : W64 p1) (hT : TabB w) :
    Calls Tryz.prog 5 #[.agg #[.int .u64 p0, .int .u64 p1]] w (Gives (.bool true) w) := by
  have HAW := Lib.hid fun W ht => awake6_any W ht
  have HOA := Lib.hid fun W => lof_any p0 p1 W
  have HT := Lib.hid hT
  have HM := Lib.hid fun W ht => iMid_any p0 p1 W hp0 hp1 ht
  have HR := Lib.hid fun W ht => iRadius_any p0 p1 W hp0 hp1 ht
  have HWD := Lib.hid fun W ht => iWidth_any p0 p1 W hp0 hp1 ht
  have HIS := Lib.hid fun W => is_iv p0 p1 W hp0 hp1
  have hful := is_full hp0 hp1
  unfold midV at HM
  unfold radV at HR
  unfold widV at HWD
  have HW := Lib.hid (Bks.alloc (Bks.nil w) #[.int .u64 p0, .int .u64 p1] 37)
  rcases hs : ivK p0 p1 with _ | p
  · rw [hs, Option.isSome_none, if_neg (by decide)] at HM HR HWD
    rw [hs, Option.isSome_none] at hful
    have hnn : (FloatKind.f64.format.order 9221120237041090561 9221120237041090561 != some Ordering.eq) = true := by decide
    have hnn2 : (FloatKind.f64.format.order 9221120237041090561 9221120237041090561 == some Ordering.eq) = false := by decide
    clear hs hp0 hp1 hT
    obtain ⟨le, hle⟩ : ∃ t, (FloatKind.f64.format.order p0 p1 == some Ordering.lt || FloatKind.f64.format.order p0 p1 == some Ordering.eq) = t := ⟨_, rfl⟩
    rw [hle] at hful
    generalize isB p0 p1 = IS at *
    cases IS
    · clear hful
      go_enter Tryz.func5, Tryz.ntmps5
      obtain ⟨g0, g1⟩ := HW.out.two (.head _)
      go_wp2_with fail
      refine (HAW.out _ (HT.out.below HW.out.2)).mono ?_
      rintro e1 w1 ⟨rfl, hb1⟩
      replace HW := Lib.hid (HW.out.later hb1)
      clear hb1
      clear g0 g1
      obtain ⟨g0, g1⟩ := HW.out.two (.head _)
      go_wp2_with fail
      refine (HOA.out _).mono ?_
      rintro e2 w2 ⟨rfl, hb2⟩
      replace HW := Lib.hid (HW.out.later hb2)
      clear hb2
      clear g0 g1
      obtain ⟨g0, g1⟩ := HW.out.two (.head _)
      go_upto_region 4 with fail
      have HS := Lib.hid (HW.out.alloc #[.float .f64 p0, .float .f64 p1] 34)
      clear g0 g1
      clear HW
      generalize World.alloc w2 _ = W3 at HS ⊢
      generalize w2.heap.size = r3 at HS ⊢
      refine wp_region_pl (fun w' : World => w'.cell? ⟨r3, 0, none⟩ = some (.float .f64 p0) ∧ w'.cell? ⟨r3, 1, none⟩ = some (.float .f64 p1)) 5 (.take 0 (.take 2 (.take 4 (.run 1 (.run 3 (.nil)))))) (by kernel_rfl) (by kernel_rfl) ?_
      replace HS := Lib.hid (HS.out.later (drew_below _))
      generalize World.drew _ = W4 at HS ⊢
      have hS : (fun w' : World => w'.cell? ⟨r3, 0, none⟩ = some (.float .f64 p0) ∧ w'.cell? ⟨r3, 1, none⟩ = some (.float .f64 p1)) W4 := (HS.out.two (.head _))
      repeat (first | (refine wpPl_takeL (v := ?_) rfl rfl (fun _ _ _ h => h) rfl (fun w' hSw => ?_) hS ?_; rotate_left; (focus (go_simp; with_reducible rfl)); simp only [List.setIfInBounds_toArray, List.set_cons_zero, List.set_cons_succ]) | (refine wpPl_skipL rfl rfl (fun _ _ _ h => h) rfl hS ?_; simp only [List.setIfInBounds_toArray, List.set_cons_zero, List.set_cons_succ]))
      clear hS
      refine wpPl_goL rfl rfl fun K' hK => ?_
      go_simp
      refine (HM.out _ (HT.out.below HS.out.2)).mono ?_
      rintro e1 W4v1 ⟨rfl, hb1⟩
      replace HS := Lib.hid (HS.out.later hb1)
      refine hK _ _ (HS.out.two (.head _)) ?_
      clear hK K' hb1
      try simp only [Act.put, List.setIfInBounds_toArray, List.set_cons_zero, List.set_cons_succ]
      have hS : (fun w' : World => w'.cell? ⟨r3, 0, none⟩ = some (.float .f64 p0) ∧ w'.cell? ⟨r3, 1, none⟩ = some (.float .f64 p1)) W4v1 := (HS.out.two (.head _))
      repeat (first | (refine wpPl_takeL (v := ?_) rfl rfl (fun _ _ _ h => h) rfl (fun w' hSw => ?_) hS ?_; rotate_left; (focus (go_simp; with_reducible rfl)); simp only [List.setIfInBounds_toArray, List.set_cons_zero, List.set_cons_succ]) | (refine wpPl_skipL rfl rfl (fun _ _ _ h => h) rfl hS ?_; simp only [List.setIfInBounds_toArray, List.set_cons_zero, List.set_cons_succ]))
      clear hS
      refine wpPl_goL rfl rfl fun K' hK => ?_
      go_simp
      refine (HR.out _ (HT.out.below HS.out.2)).mono ?_
      rintro e1 W4v2 ⟨rfl, hb1⟩
      replace HS := Lib.hid (HS.out.later hb1)
      refine hK _ _ (HS.out.two (.head _)) ?_
      clear hK K' hb1
      try simp only [Act.put, List.setIfInBounds_toArray, List.set_cons_zero, List.set_cons_succ]
      have hS : (fun w' : World => w'.cell? ⟨r3, 0, none⟩ = some (.float .f64 p0) ∧ w'.cell? ⟨r3, 1, none⟩ = some (.float .f64 p1)) W4v2 := (HS.out.two (.head _))
      repeat (first | (refine wpPl_takeL (v := ?_) rfl rfl (fun _ _ _ h => h) rfl (fun w' hSw => ?_) hS ?_; rotate_left; (focus (go_simp; with_reducible rfl)); simp only [List.setIfInBounds_toArray, List.set_cons_zero, List.set_cons_succ]) | (refine wpPl_skipL rfl rfl (fun _ _ _ h => h) rfl hS ?_; simp only [List.setIfInBounds_toArray, List.set_cons_zero, List.set_cons_succ]))
      clear hS
      refine wpPl_nil ?_
      simp only [List.drop_succ_cons, List.drop_zero]
      obtain ⟨g0, g1⟩ := HS.out.two (.head _)
      go_wp2_with fail
      refine (HWD.out _ (HT.out.below HS.out.2)).mono ?_
      rintro e5 w5 ⟨rfl, hb5⟩
      replace HS := Lib.hid (HS.out.later hb5)
      clear hb5
      clear g0 g1
      obtain ⟨g0, g1⟩ := HS.out.two (.head _)
      go_wp2_with fail
      refine (HIS.out _).mono ?_
      rintro e6 w6 ⟨rfl, hb6⟩
      replace HS := Lib.hid (HS.out.later hb6)
      clear hb6
      clear g0 g1
      obtain ⟨g0, g1⟩ := HS.out.two (.head _)
      go_wp2
      go_ret
      exact ⟨rfl, HS.out.2⟩
    · have hle2 : le = false := by cases le; rfl; cases hful
      subst hle2
      clear hful
      go_enter Tryz.func5, Tryz.ntmps5
      obtain ⟨g0, g1⟩ := HW.out.two (.head _)
      go_wp2_with fail
      refine (HAW.out _ (HT.out.below HW.out.2)).mono ?_
      rintro e1 w1 ⟨rfl, hb1⟩
      replace HW := Lib.hid (HW.out.later hb1)
      clear hb1
      clear g0 g1
      obtain ⟨g0, g1⟩ := HW.out.two (.head _)
      go_wp2_with fail
      refine (HOA.out _).mono ?_
      rintro e2 w2 ⟨rfl, hb2⟩
      replace HW := Lib.hid (HW.out.later hb2)
      clear hb2
      clear g0 g1
      obtain ⟨g0, g1⟩ := HW.out.two (.head _)
      go_upto_region 4 with fail
      have HS := Lib.hid (HW.out.alloc #[.float .f64 p0, .float .f64 p1] 34)
      clear g0 g1
      clear HW
      generalize World.alloc w2 _ = W3 at HS ⊢
      generalize w2.heap.size = r3 at HS ⊢
      refine wp_region_pl (fun w' : World => w'.cell? ⟨r3, 0, none⟩ = some (.float .f64 p0) ∧ w'.cell? ⟨r3, 1, none⟩ = some (.float .f64 p1)) 5 (.take 0 (.take 2 (.take 4 (.run 1 (.run 3 (.nil)))))) (by kernel_rfl) (by kernel_rfl) ?_
      replace HS := Lib.hid (HS.out.later (drew_below _))
      generalize World.drew _ = W4 at HS ⊢
      have hS : (fun w' : World => w'.cell? ⟨r3, 0, none⟩ = some (.float .f64 p0) ∧ w'.cell? ⟨r3, 1, none⟩ = some (.float .f64 p1)) W4 := (HS.out.two (.head _))
      repeat (first | (refine wpPl_takeL (v := ?_) rfl rfl (fun _ _ _ h => h) rfl (fun w' hSw => ?_) hS ?_; rotate_left; (focus (go_simp; with_reducible rfl)); simp only [List.setIfInBounds_toArray, List.set_cons_zero, List.set_cons_succ]) | (refine wpPl_skipL rfl rfl (fun _ _ _ h => h) rfl hS ?_; simp only [List.setIfInBounds_toArray, List.set_cons_zero, List.set_cons_succ]))
      clear hS
      refine wpPl_goL rfl rfl fun K' hK => ?_
      go_simp
      refine (HM.out _ (HT.out.below HS.out.2)).mono ?_
      rintro e1 W4v1 ⟨rfl, hb1⟩
      replace HS := Lib.hid (HS.out.later hb1)
      refine hK _ _ (HS.out.two (.head _)) ?_
      clear hK K' hb1
      try simp only [Act.put, List.setIfInBounds_toArray, List.set_cons_zero, List.set_cons_succ]
      have hS : (fun w' : World => w'.cell? ⟨r3, 0, none⟩ = some (.float .f64 p0) ∧ w'.cell? ⟨r3, 1, none⟩ = some (.float .f64 p1)) W4v1 := (HS.out.two (.head _))
      repeat (first | (refine wpPl_takeL (v := ?_) rfl rfl (fun _ _ _ h => h) rfl (fun w' hSw => ?_) hS ?_; rotate_left; (focus (go_simp; with_reducible rfl)); simp only [List.setIfInBounds_toArray, List.set_cons_zero, List.set_cons_succ]) | (refine wpPl_skipL rfl rfl (fun _ _ _ h => h) rfl hS ?_; simp only [List.setIfInBounds_toArray, List.set_cons_zero, List.set_cons_succ]))
      clear hS
      refine wpPl_goL rfl rfl fun K' hK => ?_
      go_simp
      refine (HR.out _ (HT.out.below HS.out.2)).mono ?_
      rintro e1 W4v2 ⟨rfl, hb1⟩
      replace HS := Lib.hid (HS.out.later hb1)
      refine hK _ _ (HS.out.two (.head _)) ?_
      clear hK K' hb1
      try simp only [Act.put, List.setIfInBounds_toArray, List.set_cons_zero, List.set_cons_succ]
      have hS : (fun w' : World => w'.cell? ⟨r3, 0, none⟩ = some (.float .f64 p0) ∧ w'.cell? ⟨r3, 1, none⟩ = some (.float .f64 p1)) W4v2 := (HS.out.two (.head _))
      repeat (first | (refine wpPl_takeL (v := ?_) rfl rfl (fun _ _ _ h => h) rfl (fun w' hSw => ?_) hS ?_; rotate_left; (focus (go_simp; with_reducible rfl)); simp only [List.setIfInBounds_toArray, List.set_cons_zero, List.set_cons_succ]) | (refine wpPl_skipL rfl rfl (fun _ _ _ h => h) rfl hS ?_; simp only [List.setIfInBounds_toArray, List.set_cons_zero, List.set_cons_succ]))
      clear hS
      refine wpPl_nil ?_
      simp only [List.drop_succ_cons, List.drop_zero]
      obtain ⟨g0, g1⟩ := HS.out.two (.head _)
      go_wp2_with fail
      refine (HWD.out _ (HT.out.below HS.out.2)).mono ?_
      rintro e5 w5 ⟨rfl, hb5⟩
      replace HS := Lib.hid (HS.out.later hb5)
      clear hb5
      clear g0 g1
      obtain ⟨g0, g1⟩ := HS.out.two (.head _)
      go_wp2_with fail
      refine (HIS.out _).mono ?_
      rintro e6 w6 ⟨rfl, hb6⟩
      replace HS := Lib.hid (HS.out.later hb6)
      clear hb6
      clear g0 g1
      obtain ⟨g0, g1⟩ := HS.out.two (.head _)
      go_wp2
      go_ret
      exact ⟨rfl, HS.out.2⟩
  have hle : (FloatKind.f64.format.order p0 p1 == some Ordering.lt || FloatKind.f64.format.order p0 p1 == some Ordering.eq) = true := by
    rw [hs, Option.isSome_some] at hful
    exact ((Bool.and_eq_true _ _).mp hful).2
  have his : isB p0 p1 = true := by
    rw [hs, Option.isSome_some] at hful
    exact ((Bool.and_eq_true _ _).mp hful).1
  rw [his] at HIS
  obtain ⟨wm, fm, hm⟩ := mid_ok hp0 hp1 hs
  have HHA := Lib.hid fun W => has_any p0 p1 (midB p0 p1) W hp0 hp1 wm
  rw [hm] at HHA
  have np : nanB p0 = false ∧ nanB p1 = false := by obtain ⟨a, b, -⟩ := ivK_some hs; exact ⟨a, b⟩
  have HI0 := Lib.hid fun W => linf_any p0 W hp0 np.1
  have HI1 := Lib.hid fun W => linf_any p1 W hp1 np.2
  rw [show (ivK p0 p1).isSome = true by rw [hs]; rfl, if_pos rfl] at HM HR HWD
  clear his hful hm np
  have hk := kInf_pos
  cases fx : finB p0
  · rw [fx, Bool.not_false] at HI0
    unfold radB at HR
    unfold widB at HWD
    rw [fx, if_neg (by simp)] at HR HWD
    rw [show kInf = 9218868437227405312 from rfl] at HR HWD
    have hlt : (FloatKind.f64.format.order 9218868437227405312 0 == some Ordering.lt) = false := by decide
    have HIR := Lib.hid fun W => linf_any 9218868437227405312 W (by decide) (by decide)
    rw [show finB 9218868437227405312 = false by decide, Bool.not_false] at HIR
    clear hs hp0 hp1 hT wm fm hk
    clear fx
    generalize midB p0 p1 = m at *
    go_enter Tryz.func5, Tryz.ntmps5
    obtain ⟨g0, g1⟩ := HW.out.two (.head _)
    go_wp2_with fail
    refine (HAW.out _ (HT.out.below HW.out.2)).mono ?_
    rintro e1 w1 ⟨rfl, hb1⟩
    replace HW := Lib.hid (HW.out.later hb1)
    clear hb1
    clear g0 g1
    obtain ⟨g0, g1⟩ := HW.out.two (.head _)
    go_wp2_with fail
    refine (HOA.out _).mono ?_
    rintro e2 w2 ⟨rfl, hb2⟩
    replace HW := Lib.hid (HW.out.later hb2)
    clear hb2
    clear g0 g1
    obtain ⟨g0, g1⟩ := HW.out.two (.head _)
    go_upto_region 4 with fail
    have HS := Lib.hid (HW.out.alloc #[.float .f64 p0, .float .f64 p1] 34)
    clear g0 g1
    clear HW
    generalize World.alloc w2 _ = W3 at HS ⊢
    generalize w2.heap.size = r3 at HS ⊢
    refine wp_region_pl (fun w' : World => w'.cell? ⟨r3, 0, none⟩ = some (.float .f64 p0) ∧ w'.cell? ⟨r3, 1, none⟩ = some (.float .f64 p1)) 5 (.take 0 (.take 2 (.take 4 (.run 1 (.run 3 (.nil)))))) (by kernel_rfl) (by kernel_rfl) ?_
    replace HS := Lib.hid (HS.out.later (drew_below _))
    generalize World.drew _ = W4 at HS ⊢
    have hS : (fun w' : World => w'.cell? ⟨r3, 0, none⟩ = some (.float .f64 p0) ∧ w'.cell? ⟨r3, 1, none⟩ = some (.float .f64 p1)) W4 := (HS.out.two (.head _))
    repeat (first | (refine wpPl_takeL (v := ?_) rfl rfl (fun _ _ _ h => h) rfl (fun w' hSw => ?_) hS ?_; rotate_left; (focus (go_simp; with_reducible rfl)); simp only [List.setIfInBounds_toArray, List.set_cons_zero, List.set_cons_succ]) | (refine wpPl_skipL rfl rfl (fun _ _ _ h => h) rfl hS ?_; simp only [List.setIfInBounds_toArray, List.set_cons_zero, List.set_cons_succ]))
    clear hS
    refine wpPl_goL rfl rfl fun K' hK => ?_
    go_simp
    refine (HM.out _ (HT.out.below HS.out.2)).mono ?_
    rintro e1 W4v1 ⟨rfl, hb1⟩
    replace HS := Lib.hid (HS.out.later hb1)
    refine hK _ _ (HS.out.two (.head _)) ?_
    clear hK K' hb1
    try simp only [Act.put, List.setIfInBounds_toArray, List.set_cons_zero, List.set_cons_succ]
    have hS : (fun w' : World => w'.cell? ⟨r3, 0, none⟩ = some (.float .f64 p0) ∧ w'.cell? ⟨r3, 1, none⟩ = some (.float .f64 p1)) W4v1 := (HS.out.two (.head _))
    repeat (first | (refine wpPl_takeL (v := ?_) rfl rfl (fun _ _ _ h => h) rfl (fun w' hSw => ?_) hS ?_; rotate_left; (focus (go_simp; with_reducible rfl)); simp only [List.setIfInBounds_toArray, List.set_cons_zero, List.set_cons_succ]) | (refine wpPl_skipL rfl rfl (fun _ _ _ h => h) rfl hS ?_; simp only [List.setIfInBounds_toArray, List.set_cons_zero, List.set_cons_succ]))
    clear hS
    refine wpPl_goL rfl rfl fun K' hK => ?_
    go_simp
    refine (HR.out _ (HT.out.below HS.out.2)).mono ?_
    rintro e1 W4v2 ⟨rfl, hb1⟩
    replace HS := Lib.hid (HS.out.later hb1)
    refine hK _ _ (HS.out.two (.head _)) ?_
    clear hK K' hb1
    try simp only [Act.put, List.setIfInBounds_toArray, List.set_cons_zero, List.set_cons_succ]
    have hS : (fun w' : World => w'.cell? ⟨r3, 0, none⟩ = some (.float .f64 p0) ∧ w'.cell? ⟨r3, 1, none⟩ = some (.float .f64 p1)) W4v2 := (HS.out.two (.head _))
    repeat (first | (refine wpPl_takeL (v := ?_) rfl rfl (fun _ _ _ h => h) rfl (fun w' hSw => ?_) hS ?_; rotate_left; (focus (go_simp; with_reducible rfl)); simp only [List.setIfInBounds_toArray, List.set_cons_zero, List.set_cons_succ]) | (refine wpPl_skipL rfl rfl (fun _ _ _ h => h) rfl hS ?_; simp only [List.setIfInBounds_toArray, List.set_cons_zero, List.set_cons_succ]))
    clear hS
    refine wpPl_nil ?_
    simp only [List.drop_succ_cons, List.drop_zero]
    obtain ⟨g0, g1⟩ := HS.out.two (.head _)
    go_wp2_with fail
    refine (HWD.out _ (HT.out.below HS.out.2)).mono ?_
    rintro e5 w5 ⟨rfl, hb5⟩
    replace HS := Lib.hid (HS.out.later hb5)
    clear hb5
    clear g0 g1
    obtain ⟨g0, g1⟩ := HS.out.two (.head _)
    go_wp2_with fail
    refine (HIS.out _).mono ?_
    rintro e6 w6 ⟨rfl, hb6⟩
    replace HS := Lib.hid (HS.out.later hb6)
    clear hb6
    clear g0 g1
    obtain ⟨g0, g1⟩ := HS.out.two (.head _)
    go_wp2_with fail
    refine (HHA.out _).mono ?_
    rintro e7 w7 ⟨rfl, hb7⟩
    replace HS := Lib.hid (HS.out.later hb7)
    clear hb7
    clear g0 g1
    obtain ⟨g0, g1⟩ := HS.out.two (.head _)
    go_wp2_with fail
    refine (HI0.out _).mono ?_
    rintro e8 w8 ⟨rfl, hb8⟩
    replace HS := Lib.hid (HS.out.later hb8)
    clear hb8
    clear g0 g1
    obtain ⟨g0, g1⟩ := HS.out.two (.head _)
    go_wp2_with fail
    refine (HIR.out _).mono ?_
    rintro e9 w9 ⟨rfl, hb9⟩
    replace HS := Lib.hid (HS.out.later hb9)
    clear hb9
    clear g0 g1
    obtain ⟨g0, g1⟩ := HS.out.two (.head _)
    go_wp2_with fail
    refine (HIR.out _).mono ?_
    rintro e10 w10 ⟨rfl, hb10⟩
    replace HS := Lib.hid (HS.out.later hb10)
    clear hb10
    clear g0 g1
    obtain ⟨g0, g1⟩ := HS.out.two (.head _)
    go_wp2
    go_ret
    exact ⟨rfl, HS.out.2⟩
  rw [fx, Bool.not_true] at HI0
  cases fy : finB p1
  · rw [fy, Bool.not_false] at HI1
    unfold radB at HR
    unfold widB at HWD
    rw [fx, fy, if_neg (by simp)] at HR HWD
    rw [show kInf = 9218868437227405312 from rfl] at HR HWD
    have hlt : (FloatKind.f64.format.order 9218868437227405312 0 == some Ordering.lt) = false := by decide
    have HIR := Lib.hid fun W => linf_any 9218868437227405312 W (by decide) (by decide)
    rw [show finB 9218868437227405312 = false by decide, Bool.not_false] at HIR
    clear hs hp0 hp1 hT wm fm hk
    clear fx fy
    generalize midB p0 p1 = m at *
    go_enter Tryz.func5, Tryz.ntmps5
    obtain ⟨g0, g1⟩ := HW.out.two (.head _)
    go_wp2_with fail
    refine (HAW.out _ (HT.out.below HW.out.2)).mono ?_
    rintro e1 w1 ⟨rfl, hb1⟩
    replace HW := Lib.hid (HW.out.later hb1)
    clear hb1
    clear g0 g1
    obtain ⟨g0, g1⟩ := HW.out.two (.head _)
    go_wp2_with fail
    refine (HOA.out _).mono ?_
    rintro e2 w2 ⟨rfl, hb2⟩
    replace HW := Lib.hid (HW.out.later hb2)
    clear hb2
    clear g0 g1
    obtain ⟨g0, g1⟩ := HW.out.two (.head _)
    go_upto_region 4 with fail
    have HS := Lib.hid (HW.out.alloc #[.float .f64 p0, .float .f64 p1] 34)
    clear g0 g1
    clear HW
    generalize World.alloc w2 _ = W3 at HS ⊢
    generalize w2.heap.size = r3 at HS ⊢
    refine wp_region_pl (fun w' : World => w'.cell? ⟨r3, 0, none⟩ = some (.float .f64 p0) ∧ w'.cell? ⟨r3, 1, none⟩ = some (.float .f64 p1)) 5 (.take 0 (.take 2 (.take 4 (.run 1 (.run 3 (.nil)))))) (by kernel_rfl) (by kernel_rfl) ?_
    replace HS := Lib.hid (HS.out.later (drew_below _))
    generalize World.drew _ = W4 at HS ⊢
    have hS : (fun w' : World => w'.cell? ⟨r3, 0, none⟩ = some (.float .f64 p0) ∧ w'.cell? ⟨r3, 1, none⟩ = some (.float .f64 p1)) W4 := (HS.out.two (.head _))
    repeat (first | (refine wpPl_takeL (v := ?_) rfl rfl (fun _ _ _ h => h) rfl (fun w' hSw => ?_) hS ?_; rotate_left; (focus (go_simp; with_reducible rfl)); simp only [List.setIfInBounds_toArray, List.set_cons_zero, List.set_cons_succ]) | (refine wpPl_skipL rfl rfl (fun _ _ _ h => h) rfl hS ?_; simp only [List.setIfInBounds_toArray, List.set_cons_zero, List.set_cons_succ]))
    clear hS
    refine wpPl_goL rfl rfl fun K' hK => ?_
    go_simp
    refine (HM.out _ (HT.out.below HS.out.2)).mono ?_
    rintro e1 W4v1 ⟨rfl, hb1⟩
    replace HS := Lib.hid (HS.out.later hb1)
    refine hK _ _ (HS.out.two (.head _)) ?_
    clear hK K' hb1
    try simp only [Act.put, List.setIfInBounds_toArray, List.set_cons_zero, List.set_cons_succ]
    have hS : (fun w' : World => w'.cell? ⟨r3, 0, none⟩ = some (.float .f64 p0) ∧ w'.cell? ⟨r3, 1, none⟩ = some (.float .f64 p1)) W4v1 := (HS.out.two (.head _))
    repeat (first | (refine wpPl_takeL (v := ?_) rfl rfl (fun _ _ _ h => h) rfl (fun w' hSw => ?_) hS ?_; rotate_left; (focus (go_simp; with_reducible rfl)); simp only [List.setIfInBounds_toArray, List.set_cons_zero, List.set_cons_succ]) | (refine wpPl_skipL rfl rfl (fun _ _ _ h => h) rfl hS ?_; simp only [List.setIfInBounds_toArray, List.set_cons_zero, List.set_cons_succ]))
    clear hS
    refine wpPl_goL rfl rfl fun K' hK => ?_
    go_simp
    refine (HR.out _ (HT.out.below HS.out.2)).mono ?_
    rintro e1 W4v2 ⟨rfl, hb1⟩
    replace HS := Lib.hid (HS.out.later hb1)
    refine hK _ _ (HS.out.two (.head _)) ?_
    clear hK K' hb1
    try simp only [Act.put, List.setIfInBounds_toArray, List.set_cons_zero, List.set_cons_succ]
    have hS : (fun w' : World => w'.cell? ⟨r3, 0, none⟩ = some (.float .f64 p0) ∧ w'.cell? ⟨r3, 1, none⟩ = some (.float .f64 p1)) W4v2 := (HS.out.two (.head _))
    repeat (first | (refine wpPl_takeL (v := ?_) rfl rfl (fun _ _ _ h => h) rfl (fun w' hSw => ?_) hS ?_; rotate_left; (focus (go_simp; with_reducible rfl)); simp only [List.setIfInBounds_toArray, List.set_cons_zero, List.set_cons_succ]) | (refine wpPl_skipL rfl rfl (fun _ _ _ h => h) rfl hS ?_; simp only [List.setIfInBounds_toArray, List.set_cons_zero, List.set_cons_succ]))
    clear hS
    refine wpPl_nil ?_
    simp only [List.drop_succ_cons, List.drop_zero]
    obtain ⟨g0, g1⟩ := HS.out.two (.head _)
    go_wp2_with fail
    refine (HWD.out _ (HT.out.below HS.out.2)).mono ?_
    rintro e5 w5 ⟨rfl, hb5⟩
    replace HS := Lib.hid (HS.out.later hb5)
    clear hb5
    clear g0 g1
    obtain ⟨g0, g1⟩ := HS.out.two (.head _)
    go_wp2_with fail
    refine (HIS.out _).mono ?_
    rintro e6 w6 ⟨rfl, hb6⟩
    replace HS := Lib.hid (HS.out.later hb6)
    clear hb6
    clear g0 g1
    obtain ⟨g0, g1⟩ := HS.out.two (.head _)
    go_wp2_with fail
    refine (HHA.out _).mono ?_
    rintro e7 w7 ⟨rfl, hb7⟩
    replace HS := Lib.hid (HS.out.later hb7)
    clear hb7
    clear g0 g1
    obtain ⟨g0, g1⟩ := HS.out.two (.head _)
    go_wp2_with fail
    refine (HI0.out _).mono ?_
    rintro e8 w8 ⟨rfl, hb8⟩
    replace HS := Lib.hid (HS.out.later hb8)
    clear hb8
    clear g0 g1
    obtain ⟨g0, g1⟩ := HS.out.two (.head _)
    go_wp2_with fail
    refine (HI1.out _).mono ?_
    rintro e9 w9 ⟨rfl, hb9⟩
    replace HS := Lib.hid (HS.out.later hb9)
    clear hb9
    clear g0 g1
    obtain ⟨g0, g1⟩ := HS.out.two (.head _)
    go_wp2_with fail
    refine (HIR.out _).mono ?_
    rintro e10 w10 ⟨rfl, hb10⟩
    replace HS := Lib.hid (HS.out.later hb10)
    clear hb10
    clear g0 g1
    obtain ⟨g0, g1⟩ := HS.out.two (.head _)
    go_wp2_with fail
    refine (HIR.out _).mono ?_
    rintro e11 w11 ⟨rfl, hb11⟩
    replace HS := Lib.hid (HS.out.later hb11)
    clear hb11
    clear g0 g1
    obtain ⟨g0, g1⟩ := HS.out.two (.head _)
    go_wp2
    go_ret
    exact ⟨rfl, HS.out.2⟩
  rw [fy, Bool.not_true] at HI1
  obtain ⟨c1, c2, c3, c4, c5⟩ := cen_law hp0 hp1 fx fy hs
  unfold radB at HR
  unfold widB at HWD
  rw [if_pos ⟨fx, fy⟩] at HR HWD
  obtain ⟨wr, nr', kr⟩ := kb_lt (k := rdK p0 p1) (by omega) (by omega)
  obtain ⟨ww, nw', kw⟩ := kb_lt (k := wdK p0 p1) (by omega) (by omega)
  have nr := num_iff.2 nr'
  have nw := num_iff.2 nw'
  have hl1 : (FloatKind.f64.format.order (kb (rdK p0 p1)) 0 == some Ordering.lt) = false := by
    rw [lt_test wr (by decide) nr (by decide), kr, ky_zero]; exact decide_eq_false (by omega)
  have hl2 : (FloatKind.f64.format.order (kb (wdK p0 p1)) 0 == some Ordering.lt) = false := by
    rw [lt_test ww (by decide) nw (by decide), kw, ky_zero]; exact decide_eq_false (by omega)
  have HIR := Lib.hid fun W => linf_any (kb (rdK p0 p1)) W wr nr
  have HIW := Lib.hid fun W => linf_any (kb (wdK p0 p1)) W ww nw
  rw [kb_inf (by omega) (by omega)] at HIR HIW
  by_cases hr : rdK p0 p1 = kInf
  · have hw : wdK p0 p1 = kInf := by omega
    rw [decide_eq_false (by omega), Bool.not_false] at HIR HIW
    clear hs hp0 hp1 hT wm fm hk fx fy c1 c2 c3 c4 c5 wr nr' kr ww nw' kw nr nw hr hw
    generalize kb (rdK p0 p1) = r at *
    generalize kb (wdK p0 p1) = wd at *
    generalize midB p0 p1 = m at *
    go_enter Tryz.func5, Tryz.ntmps5
    obtain ⟨g0, g1⟩ := HW.out.two (.head _)
    go_wp2_with fail
    refine (HAW.out _ (HT.out.below HW.out.2)).mono ?_
    rintro e1 w1 ⟨rfl, hb1⟩
    replace HW := Lib.hid (HW.out.later hb1)
    clear hb1
    clear g0 g1
    obtain ⟨g0, g1⟩ := HW.out.two (.head _)
    go_wp2_with fail
    refine (HOA.out _).mono ?_
    rintro e2 w2 ⟨rfl, hb2⟩
    replace HW := Lib.hid (HW.out.later hb2)
    clear hb2
    clear g0 g1
    obtain ⟨g0, g1⟩ := HW.out.two (.head _)
    go_upto_region 4 with fail
    have HS := Lib.hid (HW.out.alloc #[.float .f64 p0, .float .f64 p1] 34)
    clear g0 g1
    clear HW
    generalize World.alloc w2 _ = W3 at HS ⊢
    generalize w2.heap.size = r3 at HS ⊢
    refine wp_region_pl (fun w' : World => w'.cell? ⟨r3, 0, none⟩ = some (.float .f64 p0) ∧ w'.cell? ⟨r3, 1, none⟩ = some (.float .f64 p1)) 5 (.take 0 (.take 2 (.take 4 (.run 1 (.run 3 (.nil)))))) (by kernel_rfl) (by kernel_rfl) ?_
    replace HS := Lib.hid (HS.out.later (drew_below _))
    generalize World.drew _ = W4 at HS ⊢
    have hS : (fun w' : World => w'.cell? ⟨r3, 0, none⟩ = some (.float .f64 p0) ∧ w'.cell? ⟨r3, 1, none⟩ = some (.float .f64 p1)) W4 := (HS.out.two (.head _))
    repeat (first | (refine wpPl_takeL (v := ?_) rfl rfl (fun _ _ _ h => h) rfl (fun w' hSw => ?_) hS ?_; rotate_left; (focus (go_simp; with_reducible rfl)); simp only [List.setIfInBounds_toArray, List.set_cons_zero, List.set_cons_succ]) | (refine wpPl_skipL rfl rfl (fun _ _ _ h => h) rfl hS ?_; simp only [List.setIfInBounds_toArray, List.set_cons_zero, List.set_cons_succ]))
    clear hS
    refine wpPl_goL rfl rfl fun K' hK => ?_
    go_simp
    refine (HM.out _ (HT.out.below HS.out.2)).mono ?_
    rintro e1 W4v1 ⟨rfl, hb1⟩
    replace HS := Lib.hid (HS.out.later hb1)
    refine hK _ _ (HS.out.two (.head _)) ?_
    clear hK K' hb1
    try simp only [Act.put, List.setIfInBounds_toArray, List.set_cons_zero, List.set_cons_succ]
    have hS : (fun w' : World => w'.cell? ⟨r3, 0, none⟩ = some (.float .f64 p0) ∧ w'.cell? ⟨r3, 1, none⟩ = some (.float .f64 p1)) W4v1 := (HS.out.two (.head _))
    repeat (first | (refine wpPl_takeL (v := ?_) rfl rfl (fun _ _ _ h => h) rfl (fun w' hSw => ?_) hS ?_; rotate_left; (focus (go_simp; with_reducible rfl)); simp only [List.setIfInBounds_toArray, List.set_cons_zero, List.set_cons_succ]) | (refine wpPl_skipL rfl rfl (fun _ _ _ h => h) rfl hS ?_; simp only [List.setIfInBounds_toArray, List.set_cons_zero, List.set_cons_succ]))
    clear hS
    refine wpPl_goL rfl rfl fun K' hK => ?_
    go_simp
    refine (HR.out _ (HT.out.below HS.out.2)).mono ?_
    rintro e1 W4v2 ⟨rfl, hb1⟩
    replace HS := Lib.hid (HS.out.later hb1)
    refine hK _ _ (HS.out.two (.head _)) ?_
    clear hK K' hb1
    try simp only [Act.put, List.setIfInBounds_toArray, List.set_cons_zero, List.set_cons_succ]
    have hS : (fun w' : World => w'.cell? ⟨r3, 0, none⟩ = some (.float .f64 p0) ∧ w'.cell? ⟨r3, 1, none⟩ = some (.float .f64 p1)) W4v2 := (HS.out.two (.head _))
    repeat (first | (refine wpPl_takeL (v := ?_) rfl rfl (fun _ _ _ h => h) rfl (fun w' hSw => ?_) hS ?_; rotate_left; (focus (go_simp; with_reducible rfl)); simp only [List.setIfInBounds_toArray, List.set_cons_zero, List.set_cons_succ]) | (refine wpPl_skipL rfl rfl (fun _ _ _ h => h) rfl hS ?_; simp only [List.setIfInBounds_toArray, List.set_cons_zero, List.set_cons_succ]))
    clear hS
    refine wpPl_nil ?_
    simp only [List.drop_succ_cons, List.drop_zero]
    obtain ⟨g0, g1⟩ := HS.out.two (.head _)
    go_wp2_with fail
    refine (HWD.out _ (HT.out.below HS.out.2)).mono ?_
    rintro e5 w5 ⟨rfl, hb5⟩
    replace HS := Lib.hid (HS.out.later hb5)
    clear hb5
    clear g0 g1
    obtain ⟨g0, g1⟩ := HS.out.two (.head _)
    go_wp2_with fail
    refine (HIS.out _).mono ?_
    rintro e6 w6 ⟨rfl, hb6⟩
    replace HS := Lib.hid (HS.out.later hb6)
    clear hb6
    clear g0 g1
    obtain ⟨g0, g1⟩ := HS.out.two (.head _)
    go_wp2_with fail
    refine (HHA.out _).mono ?_
    rintro e7 w7 ⟨rfl, hb7⟩
    replace HS := Lib.hid (HS.out.later hb7)
    clear hb7
    clear g0 g1
    obtain ⟨g0, g1⟩ := HS.out.two (.head _)
    go_wp2_with fail
    refine (HI0.out _).mono ?_
    rintro e8 w8 ⟨rfl, hb8⟩
    replace HS := Lib.hid (HS.out.later hb8)
    clear hb8
    clear g0 g1
    obtain ⟨g0, g1⟩ := HS.out.two (.head _)
    go_wp2_with fail
    refine (HI1.out _).mono ?_
    rintro e9 w9 ⟨rfl, hb9⟩
    replace HS := Lib.hid (HS.out.later hb9)
    clear hb9
    clear g0 g1
    obtain ⟨g0, g1⟩ := HS.out.two (.head _)
    go_wp2_with fail
    refine (HIR.out _).mono ?_
    rintro e10 w10 ⟨rfl, hb10⟩
    replace HS := Lib.hid (HS.out.later hb10)
    clear hb10
    clear g0 g1
    obtain ⟨g0, g1⟩ := HS.out.two (.head _)
    go_wp2_with fail
    refine (HIW.out _).mono ?_
    rintro e11 w11 ⟨rfl, hb11⟩
    replace HS := Lib.hid (HS.out.later hb11)
    clear hb11
    clear g0 g1
    obtain ⟨g0, g1⟩ := HS.out.two (.head _)
    go_wp2
    go_ret
    exact ⟨rfl, HS.out.2⟩
  have hr2 : rdK p0 p1 < kInf := by omega
  obtain ⟨s1, s2, s3⟩ := cen_signs hp0 hp1 fx fy hs hr2
  rw [decide_eq_true (show -(kInf : Int) < rdK p0 p1 ∧ rdK p0 p1 < kInf by omega), Bool.not_true] at HIR
  have fr : finB (kb (rdK p0 p1)) = true := (fin_ky wr nr').2 (by rw [kr]; omega)
  have HOm := Lib.hid fun W => rOf_any (midB p0 p1) W wm fm
  have HOr := Lib.hid fun W => rOf_any (kb (rdK p0 p1)) W wr fr
  have HOl := Lib.hid fun W => rOf_any p0 W hp0 fx
  have HOh := Lib.hid fun W => rOf_any p1 W hp1 fy
  have ex := pE_bd fx
  have ey := pE_bd fy
  have em := pE_bd fm
  have er := pE_bd fr
  have vx := val_bl (b := p0)
  have vy := val_bl (b := p1)
  have vm := val_bl (b := midB p0 p1)
  have vr := val_bl (b := kb (rdK p0 p1))
  have q1 := plE_in (z := valZ (midB p0 p1)) (y := -(valZ (kb (rdK p0 p1)))) em.1 em.2 er.1 er.2
  have q2 := plE_in (z := valZ (midB p0 p1)) (y := valZ (kb (rdK p0 p1))) em.1 em.2 er.1 er.2
  have q3 := plE_in (z := valZ p1) (y := -(valZ p0)) ey.1 ey.2 ex.1 ex.2
  have t1 := bl_plZ (z := valZ (midB p0 p1)) (e := pE (midB p0 p1)) (y := -(valZ (kb (rdK p0 p1)))) (f := pE (kb (rdK p0 p1)))
  have t2 := bl_plZ (z := valZ (midB p0 p1)) (e := pE (midB p0 p1)) (y := valZ (kb (rdK p0 p1))) (f := pE (kb (rdK p0 p1)))
  have t3 := bl_plZ (z := valZ p1) (e := pE p1) (y := -(valZ p0)) (f := pE p0)
  rw [Int.natAbs_neg] at t1 t3
  have HA1 := Lib.hid fun b c W (h1 : RInt W b (valZ (midB p0 p1))) (h2 : RInt W c (-(valZ (kb (rdK p0 p1))))) => rAddX_any b c _ (pE (midB p0 p1)) _ (pE (kb (rdK p0 p1))) W h1 h2 (by omega) (by rw [Int.natAbs_neg]; omega) (by omega) (by omega) (by omega) (by omega)
  have HA2 := Lib.hid fun b c W (h1 : RInt W b (valZ (midB p0 p1))) (h2 : RInt W c (valZ (kb (rdK p0 p1)))) => rAddX_any b c _ (pE (midB p0 p1)) _ (pE (kb (rdK p0 p1))) W h1 h2 (by omega) (by omega) (by omega) (by omega) (by omega) (by omega)
  have HA3 := Lib.hid fun b c W (h1 : RInt W b (valZ p1)) (h2 : RInt W c (-(valZ p0))) => rAddX_any b c _ (pE p1) _ (pE p0) W h1 h2 (by omega) (by rw [Int.natAbs_neg]; omega) (by omega) (by omega) (by omega) (by omega)
  obtain ⟨Z1, hZ1⟩ : ∃ z, plZ (valZ (midB p0 p1)) (pE (midB p0 p1)) (-(valZ (kb (rdK p0 p1)))) (pE (kb (rdK p0 p1))) = z := ⟨_, rfl⟩
  obtain ⟨E1, hE1⟩ : ∃ z, plE (valZ (midB p0 p1)) (pE (midB p0 p1)) (-(valZ (kb (rdK p0 p1)))) (pE (kb (rdK p0 p1))) = z := ⟨_, rfl⟩
  obtain ⟨Z2, hZ2⟩ : ∃ z, plZ (valZ (midB p0 p1)) (pE (midB p0 p1)) (valZ (kb (rdK p0 p1))) (pE (kb (rdK p0 p1))) = z := ⟨_, rfl⟩
  obtain ⟨E2, hE2⟩ : ∃ z, plE (valZ (midB p0 p1)) (pE (midB p0 p1)) (valZ (kb (rdK p0 p1))) (pE (kb (rdK p0 p1))) = z := ⟨_, rfl⟩
  obtain ⟨Z3, hZ3⟩ : ∃ z, plZ (valZ p1) (pE p1) (-(valZ p0)) (pE p0) = z := ⟨_, rfl⟩
  obtain ⟨E3, hE3⟩ : ∃ z, plE (valZ p1) (pE p1) (-(valZ p0)) (pE p0) = z := ⟨_, rfl⟩
  rw [hZ1] at HA1 s1 t1
  rw [hE1] at HA1 s1 q1
  rw [hZ2] at HA2 s2 t2
  rw [hE2] at HA2 s2 q2
  rw [hZ3] at HA3 s3 t3
  rw [hE3] at HA3 s3 q3
  have HC1 := Lib.hid fun b c W (h1 : RInt W b Z1) (h2 : RInt W c (valZ p0)) => rCmpX_any b c Z1 E1 _ (pE p0) W h1 h2 (by omega) (by omega) (by omega) (by omega) (by omega) (by omega)
  have HC2 := Lib.hid fun b c W (h1 : RInt W b Z2) (h2 : RInt W c (valZ p1)) => rCmpX_any b c Z2 E2 _ (pE p1) W h1 h2 (by omega) (by omega) (by omega) (by omega) (by omega) (by omega)
  have d1 := decide_eq_true s1
  have d2 := decide_eq_true s2
  generalize (plZ Z1 E1 (-(valZ p0)) (pE p0)).sign = S1 at *
  generalize (plZ Z2 E2 (-(valZ p1)) (pE p1)).sign = S2 at *
  clear s1 s2
  by_cases hw : wdK p0 p1 = kInf
  · rw [decide_eq_false (by omega), Bool.not_false] at HIW
    clear hs hp0 hp1 hT wm fm hk fx fy c1 c2 c3 c4 c5 wr nr' kr ww nw' kw nr nw hr hr2 fr ex ey em er vx vy vm vr q1 q2 q3 t1 t2 t3 hZ1 hE1 hZ2 hE2 hZ3 hE3 s3 hw HA3
    generalize valZ (midB p0 p1) = zm at *
    generalize pE (midB p0 p1) = em' at *
    generalize valZ (kb (rdK p0 p1)) = zr at *
    generalize pE (kb (rdK p0 p1)) = er' at *
    generalize valZ p0 = zl at *
    generalize pE p0 = el at *
    generalize valZ p1 = zh at *
    generalize pE p1 = eh at *
    generalize kb (rdK p0 p1) = r at *
    generalize kb (wdK p0 p1) = wd at *
    generalize midB p0 p1 = m at *
    go_enter Tryz.func5, Tryz.ntmps5
    obtain ⟨g0, g1⟩ := HW.out.two (.head _)
    go_wp2_with fail
    refine (HAW.out _ (HT.out.below HW.out.2)).mono ?_
    rintro e1 w1 ⟨rfl, hb1⟩
    replace HW := Lib.hid (HW.out.later hb1)
    clear hb1
    clear g0 g1
    obtain ⟨g0, g1⟩ := HW.out.two (.head _)
    go_wp2_with fail
    refine (HOA.out _).mono ?_
    rintro e2 w2 ⟨rfl, hb2⟩
    replace HW := Lib.hid (HW.out.later hb2)
    clear hb2
    clear g0 g1
    obtain ⟨g0, g1⟩ := HW.out.two (.head _)
    go_upto_region 4 with fail
    have HS := Lib.hid (HW.out.alloc #[.float .f64 p0, .float .f64 p1] 34)
    clear g0 g1
    clear HW
    generalize World.alloc w2 _ = W3 at HS ⊢
    generalize w2.heap.size = r3 at HS ⊢
    refine wp_region_pl (fun w' : World => w'.cell? ⟨r3, 0, none⟩ = some (.float .f64 p0) ∧ w'.cell? ⟨r3, 1, none⟩ = some (.float .f64 p1)) 5 (.take 0 (.take 2 (.take 4 (.run 1 (.run 3 (.nil)))))) (by kernel_rfl) (by kernel_rfl) ?_
    replace HS := Lib.hid (HS.out.later (drew_below _))
    generalize World.drew _ = W4 at HS ⊢
    have hS : (fun w' : World => w'.cell? ⟨r3, 0, none⟩ = some (.float .f64 p0) ∧ w'.cell? ⟨r3, 1, none⟩ = some (.float .f64 p1)) W4 := (HS.out.two (.head _))
    repeat (first | (refine wpPl_takeL (v := ?_) rfl rfl (fun _ _ _ h => h) rfl (fun w' hSw => ?_) hS ?_; rotate_left; (focus (go_simp; with_reducible rfl)); simp only [List.setIfInBounds_toArray, List.set_cons_zero, List.set_cons_succ]) | (refine wpPl_skipL rfl rfl (fun _ _ _ h => h) rfl hS ?_; simp only [List.setIfInBounds_toArray, List.set_cons_zero, List.set_cons_succ]))
    clear hS
    refine wpPl_goL rfl rfl fun K' hK => ?_
    go_simp
    refine (HM.out _ (HT.out.below HS.out.2)).mono ?_
    rintro e1 W4v1 ⟨rfl, hb1⟩
    replace HS := Lib.hid (HS.out.later hb1)
    refine hK _ _ (HS.out.two (.head _)) ?_
    clear hK K' hb1
    try simp only [Act.put, List.setIfInBounds_toArray, List.set_cons_zero, List.set_cons_succ]
    have hS : (fun w' : World => w'.cell? ⟨r3, 0, none⟩ = some (.float .f64 p0) ∧ w'.cell? ⟨r3, 1, none⟩ = some (.float .f64 p1)) W4v1 := (HS.out.two (.head _))
    repeat (first | (refine wpPl_takeL (v := ?_) rfl rfl (fun _ _ _ h => h) rfl (fun w' hSw => ?_) hS ?_; rotate_left; (focus (go_simp; with_reducible rfl)); simp only [List.setIfInBounds_toArray, List.set_cons_zero, List.set_cons_succ]) | (refine wpPl_skipL rfl rfl (fun _ _ _ h => h) rfl hS ?_; simp only [List.setIfInBounds_toArray, List.set_cons_zero, List.set_cons_succ]))
    clear hS
    refine wpPl_goL rfl rfl fun K' hK => ?_
    go_simp
    refine (HR.out _ (HT.out.below HS.out.2)).mono ?_
    rintro e1 W4v2 ⟨rfl, hb1⟩
    replace HS := Lib.hid (HS.out.later hb1)
    refine hK _ _ (HS.out.two (.head _)) ?_
    clear hK K' hb1
    try simp only [Act.put, List.setIfInBounds_toArray, List.set_cons_zero, List.set_cons_succ]
    have hS : (fun w' : World => w'.cell? ⟨r3, 0, none⟩ = some (.float .f64 p0) ∧ w'.cell? ⟨r3, 1, none⟩ = some (.float .f64 p1)) W4v2 := (HS.out.two (.head _))
    repeat (first | (refine wpPl_takeL (v := ?_) rfl rfl (fun _ _ _ h => h) rfl (fun w' hSw => ?_) hS ?_; rotate_left; (focus (go_simp; with_reducible rfl)); simp only [List.setIfInBounds_toArray, List.set_cons_zero, List.set_cons_succ]) | (refine wpPl_skipL rfl rfl (fun _ _ _ h => h) rfl hS ?_; simp only [List.setIfInBounds_toArray, List.set_cons_zero, List.set_cons_succ]))
    clear hS
    refine wpPl_nil ?_
    simp only [List.drop_succ_cons, List.drop_zero]
    obtain ⟨g0, g1⟩ := HS.out.two (.head _)
    go_wp2_with fail
    refine (HWD.out _ (HT.out.below HS.out.2)).mono ?_
    rintro e5 w5 ⟨rfl, hb5⟩
    replace HS := Lib.hid (HS.out.later hb5)
    clear hb5
    clear g0 g1
    obtain ⟨g0, g1⟩ := HS.out.two (.head _)
    go_wp2_with fail
    refine (HIS.out _).mono ?_
    rintro e6 w6 ⟨rfl, hb6⟩
    replace HS := Lib.hid (HS.out.later hb6)
    clear hb6
    clear g0 g1
    obtain ⟨g0, g1⟩ := HS.out.two (.head _)
    go_wp2_with fail
    refine (HHA.out _).mono ?_
    rintro e7 w7 ⟨rfl, hb7⟩
    replace HS := Lib.hid (HS.out.later hb7)
    clear hb7
    clear g0 g1
    obtain ⟨g0, g1⟩ := HS.out.two (.head _)
    go_wp2_with fail
    refine (HI0.out _).mono ?_
    rintro e8 w8 ⟨rfl, hb8⟩
    replace HS := Lib.hid (HS.out.later hb8)
    clear hb8
    clear g0 g1
    obtain ⟨g0, g1⟩ := HS.out.two (.head _)
    go_wp2_with fail
    refine (HI1.out _).mono ?_
    rintro e9 w9 ⟨rfl, hb9⟩
    replace HS := Lib.hid (HS.out.later hb9)
    clear hb9
    clear g0 g1
    obtain ⟨g0, g1⟩ := HS.out.two (.head _)
    go_wp2_with fail
    refine (HIR.out _).mono ?_
    rintro e10 w10 ⟨rfl, hb10⟩
    replace HS := Lib.hid (HS.out.later hb10)
    clear hb10
    clear g0 g1
    obtain ⟨g0, g1⟩ := HS.out.two (.head _)
    go_wp2_with fail
    refine (HOm.out _).mono ?_
    rintro e21 w21 ⟨b21, rfl, -, hi21, hb21⟩
    replace HS := Lib.hid (HS.out.later hb21)
    have HX1 := Lib.hid hi21
    clear hi21
    unfold ExV
    clear hb21
    clear g0 g1
    obtain ⟨g0, g1⟩ := HS.out.two (.head _)
    go_wp2_with fail
    refine (HOr.out _).mono ?_
    rintro e22 w22 ⟨b22, rfl, -, hi22, hb22⟩
    replace HS := Lib.hid (HS.out.later hb22)
    have HX2 := Lib.hid hi22
    replace HX1 := Lib.hid (HX1.out.below hb22)
    clear hi22
    unfold ExV
    clear hb22
    clear g0 g1
    obtain ⟨g0, g1⟩ := HS.out.two (.head _)
    go_wp2_with fail
    refine (rNegX_any _ _ _ _ HX2.out).mono ?_
    rintro e23 w23 ⟨b23, rfl, -, hi23, hb23⟩
    replace HS := Lib.hid (HS.out.later hb23)
    replace HX2 := Lib.hid hi23
    replace HX1 := Lib.hid (HX1.out.below hb23)
    clear hi23
    unfold ExV
    clear hb23
    clear g0 g1
    obtain ⟨g0, g1⟩ := HS.out.two (.head _)
    go_wp2_with fail
    refine (HA1.out _ _ _ HX1.out HX2.out).mono ?_
    rintro e11 w11 ⟨b11, rfl, hi11, hb11⟩
    replace HS := Lib.hid (HS.out.later hb11)
    have HY1 := Lib.hid hi11
    clear hi11 HX1 HX2
    unfold ExV
    clear hb11
    clear g0 g1
    obtain ⟨g0, g1⟩ := HS.out.two (.head _)
    go_wp2_with fail
    refine (HOm.out _).mono ?_
    rintro e24 w24 ⟨b24, rfl, -, hi24, hb24⟩
    replace HS := Lib.hid (HS.out.later hb24)
    have HX1 := Lib.hid hi24
    replace HY1 := Lib.hid (HY1.out.below hb24)
    clear hi24
    unfold ExV
    clear hb24
    clear g0 g1
    obtain ⟨g0, g1⟩ := HS.out.two (.head _)
    go_wp2_with fail
    refine (HOr.out _).mono ?_
    rintro e25 w25 ⟨b25, rfl, -, hi25, hb25⟩
    replace HS := Lib.hid (HS.out.later hb25)
    have HX2 := Lib.hid hi25
    replace HX1 := Lib.hid (HX1.out.below hb25)
    replace HY1 := Lib.hid (HY1.out.below hb25)
    clear hi25
    unfold ExV
    clear hb25
    clear g0 g1
    obtain ⟨g0, g1⟩ := HS.out.two (.head _)
    go_wp2_with fail
    refine (HA2.out _ _ _ HX1.out HX2.out).mono ?_
    rintro e14 w14 ⟨b14, rfl, hi14, hb14⟩
    replace HS := Lib.hid (HS.out.later hb14)
    have HY2 := Lib.hid hi14
    replace HY1 := Lib.hid (HY1.out.below hb14)
    clear hi14 HX1 HX2
    unfold ExV
    clear hb14
    clear g0 g1
    obtain ⟨g0, g1⟩ := HS.out.two (.head _)
    go_upto_region 14 with fail
    replace HS := Lib.hid ((HS.out.alloc #[.pointer (some ⟨b11, 0, none⟩), .int .i64 E1] 27).alloc #[.pointer (some ⟨b14, 0, none⟩), .int .i64 E2] 27)
    have hbb := below2 w14 (.cells #[.pointer (some ⟨b11, 0, none⟩), .int .i64 E1] 27) (.cells #[.pointer (some ⟨b14, 0, none⟩), .int .i64 E2] 27)
    replace HY1 := Lib.hid (HY1.out.below hbb)
    replace HY2 := Lib.hid (HY2.out.below hbb)
    clear hbb g0 g1
    rw [show (w14.alloc (.cells #[.pointer (some ⟨b11, 0, none⟩), .int .i64 E1] 27)).heap.size = w14.heap.size + 1 by simp] at HS
    generalize World.alloc (World.alloc w14 _) _ = W15 at HS HY1 HY2 ⊢
    generalize w14.heap.size + 1 = r8 at HS ⊢
    generalize w14.heap.size = r7 at HS ⊢
    refine wp_region_pl (fun w' : World => ((w'.cell? ⟨r8, 0, none⟩ = some (.pointer (some ⟨b14, 0, none⟩)) ∧ w'.cell? ⟨r8, 1, none⟩ = some (.int .i64 E2)) ∧ w'.cell? ⟨r7, 0, none⟩ = some (.pointer (some ⟨b11, 0, none⟩)) ∧ w'.cell? ⟨r7, 1, none⟩ = some (.int .i64 E1)) ∧ w'.cell? ⟨r3, 0, none⟩ = some (.float .f64 p0) ∧ w'.cell? ⟨r3, 1, none⟩ = some (.float .f64 p1)) 25 (.take 0 (.take 1 (.take 2 (.run 3 (.run 4 (.take 5 (.take 6 (.take 7 (.take 8 (.take 9 (.run 10 (.run 11 (.take 12 (.take 13 (.take 14 (.take 15 (.run 16 (.take 17 (.take 18 (.take 20 (.take 21 (.take 23 (.take 24 (.run 19 (.run 22 (.nil)))))))))))))))))))))))))) (by kernel_rfl) (by kernel_rfl) ?_
    replace HS := Lib.hid (HS.out.later (drew_below _))
    replace HY1 := Lib.hid (HY1.out.below (drew_below _))
    replace HY2 := Lib.hid (HY2.out.below (drew_below _))
    generalize World.drew _ = W20 at HS HY1 HY2 ⊢
    have hS : (fun w' : World => ((w'.cell? ⟨r8, 0, none⟩ = some (.pointer (some ⟨b14, 0, none⟩)) ∧ w'.cell? ⟨r8, 1, none⟩ = some (.int .i64 E2)) ∧ w'.cell? ⟨r7, 0, none⟩ = some (.pointer (some ⟨b11, 0, none⟩)) ∧ w'.cell? ⟨r7, 1, none⟩ = some (.int .i64 E1)) ∧ w'.cell? ⟨r3, 0, none⟩ = some (.float .f64 p0) ∧ w'.cell? ⟨r3, 1, none⟩ = some (.float .f64 p1)) W20 := HS.out.two3
    repeat (first | (refine wpPl_takeL (v := ?_) rfl rfl (fun _ _ _ h => h) rfl (fun w' hSw => ?_) hS ?_; rotate_left; (focus (go_simp; with_reducible rfl)); simp only [List.setIfInBounds_toArray, List.set_cons_zero, List.set_cons_succ]) | (refine wpPl_skipL rfl rfl (fun _ _ _ h => h) rfl hS ?_; simp only [List.setIfInBounds_toArray, List.set_cons_zero, List.set_cons_succ]))
    clear hS
    refine wpPl_goL rfl rfl fun K' hK => ?_
    go_simp
    refine (HOl.out _).mono ?_
    rintro e1 W20v1 ⟨b31, rfl, -, hi1, hb1⟩
    replace HS := Lib.hid (HS.out.later hb1)
    replace HY1 := Lib.hid (HY1.out.below hb1)
    replace HY2 := Lib.hid (HY2.out.below hb1)
    have HZ1 := Lib.hid hi1
    clear hi1
    unfold ExV
    refine hK _ _ HS.out.two3 ?_
    clear hK K' hb1
    try simp only [Act.put, List.setIfInBounds_toArray, List.set_cons_zero, List.set_cons_succ]
    have hS : (fun w' : World => ((w'.cell? ⟨r8, 0, none⟩ = some (.pointer (some ⟨b14, 0, none⟩)) ∧ w'.cell? ⟨r8, 1, none⟩ = some (.int .i64 E2)) ∧ w'.cell? ⟨r7, 0, none⟩ = some (.pointer (some ⟨b11, 0, none⟩)) ∧ w'.cell? ⟨r7, 1, none⟩ = some (.int .i64 E1)) ∧ w'.cell? ⟨r3, 0, none⟩ = some (.float .f64 p0) ∧ w'.cell? ⟨r3, 1, none⟩ = some (.float .f64 p1)) W20v1 := HS.out.two3
    repeat (first | (refine wpPl_takeL (v := ?_) rfl rfl (fun _ _ _ h => h) rfl (fun w' hSw => ?_) hS ?_; rotate_left; (focus (go_simp; with_reducible rfl)); simp only [List.setIfInBounds_toArray, List.set_cons_zero, List.set_cons_succ]) | (refine wpPl_skipL rfl rfl (fun _ _ _ h => h) rfl hS ?_; simp only [List.setIfInBounds_toArray, List.set_cons_zero, List.set_cons_succ]))
    clear hS
    refine wpPl_goL rfl rfl fun K' hK => ?_
    go_simp
    refine (HC1.out _ _ _ HY1.out HZ1.out).mono ?_
    rintro e1 W20v2 ⟨rfl, hb1⟩
    replace HS := Lib.hid (HS.out.later hb1)
    replace HY1 := Lib.hid (HY1.out.below hb1)
    replace HY2 := Lib.hid (HY2.out.below hb1)
    clear HZ1
    refine hK _ _ HS.out.two3 ?_
    clear hK K' hb1
    try simp only [Act.put, List.setIfInBounds_toArray, List.set_cons_zero, List.set_cons_succ]
    have hS : (fun w' : World => ((w'.cell? ⟨r8, 0, none⟩ = some (.pointer (some ⟨b14, 0, none⟩)) ∧ w'.cell? ⟨r8, 1, none⟩ = some (.int .i64 E2)) ∧ w'.cell? ⟨r7, 0, none⟩ = some (.pointer (some ⟨b11, 0, none⟩)) ∧ w'.cell? ⟨r7, 1, none⟩ = some (.int .i64 E1)) ∧ w'.cell? ⟨r3, 0, none⟩ = some (.float .f64 p0) ∧ w'.cell? ⟨r3, 1, none⟩ = some (.float .f64 p1)) W20v2 := HS.out.two3
    repeat (first | (refine wpPl_takeL (v := ?_) rfl rfl (fun _ _ _ h => h) rfl (fun w' hSw => ?_) hS ?_; rotate_left; (focus (go_simp; with_reducible rfl)); simp only [List.setIfInBounds_toArray, List.set_cons_zero, List.set_cons_succ]) | (refine wpPl_skipL rfl rfl (fun _ _ _ h => h) rfl hS ?_; simp only [List.setIfInBounds_toArray, List.set_cons_zero, List.set_cons_succ]))
    clear hS
    refine wpPl_goL rfl rfl fun K' hK => ?_
    go_simp
    refine (HOh.out _).mono ?_
    rintro e1 W20v3 ⟨b32, rfl, -, hi1, hb1⟩
    replace HS := Lib.hid (HS.out.later hb1)
    replace HY1 := Lib.hid (HY1.out.below hb1)
    replace HY2 := Lib.hid (HY2.out.below hb1)
    have HZ2 := Lib.hid hi1
    clear hi1
    unfold ExV
    refine hK _ _ HS.out.two3 ?_
    clear hK K' hb1
    try simp only [Act.put, List.setIfInBounds_toArray, List.set_cons_zero, List.set_cons_succ]
    have hS : (fun w' : World => ((w'.cell? ⟨r8, 0, none⟩ = some (.pointer (some ⟨b14, 0, none⟩)) ∧ w'.cell? ⟨r8, 1, none⟩ = some (.int .i64 E2)) ∧ w'.cell? ⟨r7, 0, none⟩ = some (.pointer (some ⟨b11, 0, none⟩)) ∧ w'.cell? ⟨r7, 1, none⟩ = some (.int .i64 E1)) ∧ w'.cell? ⟨r3, 0, none⟩ = some (.float .f64 p0) ∧ w'.cell? ⟨r3, 1, none⟩ = some (.float .f64 p1)) W20v3 := HS.out.two3
    repeat (first | (refine wpPl_takeL (v := ?_) rfl rfl (fun _ _ _ h => h) rfl (fun w' hSw => ?_) hS ?_; rotate_left; (focus (go_simp; with_reducible rfl)); simp only [List.setIfInBounds_toArray, List.set_cons_zero, List.set_cons_succ]) | (refine wpPl_skipL rfl rfl (fun _ _ _ h => h) rfl hS ?_; simp only [List.setIfInBounds_toArray, List.set_cons_zero, List.set_cons_succ]))
    clear hS
    refine wpPl_goL rfl rfl fun K' hK => ?_
    go_simp
    refine (HC2.out _ _ _ HY2.out HZ2.out).mono ?_
    rintro e1 W20v4 ⟨rfl, hb1⟩
    replace HS := Lib.hid (HS.out.later hb1)
    replace HY1 := Lib.hid (HY1.out.below hb1)
    replace HY2 := Lib.hid (HY2.out.below hb1)
    clear HZ2
    refine hK _ _ HS.out.two3 ?_
    clear hK K' hb1
    try simp only [Act.put, List.setIfInBounds_toArray, List.set_cons_zero, List.set_cons_succ]
    have hS : (fun w' : World => ((w'.cell? ⟨r8, 0, none⟩ = some (.pointer (some ⟨b14, 0, none⟩)) ∧ w'.cell? ⟨r8, 1, none⟩ = some (.int .i64 E2)) ∧ w'.cell? ⟨r7, 0, none⟩ = some (.pointer (some ⟨b11, 0, none⟩)) ∧ w'.cell? ⟨r7, 1, none⟩ = some (.int .i64 E1)) ∧ w'.cell? ⟨r3, 0, none⟩ = some (.float .f64 p0) ∧ w'.cell? ⟨r3, 1, none⟩ = some (.float .f64 p1)) W20v4 := HS.out.two3
    repeat (first | (refine wpPl_takeL (v := ?_) rfl rfl (fun _ _ _ h => h) rfl (fun w' hSw => ?_) hS ?_; rotate_left; (focus (go_simp; with_reducible rfl)); simp only [List.setIfInBounds_toArray, List.set_cons_zero, List.set_cons_succ]) | (refine wpPl_skipL rfl rfl (fun _ _ _ h => h) rfl hS ?_; simp only [List.setIfInBounds_toArray, List.set_cons_zero, List.set_cons_succ]))
    clear hS
    refine wpPl_goL rfl rfl fun K' hK => ?_
    go_simp
    refine (HIW.out _).mono ?_
    rintro e1 W20v5 ⟨rfl, hb1⟩
    replace HS := Lib.hid (HS.out.later hb1)
    replace HY1 := Lib.hid (HY1.out.below hb1)
    replace HY2 := Lib.hid (HY2.out.below hb1)
    refine hK _ _ HS.out.two3 ?_
    clear hK K' hb1
    try simp only [Act.put, List.setIfInBounds_toArray, List.set_cons_zero, List.set_cons_succ]
    have hS : (fun w' : World => ((w'.cell? ⟨r8, 0, none⟩ = some (.pointer (some ⟨b14, 0, none⟩)) ∧ w'.cell? ⟨r8, 1, none⟩ = some (.int .i64 E2)) ∧ w'.cell? ⟨r7, 0, none⟩ = some (.pointer (some ⟨b11, 0, none⟩)) ∧ w'.cell? ⟨r7, 1, none⟩ = some (.int .i64 E1)) ∧ w'.cell? ⟨r3, 0, none⟩ = some (.float .f64 p0) ∧ w'.cell? ⟨r3, 1, none⟩ = some (.float .f64 p1)) W20v5 := HS.out.two3
    repeat (first | (refine wpPl_takeL (v := ?_) rfl rfl (fun _ _ _ h => h) rfl (fun w' hSw => ?_) hS ?_; rotate_left; (focus (go_simp; with_reducible rfl)); simp only [List.setIfInBounds_toArray, List.set_cons_zero, List.set_cons_succ]) | (refine wpPl_skipL rfl rfl (fun _ _ _ h => h) rfl hS ?_; simp only [List.setIfInBounds_toArray, List.set_cons_zero, List.set_cons_succ]))
    refine wpPl_idleL rfl rfl rfl hS ?_
    simp only [List.setIfInBounds_toArray, List.set_cons_zero, List.set_cons_succ]
    repeat (first | (refine wpPl_takeL (v := ?_) rfl rfl (fun _ _ _ h => h) rfl (fun w' hSw => ?_) hS ?_; rotate_left; (focus (go_simp; with_reducible rfl)); simp only [List.setIfInBounds_toArray, List.set_cons_zero, List.set_cons_succ]) | (refine wpPl_skipL rfl rfl (fun _ _ _ h => h) rfl hS ?_; simp only [List.setIfInBounds_toArray, List.set_cons_zero, List.set_cons_succ]))
    refine wpPl_idleL rfl rfl rfl hS ?_
    simp only [List.setIfInBounds_toArray, List.set_cons_zero, List.set_cons_succ]
    repeat (first | (refine wpPl_takeL (v := ?_) rfl rfl (fun _ _ _ h => h) rfl (fun w' hSw => ?_) hS ?_; rotate_left; (focus (go_simp; with_reducible rfl)); simp only [List.setIfInBounds_toArray, List.set_cons_zero, List.set_cons_succ]) | (refine wpPl_skipL rfl rfl (fun _ _ _ h => h) rfl hS ?_; simp only [List.setIfInBounds_toArray, List.set_cons_zero, List.set_cons_succ]))
    clear hS
    refine wpPl_nil ?_
    simp only [List.drop_succ_cons, List.drop_zero]
    go_wp2
    go_ret
    exact ⟨rfl, HS.out.2⟩
  have hw2 : wdK p0 p1 < kInf := by omega
  rw [decide_eq_true (show -(kInf : Int) < wdK p0 p1 ∧ wdK p0 p1 < kInf by omega), Bool.not_true] at HIW
  have fw : finB (kb (wdK p0 p1)) = true := (fin_ky ww nw').2 (by rw [kw]; omega)
  have HOw := Lib.hid fun W => rOf_any (kb (wdK p0 p1)) W ww fw
  have ew := pE_bd fw
  have vw := val_bl (b := kb (wdK p0 p1))
  have HC3 := Lib.hid fun b c W (h1 : RInt W b (valZ (kb (wdK p0 p1)))) (h2 : RInt W c Z3) => rCmpX_any b c _ (pE (kb (wdK p0 p1))) Z3 E3 W h1 h2 (by omega) (by omega) (by omega) (by omega) (by omega) (by omega)
  have d3 := decide_eq_true (s3 hw2)
  generalize (plZ (valZ (kb (wdK p0 p1))) (pE (kb (wdK p0 p1))) (-Z3) E3).sign = S3 at *
  clear hs hp0 hp1 hT wm fm hk fx fy c1 c2 c3 c4 c5 wr nr' kr ww nw' kw nr nw hr hr2 fr ex ey em er vx vy vm vr q1 q2 q3 t1 t2 t3 hZ1 hE1 hZ2 hE2 hZ3 hE3 s3 hw hw2 fw ew vw
  generalize valZ (kb (wdK p0 p1)) = zw at *
  generalize pE (kb (wdK p0 p1)) = ew' at *
  generalize valZ (midB p0 p1) = zm at *
  generalize pE (midB p0 p1) = em' at *
  generalize valZ (kb (rdK p0 p1)) = zr at *
  generalize pE (kb (rdK p0 p1)) = er' at *
  generalize valZ p0 = zl at *
  generalize pE p0 = el at *
  generalize valZ p1 = zh at *
  generalize pE p1 = eh at *
  generalize kb (rdK p0 p1) = r at *
  generalize kb (wdK p0 p1) = wd at *
  generalize midB p0 p1 = m at *
  go_enter Tryz.func5, Tryz.ntmps5
  obtain ⟨g0, g1⟩ := HW.out.two (.head _)
  go_wp2_with fail
  refine (HAW.out _ (HT.out.below HW.out.2)).mono ?_
  rintro e1 w1 ⟨rfl, hb1⟩
  replace HW := Lib.hid (HW.out.later hb1)
  clear hb1
  clear g0 g1
  obtain ⟨g0, g1⟩ := HW.out.two (.head _)
  go_wp2_with fail
  refine (HOA.out _).mono ?_
  rintro e2 w2 ⟨rfl, hb2⟩
  replace HW := Lib.hid (HW.out.later hb2)
  clear hb2
  clear g0 g1
  obtain ⟨g0, g1⟩ := HW.out.two (.head _)
  go_upto_region 4 with fail
  have HS := Lib.hid (HW.out.alloc #[.float .f64 p0, .float .f64 p1] 34)
  clear g0 g1
  clear HW
  generalize World.alloc w2 _ = W3 at HS ⊢
  generalize w2.heap.size = r3 at HS ⊢
  refine wp_region_pl (fun w' : World => w'.cell? ⟨r3, 0, none⟩ = some (.float .f64 p0) ∧ w'.cell? ⟨r3, 1, none⟩ = some (.float .f64 p1)) 5 (.take 0 (.take 2 (.take 4 (.run 1 (.run 3 (.nil)))))) (by kernel_rfl) (by kernel_rfl) ?_
  replace HS := Lib.hid (HS.out.later (drew_below _))
  generalize World.drew _ = W4 at HS ⊢
  have hS : (fun w' : World => w'.cell? ⟨r3, 0, none⟩ = some (.float .f64 p0) ∧ w'.cell? ⟨r3, 1, none⟩ = some (.float .f64 p1)) W4 := (HS.out.two (.head _))
  repeat (first | (refine wpPl_takeL (v := ?_) rfl rfl (fun _ _ _ h => h) rfl (fun w' hSw => ?_) hS ?_; rotate_left; (focus (go_simp; with_reducible rfl)); simp only [List.setIfInBounds_toArray, List.set_cons_zero, List.set_cons_succ]) | (refine wpPl_skipL rfl rfl (fun _ _ _ h => h) rfl hS ?_; simp only [List.setIfInBounds_toArray, List.set_cons_zero, List.set_cons_succ]))
  clear hS
  refine wpPl_goL rfl rfl fun K' hK => ?_
  go_simp
  refine (HM.out _ (HT.out.below HS.out.2)).mono ?_
  rintro e1 W4v1 ⟨rfl, hb1⟩
  replace HS := Lib.hid (HS.out.later hb1)
  refine hK _ _ (HS.out.two (.head _)) ?_
  clear hK K' hb1
  try simp only [Act.put, List.setIfInBounds_toArray, List.set_cons_zero, List.set_cons_succ]
  have hS : (fun w' : World => w'.cell? ⟨r3, 0, none⟩ = some (.float .f64 p0) ∧ w'.cell? ⟨r3, 1, none⟩ = some (.float .f64 p1)) W4v1 := (HS.out.two (.head _))
  repeat (first | (refine wpPl_takeL (v := ?_) rfl rfl (fun _ _ _ h => h) rfl (fun w' hSw => ?_) hS ?_; rotate_left; (focus (go_simp; with_reducible rfl)); simp only [List.setIfInBounds_toArray, List.set_cons_zero, List.set_cons_succ]) | (refine wpPl_skipL rfl rfl (fun _ _ _ h => h) rfl hS ?_; simp only [List.setIfInBounds_toArray, List.set_cons_zero, List.set_cons_succ]))
  clear hS
  refine wpPl_goL rfl rfl fun K' hK => ?_
  go_simp
  refine (HR.out _ (HT.out.below HS.out.2)).mono ?_
  rintro e1 W4v2 ⟨rfl, hb1⟩
  replace HS := Lib.hid (HS.out.later hb1)
  refine hK _ _ (HS.out.two (.head _)) ?_
  clear hK K' hb1
  try simp only [Act.put, List.setIfInBounds_toArray, List.set_cons_zero, List.set_cons_succ]
  have hS : (fun w' : World => w'.cell? ⟨r3, 0, none⟩ = some (.float .f64 p0) ∧ w'.cell? ⟨r3, 1, none⟩ = some (.float .f64 p1)) W4v2 := (HS.out.two (.head _))
  repeat (first | (refine wpPl_takeL (v := ?_) rfl rfl (fun _ _ _ h => h) rfl (fun w' hSw => ?_) hS ?_; rotate_left; (focus (go_simp; with_reducible rfl)); simp only [List.setIfInBounds_toArray, List.set_cons_zero, List.set_cons_succ]) | (refine wpPl_skipL rfl rfl (fun _ _ _ h => h) rfl hS ?_; simp only [List.setIfInBounds_toArray, List.set_cons_zero, List.set_cons_succ]))
  clear hS
  refine wpPl_nil ?_
  simp only [List.drop_succ_cons, List.drop_zero]
  obtain ⟨g0, g1⟩ := HS.out.two (.head _)
  go_wp2_with fail
  refine (HWD.out _ (HT.out.below HS.out.2)).mono ?_
  rintro e5 w5 ⟨rfl, hb5⟩
  replace HS := Lib.hid (HS.out.later hb5)
  clear hb5
  clear g0 g1
  obtain ⟨g0, g1⟩ := HS.out.two (.head _)
  go_wp2_with fail
  refine (HIS.out _).mono ?_
  rintro e6 w6 ⟨rfl, hb6⟩
  replace HS := Lib.hid (HS.out.later hb6)
  clear hb6
  clear g0 g1
  obtain ⟨g0, g1⟩ := HS.out.two (.head _)
  go_wp2_with fail
  refine (HHA.out _).mono ?_
  rintro e7 w7 ⟨rfl, hb7⟩
  replace HS := Lib.hid (HS.out.later hb7)
  clear hb7
  clear g0 g1
  obtain ⟨g0, g1⟩ := HS.out.two (.head _)
  go_wp2_with fail
  refine (HI0.out _).mono ?_
  rintro e8 w8 ⟨rfl, hb8⟩
  replace HS := Lib.hid (HS.out.later hb8)
  clear hb8
  clear g0 g1
  obtain ⟨g0, g1⟩ := HS.out.two (.head _)
  go_wp2_with fail
  refine (HI1.out _).mono ?_
  rintro e9 w9 ⟨rfl, hb9⟩
  replace HS := Lib.hid (HS.out.later hb9)
  clear hb9
  clear g0 g1
  obtain ⟨g0, g1⟩ := HS.out.two (.head _)
  go_wp2_with fail
  refine (HIR.out _).mono ?_
  rintro e10 w10 ⟨rfl, hb10⟩
  replace HS := Lib.hid (HS.out.later hb10)
  clear hb10
  clear g0 g1
  obtain ⟨g0, g1⟩ := HS.out.two (.head _)
  go_wp2_with fail
  refine (HOm.out _).mono ?_
  rintro e21 w21 ⟨b21, rfl, -, hi21, hb21⟩
  replace HS := Lib.hid (HS.out.later hb21)
  have HX1 := Lib.hid hi21
  clear hi21
  unfold ExV
  clear hb21
  clear g0 g1
  obtain ⟨g0, g1⟩ := HS.out.two (.head _)
  go_wp2_with fail
  refine (HOr.out _).mono ?_
  rintro e22 w22 ⟨b22, rfl, -, hi22, hb22⟩
  replace HS := Lib.hid (HS.out.later hb22)
  have HX2 := Lib.hid hi22
  replace HX1 := Lib.hid (HX1.out.below hb22)
  clear hi22
  unfold ExV
  clear hb22
  clear g0 g1
  obtain ⟨g0, g1⟩ := HS.out.two (.head _)
  go_wp2_with fail
  refine (rNegX_any _ _ _ _ HX2.out).mono ?_
  rintro e23 w23 ⟨b23, rfl, -, hi23, hb23⟩
  replace HS := Lib.hid (HS.out.later hb23)
  replace HX2 := Lib.hid hi23
  replace HX1 := Lib.hid (HX1.out.below hb23)
  clear hi23
  unfold ExV
  clear hb23
  clear g0 g1
  obtain ⟨g0, g1⟩ := HS.out.two (.head _)
  go_wp2_with fail
  refine (HA1.out _ _ _ HX1.out HX2.out).mono ?_
  rintro e11 w11 ⟨b11, rfl, hi11, hb11⟩
  replace HS := Lib.hid (HS.out.later hb11)
  have HY1 := Lib.hid hi11
  clear hi11 HX1 HX2
  unfold ExV
  clear hb11
  clear g0 g1
  obtain ⟨g0, g1⟩ := HS.out.two (.head _)
  go_wp2_with fail
  refine (HOm.out _).mono ?_
  rintro e24 w24 ⟨b24, rfl, -, hi24, hb24⟩
  replace HS := Lib.hid (HS.out.later hb24)
  have HX1 := Lib.hid hi24
  replace HY1 := Lib.hid (HY1.out.below hb24)
  clear hi24
  unfold ExV
  clear hb24
  clear g0 g1
  obtain ⟨g0, g1⟩ := HS.out.two (.head _)
  go_wp2_with fail
  refine (HOr.out _).mono ?_
  rintro e25 w25 ⟨b25, rfl, -, hi25, hb25⟩
  replace HS := Lib.hid (HS.out.later hb25)
  have HX2 := Lib.hid hi25
  replace HX1 := Lib.hid (HX1.out.below hb25)
  replace HY1 := Lib.hid (HY1.out.below hb25)
  clear hi25
  unfold ExV
  clear hb25
  clear g0 g1
  obtain ⟨g0, g1⟩ := HS.out.two (.head _)
  go_wp2_with fail
  refine (HA2.out _ _ _ HX1.out HX2.out).mono ?_
  rintro e14 w14 ⟨b14, rfl, hi14, hb14⟩
  replace HS := Lib.hid (HS.out.later hb14)
  have HY2 := Lib.hid hi14
  replace HY1 := Lib.hid (HY1.out.below hb14)
  clear hi14 HX1 HX2
  unfold ExV
  clear hb14
  clear g0 g1
  obtain ⟨g0, g1⟩ := HS.out.two (.head _)
  go_upto_region 14 with fail
  replace HS := Lib.hid ((HS.out.alloc #[.pointer (some ⟨b11, 0, none⟩), .int .i64 E1] 27).alloc #[.pointer (some ⟨b14, 0, none⟩), .int .i64 E2] 27)
  have hbb := below2 w14 (.cells #[.pointer (some ⟨b11, 0, none⟩), .int .i64 E1] 27) (.cells #[.pointer (some ⟨b14, 0, none⟩), .int .i64 E2] 27)
  replace HY1 := Lib.hid (HY1.out.below hbb)
  replace HY2 := Lib.hid (HY2.out.below hbb)
  clear hbb g0 g1
  rw [show (w14.alloc (.cells #[.pointer (some ⟨b11, 0, none⟩), .int .i64 E1] 27)).heap.size = w14.heap.size + 1 by simp] at HS
  generalize World.alloc (World.alloc w14 _) _ = W15 at HS HY1 HY2 ⊢
  generalize w14.heap.size + 1 = r8 at HS ⊢
  generalize w14.heap.size = r7 at HS ⊢
  refine wp_region_pl (fun w' : World => ((w'.cell? ⟨r8, 0, none⟩ = some (.pointer (some ⟨b14, 0, none⟩)) ∧ w'.cell? ⟨r8, 1, none⟩ = some (.int .i64 E2)) ∧ w'.cell? ⟨r7, 0, none⟩ = some (.pointer (some ⟨b11, 0, none⟩)) ∧ w'.cell? ⟨r7, 1, none⟩ = some (.int .i64 E1)) ∧ w'.cell? ⟨r3, 0, none⟩ = some (.float .f64 p0) ∧ w'.cell? ⟨r3, 1, none⟩ = some (.float .f64 p1)) 25 (.take 0 (.take 1 (.take 2 (.run 3 (.run 4 (.take 5 (.take 6 (.take 7 (.take 8 (.take 9 (.run 10 (.run 11 (.take 12 (.take 13 (.take 14 (.take 15 (.run 16 (.take 17 (.take 18 (.take 20 (.take 21 (.take 23 (.take 24 (.run 19 (.run 22 (.nil)))))))))))))))))))))))))) (by kernel_rfl) (by kernel_rfl) ?_
  replace HS := Lib.hid (HS.out.later (drew_below _))
  replace HY1 := Lib.hid (HY1.out.below (drew_below _))
  replace HY2 := Lib.hid (HY2.out.below (drew_below _))
  generalize World.drew _ = W20 at HS HY1 HY2 ⊢
  have hS : (fun w' : World => ((w'.cell? ⟨r8, 0, none⟩ = some (.pointer (some ⟨b14, 0, none⟩)) ∧ w'.cell? ⟨r8, 1, none⟩ = some (.int .i64 E2)) ∧ w'.cell? ⟨r7, 0, none⟩ = some (.pointer (some ⟨b11, 0, none⟩)) ∧ w'.cell? ⟨r7, 1, none⟩ = some (.int .i64 E1)) ∧ w'.cell? ⟨r3, 0, none⟩ = some (.float .f64 p0) ∧ w'.cell? ⟨r3, 1, none⟩ = some (.float .f64 p1)) W20 := HS.out.two3
  repeat (first | (refine wpPl_takeL (v := ?_) rfl rfl (fun _ _ _ h => h) rfl (fun w' hSw => ?_) hS ?_; rotate_left; (focus (go_simp; with_reducible rfl)); simp only [List.setIfInBounds_toArray, List.set_cons_zero, List.set_cons_succ]) | (refine wpPl_skipL rfl rfl (fun _ _ _ h => h) rfl hS ?_; simp only [List.setIfInBounds_toArray, List.set_cons_zero, List.set_cons_succ]))
  clear hS
  refine wpPl_goL rfl rfl fun K' hK => ?_
  go_simp
  refine (HOl.out _).mono ?_
  rintro e1 W20v1 ⟨b31, rfl, -, hi1, hb1⟩
  replace HS := Lib.hid (HS.out.later hb1)
  replace HY1 := Lib.hid (HY1.out.below hb1)
  replace HY2 := Lib.hid (HY2.out.below hb1)
  have HZ1 := Lib.hid hi1
  clear hi1
  unfold ExV
  refine hK _ _ HS.out.two3 ?_
  clear hK K' hb1
  try simp only [Act.put, List.setIfInBounds_toArray, List.set_cons_zero, List.set_cons_succ]
  have hS : (fun w' : World => ((w'.cell? ⟨r8, 0, none⟩ = some (.pointer (some ⟨b14, 0, none⟩)) ∧ w'.cell? ⟨r8, 1, none⟩ = some (.int .i64 E2)) ∧ w'.cell? ⟨r7, 0, none⟩ = some (.pointer (some ⟨b11, 0, none⟩)) ∧ w'.cell? ⟨r7, 1, none⟩ = some (.int .i64 E1)) ∧ w'.cell? ⟨r3, 0, none⟩ = some (.float .f64 p0) ∧ w'.cell? ⟨r3, 1, none⟩ = some (.float .f64 p1)) W20v1 := HS.out.two3
  repeat (first | (refine wpPl_takeL (v := ?_) rfl rfl (fun _ _ _ h => h) rfl (fun w' hSw => ?_) hS ?_; rotate_left; (focus (go_simp; with_reducible rfl)); simp only [List.setIfInBounds_toArray, List.set_cons_zero, List.set_cons_succ]) | (refine wpPl_skipL rfl rfl (fun _ _ _ h => h) rfl hS ?_; simp only [List.setIfInBounds_toArray, List.set_cons_zero, List.set_cons_succ]))
  clear hS
  refine wpPl_goL rfl rfl fun K' hK => ?_
  go_simp
  refine (HC1.out _ _ _ HY1.out HZ1.out).mono ?_
  rintro e1 W20v2 ⟨rfl, hb1⟩
  replace HS := Lib.hid (HS.out.later hb1)
  replace HY1 := Lib.hid (HY1.out.below hb1)
  replace HY2 := Lib.hid (HY2.out.below hb1)
  clear HZ1
  refine hK _ _ HS.out.two3 ?_
  clear hK K' hb1
  try simp only [Act.put, List.setIfInBounds_toArray, List.set_cons_zero, List.set_cons_succ]
  have hS : (fun w' : World => ((w'.cell? ⟨r8, 0, none⟩ = some (.pointer (some ⟨b14, 0, none⟩)) ∧ w'.cell? ⟨r8, 1, none⟩ = some (.int .i64 E2)) ∧ w'.cell? ⟨r7, 0, none⟩ = some (.pointer (some ⟨b11, 0, none⟩)) ∧ w'.cell? ⟨r7, 1, none⟩ = some (.int .i64 E1)) ∧ w'.cell? ⟨r3, 0, none⟩ = some (.float .f64 p0) ∧ w'.cell? ⟨r3, 1, none⟩ = some (.float .f64 p1)) W20v2 := HS.out.two3
  repeat (first | (refine wpPl_takeL (v := ?_) rfl rfl (fun _ _ _ h => h) rfl (fun w' hSw => ?_) hS ?_; rotate_left; (focus (go_simp; with_reducible rfl)); simp only [List.setIfInBounds_toArray, List.set_cons_zero, List.set_cons_succ]) | (refine wpPl_skipL rfl rfl (fun _ _ _ h => h) rfl hS ?_; simp only [List.setIfInBounds_toArray, List.set_cons_zero, List.set_cons_succ]))
  clear hS
  refine wpPl_goL rfl rfl fun K' hK => ?_
  go_simp
  refine (HOh.out _).mono ?_
  rintro e1 W20v3 ⟨b32, rfl, -, hi1, hb1⟩
  replace HS := Lib.hid (HS.out.later hb1)
  replace HY1 := Lib.hid (HY1.out.below hb1)
  replace HY2 := Lib.hid (HY2.out.below hb1)
  have HZ2 := Lib.hid hi1
  clear hi1
  unfold ExV
  refine hK _ _ HS.out.two3 ?_
  clear hK K' hb1
  try simp only [Act.put, List.setIfInBounds_toArray, List.set_cons_zero, List.set_cons_succ]
  have hS : (fun w' : World => ((w'.cell? ⟨r8, 0, none⟩ = some (.pointer (some ⟨b14, 0, none⟩)) ∧ w'.cell? ⟨r8, 1, none⟩ = some (.int .i64 E2)) ∧ w'.cell? ⟨r7, 0, none⟩ = some (.pointer (some ⟨b11, 0, none⟩)) ∧ w'.cell? ⟨r7, 1, none⟩ = some (.int .i64 E1)) ∧ w'.cell? ⟨r3, 0, none⟩ = some (.float .f64 p0) ∧ w'.cell? ⟨r3, 1, none⟩ = some (.float .f64 p1)) W20v3 := HS.out.two3
  repeat (first | (refine wpPl_takeL (v := ?_) rfl rfl (fun _ _ _ h => h) rfl (fun w' hSw => ?_) hS ?_; rotate_left; (focus (go_simp; with_reducible rfl)); simp only [List.setIfInBounds_toArray, List.set_cons_zero, List.set_cons_succ]) | (refine wpPl_skipL rfl rfl (fun _ _ _ h => h) rfl hS ?_; simp only [List.setIfInBounds_toArray, List.set_cons_zero, List.set_cons_succ]))
  clear hS
  refine wpPl_goL rfl rfl fun K' hK => ?_
  go_simp
  refine (HC2.out _ _ _ HY2.out HZ2.out).mono ?_
  rintro e1 W20v4 ⟨rfl, hb1⟩
  replace HS := Lib.hid (HS.out.later hb1)
  replace HY1 := Lib.hid (HY1.out.below hb1)
  replace HY2 := Lib.hid (HY2.out.below hb1)
  clear HZ2
  refine hK _ _ HS.out.two3 ?_
  clear hK K' hb1
  try simp only [Act.put, List.setIfInBounds_toArray, List.set_cons_zero, List.set_cons_succ]
  have hS : (fun w' : World => ((w'.cell? ⟨r8, 0, none⟩ = some (.pointer (some ⟨b14, 0, none⟩)) ∧ w'.cell? ⟨r8, 1, none⟩ = some (.int .i64 E2)) ∧ w'.cell? ⟨r7, 0, none⟩ = some (.pointer (some ⟨b11, 0, none⟩)) ∧ w'.cell? ⟨r7, 1, none⟩ = some (.int .i64 E1)) ∧ w'.cell? ⟨r3, 0, none⟩ = some (.float .f64 p0) ∧ w'.cell? ⟨r3, 1, none⟩ = some (.float .f64 p1)) W20v4 := HS.out.two3
  repeat (first | (refine wpPl_takeL (v := ?_) rfl rfl (fun _ _ _ h => h) rfl (fun w' hSw => ?_) hS ?_; rotate_left; (focus (go_simp; with_reducible rfl)); simp only [List.setIfInBounds_toArray, List.set_cons_zero, List.set_cons_succ]) | (refine wpPl_skipL rfl rfl (fun _ _ _ h => h) rfl hS ?_; simp only [List.setIfInBounds_toArray, List.set_cons_zero, List.set_cons_succ]))
  clear hS
  refine wpPl_goL rfl rfl fun K' hK => ?_
  go_simp
  refine (HIW.out _).mono ?_
  rintro e1 W20v5 ⟨rfl, hb1⟩
  replace HS := Lib.hid (HS.out.later hb1)
  replace HY1 := Lib.hid (HY1.out.below hb1)
  replace HY2 := Lib.hid (HY2.out.below hb1)
  refine hK _ _ HS.out.two3 ?_
  clear hK K' hb1
  try simp only [Act.put, List.setIfInBounds_toArray, List.set_cons_zero, List.set_cons_succ]
  have hS : (fun w' : World => ((w'.cell? ⟨r8, 0, none⟩ = some (.pointer (some ⟨b14, 0, none⟩)) ∧ w'.cell? ⟨r8, 1, none⟩ = some (.int .i64 E2)) ∧ w'.cell? ⟨r7, 0, none⟩ = some (.pointer (some ⟨b11, 0, none⟩)) ∧ w'.cell? ⟨r7, 1, none⟩ = some (.int .i64 E1)) ∧ w'.cell? ⟨r3, 0, none⟩ = some (.float .f64 p0) ∧ w'.cell? ⟨r3, 1, none⟩ = some (.float .f64 p1)) W20v5 := HS.out.two3
  repeat (first | (refine wpPl_takeL (v := ?_) rfl rfl (fun _ _ _ h => h) rfl (fun w' hSw => ?_) hS ?_; rotate_left; (focus (go_simp; with_reducible rfl)); simp only [List.setIfInBounds_toArray, List.set_cons_zero, List.set_cons_succ]) | (refine wpPl_skipL rfl rfl (fun _ _ _ h => h) rfl hS ?_; simp only [List.setIfInBounds_toArray, List.set_cons_zero, List.set_cons_succ]))
  clear hS
  refine wpPl_goL rfl rfl fun K' hK => ?_
  go_simp
  refine (HOw.out _).mono ?_
  rintro e1 W20v6 ⟨b33, rfl, -, hi1, hb1⟩
  replace HS := Lib.hid (HS.out.later hb1)
  replace HY1 := Lib.hid (HY1.out.below hb1)
  replace HY2 := Lib.hid (HY2.out.below hb1)
  have HZ3 := Lib.hid hi1
  clear hi1
  unfold ExV
  refine hK _ _ HS.out.two3 ?_
  clear hK K' hb1
  try simp only [Act.put, List.setIfInBounds_toArray, List.set_cons_zero, List.set_cons_succ]
  have hS : (fun w' : World => ((w'.cell? ⟨r8, 0, none⟩ = some (.pointer (some ⟨b14, 0, none⟩)) ∧ w'.cell? ⟨r8, 1, none⟩ = some (.int .i64 E2)) ∧ w'.cell? ⟨r7, 0, none⟩ = some (.pointer (some ⟨b11, 0, none⟩)) ∧ w'.cell? ⟨r7, 1, none⟩ = some (.int .i64 E1)) ∧ w'.cell? ⟨r3, 0, none⟩ = some (.float .f64 p0) ∧ w'.cell? ⟨r3, 1, none⟩ = some (.float .f64 p1)) W20v6 := HS.out.two3
  repeat (first | (refine wpPl_takeL (v := ?_) rfl rfl (fun _ _ _ h => h) rfl (fun w' hSw => ?_) hS ?_; rotate_left; (focus (go_simp; with_reducible rfl)); simp only [List.setIfInBounds_toArray, List.set_cons_zero, List.set_cons_succ]) | (refine wpPl_skipL rfl rfl (fun _ _ _ h => h) rfl hS ?_; simp only [List.setIfInBounds_toArray, List.set_cons_zero, List.set_cons_succ]))
  clear hS
  refine wpPl_goL rfl rfl fun K' hK => ?_
  go_simp
  refine (HOh.out _).mono ?_
  rintro e1 W20v7 ⟨b34, rfl, -, hi1, hb1⟩
  replace HS := Lib.hid (HS.out.later hb1)
  replace HY1 := Lib.hid (HY1.out.below hb1)
  replace HY2 := Lib.hid (HY2.out.below hb1)
  replace HZ3 := Lib.hid (HZ3.out.below hb1)
  have HZ4 := Lib.hid hi1
  clear hi1
  unfold ExV
  refine hK _ _ HS.out.two3 ?_
  clear hK K' hb1
  try simp only [Act.put, List.setIfInBounds_toArray, List.set_cons_zero, List.set_cons_succ]
  have hS : (fun w' : World => ((w'.cell? ⟨r8, 0, none⟩ = some (.pointer (some ⟨b14, 0, none⟩)) ∧ w'.cell? ⟨r8, 1, none⟩ = some (.int .i64 E2)) ∧ w'.cell? ⟨r7, 0, none⟩ = some (.pointer (some ⟨b11, 0, none⟩)) ∧ w'.cell? ⟨r7, 1, none⟩ = some (.int .i64 E1)) ∧ w'.cell? ⟨r3, 0, none⟩ = some (.float .f64 p0) ∧ w'.cell? ⟨r3, 1, none⟩ = some (.float .f64 p1)) W20v7 := HS.out.two3
  repeat (first | (refine wpPl_takeL (v := ?_) rfl rfl (fun _ _ _ h => h) rfl (fun w' hSw => ?_) hS ?_; rotate_left; (focus (go_simp; with_reducible rfl)); simp only [List.setIfInBounds_toArray, List.set_cons_zero, List.set_cons_succ]) | (refine wpPl_skipL rfl rfl (fun _ _ _ h => h) rfl hS ?_; simp only [List.setIfInBounds_toArray, List.set_cons_zero, List.set_cons_succ]))
  clear hS
  refine wpPl_nil ?_
  simp only [List.drop_succ_cons, List.drop_zero]
  obtain ⟨-, g0, g1⟩ := HS.out.two3
  go_wp2_with fail
  refine (HOl.out _).mono ?_
  rintro e41 w41 ⟨b41, rfl, -, hi41, hb41⟩
  replace HS := Lib.hid (HS.out.later hb41)
  have HZ5 := Lib.hid hi41
  replace HZ3 := Lib.hid (HZ3.out.below hb41)
  replace HZ4 := Lib.hid (HZ4.out.below hb41)
  clear hi41
  unfold ExV
  clear hb41
  clear g0 g1
  obtain ⟨-, g0, g1⟩ := HS.out.two3
  go_wp2_with fail
  refine (rNegX_any _ _ _ _ HZ5.out).mono ?_
  rintro e42 w42 ⟨b42, rfl, -, hi42, hb42⟩
  replace HS := Lib.hid (HS.out.later hb42)
  replace HZ5 := Lib.hid hi42
  replace HZ3 := Lib.hid (HZ3.out.below hb42)
  replace HZ4 := Lib.hid (HZ4.out.below hb42)
  clear hi42
  unfold ExV
  clear hb42
  clear g0 g1
  obtain ⟨-, g0, g1⟩ := HS.out.two3
  go_wp2_with fail
  refine (HA3.out _ _ _ HZ4.out HZ5.out).mono ?_
  rintro e43 w43 ⟨b43, rfl, hi43, hb43⟩
  replace HS := Lib.hid (HS.out.later hb43)
  have HZ6 := Lib.hid hi43
  replace HZ3 := Lib.hid (HZ3.out.below hb43)
  clear hi43 HZ4 HZ5
  unfold ExV
  clear hb43
  clear g0 g1
  obtain ⟨-, g0, g1⟩ := HS.out.two3
  go_wp2_with fail
  refine (HC3.out _ _ _ HZ3.out HZ6.out).mono ?_
  rintro e44 w44 ⟨rfl, hb44⟩
  replace HS := Lib.hid (HS.out.later hb44)
  clear hb44
  clear g0 g1
  obtain ⟨-, g0, g1⟩ := HS.out.two3
  go_wp2
  go_ret
  exact ⟨rfl, HS.out.2⟩

end Go.Proofs.YtjokekmbnffpfaaGreatDoor
