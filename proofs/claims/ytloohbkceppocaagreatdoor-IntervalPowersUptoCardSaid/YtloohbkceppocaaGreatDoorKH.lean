/- Walks: the references' Div, Root. Printed by wip/gen/cx6.py. -/
import Derived.Test.YtloohbkceppocaaGreatDoorKG
import Derived.Test.YtloohbkceppocaaGreatDoorGC
import Derived.Test.YtloohbkceppocaaGreatDoorGH
namespace Go.Proofs.YtloohbkceppocaaGreatDoor
section
open Go.RowKit
theorem nought_two {u : Nat} (h : ky u = 0) : u = 0 ∨ u = kSign := by
 by_cases e : u = kSign
 ·exact .inr e
 ·have := kb_own e
  rw [h] at this
  exact .inl (this.symm.trans (by decide))
end
section
open Go.RowKit
attribute [local go_sem] run_store_f
set_option maxRecDepth 100000 in
set_option maxHeartbeats 1600000 in
theorem rAbs_iv (l h : Nat) (w : World) (hl : W64 l) (hh : W64 h) :
  Calls Tryz.prog 23 #[.agg #[.float .f64 l, .float .f64 h]] w (Gives (.agg #[.float .f64 (ivL (absK (ivK l h))), .float .f64 (ivH (absK (ivK l h)))]) w) := by
 have HFA := Lib.hid fun w => rFull_any l h w hl hh
 have HE := Lib.hid fun w => rEmpty_any w
 have HW := Lib.hid (I1.new w l h)
 rcases e1 : ivK l h with _ | p
 ·rw [e1, Option.isSome_none] at HFA
  rw [show ivL (absK none) = 9218868437227405312 from rfl, show ivH (absK none) = 18442240474082181120 from rfl]
  clear e1
  go_enter Tryz.func23, Tryz.ntmps23
  obtain ⟨⟨c0, c1⟩, q0, q1, q2, q3⟩ := HW.out.cells
  go_wp2_with fail
  refine (HFA.out _).mono ?_
  rintro e1 w1 ⟨rfl, hb1⟩
  replace HW := Lib.hid (HW.out.later hb1)
  clear hb1 c0 c1 q0 q1 q2 q3
  obtain ⟨⟨c0, c1⟩, q0, q1, q2, q3⟩ := HW.out.cells
  go_wp2_with fail
  refine (HE.out _).mono ?_
  rintro e2 w2 ⟨rfl, hb2⟩
  replace HW := Lib.hid (HW.out.later hb2)
  clear hb2 c0 c1 q0 q1 q2 q3
  obtain ⟨⟨c0, c1⟩, q0, q1, q2, q3⟩ := HW.out.cells
  go_wp2
  refine bodyPost_ret (v := .agg #[.float .f64 9218868437227405312, .float .f64 18442240474082181120]) (by simp [results, Tryz.results23, go_sem, q0, q1]) rfl ⟨rfl, HW.out.stored _ _⟩
 ·rw [e1, Option.isSome_some] at HFA
  obtain ⟨nl, nh, rfl⟩ := ivK_some e1
  have t1 := ge_test hl (by decide : W64 0) nl (by decide)
  have t2 := le_test hh (by decide : W64 0) nh (by decide)
  rw [ky_zero] at t1 t2
  have HA : Hid (absK (some (ky l, ky h)) = if 0 ≤ ky l then some (ky l, ky h) else if ky h ≤ 0 then some (-ky h, -ky l) else some (0, max (-ky l) (ky h))) := Lib.hid rfl
  have ng1 : ∀ w, (Op.unary .neg (.float .f64 h)).run Tryz.prog w = .ok (.float .f64 (flipB h)) w := fun w => by rw [← neg_flip hh]; rfl
  have ng2 : ∀ w, (Op.unary .neg (.float .f64 l)).run Tryz.prog w = .ok (.float .f64 (flipB l)) w := fun w => by rw [← neg_flip hl]; rfl
  have fn : ∀ x, W64 x → nanB x = false → nanB (flipB x) = false := fun x hx nx => by rw [num_iff, flip_num hx]; exact num_of nx
  by_cases c1 : 0 ≤ ky l
  ·rw [decide_eq_true c1] at t1
   rw [HA.out, if_pos c1, show ivL (some (ky l, ky h)) = kb (ky l) from rfl, show ivH (some (ky l, ky h)) = kb (ky h) from rfl]
   have HK := Lib.hid fun w => rMade_any l h w hl hh nl nh
   generalize kb (ky l) = L at *
   generalize kb (ky h) = H at *
   clear e1 nl nh hl hh fn ng1 ng2 c1 t2 HA
   go_enter Tryz.func23, Tryz.ntmps23
   obtain ⟨⟨c0, c1⟩, q0, q1, q2, q3⟩ := HW.out.cells
   go_wp2_with fail
   refine (HFA.out _).mono ?_
   rintro e1 w1 ⟨rfl, hb1⟩
   replace HW := Lib.hid (HW.out.later hb1)
   clear hb1 c0 c1 q0 q1 q2 q3
   obtain ⟨⟨c0, c1⟩, q0, q1, q2, q3⟩ := HW.out.cells
   go_wp2_with fail
   refine (HK.out _).mono ?_
   rintro e2 w2 ⟨rfl, hb2⟩
   replace HW := Lib.hid (HW.out.later hb2)
   clear hb2 c0 c1 q0 q1 q2 q3
   obtain ⟨⟨c0, c1⟩, q0, q1, q2, q3⟩ := HW.out.cells
   go_wp2
   refine bodyPost_ret (v := .agg #[.float .f64 L, .float .f64 H]) (by simp [results, Tryz.results23, go_sem, q0, q1]) rfl ⟨rfl, HW.out.stored _ _⟩
  ·rw [decide_eq_false c1] at t1
   by_cases c2 : ky h ≤ 0
   ·rw [decide_eq_true c2] at t2
    rw [HA.out, if_neg c1, if_pos c2, show ivL (some (-ky h, -ky l)) = kb (-ky h) from rfl, show ivH (some (-ky h, -ky l)) = kb (-ky l) from rfl, ← flip_ky hh, ← flip_ky hl]
    have HK := Lib.hid fun w => rMade_any (flipB h) (flipB l) w (flip_lt hh) (flip_lt hl) (fn _ hh nh) (fn _ hl nl)
    generalize kb (ky (flipB h)) = L at *
    generalize kb (ky (flipB l)) = H at *
    generalize flipB h = fh at *
    generalize flipB l = fl at *
    clear e1 nl nh hl hh fn c1 c2 HA
    go_enter Tryz.func23, Tryz.ntmps23
    obtain ⟨⟨c0, c1⟩, q0, q1, q2, q3⟩ := HW.out.cells
    go_wp2_with fail
    refine (HFA.out _).mono ?_
    rintro e1 w1 ⟨rfl, hb1⟩
    replace HW := Lib.hid (HW.out.later hb1)
    clear hb1 c0 c1 q0 q1 q2 q3
    obtain ⟨⟨c0, c1⟩, q0, q1, q2, q3⟩ := HW.out.cells
    go_wp2_with fail
    refine (HK.out _).mono ?_
    rintro e2 w2 ⟨rfl, hb2⟩
    replace HW := Lib.hid (HW.out.later hb2)
    clear hb2 c0 c1 q0 q1 q2 q3
    obtain ⟨⟨c0, c1⟩, q0, q1, q2, q3⟩ := HW.out.cells
    go_wp2
    refine bodyPost_ret (v := .agg #[.float .f64 L, .float .f64 H]) (by simp [results, Tryz.results23, go_sem, q0, q1]) rfl ⟨rfl, HW.out.stored _ _⟩
   ·rw [decide_eq_false c2] at t2
    have HMO := Lib.hid fun w => rMost_any (flipB l) h w (flip_lt hl) hh (fn _ hl nl) nh
    rw [flip_ky hl] at HMO
    rw [HA.out, if_neg c1, if_neg c2, show ivL (some (0, max (-ky l) (ky h))) = kb 0 from rfl, show ivH (some (0, max (-ky l) (ky h))) = kb (max (-ky l) (ky h)) from rfl]
    generalize max (-ky l) (ky h) = MX at *
    generalize flipB h = fh at *
    generalize flipB l = fl at *
    clear e1 nl nh hl hh fn c1 c2 HA
    go_enter Tryz.func23, Tryz.ntmps23
    obtain ⟨⟨c0, c1⟩, q0, q1, q2, q3⟩ := HW.out.cells
    go_wp2_with fail
    refine (HFA.out _).mono ?_
    rintro e1 w1 ⟨rfl, hb1⟩
    replace HW := Lib.hid (HW.out.later hb1)
    clear hb1 c0 c1 q0 q1 q2 q3
    obtain ⟨⟨c0, c1⟩, q0, q1, q2, q3⟩ := HW.out.cells
    go_wp2_with fail
    refine (HMO.out _).mono ?_
    rintro e2 w2 ⟨r1, rfl, rl1, rn1, rk1, hb2⟩
    replace HW := Lib.hid (HW.out.later hb2)
    have HK := Lib.hid fun w => rMade_any 0 r1 w (by decide) rl1 (by decide) rn1
    rw [rk1, ky_zero] at HK
    clear hb2 rl1 rn1 rk1 c0 c1 q0 q1 q2 q3
    obtain ⟨⟨c0, c1⟩, q0, q1, q2, q3⟩ := HW.out.cells
    generalize kb 0 = L at *
    generalize kb MX = H at *
    go_wp2_with fail
    refine (HK.out _).mono ?_
    rintro e3 w3 ⟨rfl, hb3⟩
    replace HW := Lib.hid (HW.out.later hb3)
    clear hb3 c0 c1 q0 q1 q2 q3
    obtain ⟨⟨c0, c1⟩, q0, q1, q2, q3⟩ := HW.out.cells
    go_wp2
    refine bodyPost_ret (v := .agg #[.float .f64 L, .float .f64 H]) (by simp [results, Tryz.results23, go_sem, q0, q1]) rfl ⟨rfl, HW.out.stored _ _⟩
theorem sgn_low {x y : Nat} (hx : W64 x) (hy : W64 y) (nx : nanB x = false) (ny : nanB y = false) (h1 : ky x < kInf) (h2 : ky y < kInf) (fx : finB x = false) (fy : finB y = false) : sgnB x = sgnB y := by
 have k1 := inf_place hx nx fx
 have k2 := inf_place hy ny fy
 have hi : -(kInf : Int) < kInf := by decide
 cases e1 : sgnB x <;> cases e2 : sgnB y <;> rw [e1] at k1 <;> rw [e2] at k2 <;> simp at k1 k2 <;> first | rfl | omega
theorem sgn_high {x y : Nat} (hx : W64 x) (hy : W64 y) (nx : nanB x = false) (ny : nanB y = false) (h1 : -(kInf : Int) < ky x) (h2 : -(kInf : Int) < ky y) (fx : finB x = false) (fy : finB y = false) : sgnB x = sgnB y := by
 have k1 := inf_place hx nx fx
 have k2 := inf_place hy ny fy
 have hi : -(kInf : Int) < kInf := by decide
 cases e1 : sgnB x <;> cases e2 : sgnB y <;> rw [e1] at k1 <;> rw [e2] at k2 <;> simp at k1 k2 <;> first | rfl | omega
set_option maxRecDepth 100000 in
set_option maxHeartbeats 3200000 in
theorem rAdd_iv (l h m k : Nat) (w : World) (hl : W64 l) (hh : W64 h) (hm : W64 m) (hk : W64 k) :
  Calls Tryz.prog 25 #[.agg #[.float .f64 l, .float .f64 h], .agg #[.float .f64 m, .float .f64 k]] w (Gives (.agg #[.float .f64 (ivL (addK (ivK l h) (ivK m k))), .float .f64 (ivH (addK (ivK l h) (ivK m k)))]) w) := by
 have HFA := Lib.hid fun w => rFull_any l h w hl hh
 have HFB := Lib.hid fun w => rFull_any m k w hm hk
 have HE := Lib.hid fun w => rEmpty_any w
 have HD := Lib.hid fun W => cDouble_any W
 have HW := Lib.hid (I3.new w l h m k)
 rcases e1 : ivK l h with _ | p
 ·rw [e1, Option.isSome_none] at HFA
  rw [show ivL (addK none (ivK m k)) = 9218868437227405312 from rfl, show ivH (addK none (ivK m k)) = 18442240474082181120 from rfl]
  clear e1 HFB
  go_enter Tryz.func25, Tryz.ntmps25
  obtain ⟨⟨⟨c0, c1⟩, c2, c3⟩, q0, q1, q2, q3⟩ := HW.out.cells
  go_wp2_with fail
  refine (HFA.out _).mono ?_
  rintro e1 w1 ⟨rfl, hb1⟩
  replace HW := Lib.hid (HW.out.later hb1)
  clear hb1 c0 c1 c2 c3 q0 q1 q2 q3
  obtain ⟨⟨⟨c0, c1⟩, c2, c3⟩, q0, q1, q2, q3⟩ := HW.out.cells
  go_wp2_with fail
  refine (HE.out _).mono ?_
  rintro e2 w2 ⟨rfl, hb2⟩
  replace HW := Lib.hid (HW.out.later hb2)
  clear hb2 c0 c1 c2 c3 q0 q1 q2 q3
  obtain ⟨⟨⟨c0, c1⟩, c2, c3⟩, q0, q1, q2, q3⟩ := HW.out.cells
  go_wp2
  refine bodyPost_ret (v := .agg #[.float .f64 9218868437227405312, .float .f64 18442240474082181120]) (by simp [results, Tryz.results25, go_sem, q0, q1]) rfl ⟨rfl, HW.out.stored _ _⟩
 rw [e1, Option.isSome_some] at HFA
 rcases e2 : ivK m k with _ | q
 ·rw [e2, Option.isSome_none] at HFB
  rw [show ivL (addK (some p) none) = 9218868437227405312 from rfl, show ivH (addK (some p) none) = 18442240474082181120 from rfl]
  clear e1 e2
  go_enter Tryz.func25, Tryz.ntmps25
  obtain ⟨⟨⟨c0, c1⟩, c2, c3⟩, q0, q1, q2, q3⟩ := HW.out.cells
  go_wp2_with fail
  refine (HFA.out _).mono ?_
  rintro e1 w1 ⟨rfl, hb1⟩
  replace HW := Lib.hid (HW.out.later hb1)
  clear hb1 c0 c1 c2 c3 q0 q1 q2 q3
  obtain ⟨⟨⟨c0, c1⟩, c2, c3⟩, q0, q1, q2, q3⟩ := HW.out.cells
  go_wp2_with fail
  refine (HFB.out _).mono ?_
  rintro e2 w2 ⟨rfl, hb2⟩
  replace HW := Lib.hid (HW.out.later hb2)
  clear hb2 c0 c1 c2 c3 q0 q1 q2 q3
  obtain ⟨⟨⟨c0, c1⟩, c2, c3⟩, q0, q1, q2, q3⟩ := HW.out.cells
  go_wp2_with fail
  refine (HE.out _).mono ?_
  rintro e3 w3 ⟨rfl, hb3⟩
  replace HW := Lib.hid (HW.out.later hb3)
  clear hb3 c0 c1 c2 c3 q0 q1 q2 q3
  obtain ⟨⟨⟨c0, c1⟩, c2, c3⟩, q0, q1, q2, q3⟩ := HW.out.cells
  go_wp2
  refine bodyPost_ret (v := .agg #[.float .f64 9218868437227405312, .float .f64 18442240474082181120]) (by simp [results, Tryz.results25, go_sem, q0, q1]) rfl ⟨rfl, HW.out.stored _ _⟩
 rw [e2, Option.isSome_some] at HFB
 have a1 := ivK_ok hl hh
 have a2 := ivK_ok hm hk
 rw [e1] at a1
 rw [e2] at a2
 obtain ⟨nl, nh, rfl⟩ := ivK_some e1
 obtain ⟨nm, nk, rfl⟩ := ivK_some e2
 have b1 := a1 _ _ rfl
 have b2 := a2 _ _ rfl
 clear a1 a2
 rw [show ivL (addK (some (ky l, ky h)) (some (ky m, ky k))) = kb (suK (kb (ky l)) (kb (ky m)) 4) from rfl, show ivH (addK (some (ky l, ky h)) (some (ky m, ky k))) = kb (suK (kb (ky h)) (kb (ky k)) 3) from rfl, suK_kb, suK_kb]
 have HN1 := Lib.hid fun W => cnum_any l W hl nl
 have HN2 := Lib.hid fun W => cnum_any m W hm nm
 have HN3 := Lib.hid fun W => cnum_any h W hh nh
 have HN4 := Lib.hid fun W => cnum_any k W hk nk
 have HNB := Lib.hid fun R fl W => cnumber_any R fl W
 have HA1 := Lib.hid fun p q W h1 h2 => cAdd_any l m p q 4 W hl hm nl nm (sgn_low hl hm nl nm b1.2.2.2.1 b2.2.2.2.1) (.inr rfl) h1 h2
 have HA2 := Lib.hid fun p q W h1 h2 => cAdd_any h k p q 3 W hh hk nh nk (sgn_high hh hk nh nk b1.2.2.2.2 b2.2.2.2.2) (.inl rfl) h1 h2
 generalize suK l m 4 = K1 at *
 generalize suK h k 3 = K2 at *
 clear e1 e2 nl nh nm nk hl hh hm hk HE b1 b2
 generalize sgnB l = sgl at *
 generalize mntB l = mtl at *
 generalize xpnB l = xpl at *
 generalize kndB l = kdl at *
 generalize sgnB m = sgm at *
 generalize mntB m = mtm at *
 generalize xpnB m = xpm at *
 generalize kndB m = kdm at *
 generalize sgnB h = sgh at *
 generalize mntB h = mth at *
 generalize xpnB h = xph at *
 generalize kndB h = kdh at *
 generalize sgnB k = sgk at *
 generalize mntB k = mtk at *
 generalize xpnB k = xpk at *
 generalize kndB k = kdk at *
 unfold NumNew AnsK at *
 unfold NumV fmtV at *
 go_enter Tryz.func25, Tryz.ntmps25
 obtain ⟨⟨⟨c0, c1⟩, c2, c3⟩, q0, q1, q2, q3⟩ := HW.out.cells
 go_wp2_with fail
 refine (HFA.out _).mono ?_
 rintro e1 w1 ⟨rfl, hb1⟩
 replace HW := Lib.hid (HW.out.later hb1)
 clear hb1 c0 c1 c2 c3 q0 q1 q2 q3
 obtain ⟨⟨⟨c0, c1⟩, c2, c3⟩, q0, q1, q2, q3⟩ := HW.out.cells
 go_wp2_with fail
 refine (HFB.out _).mono ?_
 rintro e2 w2 ⟨rfl, hb2⟩
 replace HW := Lib.hid (HW.out.later hb2)
 clear hb2 c0 c1 c2 c3 q0 q1 q2 q3
 obtain ⟨⟨⟨c0, c1⟩, c2, c3⟩, q0, q1, q2, q3⟩ := HW.out.cells
 go_wp2_with fail
 refine (HD.out _).mono ?_
 rintro e8 w8 ⟨rfl, hb8⟩
 replace HW := Lib.hid (HW.out.later hb8)
 clear hb8 c0 c1 c2 c3 q0 q1 q2 q3
 go_upto_region 4 with fail
 have HB := Lib.hid ((Bks.nil w8).alloc #[.int .i64 53, .int .i64 (-1022), .int .i64 1023, .int .i64 11] 81)
 replace HW := Lib.hid (HW.out.later HB.out.2)
 have HC := Lib.hid (HB.out.get (.head _))
 clear HB
 generalize World.alloc w8 _ = W8 at HW HC ⊢
 generalize w8.heap.size = cb at *
 refine wp_region_pl (fun w' : World => (w'.cell? ⟨cb, 0, none⟩ = some (.int .i64 53) ∧ w'.cell? ⟨cb, 1, none⟩ = some (.int .i64 (-1022)) ∧ w'.cell? ⟨cb, 2, none⟩ = some (.int .i64 1023) ∧ w'.cell? ⟨cb, 3, none⟩ = some (.int .i64 11)) ∧ (w'.cell? ⟨w.heap.size, 0, none⟩ = some (.float .f64 l) ∧ w'.cell? ⟨w.heap.size, 1, none⟩ = some (.float .f64 h)) ∧ w'.cell? ⟨w.heap.size + 1, 0, none⟩ = some (.float .f64 m) ∧ w'.cell? ⟨w.heap.size + 1, 1, none⟩ = some (.float .f64 k)) 21 (.take 0 (.take 1 (.take 2 (.take 4 (.take 5 (.take 11 (.take 12 (.take 13 (.take 15 (.take 16 (.run 3 (.run 6 (.run 7 (.take 8 (.take 9 (.run 10 (.run 14 (.run 17 (.run 18 (.take 19 (.take 20 (.nil)))))))))))))))))))))) (by kernel_rfl) (by kernel_rfl) ?_
 replace HW := Lib.hid (HW.out.later (drew_below _))
 replace HC := Lib.hid (HC.out.below (drew_below _))
 generalize World.drew _ = W4 at HW HC ⊢
 repeat (refine tkL (v := ?_) rfl rfl rfl (fun w' hSw => ?_) (⟨HC.out.cells4.1, HW.out.cells.1⟩) ?_; rotate_left; (focus (go_simp; with_reducible rfl)); simp only [setL])
 refine wpPl_goL rfl rfl fun K' hK => ?_
 go_simp
 refine (HN1.out _).mono ?_
 rintro e1 W4v1 ⟨q1, rfl, -, hq1, hb1⟩
 replace HW := Lib.hid (HW.out.later hb1)
 replace HC := Lib.hid (HC.out.below hb1)
 have HQ1 := Lib.hid hq1
 clear hq1
 refine hK _ _ ⟨HC.out.cells4.1, HW.out.cells.1⟩ ?_
 clear hK K' hb1
 try simp only [Act.put, setL]
 repeat (refine tkL (v := ?_) rfl rfl rfl (fun w' hSw => ?_) (⟨HC.out.cells4.1, HW.out.cells.1⟩) ?_; rotate_left; (focus (go_simp; with_reducible rfl)); simp only [setL])
 refine wpPl_goL rfl rfl fun K' hK => ?_
 go_simp
 refine (HN2.out _).mono ?_
 rintro e1 W4v2 ⟨q2, rfl, -, hq2, hb1⟩
 replace HW := Lib.hid (HW.out.later hb1)
 replace HC := Lib.hid (HC.out.below hb1)
 have HQ2 := Lib.hid hq2
 clear hq2
 replace HQ1 := Lib.hid (HQ1.out.below hb1)
 refine hK _ _ ⟨HC.out.cells4.1, HW.out.cells.1⟩ ?_
 clear hK K' hb1
 try simp only [Act.put, setL]
 repeat (refine tkL (v := ?_) rfl rfl rfl (fun w' hSw => ?_) (⟨HC.out.cells4.1, HW.out.cells.1⟩) ?_; rotate_left; (focus (go_simp; with_reducible rfl)); simp only [setL])
 refine wpPl_goL rfl rfl fun K' hK => ?_
 go_simp
 refine (HA1.out q1 q2 _ HQ1.out HQ2.out).mono ?_
 rintro e1 W4v3 ⟨R1, fl1, rfl, a1, a2, a3, hb1⟩
 replace HW := Lib.hid (HW.out.later hb1)
 replace HC := Lib.hid (HC.out.below hb1)
 have HJ1 := Lib.hid (And.intro a1 (And.intro a2 a3))
 clear a1 a2 a3
 clear HQ1 HQ2
 refine hK _ _ ⟨HC.out.cells4.1, HW.out.cells.1⟩ ?_
 clear hK K' hb1
 try simp only [Act.put, setL]
 repeat (refine tkL (v := ?_) rfl rfl rfl (fun w' hSw => ?_) (⟨HC.out.cells4.1, HW.out.cells.1⟩) ?_; rotate_left; (focus (go_simp; with_reducible rfl)); simp only [setL])
 refine wpPl_goL rfl rfl fun K' hK => ?_
 go_simp
 refine (HNB.out R1 fl1 _).mono ?_
 rintro e1 W4v4 ⟨rfl, hb1⟩
 replace HW := Lib.hid (HW.out.later hb1)
 replace HC := Lib.hid (HC.out.below hb1)
 refine hK _ _ ⟨HC.out.cells4.1, HW.out.cells.1⟩ ?_
 clear hK K' hb1
 try simp only [Act.put, setL]
 repeat (refine tkL (v := ?_) rfl rfl rfl (fun w' hSw => ?_) (⟨HC.out.cells4.1, HW.out.cells.1⟩) ?_; rotate_left; (focus (go_simp; with_reducible rfl)); simp only [setL])
 refine wpPl_goL rfl rfl fun K' hK => ?_
 go_simp
 refine (HN3.out _).mono ?_
 rintro e1 W4v5 ⟨q3, rfl, -, hq3, hb1⟩
 replace HW := Lib.hid (HW.out.later hb1)
 replace HC := Lib.hid (HC.out.below hb1)
 have HQ3 := Lib.hid hq3
 clear hq3
 refine hK _ _ ⟨HC.out.cells4.1, HW.out.cells.1⟩ ?_
 clear hK K' hb1
 try simp only [Act.put, setL]
 repeat (refine tkL (v := ?_) rfl rfl rfl (fun w' hSw => ?_) (⟨HC.out.cells4.1, HW.out.cells.1⟩) ?_; rotate_left; (focus (go_simp; with_reducible rfl)); simp only [setL])
 refine wpPl_goL rfl rfl fun K' hK => ?_
 go_simp
 refine (HN4.out _).mono ?_
 rintro e1 W4v6 ⟨q4, rfl, -, hq4, hb1⟩
 replace HW := Lib.hid (HW.out.later hb1)
 replace HC := Lib.hid (HC.out.below hb1)
 have HQ4 := Lib.hid hq4
 clear hq4
 replace HQ3 := Lib.hid (HQ3.out.below hb1)
 refine hK _ _ ⟨HC.out.cells4.1, HW.out.cells.1⟩ ?_
 clear hK K' hb1
 try simp only [Act.put, setL]
 repeat (refine tkL (v := ?_) rfl rfl rfl (fun w' hSw => ?_) (⟨HC.out.cells4.1, HW.out.cells.1⟩) ?_; rotate_left; (focus (go_simp; with_reducible rfl)); simp only [setL])
 refine wpPl_goL rfl rfl fun K' hK => ?_
 go_simp
 refine (HA2.out q3 q4 _ HQ3.out HQ4.out).mono ?_
 rintro e1 W4v7 ⟨R2, fl2, rfl, a1, a2, a3, hb1⟩
 replace HW := Lib.hid (HW.out.later hb1)
 replace HC := Lib.hid (HC.out.below hb1)
 have HJ2 := Lib.hid (And.intro a1 (And.intro a2 a3))
 clear a1 a2 a3
 clear HQ3 HQ4
 refine hK _ _ ⟨HC.out.cells4.1, HW.out.cells.1⟩ ?_
 clear hK K' hb1
 try simp only [Act.put, setL]
 repeat (refine tkL (v := ?_) rfl rfl rfl (fun w' hSw => ?_) (⟨HC.out.cells4.1, HW.out.cells.1⟩) ?_; rotate_left; (focus (go_simp; with_reducible rfl)); simp only [setL])
 refine wpPl_nil ?_
 simp only [drL]
 obtain ⟨⟨⟨c0, c1⟩, c2, c3⟩, q0, q1, q2, q3⟩ := HW.out.cells
 go_wp2_with fail
 refine (HNB.out R2 fl2 _).mono ?_
 rintro e9 w9 ⟨rfl, hb9⟩
 replace HW := Lib.hid (HW.out.later hb9)
 clear hb9 c0 c1 c2 c3 q0 q1 q2 q3
 obtain ⟨⟨⟨c0, c1⟩, c2, c3⟩, q0, q1, q2, q3⟩ := HW.out.cells
 have HMK := Lib.hid fun W => rMade_any R1 R2 W HJ1.out.1 HJ2.out.1 HJ1.out.2.1 HJ2.out.2.1
 rw [HJ1.out.2.2, HJ2.out.2.2] at HMK
 generalize kb K1 = L at *
 generalize kb K2 = H at *
 clear HJ1 HJ2
 go_wp2_with fail
 refine (HMK.out _).mono ?_
 rintro e10 w10 ⟨rfl, hb10⟩
 replace HW := Lib.hid (HW.out.later hb10)
 clear hb10 c0 c1 c2 c3 q0 q1 q2 q3
 obtain ⟨⟨⟨c0, c1⟩, c2, c3⟩, q0, q1, q2, q3⟩ := HW.out.cells
 go_wp2
 refine bodyPost_ret (v := .agg #[.float .f64 L, .float .f64 H]) (by simp [results, Tryz.results25, go_sem, q0, q1]) rfl ⟨rfl, HW.out.stored _ _⟩
set_option maxRecDepth 100000 in
set_option maxHeartbeats 1600000 in
theorem rTimes_iv (x y : Nat) (mode : Int) (w : World) (hx : W64 x) (hy : W64 y) (nx : nanB x = false) (ny : nanB y = false) (hmode : mode = 3 ∨ mode = 4) : Calls Tryz.prog 73 #[.float .f64 x, .float .f64 y, .int .i64 mode] w (GivesK (prK x y mode) w) := by
 have t1 := eq_test hx (by decide : W64 0) nx (by decide)
 have t2 := eq_test hy (by decide : W64 0) ny (by decide)
 rw [ky_zero] at t1 t2
 have HB := Lib.hid (Below.refl w.heap.size w)
 by_cases x0 : ky x = 0
 ·rw [prK_zero mode (.inl x0)]
  rw [decide_eq_true x0] at t1
  clear hx hy nx ny hmode x0 t2
  go_enter Tryz.func73, Tryz.ntmps73
  go_wp2
  go_ret
  exact ⟨0, rfl, by decide, by decide, by decide, HB.out⟩
 rw [decide_eq_false x0] at t1
 by_cases y0 : ky y = 0
 ·rw [prK_zero mode (.inr y0)]
  rw [decide_eq_true y0] at t2
  clear hx hy nx ny hmode x0 y0
  go_enter Tryz.func73, Tryz.ntmps73
  go_wp2
  go_ret
  exact ⟨0, rfl, by decide, by decide, by decide, HB.out⟩
 rw [decide_eq_false y0] at t2
 have HD := Lib.hid fun W => cDouble_any W
 have HN1 := Lib.hid fun W => cnum_any x W hx nx
 have HN2 := Lib.hid fun W => cnum_any y W hy ny
 have HNB := Lib.hid fun R fl W => cnumber_any R fl W
 have HM := Lib.hid fun p q W h1 h2 => cMul_any x y p q mode W hx hy x0 y0 hmode h1 h2
 generalize prK x y mode = KK at *
 clear hx hy nx ny hmode x0 y0
 generalize sgnB x = sgx at *
 generalize mntB x = mtx at *
 generalize xpnB x = xpx at *
 generalize kndB x = kdx at *
 generalize sgnB y = sgy at *
 generalize mntB y = mty at *
 generalize xpnB y = xpy at *
 generalize kndB y = kdy at *
 unfold NumNew AnsK at *
 unfold NumV fmtV at *
 go_enter Tryz.func73, Tryz.ntmps73
 go_wp2_with fail
 refine (HD.out _).mono ?_
 rintro e2 w2 ⟨rfl, hb2⟩
 replace HB := Lib.hid (HB.out.trans (hb2.mono HB.out.size))
 clear hb2
 go_wp2_with fail
 refine (HN1.out _).mono ?_
 rintro e3 w3 ⟨q1, rfl, -, hq1, hb3⟩
 replace HB := Lib.hid (HB.out.trans (hb3.mono HB.out.size))
 have HQ1 := Lib.hid hq1
 clear hq1
 clear hb3
 go_wp2_with fail
 refine (HN2.out _).mono ?_
 rintro e4 w4 ⟨q2, rfl, -, hq2, hb4⟩
 replace HB := Lib.hid (HB.out.trans (hb4.mono HB.out.size))
 have HQ2 := Lib.hid hq2
 clear hq2
 replace HQ1 := Lib.hid (HQ1.out.below hb4)
 clear hb4
 go_wp2_with fail
 refine (HM.out q1 q2 _ HQ1.out HQ2.out).mono ?_
 rintro e5 w5 ⟨R, fl, rfl, a1, a2, a3, hb5⟩
 replace HB := Lib.hid (HB.out.trans (hb5.mono HB.out.size))
 have HJ := Lib.hid (And.intro a1 (And.intro a2 a3))
 clear a1 a2 a3
 clear hb5
 go_wp2_with fail
 refine (HNB.out R fl _).mono ?_
 rintro e6 w6 ⟨rfl, hb6⟩
 replace HB := Lib.hid (HB.out.trans (hb6.mono HB.out.size))
 clear hb6
 go_wp2
 go_ret
 exact ⟨R, rfl, HJ.out.1, HJ.out.2.1, HJ.out.2.2, HB.out⟩
end
end Go.Proofs.YtloohbkceppocaaGreatDoor
