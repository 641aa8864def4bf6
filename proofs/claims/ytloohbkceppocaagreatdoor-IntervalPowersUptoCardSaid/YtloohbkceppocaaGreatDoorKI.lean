/- Walks: the references' intervals: Mul, above. Printed by wip/gen/cx8.py. -/
import Derived.Test.YtloohbkceppocaaGreatDoorKH
import Derived.Deep.CutBlock
namespace Go.Proofs.YtloohbkceppocaaGreatDoor
open Go.RowKit
attribute [local go_sem] run_store_f
def loQ (P : Nat → Int → Int) : Nat → Int
 | 0 => kInf
 | i + 1 => min (loQ P i) (P i 4)
def hiQ (P : Nat → Int → Int) : Nat → Int
 | 0 => -(kInf : Int)
 | i + 1 => max (hiQ P i) (P i 3)
def endQ (l h m k : Nat) (i : Nat) (mode : Int) : Int := prK (if i < 2 then l else h) (if i % 2 = 0 then m else k) mode
theorem BlkT.cells2f {w : World} {b t : Nat} {x y : Value} (h : BlkT w b t #[x, y]) : (w.cell? ⟨b, 0, none⟩ = some x ∧ w.cell? ⟨b, 1, none⟩ = some y) ∧ w.frozen? ⟨b, 0, none⟩ = false ∧ w.frozen? ⟨b, 1, none⟩ = false :=
 ⟨⟨h.cell 0, h.cell 1⟩, h.frozen 0, h.frozen 1⟩
set_option maxRecDepth 100000 in
set_option maxHeartbeats 6400000 in
theorem rMul_iv (l h m k : Nat) (w : World) (hl : W64 l) (hh : W64 h) (hm : W64 m) (hk : W64 k) :
  Calls Tryz.prog 29 #[.agg #[.float .f64 l, .float .f64 h], .agg #[.float .f64 m, .float .f64 k]] w (Gives (.agg #[.float .f64 (ivL (mulK (ivK l h) (ivK m k))), .float .f64 (ivH (mulK (ivK l h) (ivK m k)))]) w) := by
 have HFA := Lib.hid fun w => rFull_any l h w hl hh
 have HFB := Lib.hid fun w => rFull_any m k w hm hk
 have HE := Lib.hid fun w => rEmpty_any w
 have HIP := Lib.hid fun w => inf_any w
 have HIN := Lib.hid fun w => infNeg_any w
 have HW := Lib.hid (I3.new w l h m k)
 rcases e1 : ivK l h with _ | p
 ·rw [e1, Option.isSome_none] at HFA
  rw [show ivL (mulK none (ivK m k)) = 9218868437227405312 from rfl, show ivH (mulK none (ivK m k)) = 18442240474082181120 from rfl]
  clear e1 HFB
  go_enter Tryz.func29, Tryz.ntmps29
  obtain ⟨⟨⟨c0, c1⟩, c2, c3⟩, q0, q1, q2, q3⟩ := HW.out.cells
  go_wp2_with fail
  refine (HFA.out _).mono ?_
  rintro e1 w1 ⟨rfl, hb1⟩
  replace HW := Lib.hid (HW.out.later hb1)
  clear hb1 c0 c1 c2 c3 q0 q1 q2 q3
  obtain ⟨⟨⟨c0, c1⟩, c2, c3⟩, q0, q1, q2, q3⟩ := HW.out.cells
  go_wp2_with fail
  refine (HE.out _).mono ?_
  rintro e2 w2 ⟨rfl, hb2⟩
  replace HW := Lib.hid (HW.out.later hb2)
  clear hb2 c0 c1 c2 c3 q0 q1 q2 q3
  obtain ⟨⟨⟨c0, c1⟩, c2, c3⟩, q0, q1, q2, q3⟩ := HW.out.cells
  go_wp2
  refine bodyPost_ret (v := .agg #[.float .f64 9218868437227405312, .float .f64 18442240474082181120]) (by simp [results, Tryz.results29, go_sem, q0, q1]) rfl ⟨rfl, HW.out.stored _ _⟩
 rw [e1, Option.isSome_some] at HFA
 rcases e2 : ivK m k with _ | q
 ·rw [e2, Option.isSome_none] at HFB
  rw [show ivL (mulK (some p) none) = 9218868437227405312 from rfl, show ivH (mulK (some p) none) = 18442240474082181120 from rfl]
  clear e1 e2
  go_enter Tryz.func29, Tryz.ntmps29
  obtain ⟨⟨⟨c0, c1⟩, c2, c3⟩, q0, q1, q2, q3⟩ := HW.out.cells
  go_wp2_with fail
  refine (HFA.out _).mono ?_
  rintro e1 w1 ⟨rfl, hb1⟩
  replace HW := Lib.hid (HW.out.later hb1)
  clear hb1 c0 c1 c2 c3 q0 q1 q2 q3
  obtain ⟨⟨⟨c0, c1⟩, c2, c3⟩, q0, q1, q2, q3⟩ := HW.out.cells
  go_wp2_with fail
  refine (HFB.out _).mono ?_
  rintro e2 w2 ⟨rfl, hb2⟩
  replace HW := Lib.hid (HW.out.later hb2)
  clear hb2 c0 c1 c2 c3 q0 q1 q2 q3
  obtain ⟨⟨⟨c0, c1⟩, c2, c3⟩, q0, q1, q2, q3⟩ := HW.out.cells
  go_wp2_with fail
  refine (HE.out _).mono ?_
  rintro e3 w3 ⟨rfl, hb3⟩
  replace HW := Lib.hid (HW.out.later hb3)
  clear hb3 c0 c1 c2 c3 q0 q1 q2 q3
  obtain ⟨⟨⟨c0, c1⟩, c2, c3⟩, q0, q1, q2, q3⟩ := HW.out.cells
  go_wp2
  refine bodyPost_ret (v := .agg #[.float .f64 9218868437227405312, .float .f64 18442240474082181120]) (by simp [results, Tryz.results29, go_sem, q0, q1]) rfl ⟨rfl, HW.out.stored _ _⟩
 rw [e2, Option.isSome_some] at HFB
 have a1 := ivK_ok hl hh
 have a2 := ivK_ok hm hk
 rw [e1] at a1
 rw [e2] at a2
 obtain ⟨nl, nh, rfl⟩ := ivK_some e1
 obtain ⟨nm, nk, rfl⟩ := ivK_some e2
 have b1 := a1 _ _ rfl
 have b2 := a2 _ _ rfl
 clear a1 a2
 have hL : ivL (mulK (some (ky l, ky h)) (some (ky m, ky k))) = kb (loQ (endQ l h m k) 4) := by
  show kb (min (min (min (min (kInf : Int) (prK (kb (ky l)) (kb (ky m)) 4)) (prK (kb (ky l)) (kb (ky k)) 4)) (prK (kb (ky h)) (kb (ky m)) 4)) (prK (kb (ky h)) (kb (ky k)) 4)) = _
  rw [prK_kb, prK_kb, prK_kb, prK_kb]; rfl
 have hH : ivH (mulK (some (ky l, ky h)) (some (ky m, ky k))) = kb (hiQ (endQ l h m k) 4) := by
  show kb (max (max (max (max (-(kInf : Int)) (prK (kb (ky l)) (kb (ky m)) 3)) (prK (kb (ky l)) (kb (ky k)) 3)) (prK (kb (ky h)) (kb (ky m)) 3)) (prK (kb (ky h)) (kb (ky k)) 3)) = _
  rw [prK_kb, prK_kb, prK_kb, prK_kb]; rfl
 rw [hL, hH]
 have HP04 := Lib.hid fun W => (show Calls Tryz.prog 73 #[.float .f64 l, .float .f64 m, .int .i64 4] W (GivesK (endQ l h m k 0 4) W) from rTimes_iv l m 4 W hl hm nl nm (.inr rfl))
 have HP03 := Lib.hid fun W => (show Calls Tryz.prog 73 #[.float .f64 l, .float .f64 m, .int .i64 3] W (GivesK (endQ l h m k 0 3) W) from rTimes_iv l m 3 W hl hm nl nm (.inl rfl))
 have HP14 := Lib.hid fun W => (show Calls Tryz.prog 73 #[.float .f64 l, .float .f64 k, .int .i64 4] W (GivesK (endQ l h m k 1 4) W) from rTimes_iv l k 4 W hl hk nl nk (.inr rfl))
 have HP13 := Lib.hid fun W => (show Calls Tryz.prog 73 #[.float .f64 l, .float .f64 k, .int .i64 3] W (GivesK (endQ l h m k 1 3) W) from rTimes_iv l k 3 W hl hk nl nk (.inl rfl))
 have HP24 := Lib.hid fun W => (show Calls Tryz.prog 73 #[.float .f64 h, .float .f64 m, .int .i64 4] W (GivesK (endQ l h m k 2 4) W) from rTimes_iv h m 4 W hh hm nh nm (.inr rfl))
 have HP23 := Lib.hid fun W => (show Calls Tryz.prog 73 #[.float .f64 h, .float .f64 m, .int .i64 3] W (GivesK (endQ l h m k 2 3) W) from rTimes_iv h m 3 W hh hm nh nm (.inl rfl))
 have HP34 := Lib.hid fun W => (show Calls Tryz.prog 73 #[.float .f64 h, .float .f64 k, .int .i64 4] W (GivesK (endQ l h m k 3 4) W) from rTimes_iv h k 4 W hh hk nh nk (.inr rfl))
 have HP33 := Lib.hid fun W => (show Calls Tryz.prog 73 #[.float .f64 h, .float .f64 k, .int .i64 3] W (GivesK (endQ l h m k 3 3) W) from rTimes_iv h k 3 W hh hk nh nk (.inl rfl))
 obtain ⟨L, hLL⟩ : ∃ L, kb (loQ (endQ l h m k) 4) = L := ⟨_, rfl⟩
 obtain ⟨H, hHH⟩ : ∃ H, kb (hiQ (endQ l h m k) 4) = H := ⟨_, rfl⟩
 rw [hLL, hHH]
 have HLH := Lib.hid (And.intro hLL hHH)
 clear hL hH hLL hHH e1 e2 nl nh nm nk hl hh hm hk HE b1 b2
 generalize endQ l h m k = P0 at *
 go_enter Tryz.func29, Tryz.ntmps29
 obtain ⟨⟨⟨c0, c1⟩, c2, c3⟩, q0, q1, q2, q3⟩ := HW.out.cells
 go_wp2_with fail
 refine (HFA.out _).mono ?_
 rintro e1 w1 ⟨rfl, hb1⟩
 replace HW := Lib.hid (HW.out.later hb1)
 clear hb1 c0 c1 c2 c3 q0 q1 q2 q3
 obtain ⟨⟨⟨c0, c1⟩, c2, c3⟩, q0, q1, q2, q3⟩ := HW.out.cells
 go_wp2_with fail
 refine (HFB.out _).mono ?_
 rintro e2 w2 ⟨rfl, hb2⟩
 replace HW := Lib.hid (HW.out.later hb2)
 clear hb2 c0 c1 c2 c3 q0 q1 q2 q3
 obtain ⟨⟨⟨c0, c1⟩, c2, c3⟩, q0, q1, q2, q3⟩ := HW.out.cells
 clear HFA HFB
 obtain ⟨⟨⟨u0, u1⟩, u2, u3⟩, u4, u5, u6, u7⟩ := (HW.out.later (Below.alloc_self w2 (.cells #[.float .f64 l, .float .f64 l, .float .f64 h, .float .f64 h] 91))).cells
 go_upto_region 5 with fail
 clear c0 c1 c2 c3 q0 q1 q2 q3 u0 u1 u2 u3 u4 u5 u6 u7
 have HB := Lib.hid (Bks.new2 w2 91 #[.float .f64 l, .float .f64 l, .float .f64 h, .float .f64 h] #[.float .f64 m, .float .f64 k, .float .f64 m, .float .f64 k])
 replace HW := Lib.hid (HW.out.later HB.out.2)
 have H5 := Lib.hid (HB.out.get (.head _))
 have H6 := Lib.hid (HB.out.get (.tail _ (.head _)))
 clear HB
 generalize World.alloc (World.alloc w2 _) _ = W2 at HW H5 H6 ⊢
 generalize w2.heap.size + 1 = b6 at *
 generalize w2.heap.size = b5 at *
 go_wp2_with fail
 refine (HIP.out _).mono ?_
 rintro e3 w3 ⟨rfl, hb3⟩
 replace HW := Lib.hid (HW.out.later hb3)
 replace H5 := Lib.hid (H5.out.below hb3)
 replace H6 := Lib.hid (H6.out.below hb3)
 clear hb3
 go_wp2_with fail
 refine (HIN.out _).mono ?_
 rintro e4 w4 ⟨rfl, hb4⟩
 replace HW := Lib.hid (HW.out.later hb4)
 replace H5 := Lib.hid (H5.out.below hb4)
 replace H6 := Lib.hid (H6.out.below hb4)
 clear hb4
 clear HIP HIN
 go_wp2
 go_loopw [7, 8, 9] (fun lo hi i wr => ∃ (j : Int) (a b : Nat), (0 ≤ j ∧ j ≤ 4) ∧ i = .int .i64 j ∧ lo = .float .f64 a ∧ hi = .float .f64 b ∧ Hid ((W64 a ∧ nanB a = false ∧ ky a = loQ P0 j.toNat) ∧ W64 b ∧ nanB b = false ∧ ky b = hiQ P0 j.toNat) ∧ Hid (I3 w wr l h m k) ∧ Hid (BlkT wr b5 91 #[.float .f64 l, .float .f64 l, .float .f64 h, .float .f64 h]) ∧ Hid (BlkT wr b6 91 #[.float .f64 m, .float .f64 k, .float .f64 m, .float .f64 k])) (fun _ _ i _ => 4 - (intOf i).toNat)
 case atStart => exact ⟨0, _, _, by omega, rfl, rfl, rfl, Lib.hid ⟨⟨by decide, by decide, show ky 9218868437227405312 = (kInf : Int) by decide⟩, by decide, by decide, show ky 18442240474082181120 = -(kInf : Int) by decide⟩, HW, H5, H6⟩
 case round =>
  clear HW H5 H6
  obtain ⟨j, a, b, hj, rfl, rfl, rfl, HAB, HW, H5, H6⟩ := hrel
  have hcase : j = 0 ∨ j = 1 ∨ j = 2 ∨ j = 3 ∨ j = 4 := by omega
  rcases hcase with rfl | rfl | rfl | rfl | rfl
  ·go_upto_region 9 with fail
   refine wp_region_pl (fun w' : World => (w'.cell? ⟨b5, 0, none⟩ = some (.float .f64 l) ∧ w'.cell? ⟨b5, 1, none⟩ = some (.float .f64 l) ∧ w'.cell? ⟨b5, 2, none⟩ = some (.float .f64 h) ∧ w'.cell? ⟨b5, 3, none⟩ = some (.float .f64 h)) ∧ w'.cell? ⟨b6, 0, none⟩ = some (.float .f64 m) ∧ w'.cell? ⟨b6, 1, none⟩ = some (.float .f64 k) ∧ w'.cell? ⟨b6, 2, none⟩ = some (.float .f64 m) ∧ w'.cell? ⟨b6, 3, none⟩ = some (.float .f64 k)) 8 (.take 0 (.take 1 (.take 2 (.take 3 (.take 4 (.take 5 (.take 6 (.run 7 (.nil))))))))) (by kernel_rfl) (by kernel_rfl) ?_
   replace HW := Lib.hid (HW.out.later (drew_below _))
   replace H5 := Lib.hid (H5.out.below (drew_below _))
   replace H6 := Lib.hid (H6.out.below (drew_below _))
   generalize World.drew _ = W9_0 at HW H5 H6 ⊢
   repeat (refine tkL (v := ?_) rfl rfl rfl (fun w' hSw => ?_) (⟨H5.out.cells4.1, H6.out.cells4.1⟩) ?_; rotate_left; (focus (go_simp; with_reducible rfl)); simp only [setL])
   refine wpPl_goL rfl rfl fun K' hK => ?_
   go_simp
   refine (HP04.out _).mono ?_
   rintro e1 W9_0v1 ⟨r0, rfl, l0, n0, k0, hb1⟩
   replace HW := Lib.hid (HW.out.later hb1)
   replace H5 := Lib.hid (H5.out.below hb1)
   replace H6 := Lib.hid (H6.out.below hb1)
   have HT0 := Lib.hid (And.intro l0 (And.intro n0 k0))
   clear l0 n0 k0
   refine hK _ _ ⟨H5.out.cells4.1, H6.out.cells4.1⟩ ?_
   clear hK K' hb1
   try simp only [Act.put, setL]
   repeat (refine tkL (v := ?_) rfl rfl rfl (fun w' hSw => ?_) (⟨H5.out.cells4.1, H6.out.cells4.1⟩) ?_; rotate_left; (focus (go_simp; with_reducible rfl)); simp only [setL])
   refine wpPl_nil ?_
   simp only [drL]
   have HM0 := Lib.hid fun W => rLeast_any a r0 W HAB.out.1.1 HT0.out.1 HAB.out.1.2.1 HT0.out.2.1
   rw [HT0.out.2.2, HAB.out.1.2.2] at HM0
   go_wp2_with fail
   refine (HM0.out _).mono ?_
   rintro e9 w9 ⟨s0, rfl, l0, n0, k0, hb9⟩
   replace HW := Lib.hid (HW.out.later hb9)
   replace H5 := Lib.hid (H5.out.below hb9)
   replace H6 := Lib.hid (H6.out.below hb9)
   have HS0 := Lib.hid (And.intro l0 (And.intro n0 k0))
   clear l0 n0 k0 hb9 HM0 HT0
   go_upto_region 10 with fail
   refine wp_region_pl (fun w' : World => (w'.cell? ⟨b5, 0, none⟩ = some (.float .f64 l) ∧ w'.cell? ⟨b5, 1, none⟩ = some (.float .f64 l) ∧ w'.cell? ⟨b5, 2, none⟩ = some (.float .f64 h) ∧ w'.cell? ⟨b5, 3, none⟩ = some (.float .f64 h)) ∧ w'.cell? ⟨b6, 0, none⟩ = some (.float .f64 m) ∧ w'.cell? ⟨b6, 1, none⟩ = some (.float .f64 k) ∧ w'.cell? ⟨b6, 2, none⟩ = some (.float .f64 m) ∧ w'.cell? ⟨b6, 3, none⟩ = some (.float .f64 k)) 8 (.take 0 (.take 1 (.take 2 (.take 3 (.take 4 (.take 5 (.take 6 (.run 7 (.nil))))))))) (by kernel_rfl) (by kernel_rfl) ?_
   replace HW := Lib.hid (HW.out.later (drew_below _))
   replace H5 := Lib.hid (H5.out.below (drew_below _))
   replace H6 := Lib.hid (H6.out.below (drew_below _))
   generalize World.drew _ = W10_0 at HW H5 H6 ⊢
   repeat (refine tkL (v := ?_) rfl rfl rfl (fun w' hSw => ?_) (⟨H5.out.cells4.1, H6.out.cells4.1⟩) ?_; rotate_left; (focus (go_simp; with_reducible rfl)); simp only [setL])
   refine wpPl_goL rfl rfl fun K' hK => ?_
   go_simp
   refine (HP03.out _).mono ?_
   rintro e1 W10_0v1 ⟨r1, rfl, l1, n1, k1, hb1⟩
   replace HW := Lib.hid (HW.out.later hb1)
   replace H5 := Lib.hid (H5.out.below hb1)
   replace H6 := Lib.hid (H6.out.below hb1)
   have HT1 := Lib.hid (And.intro l1 (And.intro n1 k1))
   clear l1 n1 k1
   refine hK _ _ ⟨H5.out.cells4.1, H6.out.cells4.1⟩ ?_
   clear hK K' hb1
   try simp only [Act.put, setL]
   repeat (refine tkL (v := ?_) rfl rfl rfl (fun w' hSw => ?_) (⟨H5.out.cells4.1, H6.out.cells4.1⟩) ?_; rotate_left; (focus (go_simp; with_reducible rfl)); simp only [setL])
   refine wpPl_nil ?_
   simp only [drL]
   have HM1 := Lib.hid fun W => rMost_any b r1 W HAB.out.2.1 HT1.out.1 HAB.out.2.2.1 HT1.out.2.1
   rw [HT1.out.2.2, HAB.out.2.2.2] at HM1
   go_wp2_with fail
   refine (HM1.out _).mono ?_
   rintro e10 w10 ⟨s1, rfl, l1, n1, k1, hb10⟩
   replace HW := Lib.hid (HW.out.later hb10)
   replace H5 := Lib.hid (H5.out.below hb10)
   replace H6 := Lib.hid (H6.out.below hb10)
   have HS1 := Lib.hid (And.intro l1 (And.intro n1 k1))
   clear l1 n1 k1 hb10 HM1 HT1
   go_wp2
   go_roundw
   case rel => exact ⟨1, s0, s1, by omega, rfl, rfl, rfl, Lib.hid ⟨HS0.out, HS1.out⟩, HW, H5, H6⟩
   case measure => simp [intOf]
  ·go_upto_region 9 with fail
   refine wp_region_pl (fun w' : World => (w'.cell? ⟨b5, 0, none⟩ = some (.float .f64 l) ∧ w'.cell? ⟨b5, 1, none⟩ = some (.float .f64 l) ∧ w'.cell? ⟨b5, 2, none⟩ = some (.float .f64 h) ∧ w'.cell? ⟨b5, 3, none⟩ = some (.float .f64 h)) ∧ w'.cell? ⟨b6, 0, none⟩ = some (.float .f64 m) ∧ w'.cell? ⟨b6, 1, none⟩ = some (.float .f64 k) ∧ w'.cell? ⟨b6, 2, none⟩ = some (.float .f64 m) ∧ w'.cell? ⟨b6, 3, none⟩ = some (.float .f64 k)) 8 (.take 0 (.take 1 (.take 2 (.take 3 (.take 4 (.take 5 (.take 6 (.run 7 (.nil))))))))) (by kernel_rfl) (by kernel_rfl) ?_
   replace HW := Lib.hid (HW.out.later (drew_below _))
   replace H5 := Lib.hid (H5.out.below (drew_below _))
   replace H6 := Lib.hid (H6.out.below (drew_below _))
   generalize World.drew _ = W9_1 at HW H5 H6 ⊢
   repeat (refine tkL (v := ?_) rfl rfl rfl (fun w' hSw => ?_) (⟨H5.out.cells4.1, H6.out.cells4.1⟩) ?_; rotate_left; (focus (go_simp; with_reducible rfl)); simp only [setL])
   refine wpPl_goL rfl rfl fun K' hK => ?_
   go_simp
   refine (HP14.out _).mono ?_
   rintro e1 W9_1v1 ⟨r0, rfl, l0, n0, k0, hb1⟩
   replace HW := Lib.hid (HW.out.later hb1)
   replace H5 := Lib.hid (H5.out.below hb1)
   replace H6 := Lib.hid (H6.out.below hb1)
   have HT0 := Lib.hid (And.intro l0 (And.intro n0 k0))
   clear l0 n0 k0
   refine hK _ _ ⟨H5.out.cells4.1, H6.out.cells4.1⟩ ?_
   clear hK K' hb1
   try simp only [Act.put, setL]
   repeat (refine tkL (v := ?_) rfl rfl rfl (fun w' hSw => ?_) (⟨H5.out.cells4.1, H6.out.cells4.1⟩) ?_; rotate_left; (focus (go_simp; with_reducible rfl)); simp only [setL])
   refine wpPl_nil ?_
   simp only [drL]
   have HM0 := Lib.hid fun W => rLeast_any a r0 W HAB.out.1.1 HT0.out.1 HAB.out.1.2.1 HT0.out.2.1
   rw [HT0.out.2.2, HAB.out.1.2.2] at HM0
   go_wp2_with fail
   refine (HM0.out _).mono ?_
   rintro e9 w9 ⟨s0, rfl, l0, n0, k0, hb9⟩
   replace HW := Lib.hid (HW.out.later hb9)
   replace H5 := Lib.hid (H5.out.below hb9)
   replace H6 := Lib.hid (H6.out.below hb9)
   have HS0 := Lib.hid (And.intro l0 (And.intro n0 k0))
   clear l0 n0 k0 hb9 HM0 HT0
   go_upto_region 10 with fail
   refine wp_region_pl (fun w' : World => (w'.cell? ⟨b5, 0, none⟩ = some (.float .f64 l) ∧ w'.cell? ⟨b5, 1, none⟩ = some (.float .f64 l) ∧ w'.cell? ⟨b5, 2, none⟩ = some (.float .f64 h) ∧ w'.cell? ⟨b5, 3, none⟩ = some (.float .f64 h)) ∧ w'.cell? ⟨b6, 0, none⟩ = some (.float .f64 m) ∧ w'.cell? ⟨b6, 1, none⟩ = some (.float .f64 k) ∧ w'.cell? ⟨b6, 2, none⟩ = some (.float .f64 m) ∧ w'.cell? ⟨b6, 3, none⟩ = some (.float .f64 k)) 8 (.take 0 (.take 1 (.take 2 (.take 3 (.take 4 (.take 5 (.take 6 (.run 7 (.nil))))))))) (by kernel_rfl) (by kernel_rfl) ?_
   replace HW := Lib.hid (HW.out.later (drew_below _))
   replace H5 := Lib.hid (H5.out.below (drew_below _))
   replace H6 := Lib.hid (H6.out.below (drew_below _))
   generalize World.drew _ = W10_1 at HW H5 H6 ⊢
   repeat (refine tkL (v := ?_) rfl rfl rfl (fun w' hSw => ?_) (⟨H5.out.cells4.1, H6.out.cells4.1⟩) ?_; rotate_left; (focus (go_simp; with_reducible rfl)); simp only [setL])
   refine wpPl_goL rfl rfl fun K' hK => ?_
   go_simp
   refine (HP13.out _).mono ?_
   rintro e1 W10_1v1 ⟨r1, rfl, l1, n1, k1, hb1⟩
   replace HW := Lib.hid (HW.out.later hb1)
   replace H5 := Lib.hid (H5.out.below hb1)
   replace H6 := Lib.hid (H6.out.below hb1)
   have HT1 := Lib.hid (And.intro l1 (And.intro n1 k1))
   clear l1 n1 k1
   refine hK _ _ ⟨H5.out.cells4.1, H6.out.cells4.1⟩ ?_
   clear hK K' hb1
   try simp only [Act.put, setL]
   repeat (refine tkL (v := ?_) rfl rfl rfl (fun w' hSw => ?_) (⟨H5.out.cells4.1, H6.out.cells4.1⟩) ?_; rotate_left; (focus (go_simp; with_reducible rfl)); simp only [setL])
   refine wpPl_nil ?_
   simp only [drL]
   have HM1 := Lib.hid fun W => rMost_any b r1 W HAB.out.2.1 HT1.out.1 HAB.out.2.2.1 HT1.out.2.1
   rw [HT1.out.2.2, HAB.out.2.2.2] at HM1
   go_wp2_with fail
   refine (HM1.out _).mono ?_
   rintro e10 w10 ⟨s1, rfl, l1, n1, k1, hb10⟩
   replace HW := Lib.hid (HW.out.later hb10)
   replace H5 := Lib.hid (H5.out.below hb10)
   replace H6 := Lib.hid (H6.out.below hb10)
   have HS1 := Lib.hid (And.intro l1 (And.intro n1 k1))
   clear l1 n1 k1 hb10 HM1 HT1
   go_wp2
   go_roundw
   case rel => exact ⟨2, s0, s1, by omega, rfl, rfl, rfl, Lib.hid ⟨HS0.out, HS1.out⟩, HW, H5, H6⟩
   case measure => simp [intOf]
  ·go_upto_region 9 with fail
   refine wp_region_pl (fun w' : World => (w'.cell? ⟨b5, 0, none⟩ = some (.float .f64 l) ∧ w'.cell? ⟨b5, 1, none⟩ = some (.float .f64 l) ∧ w'.cell? ⟨b5, 2, none⟩ = some (.float .f64 h) ∧ w'.cell? ⟨b5, 3, none⟩ = some (.float .f64 h)) ∧ w'.cell? ⟨b6, 0, none⟩ = some (.float .f64 m) ∧ w'.cell? ⟨b6, 1, none⟩ = some (.float .f64 k) ∧ w'.cell? ⟨b6, 2, none⟩ = some (.float .f64 m) ∧ w'.cell? ⟨b6, 3, none⟩ = some (.float .f64 k)) 8 (.take 0 (.take 1 (.take 2 (.take 3 (.take 4 (.take 5 (.take 6 (.run 7 (.nil))))))))) (by kernel_rfl) (by kernel_rfl) ?_
   replace HW := Lib.hid (HW.out.later (drew_below _))
   replace H5 := Lib.hid (H5.out.below (drew_below _))
   replace H6 := Lib.hid (H6.out.below (drew_below _))
   generalize World.drew _ = W9_2 at HW H5 H6 ⊢
   repeat (refine tkL (v := ?_) rfl rfl rfl (fun w' hSw => ?_) (⟨H5.out.cells4.1, H6.out.cells4.1⟩) ?_; rotate_left; (focus (go_simp; with_reducible rfl)); simp only [setL])
   refine wpPl_goL rfl rfl fun K' hK => ?_
   go_simp
   refine (HP24.out _).mono ?_
   rintro e1 W9_2v1 ⟨r0, rfl, l0, n0, k0, hb1⟩
   replace HW := Lib.hid (HW.out.later hb1)
   replace H5 := Lib.hid (H5.out.below hb1)
   replace H6 := Lib.hid (H6.out.below hb1)
   have HT0 := Lib.hid (And.intro l0 (And.intro n0 k0))
   clear l0 n0 k0
   refine hK _ _ ⟨H5.out.cells4.1, H6.out.cells4.1⟩ ?_
   clear hK K' hb1
   try simp only [Act.put, setL]
   repeat (refine tkL (v := ?_) rfl rfl rfl (fun w' hSw => ?_) (⟨H5.out.cells4.1, H6.out.cells4.1⟩) ?_; rotate_left; (focus (go_simp; with_reducible rfl)); simp only [setL])
   refine wpPl_nil ?_
   simp only [drL]
   have HM0 := Lib.hid fun W => rLeast_any a r0 W HAB.out.1.1 HT0.out.1 HAB.out.1.2.1 HT0.out.2.1
   rw [HT0.out.2.2, HAB.out.1.2.2] at HM0
   go_wp2_with fail
   refine (HM0.out _).mono ?_
   rintro e9 w9 ⟨s0, rfl, l0, n0, k0, hb9⟩
   replace HW := Lib.hid (HW.out.later hb9)
   replace H5 := Lib.hid (H5.out.below hb9)
   replace H6 := Lib.hid (H6.out.below hb9)
   have HS0 := Lib.hid (And.intro l0 (And.intro n0 k0))
   clear l0 n0 k0 hb9 HM0 HT0
   go_upto_region 10 with fail
   refine wp_region_pl (fun w' : World => (w'.cell? ⟨b5, 0, none⟩ = some (.float .f64 l) ∧ w'.cell? ⟨b5, 1, none⟩ = some (.float .f64 l) ∧ w'.cell? ⟨b5, 2, none⟩ = some (.float .f64 h) ∧ w'.cell? ⟨b5, 3, none⟩ = some (.float .f64 h)) ∧ w'.cell? ⟨b6, 0, none⟩ = some (.float .f64 m) ∧ w'.cell? ⟨b6, 1, none⟩ = some (.float .f64 k) ∧ w'.cell? ⟨b6, 2, none⟩ = some (.float .f64 m) ∧ w'.cell? ⟨b6, 3, none⟩ = some (.float .f64 k)) 8 (.take 0 (.take 1 (.take 2 (.take 3 (.take 4 (.take 5 (.take 6 (.run 7 (.nil))))))))) (by kernel_rfl) (by kernel_rfl) ?_
   replace HW := Lib.hid (HW.out.later (drew_below _))
   replace H5 := Lib.hid (H5.out.below (drew_below _))
   replace H6 := Lib.hid (H6.out.below (drew_below _))
   generalize World.drew _ = W10_2 at HW H5 H6 ⊢
   repeat (refine tkL (v := ?_) rfl rfl rfl (fun w' hSw => ?_) (⟨H5.out.cells4.1, H6.out.cells4.1⟩) ?_; rotate_left; (focus (go_simp; with_reducible rfl)); simp only [setL])
   refine wpPl_goL rfl rfl fun K' hK => ?_
   go_simp
   refine (HP23.out _).mono ?_
   rintro e1 W10_2v1 ⟨r1, rfl, l1, n1, k1, hb1⟩
   replace HW := Lib.hid (HW.out.later hb1)
   replace H5 := Lib.hid (H5.out.below hb1)
   replace H6 := Lib.hid (H6.out.below hb1)
   have HT1 := Lib.hid (And.intro l1 (And.intro n1 k1))
   clear l1 n1 k1
   refine hK _ _ ⟨H5.out.cells4.1, H6.out.cells4.1⟩ ?_
   clear hK K' hb1
   try simp only [Act.put, setL]
   repeat (refine tkL (v := ?_) rfl rfl rfl (fun w' hSw => ?_) (⟨H5.out.cells4.1, H6.out.cells4.1⟩) ?_; rotate_left; (focus (go_simp; with_reducible rfl)); simp only [setL])
   refine wpPl_nil ?_
   simp only [drL]
   have HM1 := Lib.hid fun W => rMost_any b r1 W HAB.out.2.1 HT1.out.1 HAB.out.2.2.1 HT1.out.2.1
   rw [HT1.out.2.2, HAB.out.2.2.2] at HM1
   go_wp2_with fail
   refine (HM1.out _).mono ?_
   rintro e10 w10 ⟨s1, rfl, l1, n1, k1, hb10⟩
   replace HW := Lib.hid (HW.out.later hb10)
   replace H5 := Lib.hid (H5.out.below hb10)
   replace H6 := Lib.hid (H6.out.below hb10)
   have HS1 := Lib.hid (And.intro l1 (And.intro n1 k1))
   clear l1 n1 k1 hb10 HM1 HT1
   go_wp2
   go_roundw
   case rel => exact ⟨3, s0, s1, by omega, rfl, rfl, rfl, Lib.hid ⟨HS0.out, HS1.out⟩, HW, H5, H6⟩
   case measure => simp [intOf]
  ·go_upto_region 9 with fail
   refine wp_region_pl (fun w' : World => (w'.cell? ⟨b5, 0, none⟩ = some (.float .f64 l) ∧ w'.cell? ⟨b5, 1, none⟩ = some (.float .f64 l) ∧ w'.cell? ⟨b5, 2, none⟩ = some (.float .f64 h) ∧ w'.cell? ⟨b5, 3, none⟩ = some (.float .f64 h)) ∧ w'.cell? ⟨b6, 0, none⟩ = some (.float .f64 m) ∧ w'.cell? ⟨b6, 1, none⟩ = some (.float .f64 k) ∧ w'.cell? ⟨b6, 2, none⟩ = some (.float .f64 m) ∧ w'.cell? ⟨b6, 3, none⟩ = some (.float .f64 k)) 8 (.take 0 (.take 1 (.take 2 (.take 3 (.take 4 (.take 5 (.take 6 (.run 7 (.nil))))))))) (by kernel_rfl) (by kernel_rfl) ?_
   replace HW := Lib.hid (HW.out.later (drew_below _))
   replace H5 := Lib.hid (H5.out.below (drew_below _))
   replace H6 := Lib.hid (H6.out.below (drew_below _))
   generalize World.drew _ = W9_3 at HW H5 H6 ⊢
   repeat (refine tkL (v := ?_) rfl rfl rfl (fun w' hSw => ?_) (⟨H5.out.cells4.1, H6.out.cells4.1⟩) ?_; rotate_left; (focus (go_simp; with_reducible rfl)); simp only [setL])
   refine wpPl_goL rfl rfl fun K' hK => ?_
   go_simp
   refine (HP34.out _).mono ?_
   rintro e1 W9_3v1 ⟨r0, rfl, l0, n0, k0, hb1⟩
   replace HW := Lib.hid (HW.out.later hb1)
   replace H5 := Lib.hid (H5.out.below hb1)
   replace H6 := Lib.hid (H6.out.below hb1)
   have HT0 := Lib.hid (And.intro l0 (And.intro n0 k0))
   clear l0 n0 k0
   refine hK _ _ ⟨H5.out.cells4.1, H6.out.cells4.1⟩ ?_
   clear hK K' hb1
   try simp only [Act.put, setL]
   repeat (refine tkL (v := ?_) rfl rfl rfl (fun w' hSw => ?_) (⟨H5.out.cells4.1, H6.out.cells4.1⟩) ?_; rotate_left; (focus (go_simp; with_reducible rfl)); simp only [setL])
   refine wpPl_nil ?_
   simp only [drL]
   have HM0 := Lib.hid fun W => rLeast_any a r0 W HAB.out.1.1 HT0.out.1 HAB.out.1.2.1 HT0.out.2.1
   rw [HT0.out.2.2, HAB.out.1.2.2] at HM0
   go_wp2_with fail
   refine (HM0.out _).mono ?_
   rintro e9 w9 ⟨s0, rfl, l0, n0, k0, hb9⟩
   replace HW := Lib.hid (HW.out.later hb9)
   replace H5 := Lib.hid (H5.out.below hb9)
   replace H6 := Lib.hid (H6.out.below hb9)
   have HS0 := Lib.hid (And.intro l0 (And.intro n0 k0))
   clear l0 n0 k0 hb9 HM0 HT0
   go_upto_region 10 with fail
   refine wp_region_pl (fun w' : World => (w'.cell? ⟨b5, 0, none⟩ = some (.float .f64 l) ∧ w'.cell? ⟨b5, 1, none⟩ = some (.float .f64 l) ∧ w'.cell? ⟨b5, 2, none⟩ = some (.float .f64 h) ∧ w'.cell? ⟨b5, 3, none⟩ = some (.float .f64 h)) ∧ w'.cell? ⟨b6, 0, none⟩ = some (.float .f64 m) ∧ w'.cell? ⟨b6, 1, none⟩ = some (.float .f64 k) ∧ w'.cell? ⟨b6, 2, none⟩ = some (.float .f64 m) ∧ w'.cell? ⟨b6, 3, none⟩ = some (.float .f64 k)) 8 (.take 0 (.take 1 (.take 2 (.take 3 (.take 4 (.take 5 (.take 6 (.run 7 (.nil))))))))) (by kernel_rfl) (by kernel_rfl) ?_
   replace HW := Lib.hid (HW.out.later (drew_below _))
   replace H5 := Lib.hid (H5.out.below (drew_below _))
   replace H6 := Lib.hid (H6.out.below (drew_below _))
   generalize World.drew _ = W10_3 at HW H5 H6 ⊢
   repeat (refine tkL (v := ?_) rfl rfl rfl (fun w' hSw => ?_) (⟨H5.out.cells4.1, H6.out.cells4.1⟩) ?_; rotate_left; (focus (go_simp; with_reducible rfl)); simp only [setL])
   refine wpPl_goL rfl rfl fun K' hK => ?_
   go_simp
   refine (HP33.out _).mono ?_
   rintro e1 W10_3v1 ⟨r1, rfl, l1, n1, k1, hb1⟩
   replace HW := Lib.hid (HW.out.later hb1)
   replace H5 := Lib.hid (H5.out.below hb1)
   replace H6 := Lib.hid (H6.out.below hb1)
   have HT1 := Lib.hid (And.intro l1 (And.intro n1 k1))
   clear l1 n1 k1
   refine hK _ _ ⟨H5.out.cells4.1, H6.out.cells4.1⟩ ?_
   clear hK K' hb1
   try simp only [Act.put, setL]
   repeat (refine tkL (v := ?_) rfl rfl rfl (fun w' hSw => ?_) (⟨H5.out.cells4.1, H6.out.cells4.1⟩) ?_; rotate_left; (focus (go_simp; with_reducible rfl)); simp only [setL])
   refine wpPl_nil ?_
   simp only [drL]
   have HM1 := Lib.hid fun W => rMost_any b r1 W HAB.out.2.1 HT1.out.1 HAB.out.2.2.1 HT1.out.2.1
   rw [HT1.out.2.2, HAB.out.2.2.2] at HM1
   go_wp2_with fail
   refine (HM1.out _).mono ?_
   rintro e10 w10 ⟨s1, rfl, l1, n1, k1, hb10⟩
   replace HW := Lib.hid (HW.out.later hb10)
   replace H5 := Lib.hid (H5.out.below hb10)
   replace H6 := Lib.hid (H6.out.below hb10)
   have HS1 := Lib.hid (And.intro l1 (And.intro n1 k1))
   clear l1 n1 k1 hb10 HM1 HT1
   go_wp2
   go_roundw
   case rel => exact ⟨4, s0, s1, by omega, rfl, rfl, rfl, Lib.hid ⟨HS0.out, HS1.out⟩, HW, H5, H6⟩
   case measure => simp [intOf]
  ·obtain ⟨⟨⟨c0, c1⟩, c2, c3⟩, q0, q1, q2, q3⟩ := HW.out.cells
   go_wp2_with fail
   have HMK := Lib.hid fun W => rMade_any a b W HAB.out.1.1 HAB.out.2.1 HAB.out.1.2.1 HAB.out.2.2.1
   rw [HAB.out.1.2.2, HAB.out.2.2.2, show (4 : Int).toNat = 4 from rfl, HLH.out.1, HLH.out.2] at HMK
   refine (HMK.out _).mono ?_
   rintro e9 w9 ⟨rfl, hb9⟩
   replace HW := Lib.hid (HW.out.later hb9)
   clear hb9 HMK c0 c1 c2 c3 q0 q1 q2 q3
   obtain ⟨⟨⟨c0, c1⟩, c2, c3⟩, q0, q1, q2, q3⟩ := HW.out.cells
   go_wp2
   refine bodyPost_ret (v := .agg #[.float .f64 L, .float .f64 H]) (by simp [results, Tryz.results29, go_sem, q0, q1]) rfl ⟨rfl, HW.out.stored _ _⟩
end Go.Proofs.YtloohbkceppocaaGreatDoor
