/- Walks: the references' intervals: Mul, above. Printed by wip/gen/cx8.py. -/
import Derived.Test.YtloohbkceppocaaGreatDoorKH
import Derived.Deep.CutBlock
import Derived.Test.YtloohbkceppocaaGreatDoorII
namespace Go.Proofs.YtloohbkceppocaaGreatDoor
section
open Go.RowKit
attribute [local go_sem] run_store_f
def loQ (P : Nat → Int → Int) : Nat → Int
 | 0 => kInf
 | i + 1 => min (loQ P i) (P i 4)
def hiQ (P : Nat → Int → Int) : Nat → Int
 | 0 => -(kInf : Int)
 | i + 1 => max (hiQ P i) (P i 3)
def endQ (l h m k : Nat) (i : Nat) (mode : Int) : Int := prK (if i < 2 then l else h) (if i % 2 = 0 then m else k) mode
theorem BlkT.cells2f {w : World} {b t : Nat} {x y : Value} (h : BlkT w b t #[x, y]) : (w.cell? ⟨b, 0, none⟩ = some x ∧ w.cell? ⟨b, 1, none⟩ = some y) ∧ w.frozen? ⟨b, 0, none⟩ = false ∧ w.frozen? ⟨b, 1, none⟩ = false :=
 ⟨⟨h.cell 0, h.cell 1⟩, h.frozen 0, h.frozen 1⟩
set_option maxRecDepth 100000 in
set_option maxHeartbeats 6400000 in
theorem rMul_iv (l h m k : Nat) (w : World) (hl : W64 l) (hh : W64 h) (hm : W64 m) (hk : W64 k) :
  Calls Tryz.prog 29 #[.agg #[.float .f64 l, .float .f64 h], .agg #[.float .f64 m, .float .f64 k]] w (Gives (.agg #[.float .f64 (ivL (mulK (ivK l h) (ivK m k))), .float .f64 (ivH (mulK (ivK l h) (ivK m k)))]) w) := by
 have HFA := Lib.hid fun w => rFull_any l h w hl hh
 have HFB := Lib.hid fun w => rFull_any m k w hm hk
 have HE := Lib.hid fun w => rEmpty_any w
 have HIP := Lib.hid fun w => inf_any w
 have HIN := Lib.hid fun w => infNeg_any w
 have HW := Lib.hid (I3.new w l h m k)
 rcases e1 : ivK l h with _ | p
 ·rw [e1, Option.isSome_none] at HFA
  rw [show ivL (mulK none (ivK m k)) = 9218868437227405312 from rfl, show ivH (mulK none (ivK m k)) = 18442240474082181120 from rfl]
  clear e1 HFB
  go_enter Tryz.func29, Tryz.ntmps29
  obtain ⟨⟨⟨c0, c1⟩, c2, c3⟩, q0, q1, q2, q3⟩ := HW.out.cells
  go_wp2_with fail
  refine (HFA.out _).mono ?_
  rintro e1 w1 ⟨rfl, hb1⟩
  replace HW := Lib.hid (HW.out.later hb1)
  clear hb1 c0 c1 c2 c3 q0 q1 q2 q3
  obtain ⟨⟨⟨c0, c1⟩, c2, c3⟩, q0, q1, q2, q3⟩ := HW.out.cells
  go_wp2_with fail
  refine (HE.out _).mono ?_
  rintro e2 w2 ⟨rfl, hb2⟩
  replace HW := Lib.hid (HW.out.later hb2)
  clear hb2 c0 c1 c2 c3 q0 q1 q2 q3
  obtain ⟨⟨⟨c0, c1⟩, c2, c3⟩, q0, q1, q2, q3⟩ := HW.out.cells
  go_wp2
  refine bodyPost_ret (v := .agg #[.float .f64 9218868437227405312, .float .f64 18442240474082181120]) (by simp [results, Tryz.results29, go_sem, q0, q1]) rfl ⟨rfl, HW.out.stored _ _⟩
 rw [e1, Option.isSome_some] at HFA
 rcases e2 : ivK m k with _ | q
 ·rw [e2, Option.isSome_none] at HFB
  rw [show ivL (mulK (some p) none) = 9218868437227405312 from rfl, show ivH (mulK (some p) none) = 18442240474082181120 from rfl]
  clear e1 e2
  go_enter Tryz.func29, Tryz.ntmps29
  obtain ⟨⟨⟨c0, c1⟩, c2, c3⟩, q0, q1, q2, q3⟩ := HW.out.cells
  go_wp2_with fail
  refine (HFA.out _).mono ?_
  rintro e1 w1 ⟨rfl, hb1⟩
  replace HW := Lib.hid (HW.out.later hb1)
  clear hb1 c0 c1 c2 c3 q0 q1 q2 q3
  obtain ⟨⟨⟨c0, c1⟩, c2, c3⟩, q0, q1, q2, q3⟩ := HW.out.cells
  go_wp2_with fail
  refine (HFB.out _).mono ?_
  rintro e2 w2 ⟨rfl, hb2⟩
  replace HW := Lib.hid (HW.out.later hb2)
  clear hb2 c0 c1 c2 c3 q0 q1 q2 q3
  obtain ⟨⟨⟨c0, c1⟩, c2, c3⟩, q0, q1, q2, q3⟩ := HW.out.cells
  go_wp2_with fail
  refine (HE.out _).mono ?_
  rintro e3 w3 ⟨rfl, hb3⟩
  replace HW := Lib.hid (HW.out.later hb3)
  clear hb3 c0 c1 c2 c3 q0 q1 q2 q3
  obtain ⟨⟨⟨c0, c1⟩, c2, c3⟩, q0, q1, q2, q3⟩ := HW.out.cells
  go_wp2
  refine bodyPost_ret (v := .agg #[.float .f64 9218868437227405312, .float .f64 18442240474082181120]) (by simp [results, Tryz.results29, go_sem, q0, q1]) rfl ⟨rfl, HW.out.stored _ _⟩
 rw [e2, Option.isSome_some] at HFB
 have a1 := ivK_ok hl hh
 have a2 := ivK_ok hm hk
 rw [e1] at a1
 rw [e2] at a2
 obtain ⟨nl, nh, rfl⟩ := ivK_some e1
 obtain ⟨nm, nk, rfl⟩ := ivK_some e2
 have b1 := a1 _ _ rfl
 have b2 := a2 _ _ rfl
 clear a1 a2
 have hL : ivL (mulK (some (ky l, ky h)) (some (ky m, ky k))) = kb (loQ (endQ l h m k) 4) := by
  show kb (min (min (min (min (kInf : Int) (prK (kb (ky l)) (kb (ky m)) 4)) (prK (kb (ky l)) (kb (ky k)) 4)) (prK (kb (ky h)) (kb (ky m)) 4)) (prK (kb (ky h)) (kb (ky k)) 4)) = _
  rw [prK_kb, prK_kb, prK_kb, prK_kb]; rfl
 have hH : ivH (mulK (some (ky l, ky h)) (some (ky m, ky k))) = kb (hiQ (endQ l h m k) 4) := by
  show kb (max (max (max (max (-(kInf : Int)) (prK (kb (ky l)) (kb (ky m)) 3)) (prK (kb (ky l)) (kb (ky k)) 3)) (prK (kb (ky h)) (kb (ky m)) 3)) (prK (kb (ky h)) (kb (ky k)) 3)) = _
  rw [prK_kb, prK_kb, prK_kb, prK_kb]; rfl
 rw [hL, hH]
 have HP04 := Lib.hid fun W => (show Calls Tryz.prog 73 #[.float .f64 l, .float .f64 m, .int .i64 4] W (GivesK (endQ l h m k 0 4) W) from rTimes_iv l m 4 W hl hm nl nm (.inr rfl))
 have HP03 := Lib.hid fun W => (show Calls Tryz.prog 73 #[.float .f64 l, .float .f64 m, .int .i64 3] W (GivesK (endQ l h m k 0 3) W) from rTimes_iv l m 3 W hl hm nl nm (.inl rfl))
 have HP14 := Lib.hid fun W => (show Calls Tryz.prog 73 #[.float .f64 l, .float .f64 k, .int .i64 4] W (GivesK (endQ l h m k 1 4) W) from rTimes_iv l k 4 W hl hk nl nk (.inr rfl))
 have HP13 := Lib.hid fun W => (show Calls Tryz.prog 73 #[.float .f64 l, .float .f64 k, .int .i64 3] W (GivesK (endQ l h m k 1 3) W) from rTimes_iv l k 3 W hl hk nl nk (.inl rfl))
 have HP24 := Lib.hid fun W => (show Calls Tryz.prog 73 #[.float .f64 h, .float .f64 m, .int .i64 4] W (GivesK (endQ l h m k 2 4) W) from rTimes_iv h m 4 W hh hm nh nm (.inr rfl))
 have HP23 := Lib.hid fun W => (show Calls Tryz.prog 73 #[.float .f64 h, .float .f64 m, .int .i64 3] W (GivesK (endQ l h m k 2 3) W) from rTimes_iv h m 3 W hh hm nh nm (.inl rfl))
 have HP34 := Lib.hid fun W => (show Calls Tryz.prog 73 #[.float .f64 h, .float .f64 k, .int .i64 4] W (GivesK (endQ l h m k 3 4) W) from rTimes_iv h k 4 W hh hk nh nk (.inr rfl))
 have HP33 := Lib.hid fun W => (show Calls Tryz.prog 73 #[.float .f64 h, .float .f64 k, .int .i64 3] W (GivesK (endQ l h m k 3 3) W) from rTimes_iv h k 3 W hh hk nh nk (.inl rfl))
 obtain ⟨L, hLL⟩ : ∃ L, kb (loQ (endQ l h m k) 4) = L := ⟨_, rfl⟩
 obtain ⟨H, hHH⟩ : ∃ H, kb (hiQ (endQ l h m k) 4) = H := ⟨_, rfl⟩
 rw [hLL, hHH]
 have HLH := Lib.hid (And.intro hLL hHH)
 clear hL hH hLL hHH e1 e2 nl nh nm nk hl hh hm hk HE b1 b2
 generalize endQ l h m k = P0 at *
 go_enter Tryz.func29, Tryz.ntmps29
 obtain ⟨⟨⟨c0, c1⟩, c2, c3⟩, q0, q1, q2, q3⟩ := HW.out.cells
 go_wp2_with fail
 refine (HFA.out _).mono ?_
 rintro e1 w1 ⟨rfl, hb1⟩
 replace HW := Lib.hid (HW.out.later hb1)
 clear hb1 c0 c1 c2 c3 q0 q1 q2 q3
 obtain ⟨⟨⟨c0, c1⟩, c2, c3⟩, q0, q1, q2, q3⟩ := HW.out.cells
 go_wp2_with fail
 refine (HFB.out _).mono ?_
 rintro e2 w2 ⟨rfl, hb2⟩
 replace HW := Lib.hid (HW.out.later hb2)
 clear hb2 c0 c1 c2 c3 q0 q1 q2 q3
 obtain ⟨⟨⟨c0, c1⟩, c2, c3⟩, q0, q1, q2, q3⟩ := HW.out.cells
 clear HFA HFB
 obtain ⟨⟨⟨u0, u1⟩, u2, u3⟩, u4, u5, u6, u7⟩ := (HW.out.later (Below.alloc_self w2 (.cells #[.float .f64 l, .float .f64 l, .float .f64 h, .float .f64 h] 91))).cells
 go_upto_region 5 with fail
 clear c0 c1 c2 c3 q0 q1 q2 q3 u0 u1 u2 u3 u4 u5 u6 u7
 have HB := Lib.hid (Bks.new2 w2 91 #[.float .f64 l, .float .f64 l, .float .f64 h, .float .f64 h] #[.float .f64 m, .float .f64 k, .float .f64 m, .float .f64 k])
 replace HW := Lib.hid (HW.out.later HB.out.2)
 have H5 := Lib.hid (HB.out.get (.head _))
 have H6 := Lib.hid (HB.out.get (.tail _ (.head _)))
 clear HB
 generalize World.alloc (World.alloc w2 _) _ = W2 at HW H5 H6 ⊢
 generalize w2.heap.size + 1 = b6 at *
 generalize w2.heap.size = b5 at *
 go_wp2_with fail
 refine (HIP.out _).mono ?_
 rintro e3 w3 ⟨rfl, hb3⟩
 replace HW := Lib.hid (HW.out.later hb3)
 replace H5 := Lib.hid (H5.out.below hb3)
 replace H6 := Lib.hid (H6.out.below hb3)
 clear hb3
 go_wp2_with fail
 refine (HIN.out _).mono ?_
 rintro e4 w4 ⟨rfl, hb4⟩
 replace HW := Lib.hid (HW.out.later hb4)
 replace H5 := Lib.hid (H5.out.below hb4)
 replace H6 := Lib.hid (H6.out.below hb4)
 clear hb4
 clear HIP HIN
 go_wp2
 go_loopw [7, 8, 9] (fun lo hi i wr => ∃ (j : Int) (a b : Nat), (0 ≤ j ∧ j ≤ 4) ∧ i = .int .i64 j ∧ lo = .float .f64 a ∧ hi = .float .f64 b ∧ Hid ((W64 a ∧ nanB a = false ∧ ky a = loQ P0 j.toNat) ∧ W64 b ∧ nanB b = false ∧ ky b = hiQ P0 j.toNat) ∧ Hid (I3 w wr l h m k) ∧ Hid (BlkT wr b5 91 #[.float .f64 l, .float .f64 l, .float .f64 h, .float .f64 h]) ∧ Hid (BlkT wr b6 91 #[.float .f64 m, .float .f64 k, .float .f64 m, .float .f64 k])) (fun _ _ i _ => 4 - (intOf i).toNat)
 case atStart => exact ⟨0, _, _, by omega, rfl, rfl, rfl, Lib.hid ⟨⟨by decide, by decide, show ky 9218868437227405312 = (kInf : Int) by decide⟩, by decide, by decide, show ky 18442240474082181120 = -(kInf : Int) by decide⟩, HW, H5, H6⟩
 case round =>
  clear HW H5 H6
  obtain ⟨j, a, b, hj, rfl, rfl, rfl, HAB, HW, H5, H6⟩ := hrel
  have hcase : j = 0 ∨ j = 1 ∨ j = 2 ∨ j = 3 ∨ j = 4 := by omega
  rcases hcase with rfl | rfl | rfl | rfl | rfl
  ·go_upto_region 9 with fail
   refine wp_region_pl (fun w' : World => (w'.cell? ⟨b5, 0, none⟩ = some (.float .f64 l) ∧ w'.cell? ⟨b5, 1, none⟩ = some (.float .f64 l) ∧ w'.cell? ⟨b5, 2, none⟩ = some (.float .f64 h) ∧ w'.cell? ⟨b5, 3, none⟩ = some (.float .f64 h)) ∧ w'.cell? ⟨b6, 0, none⟩ = some (.float .f64 m) ∧ w'.cell? ⟨b6, 1, none⟩ = some (.float .f64 k) ∧ w'.cell? ⟨b6, 2, none⟩ = some (.float .f64 m) ∧ w'.cell? ⟨b6, 3, none⟩ = some (.float .f64 k)) 8 (.take 0 (.take 1 (.take 2 (.take 3 (.take 4 (.take 5 (.take 6 (.run 7 (.nil))))))))) (by kernel_rfl) (by kernel_rfl) ?_
   replace HW := Lib.hid (HW.out.later (drew_below _))
   replace H5 := Lib.hid (H5.out.below (drew_below _))
   replace H6 := Lib.hid (H6.out.below (drew_below _))
   generalize World.drew _ = W9_0 at HW H5 H6 ⊢
   repeat (refine tkL (v := ?_) rfl rfl rfl (fun w' hSw => ?_) (⟨H5.out.cells4.1, H6.out.cells4.1⟩) ?_; rotate_left; (focus (go_simp; with_reducible rfl)); simp only [setL])
   refine wpPl_goL rfl rfl fun K' hK => ?_
   go_simp
   refine (HP04.out _).mono ?_
   rintro e1 W9_0v1 ⟨r0, rfl, l0, n0, k0, hb1⟩
   replace HW := Lib.hid (HW.out.later hb1)
   replace H5 := Lib.hid (H5.out.below hb1)
   replace H6 := Lib.hid (H6.out.below hb1)
   have HT0 := Lib.hid (And.intro l0 (And.intro n0 k0))
   clear l0 n0 k0
   refine hK _ _ ⟨H5.out.cells4.1, H6.out.cells4.1⟩ ?_
   clear hK K' hb1
   try simp only [Act.put, setL]
   repeat (refine tkL (v := ?_) rfl rfl rfl (fun w' hSw => ?_) (⟨H5.out.cells4.1, H6.out.cells4.1⟩) ?_; rotate_left; (focus (go_simp; with_reducible rfl)); simp only [setL])
   refine wpPl_nil ?_
   simp only [drL]
   have HM0 := Lib.hid fun W => rLeast_any a r0 W HAB.out.1.1 HT0.out.1 HAB.out.1.2.1 HT0.out.2.1
   rw [HT0.out.2.2, HAB.out.1.2.2] at HM0
   go_wp2_with fail
   refine (HM0.out _).mono ?_
   rintro e9 w9 ⟨s0, rfl, l0, n0, k0, hb9⟩
   replace HW := Lib.hid (HW.out.later hb9)
   replace H5 := Lib.hid (H5.out.below hb9)
   replace H6 := Lib.hid (H6.out.below hb9)
   have HS0 := Lib.hid (And.intro l0 (And.intro n0 k0))
   clear l0 n0 k0 hb9 HM0 HT0
   go_upto_region 10 with fail
   refine wp_region_pl (fun w' : World => (w'.cell? ⟨b5, 0, none⟩ = some (.float .f64 l) ∧ w'.cell? ⟨b5, 1, none⟩ = some (.float .f64 l) ∧ w'.cell? ⟨b5, 2, none⟩ = some (.float .f64 h) ∧ w'.cell? ⟨b5, 3, none⟩ = some (.float .f64 h)) ∧ w'.cell? ⟨b6, 0, none⟩ = some (.float .f64 m) ∧ w'.cell? ⟨b6, 1, none⟩ = some (.float .f64 k) ∧ w'.cell? ⟨b6, 2, none⟩ = some (.float .f64 m) ∧ w'.cell? ⟨b6, 3, none⟩ = some (.float .f64 k)) 8 (.take 0 (.take 1 (.take 2 (.take 3 (.take 4 (.take 5 (.take 6 (.run 7 (.nil))))))))) (by kernel_rfl) (by kernel_rfl) ?_
   replace HW := Lib.hid (HW.out.later (drew_below _))
   replace H5 := Lib.hid (H5.out.below (drew_below _))
   replace H6 := Lib.hid (H6.out.below (drew_below _))
   generalize World.drew _ = W10_0 at HW H5 H6 ⊢
   repeat (refine tkL (v := ?_) rfl rfl rfl (fun w' hSw => ?_) (⟨H5.out.cells4.1, H6.out.cells4.1⟩) ?_; rotate_left; (focus (go_simp; with_reducible rfl)); simp only [setL])
   refine wpPl_goL rfl rfl fun K' hK => ?_
   go_simp
   refine (HP03.out _).mono ?_
   rintro e1 W10_0v1 ⟨r1, rfl, l1, n1, k1, hb1⟩
   replace HW := Lib.hid (HW.out.later hb1)
   replace H5 := Lib.hid (H5.out.below hb1)
   replace H6 := Lib.hid (H6.out.below hb1)
   have HT1 := Lib.hid (And.intro l1 (And.intro n1 k1))
   clear l1 n1 k1
   refine hK _ _ ⟨H5.out.cells4.1, H6.out.cells4.1⟩ ?_
   clear hK K' hb1
   try simp only [Act.put, setL]
   repeat (refine tkL (v := ?_) rfl rfl rfl (fun w' hSw => ?_) (⟨H5.out.cells4.1, H6.out.cells4.1⟩) ?_; rotate_left; (focus (go_simp; with_reducible rfl)); simp only [setL])
   refine wpPl_nil ?_
   simp only [drL]
   have HM1 := Lib.hid fun W => rMost_any b r1 W HAB.out.2.1 HT1.out.1 HAB.out.2.2.1 HT1.out.2.1
   rw [HT1.out.2.2, HAB.out.2.2.2] at HM1
   go_wp2_with fail
   refine (HM1.out _).mono ?_
   rintro e10 w10 ⟨s1, rfl, l1, n1, k1, hb10⟩
   replace HW := Lib.hid (HW.out.later hb10)
   replace H5 := Lib.hid (H5.out.below hb10)
   replace H6 := Lib.hid (H6.out.below hb10)
   have HS1 := Lib.hid (And.intro l1 (And.intro n1 k1))
   clear l1 n1 k1 hb10 HM1 HT1
   go_wp2
   go_roundw
   case rel => exact ⟨1, s0, s1, by omega, rfl, rfl, rfl, Lib.hid ⟨HS0.out, HS1.out⟩, HW, H5, H6⟩
   case measure => simp [intOf]
  ·go_upto_region 9 with fail
   refine wp_region_pl (fun w' : World => (w'.cell? ⟨b5, 0, none⟩ = some (.float .f64 l) ∧ w'.cell? ⟨b5, 1, none⟩ = some (.float .f64 l) ∧ w'.cell? ⟨b5, 2, none⟩ = some (.float .f64 h) ∧ w'.cell? ⟨b5, 3, none⟩ = some (.float .f64 h)) ∧ w'.cell? ⟨b6, 0, none⟩ = some (.float .f64 m) ∧ w'.cell? ⟨b6, 1, none⟩ = some (.float .f64 k) ∧ w'.cell? ⟨b6, 2, none⟩ = some (.float .f64 m) ∧ w'.cell? ⟨b6, 3, none⟩ = some (.float .f64 k)) 8 (.take 0 (.take 1 (.take 2 (.take 3 (.take 4 (.take 5 (.take 6 (.run 7 (.nil))))))))) (by kernel_rfl) (by kernel_rfl) ?_
   replace HW := Lib.hid (HW.out.later (drew_below _))
   replace H5 := Lib.hid (H5.out.below (drew_below _))
   replace H6 := Lib.hid (H6.out.below (drew_below _))
   generalize World.drew _ = W9_1 at HW H5 H6 ⊢
   repeat (refine tkL (v := ?_) rfl rfl rfl (fun w' hSw => ?_) (⟨H5.out.cells4.1, H6.out.cells4.1⟩) ?_; rotate_left; (focus (go_simp; with_reducible rfl)); simp only [setL])
   refine wpPl_goL rfl rfl fun K' hK => ?_
   go_simp
   refine (HP14.out _).mono ?_
   rintro e1 W9_1v1 ⟨r0, rfl, l0, n0, k0, hb1⟩
   replace HW := Lib.hid (HW.out.later hb1)
   replace H5 := Lib.hid (H5.out.below hb1)
   replace H6 := Lib.hid (H6.out.below hb1)
   have HT0 := Lib.hid (And.intro l0 (And.intro n0 k0))
   clear l0 n0 k0
   refine hK _ _ ⟨H5.out.cells4.1, H6.out.cells4.1⟩ ?_
   clear hK K' hb1
   try simp only [Act.put, setL]
   repeat (refine tkL (v := ?_) rfl rfl rfl (fun w' hSw => ?_) (⟨H5.out.cells4.1, H6.out.cells4.1⟩) ?_; rotate_left; (focus (go_simp; with_reducible rfl)); simp only [setL])
   refine wpPl_nil ?_
   simp only [drL]
   have HM0 := Lib.hid fun W => rLeast_any a r0 W HAB.out.1.1 HT0.out.1 HAB.out.1.2.1 HT0.out.2.1
   rw [HT0.out.2.2, HAB.out.1.2.2] at HM0
   go_wp2_with fail
   refine (HM0.out _).mono ?_
   rintro e9 w9 ⟨s0, rfl, l0, n0, k0, hb9⟩
   replace HW := Lib.hid (HW.out.later hb9)
   replace H5 := Lib.hid (H5.out.below hb9)
   replace H6 := Lib.hid (H6.out.below hb9)
   have HS0 := Lib.hid (And.intro l0 (And.intro n0 k0))
   clear l0 n0 k0 hb9 HM0 HT0
   go_upto_region 10 with fail
   refine wp_region_pl (fun w' : World => (w'.cell? ⟨b5, 0, none⟩ = some (.float .f64 l) ∧ w'.cell? ⟨b5, 1, none⟩ = some (.float .f64 l) ∧ w'.cell? ⟨b5, 2, none⟩ = some (.float .f64 h) ∧ w'.cell? ⟨b5, 3, none⟩ = some (.float .f64 h)) ∧ w'.cell? ⟨b6, 0, none⟩ = some (.float .f64 m) ∧ w'.cell? ⟨b6, 1, none⟩ = some (.float .f64 k) ∧ w'.cell? ⟨b6, 2, none⟩ = some (.float .f64 m) ∧ w'.cell? ⟨b6, 3, none⟩ = some (.float .f64 k)) 8 (.take 0 (.take 1 (.take 2 (.take 3 (.take 4 (.take 5 (.take 6 (.run 7 (.nil))))))))) (by kernel_rfl) (by kernel_rfl) ?_
   replace HW := Lib.hid (HW.out.later (drew_below _))
   replace H5 := Lib.hid (H5.out.below (drew_below _))
   replace H6 := Lib.hid (H6.out.below (drew_below _))
   generalize World.drew _ = W10_1 at HW H5 H6 ⊢
   repeat (refine tkL (v := ?_) rfl rfl rfl (fun w' hSw => ?_) (⟨H5.out.cells4.1, H6.out.cells4.1⟩) ?_; rotate_left; (focus (go_simp; with_reducible rfl)); simp only [setL])
   refine wpPl_goL rfl rfl fun K' hK => ?_
   go_simp
   refine (HP13.out _).mono ?_
   rintro e1 W10_1v1 ⟨r1, rfl, l1, n1, k1, hb1⟩
   replace HW := Lib.hid (HW.out.later hb1)
   replace H5 := Lib.hid (H5.out.below hb1)
   replace H6 := Lib.hid (H6.out.below hb1)
   have HT1 := Lib.hid (And.intro l1 (And.intro n1 k1))
   clear l1 n1 k1
   refine hK _ _ ⟨H5.out.cells4.1, H6.out.cells4.1⟩ ?_
   clear hK K' hb1
   try simp only [Act.put, setL]
   repeat (refine tkL (v := ?_) rfl rfl rfl (fun w' hSw => ?_) (⟨H5.out.cells4.1, H6.out.cells4.1⟩) ?_; rotate_left; (focus (go_simp; with_reducible rfl)); simp only [setL])
   refine wpPl_nil ?_
   simp only [drL]
   have HM1 := Lib.hid fun W => rMost_any b r1 W HAB.out.2.1 HT1.out.1 HAB.out.2.2.1 HT1.out.2.1
   rw [HT1.out.2.2, HAB.out.2.2.2] at HM1
   go_wp2_with fail
   refine (HM1.out _).mono ?_
   rintro e10 w10 ⟨s1, rfl, l1, n1, k1, hb10⟩
   replace HW := Lib.hid (HW.out.later hb10)
   replace H5 := Lib.hid (H5.out.below hb10)
   replace H6 := Lib.hid (H6.out.below hb10)
   have HS1 := Lib.hid (And.intro l1 (And.intro n1 k1))
   clear l1 n1 k1 hb10 HM1 HT1
   go_wp2
   go_roundw
   case rel => exact ⟨2, s0, s1, by omega, rfl, rfl, rfl, Lib.hid ⟨HS0.out, HS1.out⟩, HW, H5, H6⟩
   case measure => simp [intOf]
  ·go_upto_region 9 with fail
   refine wp_region_pl (fun w' : World => (w'.cell? ⟨b5, 0, none⟩ = some (.float .f64 l) ∧ w'.cell? ⟨b5, 1, none⟩ = some (.float .f64 l) ∧ w'.cell? ⟨b5, 2, none⟩ = some (.float .f64 h) ∧ w'.cell? ⟨b5, 3, none⟩ = some (.float .f64 h)) ∧ w'.cell? ⟨b6, 0, none⟩ = some (.float .f64 m) ∧ w'.cell? ⟨b6, 1, none⟩ = some (.float .f64 k) ∧ w'.cell? ⟨b6, 2, none⟩ = some (.float .f64 m) ∧ w'.cell? ⟨b6, 3, none⟩ = some (.float .f64 k)) 8 (.take 0 (.take 1 (.take 2 (.take 3 (.take 4 (.take 5 (.take 6 (.run 7 (.nil))))))))) (by kernel_rfl) (by kernel_rfl) ?_
   replace HW := Lib.hid (HW.out.later (drew_below _))
   replace H5 := Lib.hid (H5.out.below (drew_below _))
   replace H6 := Lib.hid (H6.out.below (drew_below _))
   generalize World.drew _ = W9_2 at HW H5 H6 ⊢
   repeat (refine tkL (v := ?_) rfl rfl rfl (fun w' hSw => ?_) (⟨H5.out.cells4.1, H6.out.cells4.1⟩) ?_; rotate_left; (focus (go_simp; with_reducible rfl)); simp only [setL])
   refine wpPl_goL rfl rfl fun K' hK => ?_
   go_simp
   refine (HP24.out _).mono ?_
   rintro e1 W9_2v1 ⟨r0, rfl, l0, n0, k0, hb1⟩
   replace HW := Lib.hid (HW.out.later hb1)
   replace H5 := Lib.hid (H5.out.below hb1)
   replace H6 := Lib.hid (H6.out.below hb1)
   have HT0 := Lib.hid (And.intro l0 (And.intro n0 k0))
   clear l0 n0 k0
   refine hK _ _ ⟨H5.out.cells4.1, H6.out.cells4.1⟩ ?_
   clear hK K' hb1
   try simp only [Act.put, setL]
   repeat (refine tkL (v := ?_) rfl rfl rfl (fun w' hSw => ?_) (⟨H5.out.cells4.1, H6.out.cells4.1⟩) ?_; rotate_left; (focus (go_simp; with_reducible rfl)); simp only [setL])
   refine wpPl_nil ?_
   simp only [drL]
   have HM0 := Lib.hid fun W => rLeast_any a r0 W HAB.out.1.1 HT0.out.1 HAB.out.1.2.1 HT0.out.2.1
   rw [HT0.out.2.2, HAB.out.1.2.2] at HM0
   go_wp2_with fail
   refine (HM0.out _).mono ?_
   rintro e9 w9 ⟨s0, rfl, l0, n0, k0, hb9⟩
   replace HW := Lib.hid (HW.out.later hb9)
   replace H5 := Lib.hid (H5.out.below hb9)
   replace H6 := Lib.hid (H6.out.below hb9)
   have HS0 := Lib.hid (And.intro l0 (And.intro n0 k0))
   clear l0 n0 k0 hb9 HM0 HT0
   go_upto_region 10 with fail
   refine wp_region_pl (fun w' : World => (w'.cell? ⟨b5, 0, none⟩ = some (.float .f64 l) ∧ w'.cell? ⟨b5, 1, none⟩ = some (.float .f64 l) ∧ w'.cell? ⟨b5, 2, none⟩ = some (.float .f64 h) ∧ w'.cell? ⟨b5, 3, none⟩ = some (.float .f64 h)) ∧ w'.cell? ⟨b6, 0, none⟩ = some (.float .f64 m) ∧ w'.cell? ⟨b6, 1, none⟩ = some (.float .f64 k) ∧ w'.cell? ⟨b6, 2, none⟩ = some (.float .f64 m) ∧ w'.cell? ⟨b6, 3, none⟩ = some (.float .f64 k)) 8 (.take 0 (.take 1 (.take 2 (.take 3 (.take 4 (.take 5 (.take 6 (.run 7 (.nil))))))))) (by kernel_rfl) (by kernel_rfl) ?_
   replace HW := Lib.hid (HW.out.later (drew_below _))
   replace H5 := Lib.hid (H5.out.below (drew_below _))
   replace H6 := Lib.hid (H6.out.below (drew_below _))
   generalize World.drew _ = W10_2 at HW H5 H6 ⊢
   repeat (refine tkL (v := ?_) rfl rfl rfl (fun w' hSw => ?_) (⟨H5.out.cells4.1, H6.out.cells4.1⟩) ?_; rotate_left; (focus (go_simp; with_reducible rfl)); simp only [setL])
   refine wpPl_goL rfl rfl fun K' hK => ?_
   go_simp
   refine (HP23.out _).mono ?_
   rintro e1 W10_2v1 ⟨r1, rfl, l1, n1, k1, hb1⟩
   replace HW := Lib.hid (HW.out.later hb1)
   replace H5 := Lib.hid (H5.out.below hb1)
   replace H6 := Lib.hid (H6.out.below hb1)
   have HT1 := Lib.hid (And.intro l1 (And.intro n1 k1))
   clear l1 n1 k1
   refine hK _ _ ⟨H5.out.cells4.1, H6.out.cells4.1⟩ ?_
   clear hK K' hb1
   try simp only [Act.put, setL]
   repeat (refine tkL (v := ?_) rfl rfl rfl (fun w' hSw => ?_) (⟨H5.out.cells4.1, H6.out.cells4.1⟩) ?_; rotate_left; (focus (go_simp; with_reducible rfl)); simp only [setL])
   refine wpPl_nil ?_
   simp only [drL]
   have HM1 := Lib.hid fun W => rMost_any b r1 W HAB.out.2.1 HT1.out.1 HAB.out.2.2.1 HT1.out.2.1
   rw [HT1.out.2.2, HAB.out.2.2.2] at HM1
   go_wp2_with fail
   refine (HM1.out _).mono ?_
   rintro e10 w10 ⟨s1, rfl, l1, n1, k1, hb10⟩
   replace HW := Lib.hid (HW.out.later hb10)
   replace H5 := Lib.hid (H5.out.below hb10)
   replace H6 := Lib.hid (H6.out.below hb10)
   have HS1 := Lib.hid (And.intro l1 (And.intro n1 k1))
   clear l1 n1 k1 hb10 HM1 HT1
   go_wp2
   go_roundw
   case rel => exact ⟨3, s0, s1, by omega, rfl, rfl, rfl, Lib.hid ⟨HS0.out, HS1.out⟩, HW, H5, H6⟩
   case measure => simp [intOf]
  ·go_upto_region 9 with fail
   refine wp_region_pl (fun w' : World => (w'.cell? ⟨b5, 0, none⟩ = some (.float .f64 l) ∧ w'.cell? ⟨b5, 1, none⟩ = some (.float .f64 l) ∧ w'.cell? ⟨b5, 2, none⟩ = some (.float .f64 h) ∧ w'.cell? ⟨b5, 3, none⟩ = some (.float .f64 h)) ∧ w'.cell? ⟨b6, 0, none⟩ = some (.float .f64 m) ∧ w'.cell? ⟨b6, 1, none⟩ = some (.float .f64 k) ∧ w'.cell? ⟨b6, 2, none⟩ = some (.float .f64 m) ∧ w'.cell? ⟨b6, 3, none⟩ = some (.float .f64 k)) 8 (.take 0 (.take 1 (.take 2 (.take 3 (.take 4 (.take 5 (.take 6 (.run 7 (.nil))))))))) (by kernel_rfl) (by kernel_rfl) ?_
   replace HW := Lib.hid (HW.out.later (drew_below _))
   replace H5 := Lib.hid (H5.out.below (drew_below _))
   replace H6 := Lib.hid (H6.out.below (drew_below _))
   generalize World.drew _ = W9_3 at HW H5 H6 ⊢
   repeat (refine tkL (v := ?_) rfl rfl rfl (fun w' hSw => ?_) (⟨H5.out.cells4.1, H6.out.cells4.1⟩) ?_; rotate_left; (focus (go_simp; with_reducible rfl)); simp only [setL])
   refine wpPl_goL rfl rfl fun K' hK => ?_
   go_simp
   refine (HP34.out _).mono ?_
   rintro e1 W9_3v1 ⟨r0, rfl, l0, n0, k0, hb1⟩
   replace HW := Lib.hid (HW.out.later hb1)
   replace H5 := Lib.hid (H5.out.below hb1)
   replace H6 := Lib.hid (H6.out.below hb1)
   have HT0 := Lib.hid (And.intro l0 (And.intro n0 k0))
   clear l0 n0 k0
   refine hK _ _ ⟨H5.out.cells4.1, H6.out.cells4.1⟩ ?_
   clear hK K' hb1
   try simp only [Act.put, setL]
   repeat (refine tkL (v := ?_) rfl rfl rfl (fun w' hSw => ?_) (⟨H5.out.cells4.1, H6.out.cells4.1⟩) ?_; rotate_left; (focus (go_simp; with_reducible rfl)); simp only [setL])
   refine wpPl_nil ?_
   simp only [drL]
   have HM0 := Lib.hid fun W => rLeast_any a r0 W HAB.out.1.1 HT0.out.1 HAB.out.1.2.1 HT0.out.2.1
   rw [HT0.out.2.2, HAB.out.1.2.2] at HM0
   go_wp2_with fail
   refine (HM0.out _).mono ?_
   rintro e9 w9 ⟨s0, rfl, l0, n0, k0, hb9⟩
   replace HW := Lib.hid (HW.out.later hb9)
   replace H5 := Lib.hid (H5.out.below hb9)
   replace H6 := Lib.hid (H6.out.below hb9)
   have HS0 := Lib.hid (And.intro l0 (And.intro n0 k0))
   clear l0 n0 k0 hb9 HM0 HT0
   go_upto_region 10 with fail
   refine wp_region_pl (fun w' : World => (w'.cell? ⟨b5, 0, none⟩ = some (.float .f64 l) ∧ w'.cell? ⟨b5, 1, none⟩ = some (.float .f64 l) ∧ w'.cell? ⟨b5, 2, none⟩ = some (.float .f64 h) ∧ w'.cell? ⟨b5, 3, none⟩ = some (.float .f64 h)) ∧ w'.cell? ⟨b6, 0, none⟩ = some (.float .f64 m) ∧ w'.cell? ⟨b6, 1, none⟩ = some (.float .f64 k) ∧ w'.cell? ⟨b6, 2, none⟩ = some (.float .f64 m) ∧ w'.cell? ⟨b6, 3, none⟩ = some (.float .f64 k)) 8 (.take 0 (.take 1 (.take 2 (.take 3 (.take 4 (.take 5 (.take 6 (.run 7 (.nil))))))))) (by kernel_rfl) (by kernel_rfl) ?_
   replace HW := Lib.hid (HW.out.later (drew_below _))
   replace H5 := Lib.hid (H5.out.below (drew_below _))
   replace H6 := Lib.hid (H6.out.below (drew_below _))
   generalize World.drew _ = W10_3 at HW H5 H6 ⊢
   repeat (refine tkL (v := ?_) rfl rfl rfl (fun w' hSw => ?_) (⟨H5.out.cells4.1, H6.out.cells4.1⟩) ?_; rotate_left; (focus (go_simp; with_reducible rfl)); simp only [setL])
   refine wpPl_goL rfl rfl fun K' hK => ?_
   go_simp
   refine (HP33.out _).mono ?_
   rintro e1 W10_3v1 ⟨r1, rfl, l1, n1, k1, hb1⟩
   replace HW := Lib.hid (HW.out.later hb1)
   replace H5 := Lib.hid (H5.out.below hb1)
   replace H6 := Lib.hid (H6.out.below hb1)
   have HT1 := Lib.hid (And.intro l1 (And.intro n1 k1))
   clear l1 n1 k1
   refine hK _ _ ⟨H5.out.cells4.1, H6.out.cells4.1⟩ ?_
   clear hK K' hb1
   try simp only [Act.put, setL]
   repeat (refine tkL (v := ?_) rfl rfl rfl (fun w' hSw => ?_) (⟨H5.out.cells4.1, H6.out.cells4.1⟩) ?_; rotate_left; (focus (go_simp; with_reducible rfl)); simp only [setL])
   refine wpPl_nil ?_
   simp only [drL]
   have HM1 := Lib.hid fun W => rMost_any b r1 W HAB.out.2.1 HT1.out.1 HAB.out.2.2.1 HT1.out.2.1
   rw [HT1.out.2.2, HAB.out.2.2.2] at HM1
   go_wp2_with fail
   refine (HM1.out _).mono ?_
   rintro e10 w10 ⟨s1, rfl, l1, n1, k1, hb10⟩
   replace HW := Lib.hid (HW.out.later hb10)
   replace H5 := Lib.hid (H5.out.below hb10)
   replace H6 := Lib.hid (H6.out.below hb10)
   have HS1 := Lib.hid (And.intro l1 (And.intro n1 k1))
   clear l1 n1 k1 hb10 HM1 HT1
   go_wp2
   go_roundw
   case rel => exact ⟨4, s0, s1, by omega, rfl, rfl, rfl, Lib.hid ⟨HS0.out, HS1.out⟩, HW, H5, H6⟩
   case measure => simp [intOf]
  ·obtain ⟨⟨⟨c0, c1⟩, c2, c3⟩, q0, q1, q2, q3⟩ := HW.out.cells
   go_wp2_with fail
   have HMK := Lib.hid fun W => rMade_any a b W HAB.out.1.1 HAB.out.2.1 HAB.out.1.2.1 HAB.out.2.2.1
   rw [HAB.out.1.2.2, HAB.out.2.2.2, show (4 : Int).toNat = 4 from rfl, HLH.out.1, HLH.out.2] at HMK
   refine (HMK.out _).mono ?_
   rintro e9 w9 ⟨rfl, hb9⟩
   replace HW := Lib.hid (HW.out.later hb9)
   clear hb9 HMK c0 c1 c2 c3 q0 q1 q2 q3
   obtain ⟨⟨⟨c0, c1⟩, c2, c3⟩, q0, q1, q2, q3⟩ := HW.out.cells
   go_wp2
   refine bodyPost_ret (v := .agg #[.float .f64 L, .float .f64 H]) (by simp [results, Tryz.results29, go_sem, q0, q1]) rfl ⟨rfl, HW.out.stored _ _⟩
theorem dec_cases (p : Prop) [Decidable p] : (decide p = true → p) ∧ (decide p = false → ¬ p) := ⟨of_decide_eq_true, of_decide_eq_false⟩
theorem ov_low {l h u v : Nat} (c : 0 ≤ ky l) (v0 : ky v ≠ 0) : (ovK (ky l) (ky h) (ky u) (ky v)).1 = quK l v 4 := by
 show byK (kb (ky l)) (kb (if ky l < 0 then ky u else ky v)) 4 = _
 rw [if_neg (by omega), byK_kb]; exact if_neg (fun t => v0 t.1)
theorem ov_low2 {l h u v : Nat} (c : ky l < 0) (v0 : ky u = 0) : (ovK (ky l) (ky h) (ky u) (ky v)).1 = -(kInf : Int) := by
 show byK (kb (ky l)) (kb (if ky l < 0 then ky u else ky v)) 4 = _
 rw [if_pos c, byK_kb]; unfold byK; rw [if_pos ⟨v0, by omega⟩, if_neg (by omega)]
theorem ov_low3 {l h u v : Nat} (c : ky l < 0) (v0 : ky u ≠ 0) : (ovK (ky l) (ky h) (ky u) (ky v)).1 = quK l u 4 := by
 show byK (kb (ky l)) (kb (if ky l < 0 then ky u else ky v)) 4 = _
 rw [if_pos c, byK_kb]; exact if_neg (fun t => v0 t.1)
theorem ov_high {l h u v : Nat} (c : ky h ≤ 0) (v0 : ky v ≠ 0) : (ovK (ky l) (ky h) (ky u) (ky v)).2 = quK h v 3 := by
 show byK (kb (ky h)) (kb (if 0 < ky h then ky u else ky v)) 3 = _
 rw [if_neg (by omega), byK_kb]; exact if_neg (fun t => v0 t.1)
theorem ov_high2 {l h u v : Nat} (c : 0 < ky h) (v0 : ky u = 0) : (ovK (ky l) (ky h) (ky u) (ky v)).2 = (kInf : Int) := by
 show byK (kb (ky h)) (kb (if 0 < ky h then ky u else ky v)) 3 = _
 rw [if_pos c, byK_kb]; unfold byK; rw [if_pos ⟨v0, by omega⟩, if_pos c]
theorem ov_high3 {l h u v : Nat} (c : 0 < ky h) (v0 : ky u ≠ 0) : (ovK (ky l) (ky h) (ky u) (ky v)).2 = quK h u 3 := by
 show byK (kb (ky h)) (kb (if 0 < ky h then ky u else ky v)) 3 = _
 rw [if_pos c, byK_kb]; exact if_neg (fun t => v0 t.1)
set_option maxRecDepth 100000 in
set_option maxHeartbeats 6400000 in
theorem rAbove_iv (l h u v : Nat) (w : World) (hl : W64 l) (hh : W64 h) (hu : W64 u) (hv : W64 v) (nl : nanB l = false) (nh : nanB h = false) (nu : nanB u = false) (nv : nanB v = false) (u0 : 0 ≤ ky u) (u1 : ky u < kInf) (v1 : 0 < ky v) :
  Calls Tryz.prog 77 #[.agg #[.float .f64 l, .float .f64 h], .float .f64 u, .float .f64 v] w (Gives (.agg #[.float .f64 (kb (ovK (ky l) (ky h) (ky u) (ky v)).1), .float .f64 (kb (ovK (ky l) (ky h) (ky u) (ky v)).2)]) w) := by
 have t1 := ge_test hl (by decide : W64 0) nl (by decide)
 have t2 := le_test hh (by decide : W64 0) nh (by decide)
 have t3 := eq_test hu (by decide : W64 0) nu (by decide)
 rw [ky_zero] at t1 t2 t3
 have v0 : ky v ≠ 0 := by omega
 have HNB := Lib.hid fun R fl W => cnumber_any R fl W
 have HD := Lib.hid fun W => cDouble_any W
 have HI0 := Lib.hid fun w => infNeg_any w
 have HI1 := Lib.hid fun w => inf_any w
 have HX0 := Lib.hid fun W => cnum_any l W hl nl
 have HX1 := Lib.hid fun W => cnum_any h W hh nh
 have HZ := Lib.hid fun W => cnum_any u W hu nu
 have HO0 := Lib.hid fun W => rOver_iv l v 4 W hl hv nl nv (.inr rfl) v0
 have HO1 := Lib.hid fun W => rOver_iv h v 3 W hh hv nh nv (.inl rfl) v0
 have HK := Lib.hid (Bks.rot3 (Bks.new3 w 34 34 34 #[.float .f64 l, .float .f64 h] #[.float .f64 0, .float .f64 0] #[.float .f64 0, .float .f64 0]))
 have hfu : finB u = true := by
  have h2 := ky_bd hu (num_of nu)
  have h3 : -(kInf : Int) < 0 := by decide
  exact (fin_ky hu (num_of nu)).2 ⟨by omega, u1⟩
 obtain ⟨f0, hf0⟩ : ∃ f, w.heap.size = f := ⟨_, rfl⟩
 rw [hf0] at HK
 obtain ⟨K0, hK0⟩ : ∃ k, (ovK (ky l) (ky h) (ky u) (ky v)).1 = k := ⟨_, rfl⟩
 obtain ⟨K1, hK1⟩ : ∃ k, (ovK (ky l) (ky h) (ky u) (ky v)).2 = k := ⟨_, rfl⟩
 rw [hK0, hK1]
 have L1 : Hid (0 ≤ ky l → quK l v 4 = K0) := Lib.hid fun c => by rw [← hK0, ov_low c v0]
 have L2 : Hid (¬ 0 ≤ ky l → ky u = 0 → K0 = -(kInf : Int)) := Lib.hid fun c z => by rw [← hK0, ov_low2 (by omega) z]
 have L3 := Lib.hid fun (c : ¬ 0 ≤ ky l) (z : ¬ ky u = 0) p q W (h1 : RInt W p (mntB l : Nat)) (h2 : RInt W q (mntB u : Nat)) => (show Calls Tryz.prog 117 #[fmtV, NumV (kndB l) (sgnB l) p (xpnB l), NumV (kndB u) (sgnB u) q (xpnB u), .int .i64 4] W (AnsK K0 W) from by rw [← hK0, ov_low3 (by omega) z]; exact cDiv_any l u p q 4 W hl hu hfu (by omega) z (.inr rfl) h1 h2)
 have M1 : Hid (ky h ≤ 0 → quK h v 3 = K1) := Lib.hid fun c => by rw [← hK1, ov_high c v0]
 have M2 : Hid (¬ ky h ≤ 0 → ky u = 0 → K1 = (kInf : Int)) := Lib.hid fun c z => by rw [← hK1, ov_high2 (by omega) z]
 have M3 := Lib.hid fun (c : ¬ ky h ≤ 0) (z : ¬ ky u = 0) p q W (h1 : RInt W p (mntB h : Nat)) (h2 : RInt W q (mntB u : Nat)) => (show Calls Tryz.prog 117 #[fmtV, NumV (kndB h) (sgnB h) p (xpnB h), NumV (kndB u) (sgnB u) q (xpnB u), .int .i64 3] W (AnsK K1 W) from by rw [← hK1, ov_high3 (by omega) z]; exact cDiv_any h u p q 3 W hh hu hfu (by omega) z (.inl rfl) h1 h2)
 have B0 := Lib.hid (dec_cases (0 ≤ ky l))
 have BZ := Lib.hid (dec_cases (ky u = 0))
 have B1 := Lib.hid (dec_cases (ky h ≤ 0))
 generalize decide (0 ≤ ky l) = b0 at *
 generalize decide (ky u = 0) = bz at *
 generalize decide (ky h ≤ 0) = b1 at *
 generalize quK l v 4 = Q0 at *
 generalize quK h v 3 = Q1 at *
 clear hK0 hK1 hl hh hu hv nl nh nu nv u0 u1 v1 v0 hfu
 generalize ky l = kl at *
 generalize ky h = kh at *
 generalize ky u = ku at *
 generalize sgnB l = sgl at *
 generalize mntB l = mtl at *
 generalize xpnB l = xpl at *
 generalize kndB l = kdl at *
 generalize sgnB h = sgh at *
 generalize mntB h = mth at *
 generalize xpnB h = xph at *
 generalize kndB h = kdh at *
 generalize sgnB u = sgu at *
 generalize mntB u = mtu at *
 generalize xpnB u = xpu at *
 generalize kndB u = kdu at *
 unfold NumNew AnsK at *
 unfold NumV fmtV at *
 go_enter Tryz.func77, Tryz.ntmps77
 obtain ⟨⟨o0, o1⟩, o2, o3⟩ := (HK.out.get (.head _)).cells2f
 obtain ⟨⟨p0, p1⟩, p2, p3⟩ := (HK.out.get (.tail _ (.head _))).cells2f
 obtain ⟨⟨q0, q1⟩, q2, q3⟩ := (HK.out.get (.tail _ (.tail _ (.head _)))).cells2f
 go_upto_block 0 with fail
 go_cut [] from 8 to 32 (fun wx => ∃ R0 : Nat, Hid (W64 R0 ∧ nanB R0 = false ∧ ky R0 = K0) ∧ Hid (Bks w wx [(f0 + 1 + 1, 34, #[.float .f64 R0, .float .f64 0]), (f0, 34, #[.float .f64 l, .float .f64 h]), (f0 + 1, 34, #[.float .f64 0, .float .f64 0])]))
 case first =>
  cases b0
  ·cases bz
   ·go_upto_region 2 with fail
    clear o0 o1 o2 o3 p0 p1 p2 p3 q0 q1 q2 q3
    refine wp_region_pl (fun w' : World => w'.cell? ⟨f0, 0, none⟩ = some (.float .f64 l) ∧ w'.cell? ⟨f0, 1, none⟩ = some (.float .f64 h)) 9 (.take 1 (.take 2 (.take 4 (.run 0 (.run 3 (.run 5 (.run 6 (.take 7 (.take 8 (.nil)))))))))) (by kernel_rfl) (by kernel_rfl) ?_
    replace HK := Lib.hid (HK.out.later (drew_below _))
    generalize World.drew _ = W2 at HK ⊢
    repeat (refine tkL (v := ?_) rfl rfl rfl (fun w' hSw => ?_) (HK.out.two (.tail _ (.head _))) ?_; rotate_left; (focus (go_simp; with_reducible rfl)); simp only [setL])
    refine wpPl_goL rfl rfl fun K' hK => ?_
    go_simp
    refine (HD.out _).mono ?_
    rintro e1 W2v1 ⟨rfl, hb1⟩
    replace HK := Lib.hid (HK.out.later hb1)
    refine hK _ _ (HK.out.two (.tail _ (.head _))) ?_
    clear hK K' hb1
    try simp only [Act.put, setL]
    repeat (refine tkL (v := ?_) rfl rfl rfl (fun w' hSw => ?_) (HK.out.two (.tail _ (.head _))) ?_; rotate_left; (focus (go_simp; with_reducible rfl)); simp only [setL])
    refine wpPl_goL rfl rfl fun K' hK => ?_
    go_simp
    refine (HX0.out _).mono ?_
    rintro e1 W2v2 ⟨q1, rfl, -, hq1, hb1⟩
    replace HK := Lib.hid (HK.out.later hb1)
    have HQ1 := Lib.hid hq1
    clear hq1
    refine hK _ _ (HK.out.two (.tail _ (.head _))) ?_
    clear hK K' hb1
    try simp only [Act.put, setL]
    repeat (refine tkL (v := ?_) rfl rfl rfl (fun w' hSw => ?_) (HK.out.two (.tail _ (.head _))) ?_; rotate_left; (focus (go_simp; with_reducible rfl)); simp only [setL])
    refine wpPl_goL rfl rfl fun K' hK => ?_
    go_simp
    refine (HZ.out _).mono ?_
    rintro e1 W2v3 ⟨q2, rfl, -, hq2, hb1⟩
    replace HK := Lib.hid (HK.out.later hb1)
    have HQ2 := Lib.hid hq2
    clear hq2
    replace HQ1 := Lib.hid (HQ1.out.below hb1)
    refine hK _ _ (HK.out.two (.tail _ (.head _))) ?_
    clear hK K' hb1
    try simp only [Act.put, setL]
    repeat (refine tkL (v := ?_) rfl rfl rfl (fun w' hSw => ?_) (HK.out.two (.tail _ (.head _))) ?_; rotate_left; (focus (go_simp; with_reducible rfl)); simp only [setL])
    refine wpPl_goL rfl rfl fun K' hK => ?_
    go_simp
    refine (L3.out (B0.out.2 rfl) (BZ.out.2 rfl) q1 q2 _ HQ1.out HQ2.out).mono ?_
    rintro e1 W2v4 ⟨R, fl, rfl, a1, a2, a3, hb1⟩
    replace HK := Lib.hid (HK.out.later hb1)
    have HJJ := Lib.hid (And.intro a1 (And.intro a2 a3))
    clear a1 a2 a3 HQ1 HQ2
    refine hK _ _ (HK.out.two (.tail _ (.head _))) ?_
    clear hK K' hb1
    try simp only [Act.put, setL]
    repeat (refine tkL (v := ?_) rfl rfl rfl (fun w' hSw => ?_) (HK.out.two (.tail _ (.head _))) ?_; rotate_left; (focus (go_simp; with_reducible rfl)); simp only [setL])
    refine wpPl_nil ?_
    simp only [drL]
    obtain ⟨⟨o0, o1⟩, o2, o3⟩ := (HK.out.get (.head _)).cells2f
    obtain ⟨⟨p0, p1⟩, p2, p3⟩ := (HK.out.get (.tail _ (.head _))).cells2f
    obtain ⟨⟨q0, q1⟩, q2, q3⟩ := (HK.out.get (.tail _ (.tail _ (.head _)))).cells2f
    go_wp2_with fail
    refine (HNB.out R fl _).mono ?_
    rintro e1 w1 ⟨rfl, hb1⟩
    replace HK := Lib.hid (HK.out.later hb1)
    clear hb1
    clear o0 o1 o2 o3 p0 p1 p2 p3 q0 q1 q2 q3
    obtain ⟨⟨o0, o1⟩, o2, o3⟩ := (HK.out.get (.head _)).cells2f
    obtain ⟨⟨p0, p1⟩, p2, p3⟩ := (HK.out.get (.tail _ (.head _))).cells2f
    obtain ⟨⟨q0, q1⟩, q2, q3⟩ := (HK.out.get (.tail _ (.tail _ (.head _)))).cells2f
    go_wp2
    go_meet
    exact ⟨R, HJJ, Lib.hid (HK.out.set (by omega) (fun t m => by simp only [List.mem_cons, List.not_mem_nil, or_false] at m; rcases m with rfl | rfl <;> simp <;> omega) 0 (.float .f64 R))⟩
   ·go_wp2_with fail
    refine (HI0.out _).mono ?_
    rintro e1 w1 ⟨rfl, hb1⟩
    replace HK := Lib.hid (HK.out.later hb1)
    clear hb1
    clear o0 o1 o2 o3 p0 p1 p2 p3 q0 q1 q2 q3
    obtain ⟨⟨o0, o1⟩, o2, o3⟩ := (HK.out.get (.head _)).cells2f
    obtain ⟨⟨p0, p1⟩, p2, p3⟩ := (HK.out.get (.tail _ (.head _))).cells2f
    obtain ⟨⟨q0, q1⟩, q2, q3⟩ := (HK.out.get (.tail _ (.tail _ (.head _)))).cells2f
    have HJJ : Hid (W64 18442240474082181120 ∧ nanB 18442240474082181120 = false ∧ ky 18442240474082181120 = K0) := Lib.hid ⟨by decide, by decide, by rw [L2.out (B0.out.2 (by first | rfl | trivial)) (BZ.out.1 (by first | rfl | trivial))]; decide⟩
    go_wp2
    go_meet
    exact ⟨18442240474082181120, HJJ, Lib.hid (HK.out.set (by omega) (fun t m => by simp only [List.mem_cons, List.not_mem_nil, or_false] at m; rcases m with rfl | rfl <;> simp <;> omega) 0 (.float .f64 18442240474082181120))⟩
  ·go_wp2_with fail
   refine (HO0.out _).mono ?_
   rintro e1 w1 ⟨R, rfl, a1, a2, a3, hb1⟩
   replace HK := Lib.hid (HK.out.later hb1)
   have HJJ := Lib.hid (And.intro a1 (And.intro a2 (a3.trans (L1.out (B0.out.1 (by first | rfl | trivial))))))
   clear a1 a2 a3
   clear hb1
   clear o0 o1 o2 o3 p0 p1 p2 p3 q0 q1 q2 q3
   obtain ⟨⟨o0, o1⟩, o2, o3⟩ := (HK.out.get (.head _)).cells2f
   obtain ⟨⟨p0, p1⟩, p2, p3⟩ := (HK.out.get (.tail _ (.head _))).cells2f
   obtain ⟨⟨q0, q1⟩, q2, q3⟩ := (HK.out.get (.tail _ (.tail _ (.head _)))).cells2f
   go_wp2
   go_meet
   exact ⟨R, HJJ, Lib.hid (HK.out.set (by omega) (fun t m => by simp only [List.mem_cons, List.not_mem_nil, or_false] at m; rcases m with rfl | rfl <;> simp <;> omega) 0 (.float .f64 R))⟩
 case rest =>
 obtain ⟨R0, HJ0, HK⟩ := hcut
 clear o0 o1 o2 o3 p0 p1 p2 p3 q0 q1 q2 q3
 obtain ⟨⟨o0, o1⟩, o2, o3⟩ := (HK.out.get (.head _)).cells2f
 obtain ⟨⟨p0, p1⟩, p2, p3⟩ := (HK.out.get (.tail _ (.head _))).cells2f
 obtain ⟨⟨q0, q1⟩, q2, q3⟩ := (HK.out.get (.tail _ (.tail _ (.head _)))).cells2f
 go_upto_block 1 with fail
 go_cut [] from 33 to 57 (fun wx => ∃ R1 : Nat, Hid (W64 R1 ∧ nanB R1 = false ∧ ky R1 = K1) ∧ Hid (Bks w wx [(f0 + 1 + 1, 34, #[.float .f64 R0, .float .f64 R1]), (f0, 34, #[.float .f64 l, .float .f64 h]), (f0 + 1, 34, #[.float .f64 0, .float .f64 0])]))
 case first =>
  cases b1
  ·cases bz
   ·go_upto_region 7 with fail
    clear o0 o1 o2 o3 p0 p1 p2 p3 q0 q1 q2 q3
    refine wp_region_pl (fun w' : World => w'.cell? ⟨f0, 0, none⟩ = some (.float .f64 l) ∧ w'.cell? ⟨f0, 1, none⟩ = some (.float .f64 h)) 9 (.take 1 (.take 2 (.take 4 (.run 0 (.run 3 (.run 5 (.run 6 (.take 7 (.take 8 (.nil)))))))))) (by kernel_rfl) (by kernel_rfl) ?_
    replace HK := Lib.hid (HK.out.later (drew_below _))
    generalize World.drew _ = W12 at HK ⊢
    repeat (refine tkL (v := ?_) rfl rfl rfl (fun w' hSw => ?_) (HK.out.two (.tail _ (.head _))) ?_; rotate_left; (focus (go_simp; with_reducible rfl)); simp only [setL])
    refine wpPl_goL rfl rfl fun K' hK => ?_
    go_simp
    refine (HD.out _).mono ?_
    rintro e1 W12v1 ⟨rfl, hb1⟩
    replace HK := Lib.hid (HK.out.later hb1)
    refine hK _ _ (HK.out.two (.tail _ (.head _))) ?_
    clear hK K' hb1
    try simp only [Act.put, setL]
    repeat (refine tkL (v := ?_) rfl rfl rfl (fun w' hSw => ?_) (HK.out.two (.tail _ (.head _))) ?_; rotate_left; (focus (go_simp; with_reducible rfl)); simp only [setL])
    refine wpPl_goL rfl rfl fun K' hK => ?_
    go_simp
    refine (HX1.out _).mono ?_
    rintro e1 W12v2 ⟨q1, rfl, -, hq1, hb1⟩
    replace HK := Lib.hid (HK.out.later hb1)
    have HQ1 := Lib.hid hq1
    clear hq1
    refine hK _ _ (HK.out.two (.tail _ (.head _))) ?_
    clear hK K' hb1
    try simp only [Act.put, setL]
    repeat (refine tkL (v := ?_) rfl rfl rfl (fun w' hSw => ?_) (HK.out.two (.tail _ (.head _))) ?_; rotate_left; (focus (go_simp; with_reducible rfl)); simp only [setL])
    refine wpPl_goL rfl rfl fun K' hK => ?_
    go_simp
    refine (HZ.out _).mono ?_
    rintro e1 W12v3 ⟨q2, rfl, -, hq2, hb1⟩
    replace HK := Lib.hid (HK.out.later hb1)
    have HQ2 := Lib.hid hq2
    clear hq2
    replace HQ1 := Lib.hid (HQ1.out.below hb1)
    refine hK _ _ (HK.out.two (.tail _ (.head _))) ?_
    clear hK K' hb1
    try simp only [Act.put, setL]
    repeat (refine tkL (v := ?_) rfl rfl rfl (fun w' hSw => ?_) (HK.out.two (.tail _ (.head _))) ?_; rotate_left; (focus (go_simp; with_reducible rfl)); simp only [setL])
    refine wpPl_goL rfl rfl fun K' hK => ?_
    go_simp
    refine (M3.out (B1.out.2 rfl) (BZ.out.2 rfl) q1 q2 _ HQ1.out HQ2.out).mono ?_
    rintro e1 W12v4 ⟨R, fl, rfl, a1, a2, a3, hb1⟩
    replace HK := Lib.hid (HK.out.later hb1)
    have HJJ := Lib.hid (And.intro a1 (And.intro a2 a3))
    clear a1 a2 a3 HQ1 HQ2
    refine hK _ _ (HK.out.two (.tail _ (.head _))) ?_
    clear hK K' hb1
    try simp only [Act.put, setL]
    repeat (refine tkL (v := ?_) rfl rfl rfl (fun w' hSw => ?_) (HK.out.two (.tail _ (.head _))) ?_; rotate_left; (focus (go_simp; with_reducible rfl)); simp only [setL])
    refine wpPl_nil ?_
    simp only [drL]
    obtain ⟨⟨o0, o1⟩, o2, o3⟩ := (HK.out.get (.head _)).cells2f
    obtain ⟨⟨p0, p1⟩, p2, p3⟩ := (HK.out.get (.tail _ (.head _))).cells2f
    obtain ⟨⟨q0, q1⟩, q2, q3⟩ := (HK.out.get (.tail _ (.tail _ (.head _)))).cells2f
    go_wp2_with fail
    refine (HNB.out R fl _).mono ?_
    rintro e11 w11 ⟨rfl, hb11⟩
    replace HK := Lib.hid (HK.out.later hb11)
    clear hb11
    clear o0 o1 o2 o3 p0 p1 p2 p3 q0 q1 q2 q3
    obtain ⟨⟨o0, o1⟩, o2, o3⟩ := (HK.out.get (.head _)).cells2f
    obtain ⟨⟨p0, p1⟩, p2, p3⟩ := (HK.out.get (.tail _ (.head _))).cells2f
    obtain ⟨⟨q0, q1⟩, q2, q3⟩ := (HK.out.get (.tail _ (.tail _ (.head _)))).cells2f
    go_wp2
    go_meet
    exact ⟨R, HJJ, Lib.hid (HK.out.set (by omega) (fun t m => by simp only [List.mem_cons, List.not_mem_nil, or_false] at m; rcases m with rfl | rfl <;> simp <;> omega) 1 (.float .f64 R))⟩
   ·go_wp2_with fail
    refine (HI1.out _).mono ?_
    rintro e11 w11 ⟨rfl, hb11⟩
    replace HK := Lib.hid (HK.out.later hb11)
    clear hb11
    clear o0 o1 o2 o3 p0 p1 p2 p3 q0 q1 q2 q3
    obtain ⟨⟨o0, o1⟩, o2, o3⟩ := (HK.out.get (.head _)).cells2f
    obtain ⟨⟨p0, p1⟩, p2, p3⟩ := (HK.out.get (.tail _ (.head _))).cells2f
    obtain ⟨⟨q0, q1⟩, q2, q3⟩ := (HK.out.get (.tail _ (.tail _ (.head _)))).cells2f
    have HJJ : Hid (W64 9218868437227405312 ∧ nanB 9218868437227405312 = false ∧ ky 9218868437227405312 = K1) := Lib.hid ⟨by decide, by decide, by rw [M2.out (B1.out.2 (by first | rfl | trivial)) (BZ.out.1 (by first | rfl | trivial))]; decide⟩
    go_wp2
    go_meet
    exact ⟨9218868437227405312, HJJ, Lib.hid (HK.out.set (by omega) (fun t m => by simp only [List.mem_cons, List.not_mem_nil, or_false] at m; rcases m with rfl | rfl <;> simp <;> omega) 1 (.float .f64 9218868437227405312))⟩
  ·go_wp2_with fail
   refine (HO1.out _).mono ?_
   rintro e11 w11 ⟨R, rfl, a1, a2, a3, hb11⟩
   replace HK := Lib.hid (HK.out.later hb11)
   have HJJ := Lib.hid (And.intro a1 (And.intro a2 (a3.trans (M1.out (B1.out.1 (by first | rfl | trivial))))))
   clear a1 a2 a3
   clear hb11
   clear o0 o1 o2 o3 p0 p1 p2 p3 q0 q1 q2 q3
   obtain ⟨⟨o0, o1⟩, o2, o3⟩ := (HK.out.get (.head _)).cells2f
   obtain ⟨⟨p0, p1⟩, p2, p3⟩ := (HK.out.get (.tail _ (.head _))).cells2f
   obtain ⟨⟨q0, q1⟩, q2, q3⟩ := (HK.out.get (.tail _ (.tail _ (.head _)))).cells2f
   go_wp2
   go_meet
   exact ⟨R, HJJ, Lib.hid (HK.out.set (by omega) (fun t m => by simp only [List.mem_cons, List.not_mem_nil, or_false] at m; rcases m with rfl | rfl <;> simp <;> omega) 1 (.float .f64 R))⟩
 case rest =>
 obtain ⟨R1, HJ1, HK⟩ := hcut
 clear o0 o1 o2 o3 p0 p1 p2 p3 q0 q1 q2 q3
 obtain ⟨⟨o0, o1⟩, o2, o3⟩ := (HK.out.get (.head _)).cells2f
 obtain ⟨⟨p0, p1⟩, p2, p3⟩ := (HK.out.get (.tail _ (.head _))).cells2f
 obtain ⟨⟨q0, q1⟩, q2, q3⟩ := (HK.out.get (.tail _ (.tail _ (.head _)))).cells2f
 go_upto_region 12 with fail
 have HMK := Lib.hid fun W => rMade_any R0 R1 W HJ0.out.1 HJ1.out.1 HJ0.out.2.1 HJ1.out.2.1
 rw [HJ0.out.2.2, HJ1.out.2.2] at HMK
 generalize kb K0 = L at *
 generalize kb K1 = H at *
 go_wp2_with fail
 refine (HMK.out _).mono ?_
 rintro e30 w30 ⟨rfl, hb30⟩
 replace HK := Lib.hid (HK.out.later hb30)
 clear hb30
 clear o0 o1 o2 o3 p0 p1 p2 p3 q0 q1 q2 q3
 obtain ⟨⟨o0, o1⟩, o2, o3⟩ := (HK.out.get (.head _)).cells2f
 obtain ⟨⟨p0, p1⟩, p2, p3⟩ := (HK.out.get (.tail _ (.head _))).cells2f
 obtain ⟨⟨q0, q1⟩, q2, q3⟩ := (HK.out.get (.tail _ (.tail _ (.head _)))).cells2f
 go_wp2
 refine bodyPost_ret (v := .agg #[.float .f64 L, .float .f64 H]) (by simp [results, Tryz.results77, go_sem, q0, q1]) rfl ⟨rfl, (HK.out.rot3.set2 (by omega) (fun t m => by simp only [List.mem_cons, List.not_mem_nil, or_false] at m; rcases m with rfl | rfl <;> simp <;> omega) (.float .f64 L) (.float .f64 H)).2⟩
end
section
open Go.RowKit
attribute [local go_sem] run_store_f
def upK (l h m k : Int) : Option (Int × Int) := some (ovK l h (max m 0) k)
def loK (l h m k : Int) : Option (Int × Int) := some (ovK (-h) (-l) (max (-k) 0) (-m))
theorem upK_ok {l h m k : Int} (b1 : -(kInf : Int) ≤ l ∧ l ≤ h ∧ h ≤ kInf ∧ l < kInf ∧ -(kInf : Int) < h) (b2 : -(kInf : Int) ≤ m ∧ m ≤ k ∧ k ≤ kInf ∧ m < kInf ∧ -(kInf : Int) < k) (k0 : 0 < k) : Iok (upK l h m k) := by
 have hi : (0 : Int) < kInf := by decide
 exact ovK_ok (by omega) (by omega) (by omega) (by omega) (by omega) (by omega) (by omega) (by omega) (by omega) (by omega)
theorem loK_ok {l h m k : Int} (b1 : -(kInf : Int) ≤ l ∧ l ≤ h ∧ h ≤ kInf ∧ l < kInf ∧ -(kInf : Int) < h) (b2 : -(kInf : Int) ≤ m ∧ m ≤ k ∧ k ≤ kInf ∧ m < kInf ∧ -(kInf : Int) < k) (m0 : m < 0) : Iok (loK l h m k) := by
 have hi : (0 : Int) < kInf := by decide
 exact ovK_ok (by omega) (by omega) (by omega) (by omega) (by omega) (by omega) (by omega) (by omega) (by omega) (by omega)
theorem divK_parts {l h m k : Int} (b1 : -(kInf : Int) ≤ l ∧ l ≤ h ∧ h ≤ kInf ∧ l < kInf ∧ -(kInf : Int) < h) (b2 : -(kInf : Int) ≤ m ∧ m ≤ k ∧ k ≤ kInf ∧ m < kInf ∧ -(kInf : Int) < k) :
  (¬ 0 < k → ¬ m < 0 → divK (some (l, h)) (some (m, k)) = none) ∧ (0 < k → ¬ m < 0 → divK (some (l, h)) (some (m, k)) = upK l h m k) ∧ (¬ 0 < k → m < 0 → divK (some (l, h)) (some (m, k)) = loK l h m k) ∧
  (0 < k → m < 0 → divK (some (l, h)) (some (m, k)) = hullK (upK l h m k) (loK l h m k)) := by
 have hi : (0 : Int) < kInf := by decide
 have hd : divK (some (l, h)) (some (m, k)) = if m = 0 ∧ k = 0 then none else if 0 ≤ m then some (ovK l h m k) else if k ≤ 0 then some (ovK (-h) (-l) (-k) (-m)) else if l = 0 ∧ h = 0 then some (0, 0) else some (-(kInf : Int), (kInf : Int)) := rfl
 refine ⟨fun h1 h2 => ?_, fun h1 h2 => ?_, fun h1 h2 => ?_, fun h1 h2 => ?_⟩
 ·rw [hd, if_pos (by omega)]
 ·rw [hd, if_neg (by omega), if_pos (by omega)]
  unfold upK; rw [show max m 0 = m by omega]
 ·rw [hd, if_neg (by omega), if_neg (by omega), if_pos (by omega)]
  unfold loK; rw [show max (-k) 0 = -k by omega]
 ·rw [hd, if_neg (by omega), if_neg (by omega), if_neg (by omega)]
  have u1 := upK_ok b1 b2 h1
  have u2 := loK_ok b1 b2 h2
  unfold upK loK at *
  rw [show max m 0 = 0 by omega, show max (-k) 0 = 0 by omega] at *
  by_cases z : l = 0 ∧ h = 0
  ·obtain ⟨rfl, rfl⟩ := z
   rw [if_pos ⟨rfl, rfl⟩, ovK_zero (by omega) (by omega) (by omega), Int.neg_zero, ovK_zero (by omega) (by omega) (by omega)]
   rfl
  ·rw [if_neg z]
   obtain ⟨x1, y1⟩ : ∃ x, ovK l h 0 k = x := ⟨_, rfl⟩
   obtain ⟨x2, y2⟩ : ∃ x, ovK (-h) (-l) 0 (-m) = x := ⟨_, rfl⟩
   have r1 := u1 x1.1 x1.2 (by rw [y1])
   have r2 := u2 x2.1 x2.2 (by rw [y2])
   have byz : ∀ x mode : Int, -(kInf : Int) ≤ x → x ≤ kInf → (x < 0 → byK (kb x) (kb 0) mode = -(kInf : Int)) ∧ (0 < x → byK (kb x) (kb 0) mode = (kInf : Int)) := fun x mode h1 h2 => by
    have hk := (kb_lt h1 h2).2.2
    have h0 : ky (kb 0) = 0 := by decide
    unfold byK
    rw [hk, h0]
    exact ⟨fun t => by rw [if_pos ⟨rfl, by omega⟩, if_neg (by omega)], fun t => by rw [if_pos ⟨rfl, by omega⟩, if_pos t]⟩
   have e1 : x1.1 = byK (kb l) (kb (if l < 0 then 0 else k)) 4 := by rw [← y1]; rfl
   have e2 : x1.2 = byK (kb h) (kb (if 0 < h then 0 else k)) 3 := by rw [← y1]; rfl
   have e3 : x2.1 = byK (kb (-h)) (kb (if -h < 0 then 0 else -m)) 4 := by rw [← y2]; rfl
   have e4 : x2.2 = byK (kb (-l)) (kb (if 0 < -l then 0 else -m)) 3 := by rw [← y2]; rfl
   rw [y1, y2]
   show _ = some (min x1.1 x2.1, max x1.2 x2.2)
   by_cases c : l < 0
   ·rw [if_pos c, (byz l 4 (by omega) (by omega)).1 c] at e1
    rw [if_pos (by omega), (byz (-l) 3 (by omega) (by omega)).2 (by omega)] at e4
    rw [show min x1.1 x2.1 = -(kInf : Int) by omega, show max x1.2 x2.2 = (kInf : Int) by omega]
   ·have c2 : 0 < h := by omega
    rw [if_pos c2, (byz h 3 (by omega) (by omega)).2 c2] at e2
    rw [if_pos (by omega), (byz (-h) 4 (by omega) (by omega)).1 (by omega)] at e3
    rw [show min x1.1 x2.1 = -(kInf : Int) by omega, show max x1.2 x2.2 = (kInf : Int) by omega]
set_option maxRecDepth 100000 in
set_option maxHeartbeats 6400000 in
theorem rDiv_iv (l h m k : Nat) (w : World) (hl : W64 l) (hh : W64 h) (hm : W64 m) (hk : W64 k) :
  Calls Tryz.prog 31 #[.agg #[.float .f64 l, .float .f64 h], .agg #[.float .f64 m, .float .f64 k]] w (Gives (.agg #[.float .f64 (ivL (divK (ivK l h) (ivK m k))), .float .f64 (ivH (divK (ivK l h) (ivK m k)))]) w) := by
 have HFA := Lib.hid fun w => rFull_any l h w hl hh
 have HFB := Lib.hid fun w => rFull_any m k w hm hk
 have HE := Lib.hid fun w => rEmpty_any w
 have HK := Lib.hid (Bks.new3 w 34 34 34 #[.float .f64 l, .float .f64 h] #[.float .f64 m, .float .f64 k] #[.float .f64 0, .float .f64 0])
 obtain ⟨f0, hf0⟩ : ∃ f, w.heap.size = f := ⟨_, rfl⟩
 rw [hf0] at HK
 rcases e1 : ivK l h with _ | p
 ·rw [e1, Option.isSome_none] at HFA
  rw [show ivL (divK none (ivK m k)) = 9218868437227405312 from rfl, show ivH (divK none (ivK m k)) = 18442240474082181120 from rfl]
  clear e1 HFB
  go_enter Tryz.func31, Tryz.ntmps31
  obtain ⟨⟨c0, c1⟩, c2, c3⟩ := (HK.out.get (.head _)).cells2f
  obtain ⟨⟨e0, e1⟩, e2, e3⟩ := (HK.out.get (.tail _ (.head _))).cells2f
  obtain ⟨⟨q0, q1⟩, q2, q3⟩ := (HK.out.get (.tail _ (.tail _ (.head _)))).cells2f
  go_wp2_with fail
  refine (HFA.out _).mono ?_
  rintro e1 w1 ⟨rfl, hb1⟩
  replace HK := Lib.hid (HK.out.later hb1)
  clear hb1
  clear c0 c1 c2 c3 e0 e1 e2 e3 q0 q1 q2 q3
  obtain ⟨⟨c0, c1⟩, c2, c3⟩ := (HK.out.get (.head _)).cells2f
  obtain ⟨⟨e0, e1⟩, e2, e3⟩ := (HK.out.get (.tail _ (.head _))).cells2f
  obtain ⟨⟨q0, q1⟩, q2, q3⟩ := (HK.out.get (.tail _ (.tail _ (.head _)))).cells2f
  go_wp2_with fail
  refine (HE.out _).mono ?_
  rintro e2 w2 ⟨rfl, hb2⟩
  replace HK := Lib.hid (HK.out.later hb2)
  clear hb2
  clear c0 c1 c2 c3 e0 e1 e2 e3 q0 q1 q2 q3
  obtain ⟨⟨c0, c1⟩, c2, c3⟩ := (HK.out.get (.head _)).cells2f
  obtain ⟨⟨e0, e1⟩, e2, e3⟩ := (HK.out.get (.tail _ (.head _))).cells2f
  obtain ⟨⟨q0, q1⟩, q2, q3⟩ := (HK.out.get (.tail _ (.tail _ (.head _)))).cells2f
  go_wp2
  refine bodyPost_ret (v := .agg #[.float .f64 9218868437227405312, .float .f64 18442240474082181120]) (by simp [results, Tryz.results31, go_sem, q0, q1]) rfl ⟨rfl, (HK.out.2.setCell (p := ⟨f0 + 1 + 1, 0, none⟩) (show w.heap.size ≤ f0 + 1 + 1 by omega) _).setCell (p := ⟨f0 + 1 + 1, 1, none⟩) (show w.heap.size ≤ f0 + 1 + 1 by omega) _⟩
 rw [e1, Option.isSome_some] at HFA
 rcases e2 : ivK m k with _ | q
 ·rw [e2, Option.isSome_none] at HFB
  rw [show ivL (divK (some p) none) = 9218868437227405312 from rfl, show ivH (divK (some p) none) = 18442240474082181120 from rfl]
  clear e1 e2
  go_enter Tryz.func31, Tryz.ntmps31
  obtain ⟨⟨c0, c1⟩, c2, c3⟩ := (HK.out.get (.head _)).cells2f
  obtain ⟨⟨e0, e1⟩, e2, e3⟩ := (HK.out.get (.tail _ (.head _))).cells2f
  obtain ⟨⟨q0, q1⟩, q2, q3⟩ := (HK.out.get (.tail _ (.tail _ (.head _)))).cells2f
  go_wp2_with fail
  refine (HFA.out _).mono ?_
  rintro e1 w1 ⟨rfl, hb1⟩
  replace HK := Lib.hid (HK.out.later hb1)
  clear hb1
  clear c0 c1 c2 c3 e0 e1 e2 e3 q0 q1 q2 q3
  obtain ⟨⟨c0, c1⟩, c2, c3⟩ := (HK.out.get (.head _)).cells2f
  obtain ⟨⟨e0, e1⟩, e2, e3⟩ := (HK.out.get (.tail _ (.head _))).cells2f
  obtain ⟨⟨q0, q1⟩, q2, q3⟩ := (HK.out.get (.tail _ (.tail _ (.head _)))).cells2f
  go_wp2_with fail
  refine (HFB.out _).mono ?_
  rintro e2 w2 ⟨rfl, hb2⟩
  replace HK := Lib.hid (HK.out.later hb2)
  clear hb2
  clear c0 c1 c2 c3 e0 e1 e2 e3 q0 q1 q2 q3
  obtain ⟨⟨c0, c1⟩, c2, c3⟩ := (HK.out.get (.head _)).cells2f
  obtain ⟨⟨e0, e1⟩, e2, e3⟩ := (HK.out.get (.tail _ (.head _))).cells2f
  obtain ⟨⟨q0, q1⟩, q2, q3⟩ := (HK.out.get (.tail _ (.tail _ (.head _)))).cells2f
  go_wp2_with fail
  refine (HE.out _).mono ?_
  rintro e3 w3 ⟨rfl, hb3⟩
  replace HK := Lib.hid (HK.out.later hb3)
  clear hb3
  clear c0 c1 c2 c3 e0 e1 e2 e3 q0 q1 q2 q3
  obtain ⟨⟨c0, c1⟩, c2, c3⟩ := (HK.out.get (.head _)).cells2f
  obtain ⟨⟨e0, e1⟩, e2, e3⟩ := (HK.out.get (.tail _ (.head _))).cells2f
  obtain ⟨⟨q0, q1⟩, q2, q3⟩ := (HK.out.get (.tail _ (.tail _ (.head _)))).cells2f
  go_wp2
  refine bodyPost_ret (v := .agg #[.float .f64 9218868437227405312, .float .f64 18442240474082181120]) (by simp [results, Tryz.results31, go_sem, q0, q1]) rfl ⟨rfl, (HK.out.2.setCell (p := ⟨f0 + 1 + 1, 0, none⟩) (show w.heap.size ≤ f0 + 1 + 1 by omega) _).setCell (p := ⟨f0 + 1 + 1, 1, none⟩) (show w.heap.size ≤ f0 + 1 + 1 by omega) _⟩
 rw [e2, Option.isSome_some] at HFB
 have a1 := ivK_ok hl hh
 have a2 := ivK_ok hm hk
 have HNG := Lib.hid fun W => rNeg_iv l h W hl hh
 rw [e1] at a1 HNG
 rw [e2] at a2
 obtain ⟨nl, nh, rfl⟩ := ivK_some e1
 obtain ⟨nm, nk, rfl⟩ := ivK_some e2
 have b1 := a1 _ _ rfl
 have b2 := a2 _ _ rfl
 rw [show ivL (negK (some (ky l, ky h))) = kb (-ky h) from rfl, show ivH (negK (some (ky l, ky h))) = kb (-ky l) from rfl] at HNG
 have hi : (0 : Int) < kInf := by decide
 have fn : ∀ x, W64 x → nanB x = false → nanB (flipB x) = false := fun x hx nx => by rw [num_iff, flip_num hx]; exact num_of nx
 have t1 := gt_test hk (by decide : W64 0) nk (by decide)
 have t2 := lt_test hm (by decide : W64 0) nm (by decide)
 rw [ky_zero] at t1 t2
 have ng1 : ∀ w, (Op.unary .neg (.float .f64 k)).run Tryz.prog w = .ok (.float .f64 (flipB k)) w := fun w => by rw [← neg_flip hk]; rfl
 have ng2 : ∀ w, (Op.unary .neg (.float .f64 m)).run Tryz.prog w = .ok (.float .f64 (flipB m)) w := fun w => by rw [← neg_flip hm]; rfl
 have HMO := Lib.hid fun W => rMost_any m 0 W hm (by decide) nm (by decide)
 have HMP := Lib.hid fun W => rMost_any (flipB k) 0 W (flip_lt hk) (by decide) (fn _ hk nk) (by decide)
 rw [ky_zero] at HMO HMP
 rw [flip_ky hk] at HMP
 have hen : ivK 9218868437227405312 18442240474082181120 = none := by decide
 obtain ⟨pp, pu, pl, pb⟩ := divK_parts b1 b2
 have hnh := kb_lt (k := -ky h) (by omega) (by omega)
 have hnl := kb_lt (k := -ky l) (by omega) (by omega)
 have HAB := Lib.hid fun (c1 : 0 < ky k) (r : Nat) W (h1 : W64 r) (h2 : nanB r = false) (h3 : ky r = max (ky m) 0) => (show Calls Tryz.prog 77 #[.agg #[.float .f64 l, .float .f64 h], .float .f64 r, .float .f64 k] W (Gives (.agg #[.float .f64 (ivL (upK (ky l) (ky h) (ky m) (ky k))), .float .f64 (ivH (upK (ky l) (ky h) (ky m) (ky k)))]) W) from by have := rAbove_iv l h r k W hl hh h1 hk nl nh h2 nk (by rw [h3]; omega) (by rw [h3]; omega) (by omega); rw [h3] at this; exact this)
 have HAL := Lib.hid fun (c2 : ky m < 0) (r : Nat) W (h1 : W64 r) (h2 : nanB r = false) (h3 : ky r = max (-ky k) 0) => (show Calls Tryz.prog 77 #[.agg #[.float .f64 (kb (-ky h)), .float .f64 (kb (-ky l))], .float .f64 r, .float .f64 (flipB m)] W (Gives (.agg #[.float .f64 (ivL (loK (ky l) (ky h) (ky m) (ky k))), .float .f64 (ivH (loK (ky l) (ky h) (ky m) (ky k)))]) W) from by have := rAbove_iv (kb (-ky h)) (kb (-ky l)) r (flipB m) W hnh.1 hnl.1 h1 (flip_lt hm) (num_iff.2 hnh.2.1) (num_iff.2 hnl.2.1) h2 (fn _ hm nm) (by rw [h3]; omega) (by rw [h3]; omega) (by rw [flip_ky hm]; omega); rw [h3, flip_ky hm, hnh.2.2, hnl.2.2] at this; exact this)
 have HHU := Lib.hid fun (c1 : 0 < ky k) W => (show Calls Tryz.prog 76 #[.agg #[.float .f64 9218868437227405312, .float .f64 18442240474082181120], .agg #[.float .f64 (ivL (upK (ky l) (ky h) (ky m) (ky k))), .float .f64 (ivH (upK (ky l) (ky h) (ky m) (ky k)))]] W (Gives (.agg #[.float .f64 (ivL (upK (ky l) (ky h) (ky m) (ky k))), .float .f64 (ivH (upK (ky l) (ky h) (ky m) (ky k)))]) W) from by have hu := upK_ok b1 b2 c1; have := rHull_any 9218868437227405312 18442240474082181120 _ _ W (by decide) (by decide) (ivL_lt hu) (ivH_lt hu); rwa [hen, ivK_back hu, show hullK none (upK (ky l) (ky h) (ky m) (ky k)) = upK (ky l) (ky h) (ky m) (ky k) from rfl] at this)
 have HHE := Lib.hid fun (c2 : ky m < 0) W => (show Calls Tryz.prog 76 #[.agg #[.float .f64 9218868437227405312, .float .f64 18442240474082181120], .agg #[.float .f64 (ivL (loK (ky l) (ky h) (ky m) (ky k))), .float .f64 (ivH (loK (ky l) (ky h) (ky m) (ky k)))]] W (Gives (.agg #[.float .f64 (ivL (loK (ky l) (ky h) (ky m) (ky k))), .float .f64 (ivH (loK (ky l) (ky h) (ky m) (ky k)))]) W) from by have hv := loK_ok b1 b2 c2; have := rHull_any 9218868437227405312 18442240474082181120 _ _ W (by decide) (by decide) (ivL_lt hv) (ivH_lt hv); rwa [hen, ivK_back hv, show hullK none (loK (ky l) (ky h) (ky m) (ky k)) = loK (ky l) (ky h) (ky m) (ky k) from rfl] at this)
 have HHB := Lib.hid fun (c1 : 0 < ky k) (c2 : ky m < 0) W => (show Calls Tryz.prog 76 #[.agg #[.float .f64 (ivL (upK (ky l) (ky h) (ky m) (ky k))), .float .f64 (ivH (upK (ky l) (ky h) (ky m) (ky k)))], .agg #[.float .f64 (ivL (loK (ky l) (ky h) (ky m) (ky k))), .float .f64 (ivH (loK (ky l) (ky h) (ky m) (ky k)))]] W (Gives (.agg #[.float .f64 (ivL (hullK (upK (ky l) (ky h) (ky m) (ky k)) (loK (ky l) (ky h) (ky m) (ky k)))), .float .f64 (ivH (hullK (upK (ky l) (ky h) (ky m) (ky k)) (loK (ky l) (ky h) (ky m) (ky k))))]) W) from by have hu := upK_ok b1 b2 c1; have hv := loK_ok b1 b2 c2; have := rHull_any _ _ _ _ W (ivL_lt hu) (ivH_lt hu) (ivL_lt hv) (ivH_lt hv); rwa [ivK_back hu, ivK_back hv] at this)
 have B1 := Lib.hid (dec_cases (0 < ky k))
 have B2 := Lib.hid (dec_cases (ky m < 0))
 generalize decide (0 < ky k) = v1 at *
 generalize decide (ky m < 0) = v2 at *
 have XE : Hid ((v1 = false → v2 = false → divK (some (ky l, ky h)) (some (ky m, ky k)) = none) ∧ (v1 = true → v2 = false → divK (some (ky l, ky h)) (some (ky m, ky k)) = upK (ky l) (ky h) (ky m) (ky k)) ∧ (v1 = false → v2 = true → divK (some (ky l, ky h)) (some (ky m, ky k)) = loK (ky l) (ky h) (ky m) (ky k)) ∧ (v1 = true → v2 = true → divK (some (ky l, ky h)) (some (ky m, ky k)) = hullK (upK (ky l) (ky h) (ky m) (ky k)) (loK (ky l) (ky h) (ky m) (ky k)))) := Lib.hid ⟨fun a b => pp (B1.out.2 a) (B2.out.2 b), fun a b => pu (B1.out.1 a) (B2.out.2 b), fun a b => pl (B1.out.2 a) (B2.out.1 b), fun a b => pb (B1.out.1 a) (B2.out.1 b)⟩
 generalize divK (some (ky l, ky h)) (some (ky m, ky k)) = DD at *
 generalize hullK (upK (ky l) (ky h) (ky m) (ky k)) (loK (ky l) (ky h) (ky m) (ky k)) = HH at *
 generalize upK (ky l) (ky h) (ky m) (ky k) = UU at *
 generalize loK (ky l) (ky h) (ky m) (ky k) = LL at *
 clear e1 e2 nl nh nm nk hl hh hm hk a1 a2 b1 b2 hi fn hen pp pu pl pb hnh hnl
 generalize ky k = kk at *
 generalize ky m = km at *
 generalize kb (-ky h) = nh1 at *
 generalize kb (-ky l) = nl1 at *
 generalize flipB k = fk at *
 generalize flipB m = fm at *
 go_enter Tryz.func31, Tryz.ntmps31
 obtain ⟨⟨c0, c1⟩, c2, c3⟩ := (HK.out.get (.head _)).cells2f
 obtain ⟨⟨e0, e1⟩, e2, e3⟩ := (HK.out.get (.tail _ (.head _))).cells2f
 obtain ⟨⟨q0, q1⟩, q2, q3⟩ := (HK.out.get (.tail _ (.tail _ (.head _)))).cells2f
 go_wp2_with fail
 refine (HFA.out _).mono ?_
 rintro e1 w1 ⟨rfl, hb1⟩
 replace HK := Lib.hid (HK.out.later hb1)
 clear hb1
 clear c0 c1 c2 c3 e0 e1 e2 e3 q0 q1 q2 q3
 obtain ⟨⟨c0, c1⟩, c2, c3⟩ := (HK.out.get (.head _)).cells2f
 obtain ⟨⟨e0, e1⟩, e2, e3⟩ := (HK.out.get (.tail _ (.head _))).cells2f
 obtain ⟨⟨q0, q1⟩, q2, q3⟩ := (HK.out.get (.tail _ (.tail _ (.head _)))).cells2f
 go_wp2_with fail
 refine (HFB.out _).mono ?_
 rintro e2 w2 ⟨rfl, hb2⟩
 replace HK := Lib.hid (HK.out.later hb2)
 clear hb2
 clear c0 c1 c2 c3 e0 e1 e2 e3 q0 q1 q2 q3
 obtain ⟨⟨c0, c1⟩, c2, c3⟩ := (HK.out.get (.head _)).cells2f
 obtain ⟨⟨e0, e1⟩, e2, e3⟩ := (HK.out.get (.tail _ (.head _))).cells2f
 obtain ⟨⟨q0, q1⟩, q2, q3⟩ := (HK.out.get (.tail _ (.tail _ (.head _)))).cells2f
 go_wp2_with fail
 refine (HE.out _).mono ?_
 rintro e3 w3 ⟨rfl, hb3⟩
 replace HK := Lib.hid (HK.out.later hb3)
 clear hb3
 clear c0 c1 c2 c3 e0 e1 e2 e3 q0 q1 q2 q3
 obtain ⟨⟨c0, c1⟩, c2, c3⟩ := (HK.out.get (.head _)).cells2f
 obtain ⟨⟨e0, e1⟩, e2, e3⟩ := (HK.out.get (.tail _ (.head _))).cells2f
 obtain ⟨⟨q0, q1⟩, q2, q3⟩ := (HK.out.get (.tail _ (.tail _ (.head _)))).cells2f
 go_upto_region 4 with fail
 have HCL : Hid (f0 + 1 + 1 < w3.heap.size) := Lib.hid (HK.out.lt _ (.tail _ (.tail _ (.head _))))
 replace HK := Lib.hid (HK.out.alloc #[.float .f64 9218868437227405312, .float .f64 18442240474082181120] 34)
 generalize World.alloc w3 _ = W3 at HK ⊢
 generalize w3.heap.size = cb at *
 clear c0 c1 c2 c3 e0 e1 e2 e3 q0 q1 q2 q3
 obtain ⟨⟨o0, o1⟩, o2, o3⟩ := (HK.out.get (.head _)).cells2f
 obtain ⟨⟨c0, c1⟩, c2, c3⟩ := (HK.out.get (.tail _ (.head _))).cells2f
 obtain ⟨⟨e0, e1⟩, e2, e3⟩ := (HK.out.get (.tail _ (.tail _ (.head _)))).cells2f
 obtain ⟨⟨q0, q1⟩, q2, q3⟩ := (HK.out.get (.tail _ (.tail _ (.tail _ (.head _))))).cells2f
 cases v1
 ·cases v2
  ·obtain rfl : DD = none := XE.out.1 (by first | rfl | trivial) (by first | rfl | trivial)
   rw [show ivL none = 9218868437227405312 from rfl, show ivH none = 18442240474082181120 from rfl]
   go_upto_region 8 with fail
   go_wp2
   refine bodyPost_ret (v := .agg #[.float .f64 9218868437227405312, .float .f64 18442240474082181120]) (by simp [results, Tryz.results31, go_sem, q0, q1]) rfl ⟨rfl, (HK.out.2.setCell (p := ⟨f0 + 1 + 1, 0, none⟩) (show w.heap.size ≤ f0 + 1 + 1 by omega) _).setCell (p := ⟨f0 + 1 + 1, 1, none⟩) (show w.heap.size ≤ f0 + 1 + 1 by omega) _⟩
  ·obtain rfl : DD = LL := XE.out.2.2.1 (by first | rfl | trivial) (by first | rfl | trivial)
   replace HAL := Lib.hid (HAL.out (B2.out.1 (by first | rfl | trivial)))
   have HHL := Lib.hid (HHE.out (B2.out.1 (by first | rfl | trivial)))
   clear XE
   generalize ivL DD = V1 at *
   generalize ivH DD = V2 at *
   go_upto_region 6 with fail
   go_upto_region 7 with fail
   clear o0 o1 o2 o3 c0 c1 c2 c3 e0 e1 e2 e3 q0 q1 q2 q3
   refine wp_region_pl (fun w' : World => (w'.cell? ⟨cb, 0, none⟩ = some (.float .f64 9218868437227405312) ∧ w'.cell? ⟨cb, 1, none⟩ = some (.float .f64 18442240474082181120)) ∧ (w'.cell? ⟨f0, 0, none⟩ = some (.float .f64 l) ∧ w'.cell? ⟨f0, 1, none⟩ = some (.float .f64 h)) ∧ w'.cell? ⟨f0 + 1, 0, none⟩ = some (.float .f64 m) ∧ w'.cell? ⟨f0 + 1, 1, none⟩ = some (.float .f64 k)) 11 (.take 0 (.take 1 (.take 3 (.take 4 (.take 5 (.take 7 (.take 8 (.take 9 (.run 2 (.run 6 (.run 10 (.nil)))))))))))) (by kernel_rfl) (by kernel_rfl) ?_
   replace HK := Lib.hid (HK.out.later (drew_below _))
   generalize World.drew _ = W7 at HK ⊢
   repeat (refine tkL (v := ?_) rfl rfl rfl (fun w' hSw => ?_) (⟨HK.out.two (.head _), HK.out.two (.tail _ (.head _)), HK.out.two (.tail _ (.tail _ (.head _)))⟩) ?_; rotate_left; (focus (go_simp; with_reducible rfl)); simp only [setL])
   refine wpPl_goL rfl rfl fun K' hK => ?_
   go_simp
   refine (HNG.out _).mono ?_
   rintro e1 W7v1 ⟨rfl, hb1⟩
   replace HK := Lib.hid (HK.out.later hb1)
   refine hK _ _ ⟨HK.out.two (.head _), HK.out.two (.tail _ (.head _)), HK.out.two (.tail _ (.tail _ (.head _)))⟩ ?_
   clear hK K' hb1
   try simp only [Act.put, setL]
   repeat (refine tkL (v := ?_) rfl rfl rfl (fun w' hSw => ?_) (⟨HK.out.two (.head _), HK.out.two (.tail _ (.head _)), HK.out.two (.tail _ (.tail _ (.head _)))⟩) ?_; rotate_left; (focus (go_simp; with_reducible rfl)); simp only [setL])
   refine wpPl_goL rfl rfl fun K' hK => ?_
   go_simp
   refine (HMP.out _).mono ?_
   rintro e1 W7v2 ⟨r1, rfl, l1, n1, k1, hb1⟩
   replace HK := Lib.hid (HK.out.later hb1)
   have HAU := Lib.hid fun W => HAL.out r1 W l1 n1 k1
   clear l1 n1 k1
   refine hK _ _ ⟨HK.out.two (.head _), HK.out.two (.tail _ (.head _)), HK.out.two (.tail _ (.tail _ (.head _)))⟩ ?_
   clear hK K' hb1
   try simp only [Act.put, setL]
   repeat (refine tkL (v := ?_) rfl rfl rfl (fun w' hSw => ?_) (⟨HK.out.two (.head _), HK.out.two (.tail _ (.head _)), HK.out.two (.tail _ (.tail _ (.head _)))⟩) ?_; rotate_left; (focus (go_simp; with_reducible rfl)); simp only [setL])
   refine wpPl_goL rfl rfl fun K' hK => ?_
   go_simp
   refine (HAU.out _).mono ?_
   rintro e1 W7v3 ⟨rfl, hb1⟩
   replace HK := Lib.hid (HK.out.later hb1)
   clear HAU
   refine hK _ _ ⟨HK.out.two (.head _), HK.out.two (.tail _ (.head _)), HK.out.two (.tail _ (.tail _ (.head _)))⟩ ?_
   clear hK K' hb1
   try simp only [Act.put, setL]
   repeat (refine tkL (v := ?_) rfl rfl rfl (fun w' hSw => ?_) (⟨HK.out.two (.head _), HK.out.two (.tail _ (.head _)), HK.out.two (.tail _ (.tail _ (.head _)))⟩) ?_; rotate_left; (focus (go_simp; with_reducible rfl)); simp only [setL])
   refine wpPl_nil ?_
   simp only [drL]
   obtain ⟨⟨o0, o1⟩, o2, o3⟩ := (HK.out.get (.head _)).cells2f
   obtain ⟨⟨c0, c1⟩, c2, c3⟩ := (HK.out.get (.tail _ (.head _))).cells2f
   obtain ⟨⟨e0, e1⟩, e2, e3⟩ := (HK.out.get (.tail _ (.tail _ (.head _)))).cells2f
   obtain ⟨⟨q0, q1⟩, q2, q3⟩ := (HK.out.get (.tail _ (.tail _ (.tail _ (.head _))))).cells2f
   go_wp2_with fail
   refine (HHL.out _).mono ?_
   rintro e7 w7 ⟨rfl, hb7⟩
   replace HK := Lib.hid (HK.out.later hb7)
   clear hb7
   clear o0 o1 o2 o3 c0 c1 c2 c3 e0 e1 e2 e3 q0 q1 q2 q3
   obtain ⟨⟨o0, o1⟩, o2, o3⟩ := (HK.out.get (.head _)).cells2f
   obtain ⟨⟨c0, c1⟩, c2, c3⟩ := (HK.out.get (.tail _ (.head _))).cells2f
   obtain ⟨⟨e0, e1⟩, e2, e3⟩ := (HK.out.get (.tail _ (.tail _ (.head _)))).cells2f
   obtain ⟨⟨q0, q1⟩, q2, q3⟩ := (HK.out.get (.tail _ (.tail _ (.tail _ (.head _))))).cells2f
   go_upto_region 8 with fail
   replace HK := Lib.hid (HK.out.set2 (by have := HCL.out; omega) (fun t m => by have := HCL.out; simp only [List.mem_cons, List.not_mem_nil, or_false] at m; rcases m with rfl | rfl | rfl <;> simp <;> omega) (.float .f64 V1) (.float .f64 V2))
   generalize World.setCell (World.setCell w7 _ _) _ _ = w7s at *
   clear o0 o1 o2 o3 c0 c1 c2 c3 e0 e1 e2 e3 q0 q1 q2 q3
   obtain ⟨⟨o0, o1⟩, o2, o3⟩ := (HK.out.get (.head _)).cells2f
   obtain ⟨⟨c0, c1⟩, c2, c3⟩ := (HK.out.get (.tail _ (.head _))).cells2f
   obtain ⟨⟨e0, e1⟩, e2, e3⟩ := (HK.out.get (.tail _ (.tail _ (.head _)))).cells2f
   obtain ⟨⟨q0, q1⟩, q2, q3⟩ := (HK.out.get (.tail _ (.tail _ (.tail _ (.head _))))).cells2f
   go_wp2
   refine bodyPost_ret (v := .agg #[.float .f64 V1, .float .f64 V2]) (by simp [results, Tryz.results31, go_sem, q0, q1]) rfl ⟨rfl, (HK.out.2.setCell (p := ⟨f0 + 1 + 1, 0, none⟩) (show w.heap.size ≤ f0 + 1 + 1 by omega) _).setCell (p := ⟨f0 + 1 + 1, 1, none⟩) (show w.heap.size ≤ f0 + 1 + 1 by omega) _⟩
 ·replace HAB := Lib.hid (HAB.out (B1.out.1 (by first | rfl | trivial)))
  replace HHU := Lib.hid (HHU.out (B1.out.1 (by first | rfl | trivial)))
  generalize hU1 : ivL UU = U1 at *
  generalize hU2 : ivH UU = U2 at *
  replace hU1 := Lib.hid hU1
  replace hU2 := Lib.hid hU2
  go_upto_region 5 with fail
  clear o0 o1 o2 o3 c0 c1 c2 c3 e0 e1 e2 e3 q0 q1 q2 q3
  refine wp_region_pl (fun w' : World => (w'.cell? ⟨cb, 0, none⟩ = some (.float .f64 9218868437227405312) ∧ w'.cell? ⟨cb, 1, none⟩ = some (.float .f64 18442240474082181120)) ∧ (w'.cell? ⟨f0, 0, none⟩ = some (.float .f64 l) ∧ w'.cell? ⟨f0, 1, none⟩ = some (.float .f64 h)) ∧ w'.cell? ⟨f0 + 1, 0, none⟩ = some (.float .f64 m) ∧ w'.cell? ⟨f0 + 1, 1, none⟩ = some (.float .f64 k)) 8 (.take 0 (.take 1 (.take 2 (.take 3 (.take 5 (.take 6 (.run 4 (.run 7 (.nil))))))))) (by kernel_rfl) (by kernel_rfl) ?_
  replace HK := Lib.hid (HK.out.later (drew_below _))
  generalize World.drew _ = W5 at HK ⊢
  repeat (refine tkL (v := ?_) rfl rfl rfl (fun w' hSw => ?_) (⟨HK.out.two (.head _), HK.out.two (.tail _ (.head _)), HK.out.two (.tail _ (.tail _ (.head _)))⟩) ?_; rotate_left; (focus (go_simp; with_reducible rfl)); simp only [setL])
  refine wpPl_goL rfl rfl fun K' hK => ?_
  go_simp
  refine (HMO.out _).mono ?_
  rintro e1 W5v1 ⟨r1, rfl, l1, n1, k1, hb1⟩
  replace HK := Lib.hid (HK.out.later hb1)
  have HAU := Lib.hid fun W => HAB.out r1 W l1 n1 k1
  clear l1 n1 k1
  refine hK _ _ ⟨HK.out.two (.head _), HK.out.two (.tail _ (.head _)), HK.out.two (.tail _ (.tail _ (.head _)))⟩ ?_
  clear hK K' hb1
  try simp only [Act.put, setL]
  repeat (refine tkL (v := ?_) rfl rfl rfl (fun w' hSw => ?_) (⟨HK.out.two (.head _), HK.out.two (.tail _ (.head _)), HK.out.two (.tail _ (.tail _ (.head _)))⟩) ?_; rotate_left; (focus (go_simp; with_reducible rfl)); simp only [setL])
  refine wpPl_goL rfl rfl fun K' hK => ?_
  go_simp
  refine (HAU.out _).mono ?_
  rintro e1 W5v2 ⟨rfl, hb1⟩
  replace HK := Lib.hid (HK.out.later hb1)
  clear HAU
  refine hK _ _ ⟨HK.out.two (.head _), HK.out.two (.tail _ (.head _)), HK.out.two (.tail _ (.tail _ (.head _)))⟩ ?_
  clear hK K' hb1
  try simp only [Act.put, setL]
  repeat (refine tkL (v := ?_) rfl rfl rfl (fun w' hSw => ?_) (⟨HK.out.two (.head _), HK.out.two (.tail _ (.head _)), HK.out.two (.tail _ (.tail _ (.head _)))⟩) ?_; rotate_left; (focus (go_simp; with_reducible rfl)); simp only [setL])
  refine wpPl_nil ?_
  simp only [drL]
  obtain ⟨⟨o0, o1⟩, o2, o3⟩ := (HK.out.get (.head _)).cells2f
  obtain ⟨⟨c0, c1⟩, c2, c3⟩ := (HK.out.get (.tail _ (.head _))).cells2f
  obtain ⟨⟨e0, e1⟩, e2, e3⟩ := (HK.out.get (.tail _ (.tail _ (.head _)))).cells2f
  obtain ⟨⟨q0, q1⟩, q2, q3⟩ := (HK.out.get (.tail _ (.tail _ (.tail _ (.head _))))).cells2f
  go_wp2_with fail
  refine (HHU.out _).mono ?_
  rintro e5 w5 ⟨rfl, hb5⟩
  replace HK := Lib.hid (HK.out.later hb5)
  clear hb5
  clear o0 o1 o2 o3 c0 c1 c2 c3 e0 e1 e2 e3 q0 q1 q2 q3
  obtain ⟨⟨o0, o1⟩, o2, o3⟩ := (HK.out.get (.head _)).cells2f
  obtain ⟨⟨c0, c1⟩, c2, c3⟩ := (HK.out.get (.tail _ (.head _))).cells2f
  obtain ⟨⟨e0, e1⟩, e2, e3⟩ := (HK.out.get (.tail _ (.tail _ (.head _)))).cells2f
  obtain ⟨⟨q0, q1⟩, q2, q3⟩ := (HK.out.get (.tail _ (.tail _ (.tail _ (.head _))))).cells2f
  go_upto_region 6 with fail
  replace HK := Lib.hid (HK.out.set2 (by have := HCL.out; omega) (fun t m => by have := HCL.out; simp only [List.mem_cons, List.not_mem_nil, or_false] at m; rcases m with rfl | rfl | rfl <;> simp <;> omega) (.float .f64 U1) (.float .f64 U2))
  generalize World.setCell (World.setCell w5 _ _) _ _ = w5s at *
  clear o0 o1 o2 o3 c0 c1 c2 c3 e0 e1 e2 e3 q0 q1 q2 q3
  obtain ⟨⟨o0, o1⟩, o2, o3⟩ := (HK.out.get (.head _)).cells2f
  obtain ⟨⟨c0, c1⟩, c2, c3⟩ := (HK.out.get (.tail _ (.head _))).cells2f
  obtain ⟨⟨e0, e1⟩, e2, e3⟩ := (HK.out.get (.tail _ (.tail _ (.head _)))).cells2f
  obtain ⟨⟨q0, q1⟩, q2, q3⟩ := (HK.out.get (.tail _ (.tail _ (.tail _ (.head _))))).cells2f
  cases v2
  ·obtain rfl : DD = UU := XE.out.2.1 (by first | rfl | trivial) (by first | rfl | trivial)
   go_upto_region 8 with fail
   go_wp2
   refine bodyPost_ret (v := .agg #[.float .f64 U1, .float .f64 U2]) (by simp [results, Tryz.results31, go_sem, q0, q1]) rfl ⟨by rw [hU1.out, hU2.out], (HK.out.2.setCell (p := ⟨f0 + 1 + 1, 0, none⟩) (show w.heap.size ≤ f0 + 1 + 1 by omega) _).setCell (p := ⟨f0 + 1 + 1, 1, none⟩) (show w.heap.size ≤ f0 + 1 + 1 by omega) _⟩
  ·obtain rfl : DD = HH := XE.out.2.2.2 (by first | rfl | trivial) (by first | rfl | trivial)
   replace HAL := Lib.hid (HAL.out (B2.out.1 (by first | rfl | trivial)))
   have HHL := Lib.hid (HHB.out (B1.out.1 (by first | rfl | trivial)) (B2.out.1 (by first | rfl | trivial)))
   clear XE
   generalize ivL LL = Y1 at *
   generalize ivH LL = Y2 at *
   generalize ivL DD = X1 at *
   generalize ivH DD = X2 at *
   go_upto_region 7 with fail
   clear o0 o1 o2 o3 c0 c1 c2 c3 e0 e1 e2 e3 q0 q1 q2 q3
   refine wp_region_pl (fun w' : World => (w'.cell? ⟨cb, 0, none⟩ = some (.float .f64 U1) ∧ w'.cell? ⟨cb, 1, none⟩ = some (.float .f64 U2)) ∧ (w'.cell? ⟨f0, 0, none⟩ = some (.float .f64 l) ∧ w'.cell? ⟨f0, 1, none⟩ = some (.float .f64 h)) ∧ w'.cell? ⟨f0 + 1, 0, none⟩ = some (.float .f64 m) ∧ w'.cell? ⟨f0 + 1, 1, none⟩ = some (.float .f64 k)) 11 (.take 0 (.take 1 (.take 3 (.take 4 (.take 5 (.take 7 (.take 8 (.take 9 (.run 2 (.run 6 (.run 10 (.nil)))))))))))) (by kernel_rfl) (by kernel_rfl) ?_
   replace HK := Lib.hid (HK.out.later (drew_below _))
   generalize World.drew _ = W7 at HK ⊢
   repeat (refine tkL (v := ?_) rfl rfl rfl (fun w' hSw => ?_) (⟨HK.out.two (.head _), HK.out.two (.tail _ (.head _)), HK.out.two (.tail _ (.tail _ (.head _)))⟩) ?_; rotate_left; (focus (go_simp; with_reducible rfl)); simp only [setL])
   refine wpPl_goL rfl rfl fun K' hK => ?_
   go_simp
   refine (HNG.out _).mono ?_
   rintro e1 W7v1 ⟨rfl, hb1⟩
   replace HK := Lib.hid (HK.out.later hb1)
   refine hK _ _ ⟨HK.out.two (.head _), HK.out.two (.tail _ (.head _)), HK.out.two (.tail _ (.tail _ (.head _)))⟩ ?_
   clear hK K' hb1
   try simp only [Act.put, setL]
   repeat (refine tkL (v := ?_) rfl rfl rfl (fun w' hSw => ?_) (⟨HK.out.two (.head _), HK.out.two (.tail _ (.head _)), HK.out.two (.tail _ (.tail _ (.head _)))⟩) ?_; rotate_left; (focus (go_simp; with_reducible rfl)); simp only [setL])
   refine wpPl_goL rfl rfl fun K' hK => ?_
   go_simp
   refine (HMP.out _).mono ?_
   rintro e1 W7v2 ⟨r1, rfl, l1, n1, k1, hb1⟩
   replace HK := Lib.hid (HK.out.later hb1)
   have HAU := Lib.hid fun W => HAL.out r1 W l1 n1 k1
   clear l1 n1 k1
   refine hK _ _ ⟨HK.out.two (.head _), HK.out.two (.tail _ (.head _)), HK.out.two (.tail _ (.tail _ (.head _)))⟩ ?_
   clear hK K' hb1
   try simp only [Act.put, setL]
   repeat (refine tkL (v := ?_) rfl rfl rfl (fun w' hSw => ?_) (⟨HK.out.two (.head _), HK.out.two (.tail _ (.head _)), HK.out.two (.tail _ (.tail _ (.head _)))⟩) ?_; rotate_left; (focus (go_simp; with_reducible rfl)); simp only [setL])
   refine wpPl_goL rfl rfl fun K' hK => ?_
   go_simp
   refine (HAU.out _).mono ?_
   rintro e1 W7v3 ⟨rfl, hb1⟩
   replace HK := Lib.hid (HK.out.later hb1)
   clear HAU
   refine hK _ _ ⟨HK.out.two (.head _), HK.out.two (.tail _ (.head _)), HK.out.two (.tail _ (.tail _ (.head _)))⟩ ?_
   clear hK K' hb1
   try simp only [Act.put, setL]
   repeat (refine tkL (v := ?_) rfl rfl rfl (fun w' hSw => ?_) (⟨HK.out.two (.head _), HK.out.two (.tail _ (.head _)), HK.out.two (.tail _ (.tail _ (.head _)))⟩) ?_; rotate_left; (focus (go_simp; with_reducible rfl)); simp only [setL])
   refine wpPl_nil ?_
   simp only [drL]
   obtain ⟨⟨o0, o1⟩, o2, o3⟩ := (HK.out.get (.head _)).cells2f
   obtain ⟨⟨c0, c1⟩, c2, c3⟩ := (HK.out.get (.tail _ (.head _))).cells2f
   obtain ⟨⟨e0, e1⟩, e2, e3⟩ := (HK.out.get (.tail _ (.tail _ (.head _)))).cells2f
   obtain ⟨⟨q0, q1⟩, q2, q3⟩ := (HK.out.get (.tail _ (.tail _ (.tail _ (.head _))))).cells2f
   go_wp2_with fail
   refine (HHL.out _).mono ?_
   rintro e7 w7 ⟨rfl, hb7⟩
   replace HK := Lib.hid (HK.out.later hb7)
   clear hb7
   clear o0 o1 o2 o3 c0 c1 c2 c3 e0 e1 e2 e3 q0 q1 q2 q3
   obtain ⟨⟨o0, o1⟩, o2, o3⟩ := (HK.out.get (.head _)).cells2f
   obtain ⟨⟨c0, c1⟩, c2, c3⟩ := (HK.out.get (.tail _ (.head _))).cells2f
   obtain ⟨⟨e0, e1⟩, e2, e3⟩ := (HK.out.get (.tail _ (.tail _ (.head _)))).cells2f
   obtain ⟨⟨q0, q1⟩, q2, q3⟩ := (HK.out.get (.tail _ (.tail _ (.tail _ (.head _))))).cells2f
   go_upto_region 8 with fail
   replace HK := Lib.hid (HK.out.set2 (by have := HCL.out; omega) (fun t m => by have := HCL.out; simp only [List.mem_cons, List.not_mem_nil, or_false] at m; rcases m with rfl | rfl | rfl <;> simp <;> omega) (.float .f64 X1) (.float .f64 X2))
   generalize World.setCell (World.setCell w7 _ _) _ _ = w7s at *
   clear o0 o1 o2 o3 c0 c1 c2 c3 e0 e1 e2 e3 q0 q1 q2 q3
   obtain ⟨⟨o0, o1⟩, o2, o3⟩ := (HK.out.get (.head _)).cells2f
   obtain ⟨⟨c0, c1⟩, c2, c3⟩ := (HK.out.get (.tail _ (.head _))).cells2f
   obtain ⟨⟨e0, e1⟩, e2, e3⟩ := (HK.out.get (.tail _ (.tail _ (.head _)))).cells2f
   obtain ⟨⟨q0, q1⟩, q2, q3⟩ := (HK.out.get (.tail _ (.tail _ (.tail _ (.head _))))).cells2f
   go_wp2
   refine bodyPost_ret (v := .agg #[.float .f64 X1, .float .f64 X2]) (by simp [results, Tryz.results31, go_sem, q0, q1]) rfl ⟨rfl, (HK.out.2.setCell (p := ⟨f0 + 1 + 1, 0, none⟩) (show w.heap.size ≤ f0 + 1 + 1 by omega) _).setCell (p := ⟨f0 + 1 + 1, 1, none⟩) (show w.heap.size ≤ f0 + 1 + 1 by omega) _⟩
set_option maxRecDepth 100000 in
set_option maxHeartbeats 3200000 in
theorem rSqrt_iv (l h : Nat) (w : World) (hl : W64 l) (hh : W64 h) :
  Calls Tryz.prog 33 #[.agg #[.float .f64 l, .float .f64 h]] w (Gives (.agg #[.float .f64 (ivL (sqK (ivK l h))), .float .f64 (ivH (sqK (ivK l h)))]) w) := by
 have HIP := Lib.hid fun w => inf_any w
 have hz : ivK 0 9218868437227405312 = some (0, (kInf : Int)) := by decide
 have hok0 : Iok (some ((0 : Int), (kInf : Int))) := Iok.some (by decide) (by decide) (by decide) (by decide) (by decide)
 have HME := Lib.hid fun W => rMeet_any l h 0 9218868437227405312 W hl hh (by decide) (by decide)
 rw [hz] at HME
 have hok := meetK_ok (ivK_ok hl hh) hok0
 have HFU := Lib.hid fun W => rFull_any (ivL (meetK (ivK l h) (some (0, (kInf : Int))))) (ivH (meetK (ivK l h) (some (0, (kInf : Int))))) W (ivL_lt hok) (ivH_lt hok)
 rw [ivK_back hok] at HFU
 have HK := Lib.hid (Bks.new2 w 34 #[.float .f64 l, .float .f64 h] #[.float .f64 0, .float .f64 0])
 obtain ⟨f0, hf0⟩ : ∃ f, w.heap.size = f := ⟨_, rfl⟩
 rw [hf0] at HK
 have hsq : (meetK (ivK l h) (some (0, (kInf : Int))) = none ∧ sqK (ivK l h) = none) ∨ ∃ a b : Int, ivK l h = some (a, b) ∧ meetK (ivK l h) (some (0, (kInf : Int))) = some (max a 0, b) ∧ sqK (ivK l h) = some (roK (kb (max a 0)) 4, if b = (kInf : Int) then (kInf : Int) else roK (kb b) 3) := by
  have h0 := ivK_ok hl hh
  generalize ivK l h = o at h0 ⊢
  rcases o with _ | ⟨a, b⟩
  ·exact .inl ⟨rfl, rfl⟩
  ·obtain ⟨c1, c2, c3, c4, c5⟩ := h0 a b rfl
   by_cases hb : b < 0
   ·refine .inl ⟨?_, ?_⟩
    ·show (if a ≤ (kInf : Int) ∧ 0 ≤ b then some (max a 0, min b (kInf : Int)) else none) = none
     rw [if_neg (by omega)]
    ·show (if b < 0 then none else _) = none
     rw [if_pos hb]
   ·refine .inr ⟨a, b, rfl, ?_, ?_⟩
    ·show (if a ≤ (kInf : Int) ∧ 0 ≤ b then some (max a 0, min b (kInf : Int)) else none) = _
     rw [if_pos (by omega), show min b (kInf : Int) = b by omega]
    ·show (if b < 0 then none else _) = _
     rw [if_neg hb]
 rcases hsq with ⟨h1, h2⟩ | ⟨a, b, h0, h1, h2⟩
 ·rw [h1] at HME HFU
  rw [h2]
  rw [Option.isSome_none] at HFU
  clear h1 h2 hok hok0 hz hl hh
  generalize ivL none = L at *
  generalize ivH none = H at *
  go_enter Tryz.func33, Tryz.ntmps33
  go_upto_region 1 with fail
  refine wp_region_pl (fun w' : World => w'.cell? ⟨f0, 0, none⟩ = some (.float .f64 l) ∧ w'.cell? ⟨f0, 1, none⟩ = some (.float .f64 h)) 3 (.take 0 (.run 1 (.take 2 (.nil)))) (by kernel_rfl) (by kernel_rfl) ?_
  replace HK := Lib.hid (HK.out.later (drew_below _))
  generalize World.drew _ = W1 at HK ⊢
  repeat (refine tkL (v := ?_) rfl rfl rfl (fun w' hSw => ?_) (HK.out.two (.head _)) ?_; rotate_left; (focus (go_simp; with_reducible rfl)); simp only [setL])
  refine wpPl_goL rfl rfl fun K' hK => ?_
  go_simp
  refine (HIP.out _).mono ?_
  rintro e1 W1v1 ⟨rfl, hb1⟩
  replace HK := Lib.hid (HK.out.later hb1)
  refine hK _ _ (HK.out.two (.head _)) ?_
  clear hK K' hb1
  try simp only [Act.put, setL]
  repeat (refine tkL (v := ?_) rfl rfl rfl (fun w' hSw => ?_) (HK.out.two (.head _)) ?_; rotate_left; (focus (go_simp; with_reducible rfl)); simp only [setL])
  refine wpPl_nil ?_
  simp only [drL]
  obtain ⟨⟨o0, o1⟩, o2, o3⟩ := (HK.out.get (.head _)).cells2f
  obtain ⟨⟨q0, q1⟩, q2, q3⟩ := (HK.out.get (.tail _ (.head _))).cells2f
  go_wp2_with fail
  refine (HME.out _).mono ?_
  rintro e2 w2 ⟨rfl, hb2⟩
  replace HK := Lib.hid (HK.out.later hb2)
  clear hb2
  clear o0 o1 o2 o3 q0 q1 q2 q3
  obtain ⟨⟨o0, o1⟩, o2, o3⟩ := (HK.out.get (.head _)).cells2f
  obtain ⟨⟨q0, q1⟩, q2, q3⟩ := (HK.out.get (.tail _ (.head _))).cells2f
  go_upto_region 2 with fail
  replace HK := Lib.hid (HK.out.set2 (by omega) (fun t m => by simp only [List.mem_cons, List.not_mem_nil, or_false] at m; subst m; simp) (.float .f64 L) (.float .f64 H))
  generalize World.setCell (World.setCell w2 _ _) _ _ = w2s at *
  clear o0 o1 o2 o3 q0 q1 q2 q3
  obtain ⟨⟨o0, o1⟩, o2, o3⟩ := (HK.out.get (.head _)).cells2f
  obtain ⟨⟨q0, q1⟩, q2, q3⟩ := (HK.out.get (.tail _ (.head _))).cells2f
  go_wp2_with fail
  refine (HFU.out _).mono ?_
  rintro e3 w3 ⟨rfl, hb3⟩
  replace HK := Lib.hid (HK.out.later hb3)
  clear hb3
  clear o0 o1 o2 o3 q0 q1 q2 q3
  obtain ⟨⟨o0, o1⟩, o2, o3⟩ := (HK.out.get (.head _)).cells2f
  obtain ⟨⟨q0, q1⟩, q2, q3⟩ := (HK.out.get (.tail _ (.head _))).cells2f
  go_wp2
  refine bodyPost_ret (v := .agg #[.float .f64 L, .float .f64 H]) (by simp [results, Tryz.results33, go_sem, q0, q1]) rfl ⟨rfl, (HK.out.swap.set2 (by omega) (fun t m => by simp only [List.mem_cons, List.not_mem_nil, or_false] at m; subst m; simp) (.float .f64 L) (.float .f64 H)).2⟩
 rw [h1] at HME HFU hok
 rw [h2]
 rw [Option.isSome_some] at HFU
 have hok2 := ivK_ok hl hh
 rw [h0] at hok2
 obtain ⟨c1, c2, c3, c4, c5⟩ := hok2 a b rfl
 obtain ⟨d1, d2, d3, d4, d5⟩ := hok _ _ rfl
 obtain ⟨wa, na, ka⟩ := kb_lt (k := max a 0) (by omega) (by omega)
 obtain ⟨wb, nb, kbb⟩ := kb_lt (k := b) (by omega) (by omega)
 have HN1 := Lib.hid fun W => cnum_any (kb (max a 0)) W wa (num_iff.2 na)
 have HN2 := Lib.hid fun W => cnum_any (kb b) W wb (num_iff.2 nb)
 have HR1 := Lib.hid fun p W h => cRoot_any (kb (max a 0)) p 4 W wa (num_iff.2 na) (by rw [ka]; omega) (.inr rfl) h
 have HR2 := Lib.hid fun p W h => cRoot_any (kb b) p 3 W wb (num_iff.2 nb) (by rw [kbb]; omega) (.inl rfl) h
 rw [ka, if_neg (by omega)] at HR1
 rw [kbb] at HR2
 have HNB := Lib.hid fun R fl W => cnumber_any R fl W
 have HD := Lib.hid fun W => cDouble_any W
 rw [show ivL (some (max a 0, b)) = kb (max a 0) from rfl, show ivH (some (max a 0, b)) = kb b from rfl] at HME HFU
 rw [show ivL (some (roK (kb (max a 0)) 4, if b = (kInf : Int) then (kInf : Int) else roK (kb b) 3)) = kb (roK (kb (max a 0)) 4) from rfl, show ivH (some (roK (kb (max a 0)) 4, if b = (kInf : Int) then (kInf : Int) else roK (kb b) 3)) = kb (if b = (kInf : Int) then (kInf : Int) else roK (kb b) 3) from rfl]
 generalize roK (kb (max a 0)) 4 = K1 at *
 generalize (if b = (kInf : Int) then (kInf : Int) else roK (kb b) 3) = K2 at *
 clear h0 h1 h2 hok hok2 hok0 hz hl hh c1 c2 c3 c4 c5 d1 d2 d3 d4 d5 wa na ka wb nb kbb
 generalize kb (max a 0) = L at *
 generalize kb b = H at *
 generalize sgnB L = sgL at *
 generalize mntB L = mtL at *
 generalize xpnB L = xpL at *
 generalize kndB L = kdL at *
 generalize sgnB H = sgH at *
 generalize mntB H = mtH at *
 generalize xpnB H = xpH at *
 generalize kndB H = kdH at *
 unfold NumNew AnsK at *
 unfold NumV fmtV at *
 go_enter Tryz.func33, Tryz.ntmps33
 go_upto_region 1 with fail
 refine wp_region_pl (fun w' : World => w'.cell? ⟨f0, 0, none⟩ = some (.float .f64 l) ∧ w'.cell? ⟨f0, 1, none⟩ = some (.float .f64 h)) 3 (.take 0 (.run 1 (.take 2 (.nil)))) (by kernel_rfl) (by kernel_rfl) ?_
 replace HK := Lib.hid (HK.out.later (drew_below _))
 generalize World.drew _ = W1 at HK ⊢
 repeat (refine tkL (v := ?_) rfl rfl rfl (fun w' hSw => ?_) (HK.out.two (.head _)) ?_; rotate_left; (focus (go_simp; with_reducible rfl)); simp only [setL])
 refine wpPl_goL rfl rfl fun K' hK => ?_
 go_simp
 refine (HIP.out _).mono ?_
 rintro e1 W1v1 ⟨rfl, hb1⟩
 replace HK := Lib.hid (HK.out.later hb1)
 refine hK _ _ (HK.out.two (.head _)) ?_
 clear hK K' hb1
 try simp only [Act.put, setL]
 repeat (refine tkL (v := ?_) rfl rfl rfl (fun w' hSw => ?_) (HK.out.two (.head _)) ?_; rotate_left; (focus (go_simp; with_reducible rfl)); simp only [setL])
 refine wpPl_nil ?_
 simp only [drL]
 obtain ⟨⟨o0, o1⟩, o2, o3⟩ := (HK.out.get (.head _)).cells2f
 obtain ⟨⟨q0, q1⟩, q2, q3⟩ := (HK.out.get (.tail _ (.head _))).cells2f
 go_wp2_with fail
 refine (HME.out _).mono ?_
 rintro e2 w2 ⟨rfl, hb2⟩
 replace HK := Lib.hid (HK.out.later hb2)
 clear hb2
 clear o0 o1 o2 o3 q0 q1 q2 q3
 obtain ⟨⟨o0, o1⟩, o2, o3⟩ := (HK.out.get (.head _)).cells2f
 obtain ⟨⟨q0, q1⟩, q2, q3⟩ := (HK.out.get (.tail _ (.head _))).cells2f
 go_upto_region 2 with fail
 replace HK := Lib.hid (HK.out.set2 (by omega) (fun t m => by simp only [List.mem_cons, List.not_mem_nil, or_false] at m; subst m; simp) (.float .f64 L) (.float .f64 H))
 generalize World.setCell (World.setCell w2 _ _) _ _ = w2s at *
 clear o0 o1 o2 o3 q0 q1 q2 q3
 obtain ⟨⟨o0, o1⟩, o2, o3⟩ := (HK.out.get (.head _)).cells2f
 obtain ⟨⟨q0, q1⟩, q2, q3⟩ := (HK.out.get (.tail _ (.head _))).cells2f
 go_wp2_with fail
 refine (HFU.out _).mono ?_
 rintro e3 w3 ⟨rfl, hb3⟩
 replace HK := Lib.hid (HK.out.later hb3)
 clear hb3
 clear o0 o1 o2 o3 q0 q1 q2 q3
 obtain ⟨⟨o0, o1⟩, o2, o3⟩ := (HK.out.get (.head _)).cells2f
 obtain ⟨⟨q0, q1⟩, q2, q3⟩ := (HK.out.get (.tail _ (.head _))).cells2f
 go_wp2_with fail
 refine (HD.out _).mono ?_
 rintro e8 w8 ⟨rfl, hb8⟩
 replace HK := Lib.hid (HK.out.later hb8)
 clear hb8
 clear o0 o1 o2 o3 q0 q1 q2 q3
 obtain ⟨⟨o0, o1⟩, o2, o3⟩ := (HK.out.get (.head _)).cells2f
 obtain ⟨⟨q0, q1⟩, q2, q3⟩ := (HK.out.get (.tail _ (.head _))).cells2f
 go_upto_region 5 with fail
 have HB := Lib.hid ((Bks.nil w8).alloc #[.int .i64 53, .int .i64 (-1022), .int .i64 1023, .int .i64 11] 81)
 replace HK := Lib.hid (HK.out.later HB.out.2)
 have HC := Lib.hid (HB.out.get (.head _))
 clear HB
 clear o0 o1 o2 o3 q0 q1 q2 q3
 generalize World.alloc w8 _ = W8 at HK HC ⊢
 generalize w8.heap.size = cb at *
 refine wp_region_pl (fun w' : World => (w'.cell? ⟨cb, 0, none⟩ = some (.int .i64 53) ∧ w'.cell? ⟨cb, 1, none⟩ = some (.int .i64 (-1022)) ∧ w'.cell? ⟨cb, 2, none⟩ = some (.int .i64 1023) ∧ w'.cell? ⟨cb, 3, none⟩ = some (.int .i64 11)) ∧ w'.cell? ⟨f0, 0, none⟩ = some (.float .f64 L) ∧ w'.cell? ⟨f0, 1, none⟩ = some (.float .f64 H)) 15 (.take 0 (.take 1 (.take 2 (.take 8 (.take 9 (.take 10 (.run 3 (.run 4 (.take 5 (.take 6 (.run 7 (.run 11 (.run 12 (.take 13 (.take 14 (.nil)))))))))))))))) (by kernel_rfl) (by kernel_rfl) ?_
 replace HK := Lib.hid (HK.out.later (drew_below _))
 replace HC := Lib.hid (HC.out.below (drew_below _))
 generalize World.drew _ = W5 at HK HC ⊢
 repeat (refine tkL (v := ?_) rfl rfl rfl (fun w' hSw => ?_) (⟨HC.out.cells4.1, HK.out.two (.head _)⟩) ?_; rotate_left; (focus (go_simp; with_reducible rfl)); simp only [setL])
 refine wpPl_goL rfl rfl fun K' hK => ?_
 go_simp
 refine (HN1.out _).mono ?_
 rintro e1 W5v1 ⟨q1, rfl, -, hq1, hb1⟩
 replace HK := Lib.hid (HK.out.later hb1)
 replace HC := Lib.hid (HC.out.below hb1)
 have HQ1 := Lib.hid hq1
 clear hq1
 refine hK _ _ ⟨HC.out.cells4.1, HK.out.two (.head _)⟩ ?_
 clear hK K' hb1
 try simp only [Act.put, setL]
 repeat (refine tkL (v := ?_) rfl rfl rfl (fun w' hSw => ?_) (⟨HC.out.cells4.1, HK.out.two (.head _)⟩) ?_; rotate_left; (focus (go_simp; with_reducible rfl)); simp only [setL])
 refine wpPl_goL rfl rfl fun K' hK => ?_
 go_simp
 refine (HR1.out q1 _ HQ1.out).mono ?_
 rintro e1 W5v2 ⟨R1, fl1, rfl, a1, a2, a3, hb1⟩
 replace HK := Lib.hid (HK.out.later hb1)
 replace HC := Lib.hid (HC.out.below hb1)
 have HJ1 := Lib.hid (And.intro a1 (And.intro a2 a3))
 clear a1 a2 a3
 clear HQ1
 refine hK _ _ ⟨HC.out.cells4.1, HK.out.two (.head _)⟩ ?_
 clear hK K' hb1
 try simp only [Act.put, setL]
 repeat (refine tkL (v := ?_) rfl rfl rfl (fun w' hSw => ?_) (⟨HC.out.cells4.1, HK.out.two (.head _)⟩) ?_; rotate_left; (focus (go_simp; with_reducible rfl)); simp only [setL])
 refine wpPl_goL rfl rfl fun K' hK => ?_
 go_simp
 refine (HNB.out R1 fl1 _).mono ?_
 rintro e1 W5v3 ⟨rfl, hb1⟩
 replace HK := Lib.hid (HK.out.later hb1)
 replace HC := Lib.hid (HC.out.below hb1)
 refine hK _ _ ⟨HC.out.cells4.1, HK.out.two (.head _)⟩ ?_
 clear hK K' hb1
 try simp only [Act.put, setL]
 repeat (refine tkL (v := ?_) rfl rfl rfl (fun w' hSw => ?_) (⟨HC.out.cells4.1, HK.out.two (.head _)⟩) ?_; rotate_left; (focus (go_simp; with_reducible rfl)); simp only [setL])
 refine wpPl_goL rfl rfl fun K' hK => ?_
 go_simp
 refine (HN2.out _).mono ?_
 rintro e1 W5v4 ⟨q2, rfl, -, hq2, hb1⟩
 replace HK := Lib.hid (HK.out.later hb1)
 replace HC := Lib.hid (HC.out.below hb1)
 have HQ2 := Lib.hid hq2
 clear hq2
 refine hK _ _ ⟨HC.out.cells4.1, HK.out.two (.head _)⟩ ?_
 clear hK K' hb1
 try simp only [Act.put, setL]
 repeat (refine tkL (v := ?_) rfl rfl rfl (fun w' hSw => ?_) (⟨HC.out.cells4.1, HK.out.two (.head _)⟩) ?_; rotate_left; (focus (go_simp; with_reducible rfl)); simp only [setL])
 refine wpPl_goL rfl rfl fun K' hK => ?_
 go_simp
 refine (HR2.out q2 _ HQ2.out).mono ?_
 rintro e1 W5v5 ⟨R2, fl2, rfl, a1, a2, a3, hb1⟩
 replace HK := Lib.hid (HK.out.later hb1)
 replace HC := Lib.hid (HC.out.below hb1)
 have HJ2 := Lib.hid (And.intro a1 (And.intro a2 a3))
 clear a1 a2 a3
 clear HQ2
 refine hK _ _ ⟨HC.out.cells4.1, HK.out.two (.head _)⟩ ?_
 clear hK K' hb1
 try simp only [Act.put, setL]
 repeat (refine tkL (v := ?_) rfl rfl rfl (fun w' hSw => ?_) (⟨HC.out.cells4.1, HK.out.two (.head _)⟩) ?_; rotate_left; (focus (go_simp; with_reducible rfl)); simp only [setL])
 refine wpPl_nil ?_
 simp only [drL]
 obtain ⟨⟨o0, o1⟩, o2, o3⟩ := (HK.out.get (.head _)).cells2f
 obtain ⟨⟨q0, q1⟩, q2, q3⟩ := (HK.out.get (.tail _ (.head _))).cells2f
 go_wp2_with fail
 refine (HNB.out R2 fl2 _).mono ?_
 rintro e9 w9 ⟨rfl, hb9⟩
 replace HK := Lib.hid (HK.out.later hb9)
 clear hb9
 clear o0 o1 o2 o3 q0 q1 q2 q3
 obtain ⟨⟨o0, o1⟩, o2, o3⟩ := (HK.out.get (.head _)).cells2f
 obtain ⟨⟨q0, q1⟩, q2, q3⟩ := (HK.out.get (.tail _ (.head _))).cells2f
 have HMK := Lib.hid fun W => rMade_any R1 R2 W HJ1.out.1 HJ2.out.1 HJ1.out.2.1 HJ2.out.2.1
 rw [HJ1.out.2.2, HJ2.out.2.2] at HMK
 generalize kb K1 = X1 at *
 generalize kb K2 = X2 at *
 go_wp2_with fail
 refine (HMK.out _).mono ?_
 rintro e10 w10 ⟨rfl, hb10⟩
 replace HK := Lib.hid (HK.out.later hb10)
 clear hb10
 clear o0 o1 o2 o3 q0 q1 q2 q3
 obtain ⟨⟨o0, o1⟩, o2, o3⟩ := (HK.out.get (.head _)).cells2f
 obtain ⟨⟨q0, q1⟩, q2, q3⟩ := (HK.out.get (.tail _ (.head _))).cells2f
 go_wp2
 refine bodyPost_ret (v := .agg #[.float .f64 X1, .float .f64 X2]) (by simp [results, Tryz.results33, go_sem, q0, q1]) rfl ⟨rfl, (HK.out.swap.set2 (by omega) (fun t m => by simp only [List.mem_cons, List.not_mem_nil, or_false] at m; subst m; simp) (.float .f64 X1) (.float .f64 X2)).2⟩
end
end Go.Proofs.YtloohbkceppocaaGreatDoor
