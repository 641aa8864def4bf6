/- Walk: the law's word corners. Printed by wip/gen/iv23.py. -/
import Derived.Test.YtjokekmbnffpfaaGreatDoorIK
import Derived.Test.YtjokekmbnffpfaaGreatDoorZIww
namespace Go.Proofs.YtjokekmbnffpfaaGreatDoor
open Go.RowKit
attribute [local go_sem] run_store_f

theorem Bks.at2 {w0 W : World} {l : List (Nat × Nat × Array Value)} {x y t u : Nat} {cs ds : Array Value} (h : Bks w0 W ((x, t, cs) :: (y, u, ds) :: l)) (i : Nat) : W.cell? ⟨x, i, none⟩ = cs[i]? ∧ W.cell? ⟨y, i, none⟩ = ds[i]? :=
  ⟨(h.get (.head _)).cell i, (h.get (.tail _ (.head _))).cell i⟩
theorem Bks.c125 {w0 W : World} {l : List (Nat × Nat × Array Value)} {P Q : Nat × Nat × Array Value} {x y z t u v : Nat} {a b c d e f : Value} (h : Bks w0 W ((x, t, #[a, b]) :: (y, u, #[c, d]) :: P :: Q :: (z, v, #[e, f]) :: l)) :
    ((W.cell? ⟨x, 0, none⟩ = some a ∧ W.cell? ⟨x, 1, none⟩ = some b) ∧ W.cell? ⟨y, 0, none⟩ = some c ∧ W.cell? ⟨y, 1, none⟩ = some d) ∧ W.cell? ⟨z, 0, none⟩ = some e ∧ W.cell? ⟨z, 1, none⟩ = some f := ⟨h.two2, h.two (.tail _ (.tail _ (.tail _ (.tail _ (.head _)))))⟩
theorem RInt.st22 {W : World} {x y p : Nat} {n e f : Int} {a b : Option Addr} (h : RInt W p n) (hx : BlkT W x 27 #[.pointer a, .int .i64 e]) (hy : BlkT W y 27 #[.pointer b, .int .i64 f]) (hxy : x ≠ y) (u0 u1 u2 u3 : Value) :
    RInt ((((W.setCell ⟨x, 0, none⟩ u0).setCell ⟨x, 1, none⟩ u1).setCell ⟨y, 0, none⟩ u2).setCell ⟨y, 1, none⟩ u3) p n :=
  RInt.st2 (RInt.st2 h hx u0 u1) ((hy.setOther hxy.symm _).setOther hxy.symm _) u2 u3

set_option maxRecDepth 100000 in
set_option maxHeartbeats 25600000 in
theorem corners_mul (r0 r1 p0 p1 q0 q1 : Nat) (w : World) (hr0 : W64 r0) (hr1 : W64 r1) (nr0 : nanB r0 = false) (nr1 : nanB r1 = false) (b0 : ky r0 < kInf) (b1 : -(kInf : Int) < ky r1) (hp0 : W64 p0) (hp1 : W64 p1) (hq0 : W64 q0) (hq1 : W64 q1) (fp0 : finB p0 = true) (fp1 : finB p1 = true) (fq0 : finB q0 = true) (fq1 : finB q1 = true)
    (hL : ((tgL (ky r0) (valZ p0 * valZ q0) (pE p0 + pE q0) 1 0) || (tgL (ky r0) (valZ p0 * valZ q1) (pE p0 + pE q1) 1 0) || (tgL (ky r0) (valZ p1 * valZ q0) (pE p1 + pE q0) 1 0) || (tgL (ky r0) (valZ p1 * valZ q1) (pE p1 + pE q1) 1 0)) = true) (hH : ((tgH (ky r1) (valZ p0 * valZ q0) (pE p0 + pE q0) 1 0) || (tgH (ky r1) (valZ p0 * valZ q1) (pE p0 + pE q1) 1 0) || (tgH (ky r1) (valZ p1 * valZ q0) (pE p1 + pE q0) 1 0) || (tgH (ky r1) (valZ p1 * valZ q1) (pE p1 + pE q1) 1 0)) = true) :
    Calls Tryz.prog 22 #[.agg #[.float .f64 r0, .float .f64 r1], .agg #[.float .f64 p0, .float .f64 p1], .agg #[.float .f64 q0, .float .f64 q1], .bool false] w (Gives (.bool true) w) := by
  have HWH := Lib.hid fun W => rWhole_any 1 W (by decide) (by decide)
  have HOp0 := Lib.hid fun W => rOf_any p0 W hp0 fp0
  have ep0 := pE_bd fp0
  have vp0 := val_bl (b := p0)
  have HOp1 := Lib.hid fun W => rOf_any p1 W hp1 fp1
  have ep1 := pE_bd fp1
  have vp1 := val_bl (b := p1)
  have HOq0 := Lib.hid fun W => rOf_any q0 W hq0 fq0
  have eq0 := pE_bd fq0
  have vq0 := val_bl (b := q0)
  have HOq1 := Lib.hid fun W => rOf_any q1 W hq1 fq1
  have eq1 := pE_bd fq1
  have vq1 := val_bl (b := q1)
  have m0 := bl_mul (valZ p0).natAbs (valZ q0).natAbs
  rw [← Int.natAbs_mul] at m0
  have HM0 := Lib.hid fun b c W (h1 : RInt W b (valZ p0)) (h2 : RInt W c (valZ q0)) => rMulX_any b c _ (pE p0) _ (pE q0) W h1 h2 (by omega) (by omega) (by omega) (by omega) (by omega) (by omega)
  have HL0 := Lib.hid fun b c W (h1 : RInt W b (valZ p0 * valZ q0)) (h2 : RInt W c 1) => tight_low r0 r1 b c _ (pE p0 + pE q0) _ 0 W hr0 nr0 b0 h1 h2 (by omega) (by decide) (by omega) (by omega) (by decide) (by decide)
  have HH0 := Lib.hid fun b c W (h1 : RInt W b (valZ p0 * valZ q0)) (h2 : RInt W c 1) => tight_high r0 r1 b c _ (pE p0 + pE q0) _ 0 W hr1 nr1 b1 h1 h2 (by omega) (by decide) (by omega) (by omega) (by decide) (by decide)
  have m1 := bl_mul (valZ p0).natAbs (valZ q1).natAbs
  rw [← Int.natAbs_mul] at m1
  have HM1 := Lib.hid fun b c W (h1 : RInt W b (valZ p0)) (h2 : RInt W c (valZ q1)) => rMulX_any b c _ (pE p0) _ (pE q1) W h1 h2 (by omega) (by omega) (by omega) (by omega) (by omega) (by omega)
  have HL1 := Lib.hid fun b c W (h1 : RInt W b (valZ p0 * valZ q1)) (h2 : RInt W c 1) => tight_low r0 r1 b c _ (pE p0 + pE q1) _ 0 W hr0 nr0 b0 h1 h2 (by omega) (by decide) (by omega) (by omega) (by decide) (by decide)
  have HH1 := Lib.hid fun b c W (h1 : RInt W b (valZ p0 * valZ q1)) (h2 : RInt W c 1) => tight_high r0 r1 b c _ (pE p0 + pE q1) _ 0 W hr1 nr1 b1 h1 h2 (by omega) (by decide) (by omega) (by omega) (by decide) (by decide)
  have m2 := bl_mul (valZ p1).natAbs (valZ q0).natAbs
  rw [← Int.natAbs_mul] at m2
  have HM2 := Lib.hid fun b c W (h1 : RInt W b (valZ p1)) (h2 : RInt W c (valZ q0)) => rMulX_any b c _ (pE p1) _ (pE q0) W h1 h2 (by omega) (by omega) (by omega) (by omega) (by omega) (by omega)
  have HL2 := Lib.hid fun b c W (h1 : RInt W b (valZ p1 * valZ q0)) (h2 : RInt W c 1) => tight_low r0 r1 b c _ (pE p1 + pE q0) _ 0 W hr0 nr0 b0 h1 h2 (by omega) (by decide) (by omega) (by omega) (by decide) (by decide)
  have HH2 := Lib.hid fun b c W (h1 : RInt W b (valZ p1 * valZ q0)) (h2 : RInt W c 1) => tight_high r0 r1 b c _ (pE p1 + pE q0) _ 0 W hr1 nr1 b1 h1 h2 (by omega) (by decide) (by omega) (by omega) (by decide) (by decide)
  have m3 := bl_mul (valZ p1).natAbs (valZ q1).natAbs
  rw [← Int.natAbs_mul] at m3
  have HM3 := Lib.hid fun b c W (h1 : RInt W b (valZ p1)) (h2 : RInt W c (valZ q1)) => rMulX_any b c _ (pE p1) _ (pE q1) W h1 h2 (by omega) (by omega) (by omega) (by omega) (by omega) (by omega)
  have HL3 := Lib.hid fun b c W (h1 : RInt W b (valZ p1 * valZ q1)) (h2 : RInt W c 1) => tight_low r0 r1 b c _ (pE p1 + pE q1) _ 0 W hr0 nr0 b0 h1 h2 (by omega) (by decide) (by omega) (by omega) (by decide) (by decide)
  have HH3 := Lib.hid fun b c W (h1 : RInt W b (valZ p1 * valZ q1)) (h2 : RInt W c 1) => tight_high r0 r1 b c _ (pE p1 + pE q1) _ 0 W hr1 nr1 b1 h1 h2 (by omega) (by decide) (by omega) (by omega) (by decide) (by decide)
  have HLT := Lib.hid hL
  have HHT := Lib.hid hH
  clear hL hH
  generalize (tgL (ky r0) (valZ p0 * valZ q0) (pE p0 + pE q0) 1 0) = L0 at *
  generalize (tgH (ky r1) (valZ p0 * valZ q0) (pE p0 + pE q0) 1 0) = H0 at *
  generalize (tgL (ky r0) (valZ p0 * valZ q1) (pE p0 + pE q1) 1 0) = L1 at *
  generalize (tgH (ky r1) (valZ p0 * valZ q1) (pE p0 + pE q1) 1 0) = H1 at *
  generalize (tgL (ky r0) (valZ p1 * valZ q0) (pE p1 + pE q0) 1 0) = L2 at *
  generalize (tgH (ky r1) (valZ p1 * valZ q0) (pE p1 + pE q0) 1 0) = H2 at *
  generalize (tgL (ky r0) (valZ p1 * valZ q1) (pE p1 + pE q1) 1 0) = L3 at *
  generalize (tgH (ky r1) (valZ p1 * valZ q1) (pE p1 + pE q1) 1 0) = H3 at *
  skip
  clear hr0 hr1 nr0 nr1 b0 b1 hp0 hp1 hq0 hq1 fp0 fp1 fq0 fq1 ep0 vp0 ep1 vp1 eq0 vq0 eq1 vq1 m0 m1 m2 m3
  have HS := Lib.hid (Bks.new3 w 34 34 34 #[.float .f64 r0, .float .f64 r1] #[.float .f64 p0, .float .f64 p1] #[.float .f64 q0, .float .f64 q1])
  go_enter Tryz.func22, Tryz.ntmps22
  obtain ⟨⟨⟨g0, g1⟩, g2, g3⟩, g4, g5⟩ := HS.out.tri
  go_upto_region 3 with fail
  clear g0 g1 g2 g3 g4 g5
  skip
  replace HS := Lib.hid (HS.out.alloc #[.float .f64 p0, .float .f64 p0, .float .f64 p1, .float .f64 p1] 82)
  generalize World.alloc (World.alloc (World.alloc (World.alloc w _) _) _) _ = W1 at HS ⊢
  obtain ⟨rx, hrx⟩ : ∃ t, (((w.alloc (.cells #[.float .f64 r0, .float .f64 r1] 34)).alloc (.cells #[.float .f64 p0, .float .f64 p1] 34)).alloc (.cells #[.float .f64 q0, .float .f64 q1] 34)).heap.size = t := ⟨_, rfl⟩
  rw [hrx] at HS
  have hrx2 : w.heap.size + 1 + 1 + 1 = rx := by rw [← hrx]; simp
  try rw [hrx2]
  clear hrx hrx2
  obtain ⟨g0, g1⟩ := HS.out.two (.tail _ (.tail _ (.tail _ (.head _))))
  go_upto_region 4 with fail
  clear g0 g1
  replace HS := Lib.hid (HS.out.alloc #[.float .f64 q0, .float .f64 q1, .float .f64 q0, .float .f64 q1] 82)
  generalize World.alloc W1 _ = W2 at HS ⊢
  generalize W1.heap.size = ry at HS ⊢
  replace HS := Lib.hid (HS.out.sub (l' := [(rx, 82, #[.float .f64 p0, .float .f64 p0, .float .f64 p1, .float .f64 p1]), (ry, 82, #[.float .f64 q0, .float .f64 q1, .float .f64 q0, .float .f64 q1]), (w.heap.size, 34, #[.float .f64 r0, .float .f64 r1])]) (by intro t m; simp only [List.mem_cons, List.not_mem_nil, or_false] at m ⊢; rcases m with rfl | rfl | rfl <;> simp))
  go_wp2
  go_loopw [9, 10, 13] (fun lo hi i wr => ∃ (j : Int) (a b : Bool), i = .int .i64 j ∧ lo = .bool a ∧ hi = .bool b ∧ Hid ((j = 0 ∧ a = (false) ∧ b = (false)) ∨ (j = 1 ∧ a = (L0) ∧ b = (H0)) ∨ (j = 2 ∧ a = (L0 || L1) ∧ b = (H0 || H1)) ∨ (j = 3 ∧ a = (L0 || L1 || L2) ∧ b = (H0 || H1 || H2)) ∨ (j = 4 ∧ a = (L0 || L1 || L2 || L3) ∧ b = (H0 || H1 || H2 || H3))) ∧ Hid (Bks w wr [(rx, 82, #[.float .f64 p0, .float .f64 p0, .float .f64 p1, .float .f64 p1]), (ry, 82, #[.float .f64 q0, .float .f64 q1, .float .f64 q0, .float .f64 q1]), (w.heap.size, 34, #[.float .f64 r0, .float .f64 r1])])) (fun _ _ i _ => 4 - (intOf i).toNat)
  case atStart => exact ⟨0, false, false, rfl, rfl, rfl, Lib.hid (.inl ⟨rfl, rfl, rfl⟩), HS⟩
  case round =>
    clear HS W1 W2
    obtain ⟨j, a, b, rfl, rfl, rfl, HJ, HS⟩ := hrel
    rcases HJ.out with ⟨rfl, ha, hb⟩ | ⟨rfl, ha, hb⟩ | ⟨rfl, ha, hb⟩ | ⟨rfl, ha, hb⟩ | ⟨rfl, ha, hb⟩
    · clear HM1 HL1 HH1 HM2 HL2 HH2 HM3 HL3 HH3 HLT HHT
      have HA : Hid (a = (false)) := Lib.hid ha
      have HB : Hid (b = (false)) := Lib.hid hb
      clear ha hb HJ
      go_upto_region 7 with fail
      refine wp_region_q (fun w' : World => w'.cell? ⟨rx, 0, none⟩ = some (.float .f64 p0) ∧ w'.cell? ⟨ry, 0, none⟩ = some (.float .f64 q0)) 12 (.take 0 (.take 1 (.take 2 (.take 4 (.take 5 (.take 6 (.bag [(3, 41, []), (7, 45, []), (8, 46, []), (9, 47, []), (10, 14, []), (11, 15, [])] .nil))))))) (by kernel_rfl) (by kernel_rfl) ?_
      replace HS := Lib.hid (HS.out.later (drew_below _))
      generalize World.drew _ = W3 at HS ⊢
      have HSZ : Hid (SzLe W3 W3.heap.size) := Lib.hid (Nat.le_refl _)
      have HLB := Lib.hid HS.out.lt
      have HSW : Hid (w.heap.size ≤ W3.heap.size) := Lib.hid HS.out.size
      generalize W3.heap.size = nB at HSZ HLB HSW
      have hS : (fun w' : World => w'.cell? ⟨rx, 0, none⟩ = some (.float .f64 p0) ∧ w'.cell? ⟨ry, 0, none⟩ = some (.float .f64 q0)) W3 := (HS.out.at2 0)
      repeat (refine wpPq_takeL (v := ?_) rfl rfl (fun _ _ _ h => h) rfl (fun w' hSw => ?_) hS ?_; rotate_left; (focus (go_simp; with_reducible rfl)); simp only [setL])
      clear hS
      have hAp : ∀ j ∈ ([10, 11] : List Nat), ∀ s w', (pick [(3, fun v w' => ∃ p, v = ExV p (pE p0) ∧ RInt w' p (valZ p0)), (7, fun v w' => ∃ p, v = ExV p (pE q0) ∧ RInt w' p (valZ q0)), (8, fun v w' => ∃ p, v = ExV p (pE p0 + pE q0) ∧ RInt w' p (valZ p0 * valZ q0)), (9, fun v w' => ∃ p, v = ExV p 0 ∧ RInt w' p 1), (10, fun v w' => ∃ r, v = .pointer (some ⟨r, 0, none⟩) ∧ nB ≤ r ∧ BlkT w' r 27 #[.pointer none, .int .i64 0]), (11, fun v w' => ∃ r, v = .pointer (some ⟨r, 0, none⟩) ∧ nB ≤ r ∧ BlkT w' r 27 #[.pointer none, .int .i64 0])]) j (.pointer (some ⟨s, 0, none⟩)) w' → s < w'.heap.size := (bag_cons (fun s w' h => by obtain ⟨r, hr, -, hB⟩ := (h : (fun (v : Value) (w' : World) => ∃ r, v = .pointer (some ⟨r, 0, none⟩) ∧ nB ≤ r ∧ BlkT w' r 27 #[.pointer none, .int .i64 0]) (.pointer (some ⟨s, 0, none⟩)) w'); simp only [Value.pointer.injEq, Option.some.injEq, Addr.mk.injEq, and_true] at hr; subst hr; exact hB.lt) (bag_cons (fun s w' h => by obtain ⟨r, hr, -, hB⟩ := (h : (fun (v : Value) (w' : World) => ∃ r, v = .pointer (some ⟨r, 0, none⟩) ∧ nB ≤ r ∧ BlkT w' r 27 #[.pointer none, .int .i64 0]) (.pointer (some ⟨s, 0, none⟩)) w'); simp only [Value.pointer.injEq, Option.some.injEq, Addr.mk.injEq, and_true] at hr; subst hr; exact hB.lt) bag_nil))
      refine wpPq_bagD [10, 11] (pick [(3, fun v w' => ∃ p, v = ExV p (pE p0) ∧ RInt w' p (valZ p0)), (7, fun v w' => ∃ p, v = ExV p (pE q0) ∧ RInt w' p (valZ q0)), (8, fun v w' => ∃ p, v = ExV p (pE p0 + pE q0) ∧ RInt w' p (valZ p0 * valZ q0)), (9, fun v w' => ∃ p, v = ExV p 0 ∧ RInt w' p 1), (10, fun v w' => ∃ r, v = .pointer (some ⟨r, 0, none⟩) ∧ nB ≤ r ∧ BlkT w' r 27 #[.pointer none, .int .i64 0]), (11, fun v w' => ∃ r, v = .pointer (some ⟨r, 0, none⟩) ∧ nB ≤ r ∧ BlkT w' r 27 #[.pointer none, .int .i64 0])]) (pick_mono (bag_cons (fun v w1 w2 ⟨p3', hv3, hi3⟩ hb => ⟨p3', hv3, hi3.below hb⟩) (bag_cons (fun v w1 w2 ⟨p7', hv7, hi7⟩ hb => ⟨p7', hv7, hi7.below hb⟩) (bag_cons (fun v w1 w2 ⟨p8', hv8, hi8⟩ hb => ⟨p8', hv8, hi8.below hb⟩) (bag_cons (fun v w1 w2 ⟨p9', hv9, hi9⟩ hb => ⟨p9', hv9, hi9.below hb⟩) (bag_cons (fun v w1 w2 ⟨r10, hv10, hl10, hB10⟩ hb => ⟨r10, hv10, hl10, hB10.below hb⟩) (bag_cons (fun v w1 w2 ⟨r11, hv11, hl11, hB11⟩ hb => ⟨r11, hv11, hl11, hB11.below hb⟩) bag_nil))))))) (fun w' hb => ((HS.out.later hb).at2 0)) (by simp [prE]) (fun _ _ _ _ _ h => h) (by decide) (bag_cons (bagD_one rfl (BagStep.other (by decide) ?_)) (bag_cons (bagD_one rfl (BagStep.other (by decide) ?_)) (bag_cons (bagD_one rfl (BagStep.other (by decide) ?_)) (bag_cons (bagD_one rfl (BagStep.other (by decide) ?_)) (bag_cons (bagD_one rfl (BagStep.fresh hAp ?_)) (bag_cons (bagD_one rfl (BagStep.fresh hAp ?_)) bag_nil)))))) bag_nil ?_
      · intro a' V hdf hin hdep hb1 K hK
        have i40 : a'.tmps[40]?.getD undef = .float .f64 p0 := evT (hin 40 (by decide))
        clear hin hdep hdf
        have HS := Lib.hid (HS.out.later hb1)
        have HSZ := Lib.hid (HSZ.out.below hb1)
        go_simp
        refine (HOp0.out _).mono ?_
        rintro e1 V2 ⟨p, rfl, -, hi, hb2⟩
        exact hK _ _ ⟨p, rfl, hi⟩ hb2
      · intro a' V hdf hin hdep hb1 K hK
        have i44 : a'.tmps[44]?.getD undef = .float .f64 q0 := evT (hin 44 (by decide))
        clear hin hdep hdf
        have HS := Lib.hid (HS.out.later hb1)
        have HSZ := Lib.hid (HSZ.out.below hb1)
        go_simp
        refine (HOq0.out _).mono ?_
        rintro e1 V2 ⟨p, rfl, -, hi, hb2⟩
        exact hK _ _ ⟨p, rfl, hi⟩ hb2
      · intro a' V hdf hin hdep hb1 K hK
        obtain ⟨p3', hv3, hi3⟩ : (fun (v : Value) (w' : World) => ∃ p, v = ExV p (pE p0) ∧ RInt w' p (valZ p0)) (a'.tmps.getD 41 undef) V := hdep ⟨3, .data⟩ (by simp) rfl 41 (by decide)
        replace hv3 := evT hv3
        obtain ⟨p7', hv7, hi7⟩ : (fun (v : Value) (w' : World) => ∃ p, v = ExV p (pE q0) ∧ RInt w' p (valZ q0)) (a'.tmps.getD 45 undef) V := hdep ⟨7, .data⟩ (by simp) rfl 45 (by decide)
        replace hv7 := evT hv7
        clear hin hdep hdf
        have HS := Lib.hid (HS.out.later hb1)
        have HSZ := Lib.hid (HSZ.out.below hb1)
        simp only [ExV] at hv3 hv7
        go_simp
        refine (HM0.out _ _ _ hi3 hi7).mono ?_
        rintro e1 V2 ⟨p, rfl, -, hi, hb2⟩
        exact hK _ _ ⟨p, rfl, hi⟩ hb2
      · intro a' V hdf hin hdep hb1 K hK
        clear hin hdep hdf
        have HS := Lib.hid (HS.out.later hb1)
        have HSZ := Lib.hid (HSZ.out.below hb1)
        go_simp
        refine (HWH.out _).mono ?_
        rintro e1 V2 ⟨p, rfl, -, hi, hb2⟩
        exact hK _ _ ⟨p, rfl, hi⟩ hb2
      · intro a' V hdf hin hdep hb1 K hK
        clear hin hdep hdf
        have HS := Lib.hid (HS.out.later hb1)
        have HSZ := Lib.hid (HSZ.out.below hb1)
        go_simp
        exact hK _ ⟨_, rfl, HSZ.out, BlkT.new V _ _⟩ (Below.alloc_self _ _)
      · intro a' V hdf hin hdep hb1 K hK
        clear hin hdep hdf
        have HS := Lib.hid (HS.out.later hb1)
        have HSZ := Lib.hid (HSZ.out.below hb1)
        go_simp
        exact hK _ ⟨_, rfl, HSZ.out, BlkT.new V _ _⟩ (Below.alloc_self _ _)
      intro vals B1 hb1 hR hNE
      replace HS := Lib.hid (HS.out.later hb1)
      replace HSZ := Lib.hid (HSZ.out.below hb1)
      obtain ⟨p3', hv3, hi3⟩ : (fun (v : Value) (w' : World) => ∃ p, v = ExV p (pE p0) ∧ RInt w' p (valZ p0)) (vals 3) B1 := hR (3, 41) (by decide)
      obtain ⟨p7', hv7, hi7⟩ : (fun (v : Value) (w' : World) => ∃ p, v = ExV p (pE q0) ∧ RInt w' p (valZ q0)) (vals 7) B1 := hR (7, 45) (by decide)
      obtain ⟨p8', hv8, hi8⟩ : (fun (v : Value) (w' : World) => ∃ p, v = ExV p (pE p0 + pE q0) ∧ RInt w' p (valZ p0 * valZ q0)) (vals 8) B1 := hR (8, 46) (by decide)
      obtain ⟨p9', hv9, hi9⟩ : (fun (v : Value) (w' : World) => ∃ p, v = ExV p 0 ∧ RInt w' p 1) (vals 9) B1 := hR (9, 47) (by decide)
      obtain ⟨r10, hv10, hl10, hB10⟩ : (fun (v : Value) (w' : World) => ∃ r, v = .pointer (some ⟨r, 0, none⟩) ∧ nB ≤ r ∧ BlkT w' r 27 #[.pointer none, .int .i64 0]) (vals 10) B1 := hR (10, 14) (by decide)
      obtain ⟨r11, hv11, hl11, hB11⟩ : (fun (v : Value) (w' : World) => ∃ r, v = .pointer (some ⟨r, 0, none⟩) ∧ nB ≤ r ∧ BlkT w' r 27 #[.pointer none, .int .i64 0]) (vals 11) B1 := hR (11, 15) (by decide)
      have hne10_11 := hNE (10, 14) (by decide) (11, 15) (by decide) (by decide) (by decide) (by decide) r10 r11 hv10 hv11
      clear hNE hAp
      clear hb1 hR
      simp only [prE, List.flatMap_cons, List.flatMap_nil, List.cons_append, List.nil_append, List.append_nil, setD, List.setIfInBounds_toArray, List.set_cons_zero, List.set_cons_succ, hv3, hv7, hv8, hv9, hv10, hv11]
      clear vals hv3 hv7 hv8 hv9 hv10 hv11
      refine wpPq_nil ?_
      simp only [List.drop_succ_cons, List.drop_zero]
      replace HS := Lib.hid (HS.out.fill2 hB10 hB11 (Nat.le_trans HSW.out hl10) (Nat.le_trans HSW.out hl11) hne10_11 (fun q m e => by have := HLB.out q m; omega) (fun q m e => by have := HLB.out q m; omega) (.pointer (some ⟨p8', 0, none⟩)) (.int .i64 (pE p0 + pE q0)) (.pointer (some ⟨p9', 0, none⟩)) (.int .i64 0))
      have HN := Lib.hid (RInt.st22 hi8 hB10 hB11 hne10_11 (.pointer (some ⟨p8', 0, none⟩)) (.int .i64 (pE p0 + pE q0)) (.pointer (some ⟨p9', 0, none⟩)) (.int .i64 0))
      have HD := Lib.hid (RInt.st22 hi9 hB10 hB11 hne10_11 (.pointer (some ⟨p8', 0, none⟩)) (.int .i64 (pE p0 + pE q0)) (.pointer (some ⟨p9', 0, none⟩)) (.int .i64 0))
      obtain ⟨f60, f61, f62, f63⟩ := hB10.cells2
      obtain ⟨f70, f71, f72, f73⟩ := hB11.cells2
      have hn1 : r11 ≠ r10 := hne10_11.symm
      clear HLB HSZ HSW hB10 hB11 hl10 hl11 hi3 hi7 hi8 hi9
      unfold ExV
      go_upto_region 8 with fail
      clear f60 f61 f62 f63 f70 f71 f72 f73 hne10_11 hn1
      generalize World.setCell (World.setCell (World.setCell (World.setCell _ _ _) _ _) _ _) _ _ = W4 at HS HN HD ⊢
      go_upto_region 12 with fail
      obtain rfl : a = false := HA.out
      obtain rfl : b = false := HB.out
      obtain ⟨⟨⟨g0, g1⟩, g2, g3⟩, g4, g5⟩ := HS.out.c125
      go_wp2_with fail
      refine (HL0.out _ _ _ HN.out HD.out).mono ?_
      rintro e41 w41 ⟨rfl, hb41⟩
      replace HS := Lib.hid (HS.out.later hb41)
      replace HN := Lib.hid (HN.out.below hb41)
      replace HD := Lib.hid (HD.out.below hb41)
      clear hb41
      clear g0 g1 g2 g3 g4 g5
      go_upto_region 13 with fail
      obtain ⟨⟨⟨g0, g1⟩, g2, g3⟩, g4, g5⟩ := HS.out.c125
      go_wp2_with fail
      refine (HH0.out _ _ _ HN.out HD.out).mono ?_
      rintro e42 w42 ⟨rfl, hb42⟩
      replace HS := Lib.hid (HS.out.later hb42)
      replace HN := Lib.hid (HN.out.below hb42)
      replace HD := Lib.hid (HD.out.below hb42)
      clear hb42
      clear g0 g1 g2 g3 g4 g5
      have HA2 : Hid (L0 = (L0)) := Lib.hid rfl
      have HB2 : Hid (H0 = (H0)) := Lib.hid rfl
      go_wp2
      go_roundw
      case rel => exact ⟨1, L0, H0, by go_num, rfl, rfl, Lib.hid (.inr (.inl ⟨rfl, rfl, rfl⟩)), Lib.hid (HS.out.sub fun t m => .tail _ (.tail _ m))⟩
      case measure => simp [intOf]
    · clear HM0 HL0 HH0 HM2 HL2 HH2 HM3 HL3 HH3 HLT HHT
      have HA : Hid (a = (L0)) := Lib.hid ha
      have HB : Hid (b = (H0)) := Lib.hid hb
      clear ha hb HJ
      go_upto_region 7 with fail
      refine wp_region_q (fun w' : World => w'.cell? ⟨rx, 1, none⟩ = some (.float .f64 p0) ∧ w'.cell? ⟨ry, 1, none⟩ = some (.float .f64 q1)) 12 (.take 0 (.take 1 (.take 2 (.take 4 (.take 5 (.take 6 (.bag [(3, 41, []), (7, 45, []), (8, 46, []), (9, 47, []), (10, 14, []), (11, 15, [])] .nil))))))) (by kernel_rfl) (by kernel_rfl) ?_
      replace HS := Lib.hid (HS.out.later (drew_below _))
      generalize World.drew _ = W3 at HS ⊢
      have HSZ : Hid (SzLe W3 W3.heap.size) := Lib.hid (Nat.le_refl _)
      have HLB := Lib.hid HS.out.lt
      have HSW : Hid (w.heap.size ≤ W3.heap.size) := Lib.hid HS.out.size
      generalize W3.heap.size = nB at HSZ HLB HSW
      have hS : (fun w' : World => w'.cell? ⟨rx, 1, none⟩ = some (.float .f64 p0) ∧ w'.cell? ⟨ry, 1, none⟩ = some (.float .f64 q1)) W3 := (HS.out.at2 1)
      repeat (refine wpPq_takeL (v := ?_) rfl rfl (fun _ _ _ h => h) rfl (fun w' hSw => ?_) hS ?_; rotate_left; (focus (go_simp; with_reducible rfl)); simp only [setL])
      clear hS
      have hAp : ∀ j ∈ ([10, 11] : List Nat), ∀ s w', (pick [(3, fun v w' => ∃ p, v = ExV p (pE p0) ∧ RInt w' p (valZ p0)), (7, fun v w' => ∃ p, v = ExV p (pE q1) ∧ RInt w' p (valZ q1)), (8, fun v w' => ∃ p, v = ExV p (pE p0 + pE q1) ∧ RInt w' p (valZ p0 * valZ q1)), (9, fun v w' => ∃ p, v = ExV p 0 ∧ RInt w' p 1), (10, fun v w' => ∃ r, v = .pointer (some ⟨r, 0, none⟩) ∧ nB ≤ r ∧ BlkT w' r 27 #[.pointer none, .int .i64 0]), (11, fun v w' => ∃ r, v = .pointer (some ⟨r, 0, none⟩) ∧ nB ≤ r ∧ BlkT w' r 27 #[.pointer none, .int .i64 0])]) j (.pointer (some ⟨s, 0, none⟩)) w' → s < w'.heap.size := (bag_cons (fun s w' h => by obtain ⟨r, hr, -, hB⟩ := (h : (fun (v : Value) (w' : World) => ∃ r, v = .pointer (some ⟨r, 0, none⟩) ∧ nB ≤ r ∧ BlkT w' r 27 #[.pointer none, .int .i64 0]) (.pointer (some ⟨s, 0, none⟩)) w'); simp only [Value.pointer.injEq, Option.some.injEq, Addr.mk.injEq, and_true] at hr; subst hr; exact hB.lt) (bag_cons (fun s w' h => by obtain ⟨r, hr, -, hB⟩ := (h : (fun (v : Value) (w' : World) => ∃ r, v = .pointer (some ⟨r, 0, none⟩) ∧ nB ≤ r ∧ BlkT w' r 27 #[.pointer none, .int .i64 0]) (.pointer (some ⟨s, 0, none⟩)) w'); simp only [Value.pointer.injEq, Option.some.injEq, Addr.mk.injEq, and_true] at hr; subst hr; exact hB.lt) bag_nil))
      refine wpPq_bagD [10, 11] (pick [(3, fun v w' => ∃ p, v = ExV p (pE p0) ∧ RInt w' p (valZ p0)), (7, fun v w' => ∃ p, v = ExV p (pE q1) ∧ RInt w' p (valZ q1)), (8, fun v w' => ∃ p, v = ExV p (pE p0 + pE q1) ∧ RInt w' p (valZ p0 * valZ q1)), (9, fun v w' => ∃ p, v = ExV p 0 ∧ RInt w' p 1), (10, fun v w' => ∃ r, v = .pointer (some ⟨r, 0, none⟩) ∧ nB ≤ r ∧ BlkT w' r 27 #[.pointer none, .int .i64 0]), (11, fun v w' => ∃ r, v = .pointer (some ⟨r, 0, none⟩) ∧ nB ≤ r ∧ BlkT w' r 27 #[.pointer none, .int .i64 0])]) (pick_mono (bag_cons (fun v w1 w2 ⟨p3', hv3, hi3⟩ hb => ⟨p3', hv3, hi3.below hb⟩) (bag_cons (fun v w1 w2 ⟨p7', hv7, hi7⟩ hb => ⟨p7', hv7, hi7.below hb⟩) (bag_cons (fun v w1 w2 ⟨p8', hv8, hi8⟩ hb => ⟨p8', hv8, hi8.below hb⟩) (bag_cons (fun v w1 w2 ⟨p9', hv9, hi9⟩ hb => ⟨p9', hv9, hi9.below hb⟩) (bag_cons (fun v w1 w2 ⟨r10, hv10, hl10, hB10⟩ hb => ⟨r10, hv10, hl10, hB10.below hb⟩) (bag_cons (fun v w1 w2 ⟨r11, hv11, hl11, hB11⟩ hb => ⟨r11, hv11, hl11, hB11.below hb⟩) bag_nil))))))) (fun w' hb => ((HS.out.later hb).at2 1)) (by simp [prE]) (fun _ _ _ _ _ h => h) (by decide) (bag_cons (bagD_one rfl (BagStep.other (by decide) ?_)) (bag_cons (bagD_one rfl (BagStep.other (by decide) ?_)) (bag_cons (bagD_one rfl (BagStep.other (by decide) ?_)) (bag_cons (bagD_one rfl (BagStep.other (by decide) ?_)) (bag_cons (bagD_one rfl (BagStep.fresh hAp ?_)) (bag_cons (bagD_one rfl (BagStep.fresh hAp ?_)) bag_nil)))))) bag_nil ?_
      · intro a' V hdf hin hdep hb1 K hK
        have i40 : a'.tmps[40]?.getD undef = .float .f64 p0 := evT (hin 40 (by decide))
        clear hin hdep hdf
        have HS := Lib.hid (HS.out.later hb1)
        have HSZ := Lib.hid (HSZ.out.below hb1)
        go_simp
        refine (HOp0.out _).mono ?_
        rintro e1 V2 ⟨p, rfl, -, hi, hb2⟩
        exact hK _ _ ⟨p, rfl, hi⟩ hb2
      · intro a' V hdf hin hdep hb1 K hK
        have i44 : a'.tmps[44]?.getD undef = .float .f64 q1 := evT (hin 44 (by decide))
        clear hin hdep hdf
        have HS := Lib.hid (HS.out.later hb1)
        have HSZ := Lib.hid (HSZ.out.below hb1)
        go_simp
        refine (HOq1.out _).mono ?_
        rintro e1 V2 ⟨p, rfl, -, hi, hb2⟩
        exact hK _ _ ⟨p, rfl, hi⟩ hb2
      · intro a' V hdf hin hdep hb1 K hK
        obtain ⟨p3', hv3, hi3⟩ : (fun (v : Value) (w' : World) => ∃ p, v = ExV p (pE p0) ∧ RInt w' p (valZ p0)) (a'.tmps.getD 41 undef) V := hdep ⟨3, .data⟩ (by simp) rfl 41 (by decide)
        replace hv3 := evT hv3
        obtain ⟨p7', hv7, hi7⟩ : (fun (v : Value) (w' : World) => ∃ p, v = ExV p (pE q1) ∧ RInt w' p (valZ q1)) (a'.tmps.getD 45 undef) V := hdep ⟨7, .data⟩ (by simp) rfl 45 (by decide)
        replace hv7 := evT hv7
        clear hin hdep hdf
        have HS := Lib.hid (HS.out.later hb1)
        have HSZ := Lib.hid (HSZ.out.below hb1)
        simp only [ExV] at hv3 hv7
        go_simp
        refine (HM1.out _ _ _ hi3 hi7).mono ?_
        rintro e1 V2 ⟨p, rfl, -, hi, hb2⟩
        exact hK _ _ ⟨p, rfl, hi⟩ hb2
      · intro a' V hdf hin hdep hb1 K hK
        clear hin hdep hdf
        have HS := Lib.hid (HS.out.later hb1)
        have HSZ := Lib.hid (HSZ.out.below hb1)
        go_simp
        refine (HWH.out _).mono ?_
        rintro e1 V2 ⟨p, rfl, -, hi, hb2⟩
        exact hK _ _ ⟨p, rfl, hi⟩ hb2
      · intro a' V hdf hin hdep hb1 K hK
        clear hin hdep hdf
        have HS := Lib.hid (HS.out.later hb1)
        have HSZ := Lib.hid (HSZ.out.below hb1)
        go_simp
        exact hK _ ⟨_, rfl, HSZ.out, BlkT.new V _ _⟩ (Below.alloc_self _ _)
      · intro a' V hdf hin hdep hb1 K hK
        clear hin hdep hdf
        have HS := Lib.hid (HS.out.later hb1)
        have HSZ := Lib.hid (HSZ.out.below hb1)
        go_simp
        exact hK _ ⟨_, rfl, HSZ.out, BlkT.new V _ _⟩ (Below.alloc_self _ _)
      intro vals B1 hb1 hR hNE
      replace HS := Lib.hid (HS.out.later hb1)
      replace HSZ := Lib.hid (HSZ.out.below hb1)
      obtain ⟨p3', hv3, hi3⟩ : (fun (v : Value) (w' : World) => ∃ p, v = ExV p (pE p0) ∧ RInt w' p (valZ p0)) (vals 3) B1 := hR (3, 41) (by decide)
      obtain ⟨p7', hv7, hi7⟩ : (fun (v : Value) (w' : World) => ∃ p, v = ExV p (pE q1) ∧ RInt w' p (valZ q1)) (vals 7) B1 := hR (7, 45) (by decide)
      obtain ⟨p8', hv8, hi8⟩ : (fun (v : Value) (w' : World) => ∃ p, v = ExV p (pE p0 + pE q1) ∧ RInt w' p (valZ p0 * valZ q1)) (vals 8) B1 := hR (8, 46) (by decide)
      obtain ⟨p9', hv9, hi9⟩ : (fun (v : Value) (w' : World) => ∃ p, v = ExV p 0 ∧ RInt w' p 1) (vals 9) B1 := hR (9, 47) (by decide)
      obtain ⟨r10, hv10, hl10, hB10⟩ : (fun (v : Value) (w' : World) => ∃ r, v = .pointer (some ⟨r, 0, none⟩) ∧ nB ≤ r ∧ BlkT w' r 27 #[.pointer none, .int .i64 0]) (vals 10) B1 := hR (10, 14) (by decide)
      obtain ⟨r11, hv11, hl11, hB11⟩ : (fun (v : Value) (w' : World) => ∃ r, v = .pointer (some ⟨r, 0, none⟩) ∧ nB ≤ r ∧ BlkT w' r 27 #[.pointer none, .int .i64 0]) (vals 11) B1 := hR (11, 15) (by decide)
      have hne10_11 := hNE (10, 14) (by decide) (11, 15) (by decide) (by decide) (by decide) (by decide) r10 r11 hv10 hv11
      clear hNE hAp
      clear hb1 hR
      simp only [prE, List.flatMap_cons, List.flatMap_nil, List.cons_append, List.nil_append, List.append_nil, setD, List.setIfInBounds_toArray, List.set_cons_zero, List.set_cons_succ, hv3, hv7, hv8, hv9, hv10, hv11]
      clear vals hv3 hv7 hv8 hv9 hv10 hv11
      refine wpPq_nil ?_
      simp only [List.drop_succ_cons, List.drop_zero]
      replace HS := Lib.hid (HS.out.fill2 hB10 hB11 (Nat.le_trans HSW.out hl10) (Nat.le_trans HSW.out hl11) hne10_11 (fun q m e => by have := HLB.out q m; omega) (fun q m e => by have := HLB.out q m; omega) (.pointer (some ⟨p8', 0, none⟩)) (.int .i64 (pE p0 + pE q1)) (.pointer (some ⟨p9', 0, none⟩)) (.int .i64 0))
      have HN := Lib.hid (RInt.st22 hi8 hB10 hB11 hne10_11 (.pointer (some ⟨p8', 0, none⟩)) (.int .i64 (pE p0 + pE q1)) (.pointer (some ⟨p9', 0, none⟩)) (.int .i64 0))
      have HD := Lib.hid (RInt.st22 hi9 hB10 hB11 hne10_11 (.pointer (some ⟨p8', 0, none⟩)) (.int .i64 (pE p0 + pE q1)) (.pointer (some ⟨p9', 0, none⟩)) (.int .i64 0))
      obtain ⟨f60, f61, f62, f63⟩ := hB10.cells2
      obtain ⟨f70, f71, f72, f73⟩ := hB11.cells2
      have hn1 : r11 ≠ r10 := hne10_11.symm
      clear HLB HSZ HSW hB10 hB11 hl10 hl11 hi3 hi7 hi8 hi9
      unfold ExV
      go_upto_region 8 with fail
      clear f60 f61 f62 f63 f70 f71 f72 f73 hne10_11 hn1
      generalize World.setCell (World.setCell (World.setCell (World.setCell _ _ _) _ _) _ _) _ _ = W4 at HS HN HD ⊢
      go_upto_region 12 with fail
      cases a
      · have HA2 : Hid (L1 = (L0 || L1)) := Lib.hid (by rw [show (L0 || L1) = ((L0) || L1) from rfl, ← HA.out, Bool.false_or])
        obtain ⟨⟨⟨g0, g1⟩, g2, g3⟩, g4, g5⟩ := HS.out.c125
        go_wp2_with fail
        refine (HL1.out _ _ _ HN.out HD.out).mono ?_
        rintro e41 w41 ⟨rfl, hb41⟩
        replace HS := Lib.hid (HS.out.later hb41)
        replace HN := Lib.hid (HN.out.below hb41)
        replace HD := Lib.hid (HD.out.below hb41)
        clear hb41
        clear g0 g1 g2 g3 g4 g5
        go_upto_region 13 with fail
        cases b
        · have HB2 : Hid (H1 = (H0 || H1)) := Lib.hid (by rw [show (H0 || H1) = ((H0) || H1) from rfl, ← HB.out, Bool.false_or])
          obtain ⟨⟨⟨g0, g1⟩, g2, g3⟩, g4, g5⟩ := HS.out.c125
          go_wp2_with fail
          refine (HH1.out _ _ _ HN.out HD.out).mono ?_
          rintro e42 w42 ⟨rfl, hb42⟩
          replace HS := Lib.hid (HS.out.later hb42)
          replace HN := Lib.hid (HN.out.below hb42)
          replace HD := Lib.hid (HD.out.below hb42)
          clear hb42
          clear g0 g1 g2 g3 g4 g5
          go_wp2
          go_roundw
          case rel => exact ⟨2, L1, H1, by go_num, rfl, rfl, Lib.hid (.inr (.inr (.inl ⟨rfl, HA2.out, HB2.out⟩))), Lib.hid (HS.out.sub fun t m => .tail _ (.tail _ m))⟩
          case measure => simp [intOf]
        · have HB2 : Hid (true = (H0 || H1)) := Lib.hid (by rw [show (H0 || H1) = ((H0) || H1) from rfl, ← HB.out, Bool.true_or])
          go_wp2
          go_roundw
          case rel => exact ⟨2, L1, true, by go_num, rfl, rfl, Lib.hid (.inr (.inr (.inl ⟨rfl, HA2.out, HB2.out⟩))), Lib.hid (HS.out.sub fun t m => .tail _ (.tail _ m))⟩
          case measure => simp [intOf]
      · have HA2 : Hid (true = (L0 || L1)) := Lib.hid (by rw [show (L0 || L1) = ((L0) || L1) from rfl, ← HA.out, Bool.true_or])
        go_upto_region 13 with fail
        cases b
        · have HB2 : Hid (H1 = (H0 || H1)) := Lib.hid (by rw [show (H0 || H1) = ((H0) || H1) from rfl, ← HB.out, Bool.false_or])
          obtain ⟨⟨⟨g0, g1⟩, g2, g3⟩, g4, g5⟩ := HS.out.c125
          go_wp2_with fail
          refine (HH1.out _ _ _ HN.out HD.out).mono ?_
          rintro e42 w42 ⟨rfl, hb42⟩
          replace HS := Lib.hid (HS.out.later hb42)
          replace HN := Lib.hid (HN.out.below hb42)
          replace HD := Lib.hid (HD.out.below hb42)
          clear hb42
          clear g0 g1 g2 g3 g4 g5
          go_wp2
          go_roundw
          case rel => exact ⟨2, true, H1, by go_num, rfl, rfl, Lib.hid (.inr (.inr (.inl ⟨rfl, HA2.out, HB2.out⟩))), Lib.hid (HS.out.sub fun t m => .tail _ (.tail _ m))⟩
          case measure => simp [intOf]
        · have HB2 : Hid (true = (H0 || H1)) := Lib.hid (by rw [show (H0 || H1) = ((H0) || H1) from rfl, ← HB.out, Bool.true_or])
          go_wp2
          go_roundw
          case rel => exact ⟨2, true, true, by go_num, rfl, rfl, Lib.hid (.inr (.inr (.inl ⟨rfl, HA2.out, HB2.out⟩))), Lib.hid (HS.out.sub fun t m => .tail _ (.tail _ m))⟩
          case measure => simp [intOf]
    · clear HM0 HL0 HH0 HM1 HL1 HH1 HM3 HL3 HH3 HLT HHT
      have HA : Hid (a = (L0 || L1)) := Lib.hid ha
      have HB : Hid (b = (H0 || H1)) := Lib.hid hb
      clear ha hb HJ
      go_upto_region 7 with fail
      refine wp_region_q (fun w' : World => w'.cell? ⟨rx, 2, none⟩ = some (.float .f64 p1) ∧ w'.cell? ⟨ry, 2, none⟩ = some (.float .f64 q0)) 12 (.take 0 (.take 1 (.take 2 (.take 4 (.take 5 (.take 6 (.bag [(3, 41, []), (7, 45, []), (8, 46, []), (9, 47, []), (10, 14, []), (11, 15, [])] .nil))))))) (by kernel_rfl) (by kernel_rfl) ?_
      replace HS := Lib.hid (HS.out.later (drew_below _))
      generalize World.drew _ = W3 at HS ⊢
      have HSZ : Hid (SzLe W3 W3.heap.size) := Lib.hid (Nat.le_refl _)
      have HLB := Lib.hid HS.out.lt
      have HSW : Hid (w.heap.size ≤ W3.heap.size) := Lib.hid HS.out.size
      generalize W3.heap.size = nB at HSZ HLB HSW
      have hS : (fun w' : World => w'.cell? ⟨rx, 2, none⟩ = some (.float .f64 p1) ∧ w'.cell? ⟨ry, 2, none⟩ = some (.float .f64 q0)) W3 := (HS.out.at2 2)
      repeat (refine wpPq_takeL (v := ?_) rfl rfl (fun _ _ _ h => h) rfl (fun w' hSw => ?_) hS ?_; rotate_left; (focus (go_simp; with_reducible rfl)); simp only [setL])
      clear hS
      have hAp : ∀ j ∈ ([10, 11] : List Nat), ∀ s w', (pick [(3, fun v w' => ∃ p, v = ExV p (pE p1) ∧ RInt w' p (valZ p1)), (7, fun v w' => ∃ p, v = ExV p (pE q0) ∧ RInt w' p (valZ q0)), (8, fun v w' => ∃ p, v = ExV p (pE p1 + pE q0) ∧ RInt w' p (valZ p1 * valZ q0)), (9, fun v w' => ∃ p, v = ExV p 0 ∧ RInt w' p 1), (10, fun v w' => ∃ r, v = .pointer (some ⟨r, 0, none⟩) ∧ nB ≤ r ∧ BlkT w' r 27 #[.pointer none, .int .i64 0]), (11, fun v w' => ∃ r, v = .pointer (some ⟨r, 0, none⟩) ∧ nB ≤ r ∧ BlkT w' r 27 #[.pointer none, .int .i64 0])]) j (.pointer (some ⟨s, 0, none⟩)) w' → s < w'.heap.size := (bag_cons (fun s w' h => by obtain ⟨r, hr, -, hB⟩ := (h : (fun (v : Value) (w' : World) => ∃ r, v = .pointer (some ⟨r, 0, none⟩) ∧ nB ≤ r ∧ BlkT w' r 27 #[.pointer none, .int .i64 0]) (.pointer (some ⟨s, 0, none⟩)) w'); simp only [Value.pointer.injEq, Option.some.injEq, Addr.mk.injEq, and_true] at hr; subst hr; exact hB.lt) (bag_cons (fun s w' h => by obtain ⟨r, hr, -, hB⟩ := (h : (fun (v : Value) (w' : World) => ∃ r, v = .pointer (some ⟨r, 0, none⟩) ∧ nB ≤ r ∧ BlkT w' r 27 #[.pointer none, .int .i64 0]) (.pointer (some ⟨s, 0, none⟩)) w'); simp only [Value.pointer.injEq, Option.some.injEq, Addr.mk.injEq, and_true] at hr; subst hr; exact hB.lt) bag_nil))
      refine wpPq_bagD [10, 11] (pick [(3, fun v w' => ∃ p, v = ExV p (pE p1) ∧ RInt w' p (valZ p1)), (7, fun v w' => ∃ p, v = ExV p (pE q0) ∧ RInt w' p (valZ q0)), (8, fun v w' => ∃ p, v = ExV p (pE p1 + pE q0) ∧ RInt w' p (valZ p1 * valZ q0)), (9, fun v w' => ∃ p, v = ExV p 0 ∧ RInt w' p 1), (10, fun v w' => ∃ r, v = .pointer (some ⟨r, 0, none⟩) ∧ nB ≤ r ∧ BlkT w' r 27 #[.pointer none, .int .i64 0]), (11, fun v w' => ∃ r, v = .pointer (some ⟨r, 0, none⟩) ∧ nB ≤ r ∧ BlkT w' r 27 #[.pointer none, .int .i64 0])]) (pick_mono (bag_cons (fun v w1 w2 ⟨p3', hv3, hi3⟩ hb => ⟨p3', hv3, hi3.below hb⟩) (bag_cons (fun v w1 w2 ⟨p7', hv7, hi7⟩ hb => ⟨p7', hv7, hi7.below hb⟩) (bag_cons (fun v w1 w2 ⟨p8', hv8, hi8⟩ hb => ⟨p8', hv8, hi8.below hb⟩) (bag_cons (fun v w1 w2 ⟨p9', hv9, hi9⟩ hb => ⟨p9', hv9, hi9.below hb⟩) (bag_cons (fun v w1 w2 ⟨r10, hv10, hl10, hB10⟩ hb => ⟨r10, hv10, hl10, hB10.below hb⟩) (bag_cons (fun v w1 w2 ⟨r11, hv11, hl11, hB11⟩ hb => ⟨r11, hv11, hl11, hB11.below hb⟩) bag_nil))))))) (fun w' hb => ((HS.out.later hb).at2 2)) (by simp [prE]) (fun _ _ _ _ _ h => h) (by decide) (bag_cons (bagD_one rfl (BagStep.other (by decide) ?_)) (bag_cons (bagD_one rfl (BagStep.other (by decide) ?_)) (bag_cons (bagD_one rfl (BagStep.other (by decide) ?_)) (bag_cons (bagD_one rfl (BagStep.other (by decide) ?_)) (bag_cons (bagD_one rfl (BagStep.fresh hAp ?_)) (bag_cons (bagD_one rfl (BagStep.fresh hAp ?_)) bag_nil)))))) bag_nil ?_
      · intro a' V hdf hin hdep hb1 K hK
        have i40 : a'.tmps[40]?.getD undef = .float .f64 p1 := evT (hin 40 (by decide))
        clear hin hdep hdf
        have HS := Lib.hid (HS.out.later hb1)
        have HSZ := Lib.hid (HSZ.out.below hb1)
        go_simp
        refine (HOp1.out _).mono ?_
        rintro e1 V2 ⟨p, rfl, -, hi, hb2⟩
        exact hK _ _ ⟨p, rfl, hi⟩ hb2
      · intro a' V hdf hin hdep hb1 K hK
        have i44 : a'.tmps[44]?.getD undef = .float .f64 q0 := evT (hin 44 (by decide))
        clear hin hdep hdf
        have HS := Lib.hid (HS.out.later hb1)
        have HSZ := Lib.hid (HSZ.out.below hb1)
        go_simp
        refine (HOq0.out _).mono ?_
        rintro e1 V2 ⟨p, rfl, -, hi, hb2⟩
        exact hK _ _ ⟨p, rfl, hi⟩ hb2
      · intro a' V hdf hin hdep hb1 K hK
        obtain ⟨p3', hv3, hi3⟩ : (fun (v : Value) (w' : World) => ∃ p, v = ExV p (pE p1) ∧ RInt w' p (valZ p1)) (a'.tmps.getD 41 undef) V := hdep ⟨3, .data⟩ (by simp) rfl 41 (by decide)
        replace hv3 := evT hv3
        obtain ⟨p7', hv7, hi7⟩ : (fun (v : Value) (w' : World) => ∃ p, v = ExV p (pE q0) ∧ RInt w' p (valZ q0)) (a'.tmps.getD 45 undef) V := hdep ⟨7, .data⟩ (by simp) rfl 45 (by decide)
        replace hv7 := evT hv7
        clear hin hdep hdf
        have HS := Lib.hid (HS.out.later hb1)
        have HSZ := Lib.hid (HSZ.out.below hb1)
        simp only [ExV] at hv3 hv7
        go_simp
        refine (HM2.out _ _ _ hi3 hi7).mono ?_
        rintro e1 V2 ⟨p, rfl, -, hi, hb2⟩
        exact hK _ _ ⟨p, rfl, hi⟩ hb2
      · intro a' V hdf hin hdep hb1 K hK
        clear hin hdep hdf
        have HS := Lib.hid (HS.out.later hb1)
        have HSZ := Lib.hid (HSZ.out.below hb1)
        go_simp
        refine (HWH.out _).mono ?_
        rintro e1 V2 ⟨p, rfl, -, hi, hb2⟩
        exact hK _ _ ⟨p, rfl, hi⟩ hb2
      · intro a' V hdf hin hdep hb1 K hK
        clear hin hdep hdf
        have HS := Lib.hid (HS.out.later hb1)
        have HSZ := Lib.hid (HSZ.out.below hb1)
        go_simp
        exact hK _ ⟨_, rfl, HSZ.out, BlkT.new V _ _⟩ (Below.alloc_self _ _)
      · intro a' V hdf hin hdep hb1 K hK
        clear hin hdep hdf
        have HS := Lib.hid (HS.out.later hb1)
        have HSZ := Lib.hid (HSZ.out.below hb1)
        go_simp
        exact hK _ ⟨_, rfl, HSZ.out, BlkT.new V _ _⟩ (Below.alloc_self _ _)
      intro vals B1 hb1 hR hNE
      replace HS := Lib.hid (HS.out.later hb1)
      replace HSZ := Lib.hid (HSZ.out.below hb1)
      obtain ⟨p3', hv3, hi3⟩ : (fun (v : Value) (w' : World) => ∃ p, v = ExV p (pE p1) ∧ RInt w' p (valZ p1)) (vals 3) B1 := hR (3, 41) (by decide)
      obtain ⟨p7', hv7, hi7⟩ : (fun (v : Value) (w' : World) => ∃ p, v = ExV p (pE q0) ∧ RInt w' p (valZ q0)) (vals 7) B1 := hR (7, 45) (by decide)
      obtain ⟨p8', hv8, hi8⟩ : (fun (v : Value) (w' : World) => ∃ p, v = ExV p (pE p1 + pE q0) ∧ RInt w' p (valZ p1 * valZ q0)) (vals 8) B1 := hR (8, 46) (by decide)
      obtain ⟨p9', hv9, hi9⟩ : (fun (v : Value) (w' : World) => ∃ p, v = ExV p 0 ∧ RInt w' p 1) (vals 9) B1 := hR (9, 47) (by decide)
      obtain ⟨r10, hv10, hl10, hB10⟩ : (fun (v : Value) (w' : World) => ∃ r, v = .pointer (some ⟨r, 0, none⟩) ∧ nB ≤ r ∧ BlkT w' r 27 #[.pointer none, .int .i64 0]) (vals 10) B1 := hR (10, 14) (by decide)
      obtain ⟨r11, hv11, hl11, hB11⟩ : (fun (v : Value) (w' : World) => ∃ r, v = .pointer (some ⟨r, 0, none⟩) ∧ nB ≤ r ∧ BlkT w' r 27 #[.pointer none, .int .i64 0]) (vals 11) B1 := hR (11, 15) (by decide)
      have hne10_11 := hNE (10, 14) (by decide) (11, 15) (by decide) (by decide) (by decide) (by decide) r10 r11 hv10 hv11
      clear hNE hAp
      clear hb1 hR
      simp only [prE, List.flatMap_cons, List.flatMap_nil, List.cons_append, List.nil_append, List.append_nil, setD, List.setIfInBounds_toArray, List.set_cons_zero, List.set_cons_succ, hv3, hv7, hv8, hv9, hv10, hv11]
      clear vals hv3 hv7 hv8 hv9 hv10 hv11
      refine wpPq_nil ?_
      simp only [List.drop_succ_cons, List.drop_zero]
      replace HS := Lib.hid (HS.out.fill2 hB10 hB11 (Nat.le_trans HSW.out hl10) (Nat.le_trans HSW.out hl11) hne10_11 (fun q m e => by have := HLB.out q m; omega) (fun q m e => by have := HLB.out q m; omega) (.pointer (some ⟨p8', 0, none⟩)) (.int .i64 (pE p1 + pE q0)) (.pointer (some ⟨p9', 0, none⟩)) (.int .i64 0))
      have HN := Lib.hid (RInt.st22 hi8 hB10 hB11 hne10_11 (.pointer (some ⟨p8', 0, none⟩)) (.int .i64 (pE p1 + pE q0)) (.pointer (some ⟨p9', 0, none⟩)) (.int .i64 0))
      have HD := Lib.hid (RInt.st22 hi9 hB10 hB11 hne10_11 (.pointer (some ⟨p8', 0, none⟩)) (.int .i64 (pE p1 + pE q0)) (.pointer (some ⟨p9', 0, none⟩)) (.int .i64 0))
      obtain ⟨f60, f61, f62, f63⟩ := hB10.cells2
      obtain ⟨f70, f71, f72, f73⟩ := hB11.cells2
      have hn1 : r11 ≠ r10 := hne10_11.symm
      clear HLB HSZ HSW hB10 hB11 hl10 hl11 hi3 hi7 hi8 hi9
      unfold ExV
      go_upto_region 8 with fail
      clear f60 f61 f62 f63 f70 f71 f72 f73 hne10_11 hn1
      generalize World.setCell (World.setCell (World.setCell (World.setCell _ _ _) _ _) _ _) _ _ = W4 at HS HN HD ⊢
      go_upto_region 12 with fail
      cases a
      · have HA2 : Hid (L2 = (L0 || L1 || L2)) := Lib.hid (by rw [show (L0 || L1 || L2) = ((L0 || L1) || L2) from rfl, ← HA.out, Bool.false_or])
        obtain ⟨⟨⟨g0, g1⟩, g2, g3⟩, g4, g5⟩ := HS.out.c125
        go_wp2_with fail
        refine (HL2.out _ _ _ HN.out HD.out).mono ?_
        rintro e41 w41 ⟨rfl, hb41⟩
        replace HS := Lib.hid (HS.out.later hb41)
        replace HN := Lib.hid (HN.out.below hb41)
        replace HD := Lib.hid (HD.out.below hb41)
        clear hb41
        clear g0 g1 g2 g3 g4 g5
        go_upto_region 13 with fail
        cases b
        · have HB2 : Hid (H2 = (H0 || H1 || H2)) := Lib.hid (by rw [show (H0 || H1 || H2) = ((H0 || H1) || H2) from rfl, ← HB.out, Bool.false_or])
          obtain ⟨⟨⟨g0, g1⟩, g2, g3⟩, g4, g5⟩ := HS.out.c125
          go_wp2_with fail
          refine (HH2.out _ _ _ HN.out HD.out).mono ?_
          rintro e42 w42 ⟨rfl, hb42⟩
          replace HS := Lib.hid (HS.out.later hb42)
          replace HN := Lib.hid (HN.out.below hb42)
          replace HD := Lib.hid (HD.out.below hb42)
          clear hb42
          clear g0 g1 g2 g3 g4 g5
          go_wp2
          go_roundw
          case rel => exact ⟨3, L2, H2, by go_num, rfl, rfl, Lib.hid (.inr (.inr (.inr (.inl ⟨rfl, HA2.out, HB2.out⟩)))), Lib.hid (HS.out.sub fun t m => .tail _ (.tail _ m))⟩
          case measure => simp [intOf]
        · have HB2 : Hid (true = (H0 || H1 || H2)) := Lib.hid (by rw [show (H0 || H1 || H2) = ((H0 || H1) || H2) from rfl, ← HB.out, Bool.true_or])
          go_wp2
          go_roundw
          case rel => exact ⟨3, L2, true, by go_num, rfl, rfl, Lib.hid (.inr (.inr (.inr (.inl ⟨rfl, HA2.out, HB2.out⟩)))), Lib.hid (HS.out.sub fun t m => .tail _ (.tail _ m))⟩
          case measure => simp [intOf]
      · have HA2 : Hid (true = (L0 || L1 || L2)) := Lib.hid (by rw [show (L0 || L1 || L2) = ((L0 || L1) || L2) from rfl, ← HA.out, Bool.true_or])
        go_upto_region 13 with fail
        cases b
        · have HB2 : Hid (H2 = (H0 || H1 || H2)) := Lib.hid (by rw [show (H0 || H1 || H2) = ((H0 || H1) || H2) from rfl, ← HB.out, Bool.false_or])
          obtain ⟨⟨⟨g0, g1⟩, g2, g3⟩, g4, g5⟩ := HS.out.c125
          go_wp2_with fail
          refine (HH2.out _ _ _ HN.out HD.out).mono ?_
          rintro e42 w42 ⟨rfl, hb42⟩
          replace HS := Lib.hid (HS.out.later hb42)
          replace HN := Lib.hid (HN.out.below hb42)
          replace HD := Lib.hid (HD.out.below hb42)
          clear hb42
          clear g0 g1 g2 g3 g4 g5
          go_wp2
          go_roundw
          case rel => exact ⟨3, true, H2, by go_num, rfl, rfl, Lib.hid (.inr (.inr (.inr (.inl ⟨rfl, HA2.out, HB2.out⟩)))), Lib.hid (HS.out.sub fun t m => .tail _ (.tail _ m))⟩
          case measure => simp [intOf]
        · have HB2 : Hid (true = (H0 || H1 || H2)) := Lib.hid (by rw [show (H0 || H1 || H2) = ((H0 || H1) || H2) from rfl, ← HB.out, Bool.true_or])
          go_wp2
          go_roundw
          case rel => exact ⟨3, true, true, by go_num, rfl, rfl, Lib.hid (.inr (.inr (.inr (.inl ⟨rfl, HA2.out, HB2.out⟩)))), Lib.hid (HS.out.sub fun t m => .tail _ (.tail _ m))⟩
          case measure => simp [intOf]
    · clear HM0 HL0 HH0 HM1 HL1 HH1 HM2 HL2 HH2 HLT HHT
      have HA : Hid (a = (L0 || L1 || L2)) := Lib.hid ha
      have HB : Hid (b = (H0 || H1 || H2)) := Lib.hid hb
      clear ha hb HJ
      go_upto_region 7 with fail
      refine wp_region_q (fun w' : World => w'.cell? ⟨rx, 3, none⟩ = some (.float .f64 p1) ∧ w'.cell? ⟨ry, 3, none⟩ = some (.float .f64 q1)) 12 (.take 0 (.take 1 (.take 2 (.take 4 (.take 5 (.take 6 (.bag [(3, 41, []), (7, 45, []), (8, 46, []), (9, 47, []), (10, 14, []), (11, 15, [])] .nil))))))) (by kernel_rfl) (by kernel_rfl) ?_
      replace HS := Lib.hid (HS.out.later (drew_below _))
      generalize World.drew _ = W3 at HS ⊢
      have HSZ : Hid (SzLe W3 W3.heap.size) := Lib.hid (Nat.le_refl _)
      have HLB := Lib.hid HS.out.lt
      have HSW : Hid (w.heap.size ≤ W3.heap.size) := Lib.hid HS.out.size
      generalize W3.heap.size = nB at HSZ HLB HSW
      have hS : (fun w' : World => w'.cell? ⟨rx, 3, none⟩ = some (.float .f64 p1) ∧ w'.cell? ⟨ry, 3, none⟩ = some (.float .f64 q1)) W3 := (HS.out.at2 3)
      repeat (refine wpPq_takeL (v := ?_) rfl rfl (fun _ _ _ h => h) rfl (fun w' hSw => ?_) hS ?_; rotate_left; (focus (go_simp; with_reducible rfl)); simp only [setL])
      clear hS
      have hAp : ∀ j ∈ ([10, 11] : List Nat), ∀ s w', (pick [(3, fun v w' => ∃ p, v = ExV p (pE p1) ∧ RInt w' p (valZ p1)), (7, fun v w' => ∃ p, v = ExV p (pE q1) ∧ RInt w' p (valZ q1)), (8, fun v w' => ∃ p, v = ExV p (pE p1 + pE q1) ∧ RInt w' p (valZ p1 * valZ q1)), (9, fun v w' => ∃ p, v = ExV p 0 ∧ RInt w' p 1), (10, fun v w' => ∃ r, v = .pointer (some ⟨r, 0, none⟩) ∧ nB ≤ r ∧ BlkT w' r 27 #[.pointer none, .int .i64 0]), (11, fun v w' => ∃ r, v = .pointer (some ⟨r, 0, none⟩) ∧ nB ≤ r ∧ BlkT w' r 27 #[.pointer none, .int .i64 0])]) j (.pointer (some ⟨s, 0, none⟩)) w' → s < w'.heap.size := (bag_cons (fun s w' h => by obtain ⟨r, hr, -, hB⟩ := (h : (fun (v : Value) (w' : World) => ∃ r, v = .pointer (some ⟨r, 0, none⟩) ∧ nB ≤ r ∧ BlkT w' r 27 #[.pointer none, .int .i64 0]) (.pointer (some ⟨s, 0, none⟩)) w'); simp only [Value.pointer.injEq, Option.some.injEq, Addr.mk.injEq, and_true] at hr; subst hr; exact hB.lt) (bag_cons (fun s w' h => by obtain ⟨r, hr, -, hB⟩ := (h : (fun (v : Value) (w' : World) => ∃ r, v = .pointer (some ⟨r, 0, none⟩) ∧ nB ≤ r ∧ BlkT w' r 27 #[.pointer none, .int .i64 0]) (.pointer (some ⟨s, 0, none⟩)) w'); simp only [Value.pointer.injEq, Option.some.injEq, Addr.mk.injEq, and_true] at hr; subst hr; exact hB.lt) bag_nil))
      refine wpPq_bagD [10, 11] (pick [(3, fun v w' => ∃ p, v = ExV p (pE p1) ∧ RInt w' p (valZ p1)), (7, fun v w' => ∃ p, v = ExV p (pE q1) ∧ RInt w' p (valZ q1)), (8, fun v w' => ∃ p, v = ExV p (pE p1 + pE q1) ∧ RInt w' p (valZ p1 * valZ q1)), (9, fun v w' => ∃ p, v = ExV p 0 ∧ RInt w' p 1), (10, fun v w' => ∃ r, v = .pointer (some ⟨r, 0, none⟩) ∧ nB ≤ r ∧ BlkT w' r 27 #[.pointer none, .int .i64 0]), (11, fun v w' => ∃ r, v = .pointer (some ⟨r, 0, none⟩) ∧ nB ≤ r ∧ BlkT w' r 27 #[.pointer none, .int .i64 0])]) (pick_mono (bag_cons (fun v w1 w2 ⟨p3', hv3, hi3⟩ hb => ⟨p3', hv3, hi3.below hb⟩) (bag_cons (fun v w1 w2 ⟨p7', hv7, hi7⟩ hb => ⟨p7', hv7, hi7.below hb⟩) (bag_cons (fun v w1 w2 ⟨p8', hv8, hi8⟩ hb => ⟨p8', hv8, hi8.below hb⟩) (bag_cons (fun v w1 w2 ⟨p9', hv9, hi9⟩ hb => ⟨p9', hv9, hi9.below hb⟩) (bag_cons (fun v w1 w2 ⟨r10, hv10, hl10, hB10⟩ hb => ⟨r10, hv10, hl10, hB10.below hb⟩) (bag_cons (fun v w1 w2 ⟨r11, hv11, hl11, hB11⟩ hb => ⟨r11, hv11, hl11, hB11.below hb⟩) bag_nil))))))) (fun w' hb => ((HS.out.later hb).at2 3)) (by simp [prE]) (fun _ _ _ _ _ h => h) (by decide) (bag_cons (bagD_one rfl (BagStep.other (by decide) ?_)) (bag_cons (bagD_one rfl (BagStep.other (by decide) ?_)) (bag_cons (bagD_one rfl (BagStep.other (by decide) ?_)) (bag_cons (bagD_one rfl (BagStep.other (by decide) ?_)) (bag_cons (bagD_one rfl (BagStep.fresh hAp ?_)) (bag_cons (bagD_one rfl (BagStep.fresh hAp ?_)) bag_nil)))))) bag_nil ?_
      · intro a' V hdf hin hdep hb1 K hK
        have i40 : a'.tmps[40]?.getD undef = .float .f64 p1 := evT (hin 40 (by decide))
        clear hin hdep hdf
        have HS := Lib.hid (HS.out.later hb1)
        have HSZ := Lib.hid (HSZ.out.below hb1)
        go_simp
        refine (HOp1.out _).mono ?_
        rintro e1 V2 ⟨p, rfl, -, hi, hb2⟩
        exact hK _ _ ⟨p, rfl, hi⟩ hb2
      · intro a' V hdf hin hdep hb1 K hK
        have i44 : a'.tmps[44]?.getD undef = .float .f64 q1 := evT (hin 44 (by decide))
        clear hin hdep hdf
        have HS := Lib.hid (HS.out.later hb1)
        have HSZ := Lib.hid (HSZ.out.below hb1)
        go_simp
        refine (HOq1.out _).mono ?_
        rintro e1 V2 ⟨p, rfl, -, hi, hb2⟩
        exact hK _ _ ⟨p, rfl, hi⟩ hb2
      · intro a' V hdf hin hdep hb1 K hK
        obtain ⟨p3', hv3, hi3⟩ : (fun (v : Value) (w' : World) => ∃ p, v = ExV p (pE p1) ∧ RInt w' p (valZ p1)) (a'.tmps.getD 41 undef) V := hdep ⟨3, .data⟩ (by simp) rfl 41 (by decide)
        replace hv3 := evT hv3
        obtain ⟨p7', hv7, hi7⟩ : (fun (v : Value) (w' : World) => ∃ p, v = ExV p (pE q1) ∧ RInt w' p (valZ q1)) (a'.tmps.getD 45 undef) V := hdep ⟨7, .data⟩ (by simp) rfl 45 (by decide)
        replace hv7 := evT hv7
        clear hin hdep hdf
        have HS := Lib.hid (HS.out.later hb1)
        have HSZ := Lib.hid (HSZ.out.below hb1)
        simp only [ExV] at hv3 hv7
        go_simp
        refine (HM3.out _ _ _ hi3 hi7).mono ?_
        rintro e1 V2 ⟨p, rfl, -, hi, hb2⟩
        exact hK _ _ ⟨p, rfl, hi⟩ hb2
      · intro a' V hdf hin hdep hb1 K hK
        clear hin hdep hdf
        have HS := Lib.hid (HS.out.later hb1)
        have HSZ := Lib.hid (HSZ.out.below hb1)
        go_simp
        refine (HWH.out _).mono ?_
        rintro e1 V2 ⟨p, rfl, -, hi, hb2⟩
        exact hK _ _ ⟨p, rfl, hi⟩ hb2
      · intro a' V hdf hin hdep hb1 K hK
        clear hin hdep hdf
        have HS := Lib.hid (HS.out.later hb1)
        have HSZ := Lib.hid (HSZ.out.below hb1)
        go_simp
        exact hK _ ⟨_, rfl, HSZ.out, BlkT.new V _ _⟩ (Below.alloc_self _ _)
      · intro a' V hdf hin hdep hb1 K hK
        clear hin hdep hdf
        have HS := Lib.hid (HS.out.later hb1)
        have HSZ := Lib.hid (HSZ.out.below hb1)
        go_simp
        exact hK _ ⟨_, rfl, HSZ.out, BlkT.new V _ _⟩ (Below.alloc_self _ _)
      intro vals B1 hb1 hR hNE
      replace HS := Lib.hid (HS.out.later hb1)
      replace HSZ := Lib.hid (HSZ.out.below hb1)
      obtain ⟨p3', hv3, hi3⟩ : (fun (v : Value) (w' : World) => ∃ p, v = ExV p (pE p1) ∧ RInt w' p (valZ p1)) (vals 3) B1 := hR (3, 41) (by decide)
      obtain ⟨p7', hv7, hi7⟩ : (fun (v : Value) (w' : World) => ∃ p, v = ExV p (pE q1) ∧ RInt w' p (valZ q1)) (vals 7) B1 := hR (7, 45) (by decide)
      obtain ⟨p8', hv8, hi8⟩ : (fun (v : Value) (w' : World) => ∃ p, v = ExV p (pE p1 + pE q1) ∧ RInt w' p (valZ p1 * valZ q1)) (vals 8) B1 := hR (8, 46) (by decide)
      obtain ⟨p9', hv9, hi9⟩ : (fun (v : Value) (w' : World) => ∃ p, v = ExV p 0 ∧ RInt w' p 1) (vals 9) B1 := hR (9, 47) (by decide)
      obtain ⟨r10, hv10, hl10, hB10⟩ : (fun (v : Value) (w' : World) => ∃ r, v = .pointer (some ⟨r, 0, none⟩) ∧ nB ≤ r ∧ BlkT w' r 27 #[.pointer none, .int .i64 0]) (vals 10) B1 := hR (10, 14) (by decide)
      obtain ⟨r11, hv11, hl11, hB11⟩ : (fun (v : Value) (w' : World) => ∃ r, v = .pointer (some ⟨r, 0, none⟩) ∧ nB ≤ r ∧ BlkT w' r 27 #[.pointer none, .int .i64 0]) (vals 11) B1 := hR (11, 15) (by decide)
      have hne10_11 := hNE (10, 14) (by decide) (11, 15) (by decide) (by decide) (by decide) (by decide) r10 r11 hv10 hv11
      clear hNE hAp
      clear hb1 hR
      simp only [prE, List.flatMap_cons, List.flatMap_nil, List.cons_append, List.nil_append, List.append_nil, setD, List.setIfInBounds_toArray, List.set_cons_zero, List.set_cons_succ, hv3, hv7, hv8, hv9, hv10, hv11]
      clear vals hv3 hv7 hv8 hv9 hv10 hv11
      refine wpPq_nil ?_
      simp only [List.drop_succ_cons, List.drop_zero]
      replace HS := Lib.hid (HS.out.fill2 hB10 hB11 (Nat.le_trans HSW.out hl10) (Nat.le_trans HSW.out hl11) hne10_11 (fun q m e => by have := HLB.out q m; omega) (fun q m e => by have := HLB.out q m; omega) (.pointer (some ⟨p8', 0, none⟩)) (.int .i64 (pE p1 + pE q1)) (.pointer (some ⟨p9', 0, none⟩)) (.int .i64 0))
      have HN := Lib.hid (RInt.st22 hi8 hB10 hB11 hne10_11 (.pointer (some ⟨p8', 0, none⟩)) (.int .i64 (pE p1 + pE q1)) (.pointer (some ⟨p9', 0, none⟩)) (.int .i64 0))
      have HD := Lib.hid (RInt.st22 hi9 hB10 hB11 hne10_11 (.pointer (some ⟨p8', 0, none⟩)) (.int .i64 (pE p1 + pE q1)) (.pointer (some ⟨p9', 0, none⟩)) (.int .i64 0))
      obtain ⟨f60, f61, f62, f63⟩ := hB10.cells2
      obtain ⟨f70, f71, f72, f73⟩ := hB11.cells2
      have hn1 : r11 ≠ r10 := hne10_11.symm
      clear HLB HSZ HSW hB10 hB11 hl10 hl11 hi3 hi7 hi8 hi9
      unfold ExV
      go_upto_region 8 with fail
      clear f60 f61 f62 f63 f70 f71 f72 f73 hne10_11 hn1
      generalize World.setCell (World.setCell (World.setCell (World.setCell _ _ _) _ _) _ _) _ _ = W4 at HS HN HD ⊢
      go_upto_region 12 with fail
      cases a
      · have HA2 : Hid (L3 = (L0 || L1 || L2 || L3)) := Lib.hid (by rw [show (L0 || L1 || L2 || L3) = ((L0 || L1 || L2) || L3) from rfl, ← HA.out, Bool.false_or])
        obtain ⟨⟨⟨g0, g1⟩, g2, g3⟩, g4, g5⟩ := HS.out.c125
        go_wp2_with fail
        refine (HL3.out _ _ _ HN.out HD.out).mono ?_
        rintro e41 w41 ⟨rfl, hb41⟩
        replace HS := Lib.hid (HS.out.later hb41)
        replace HN := Lib.hid (HN.out.below hb41)
        replace HD := Lib.hid (HD.out.below hb41)
        clear hb41
        clear g0 g1 g2 g3 g4 g5
        go_upto_region 13 with fail
        cases b
        · have HB2 : Hid (H3 = (H0 || H1 || H2 || H3)) := Lib.hid (by rw [show (H0 || H1 || H2 || H3) = ((H0 || H1 || H2) || H3) from rfl, ← HB.out, Bool.false_or])
          obtain ⟨⟨⟨g0, g1⟩, g2, g3⟩, g4, g5⟩ := HS.out.c125
          go_wp2_with fail
          refine (HH3.out _ _ _ HN.out HD.out).mono ?_
          rintro e42 w42 ⟨rfl, hb42⟩
          replace HS := Lib.hid (HS.out.later hb42)
          replace HN := Lib.hid (HN.out.below hb42)
          replace HD := Lib.hid (HD.out.below hb42)
          clear hb42
          clear g0 g1 g2 g3 g4 g5
          go_wp2
          go_roundw
          case rel => exact ⟨4, L3, H3, by go_num, rfl, rfl, Lib.hid (.inr (.inr (.inr (.inr (⟨rfl, HA2.out, HB2.out⟩))))), Lib.hid (HS.out.sub fun t m => .tail _ (.tail _ m))⟩
          case measure => simp [intOf]
        · have HB2 : Hid (true = (H0 || H1 || H2 || H3)) := Lib.hid (by rw [show (H0 || H1 || H2 || H3) = ((H0 || H1 || H2) || H3) from rfl, ← HB.out, Bool.true_or])
          go_wp2
          go_roundw
          case rel => exact ⟨4, L3, true, by go_num, rfl, rfl, Lib.hid (.inr (.inr (.inr (.inr (⟨rfl, HA2.out, HB2.out⟩))))), Lib.hid (HS.out.sub fun t m => .tail _ (.tail _ m))⟩
          case measure => simp [intOf]
      · have HA2 : Hid (true = (L0 || L1 || L2 || L3)) := Lib.hid (by rw [show (L0 || L1 || L2 || L3) = ((L0 || L1 || L2) || L3) from rfl, ← HA.out, Bool.true_or])
        go_upto_region 13 with fail
        cases b
        · have HB2 : Hid (H3 = (H0 || H1 || H2 || H3)) := Lib.hid (by rw [show (H0 || H1 || H2 || H3) = ((H0 || H1 || H2) || H3) from rfl, ← HB.out, Bool.false_or])
          obtain ⟨⟨⟨g0, g1⟩, g2, g3⟩, g4, g5⟩ := HS.out.c125
          go_wp2_with fail
          refine (HH3.out _ _ _ HN.out HD.out).mono ?_
          rintro e42 w42 ⟨rfl, hb42⟩
          replace HS := Lib.hid (HS.out.later hb42)
          replace HN := Lib.hid (HN.out.below hb42)
          replace HD := Lib.hid (HD.out.below hb42)
          clear hb42
          clear g0 g1 g2 g3 g4 g5
          go_wp2
          go_roundw
          case rel => exact ⟨4, true, H3, by go_num, rfl, rfl, Lib.hid (.inr (.inr (.inr (.inr (⟨rfl, HA2.out, HB2.out⟩))))), Lib.hid (HS.out.sub fun t m => .tail _ (.tail _ m))⟩
          case measure => simp [intOf]
        · have HB2 : Hid (true = (H0 || H1 || H2 || H3)) := Lib.hid (by rw [show (H0 || H1 || H2 || H3) = ((H0 || H1 || H2) || H3) from rfl, ← HB.out, Bool.true_or])
          go_wp2
          go_roundw
          case rel => exact ⟨4, true, true, by go_num, rfl, rfl, Lib.hid (.inr (.inr (.inr (.inr (⟨rfl, HA2.out, HB2.out⟩))))), Lib.hid (HS.out.sub fun t m => .tail _ (.tail _ m))⟩
          case measure => simp [intOf]
    · have ha2 := ha.trans HLT.out
      have hb2 := hb.trans HHT.out
      clear ha hb HJ HLT HHT
      subst ha2 hb2
      go_wp2
      go_ret
      exact ⟨rfl, HS.out.2⟩

set_option maxRecDepth 100000 in
set_option maxHeartbeats 25600000 in
theorem corners_pos (r0 r1 p0 p1 q0 q1 : Nat) (w : World) (hr0 : W64 r0) (hr1 : W64 r1) (nr0 : nanB r0 = false) (nr1 : nanB r1 = false) (b0 : ky r0 < kInf) (b1 : -(kInf : Int) < ky r1) (hp0 : W64 p0) (hp1 : W64 p1) (hq0 : W64 q0) (hq1 : W64 q1) (fp0 : finB p0 = true) (fp1 : finB p1 = true) (fq0 : finB q0 = true) (fq1 : finB q1 = true) (sq0 : ky q0 > 0) (sq1 : ky q1 > 0)
    (hL : ((tgL (ky r0) (valZ p0) (pE p0) (valZ q0) (pE q0)) || (tgL (ky r0) (valZ p0) (pE p0) (valZ q1) (pE q1)) || (tgL (ky r0) (valZ p1) (pE p1) (valZ q0) (pE q0)) || (tgL (ky r0) (valZ p1) (pE p1) (valZ q1) (pE q1))) = true) (hH : ((tgH (ky r1) (valZ p0) (pE p0) (valZ q0) (pE q0)) || (tgH (ky r1) (valZ p0) (pE p0) (valZ q1) (pE q1)) || (tgH (ky r1) (valZ p1) (pE p1) (valZ q0) (pE q0)) || (tgH (ky r1) (valZ p1) (pE p1) (valZ q1) (pE q1))) = true) :
    Calls Tryz.prog 22 #[.agg #[.float .f64 r0, .float .f64 r1], .agg #[.float .f64 p0, .float .f64 p1], .agg #[.float .f64 q0, .float .f64 q1], .bool true] w (Gives (.bool true) w) := by
  have HWH := Lib.hid fun W => rWhole_any 1 W (by decide) (by decide)
  have HOp0 := Lib.hid fun W => rOf_any p0 W hp0 fp0
  have ep0 := pE_bd fp0
  have vp0 := val_bl (b := p0)
  have HOp1 := Lib.hid fun W => rOf_any p1 W hp1 fp1
  have ep1 := pE_bd fp1
  have vp1 := val_bl (b := p1)
  have HOq0 := Lib.hid fun W => rOf_any q0 W hq0 fq0
  have eq0 := pE_bd fq0
  have vq0 := val_bl (b := q0)
  have HOq1 := Lib.hid fun W => rOf_any q1 W hq1 fq1
  have eq1 := pE_bd fq1
  have vq1 := val_bl (b := q1)
  have m0 := bl_mul (valZ p0).natAbs (valZ q0).natAbs
  rw [← Int.natAbs_mul] at m0
  have HM0 := Lib.hid fun b c W (h1 : RInt W b (valZ p0)) (h2 : RInt W c (valZ q0)) => rMulX_any b c _ (pE p0) _ (pE q0) W h1 h2 (by omega) (by omega) (by omega) (by omega) (by omega) (by omega)
  have HL0 := Lib.hid fun b c W (h1 : RInt W b (valZ p0)) (h2 : RInt W c (valZ q0)) => tight_low r0 r1 b c _ (pE p0) _ (pE q0) W hr0 nr0 b0 h1 h2 (by omega) (by omega) (by omega) (by omega) (by omega) (by omega)
  have HH0 := Lib.hid fun b c W (h1 : RInt W b (valZ p0)) (h2 : RInt W c (valZ q0)) => tight_high r0 r1 b c _ (pE p0) _ (pE q0) W hr1 nr1 b1 h1 h2 (by omega) (by omega) (by omega) (by omega) (by omega) (by omega)
  have hsq0 : (FloatKind.f64.format.order q0 0 == some Ordering.lt) = false := by rw [lt_test hq0 (by decide) (nan_fin fq0) (by decide), ky_zero]; exact decide_eq_false (by omega)
  have m1 := bl_mul (valZ p0).natAbs (valZ q1).natAbs
  rw [← Int.natAbs_mul] at m1
  have HM1 := Lib.hid fun b c W (h1 : RInt W b (valZ p0)) (h2 : RInt W c (valZ q1)) => rMulX_any b c _ (pE p0) _ (pE q1) W h1 h2 (by omega) (by omega) (by omega) (by omega) (by omega) (by omega)
  have HL1 := Lib.hid fun b c W (h1 : RInt W b (valZ p0)) (h2 : RInt W c (valZ q1)) => tight_low r0 r1 b c _ (pE p0) _ (pE q1) W hr0 nr0 b0 h1 h2 (by omega) (by omega) (by omega) (by omega) (by omega) (by omega)
  have HH1 := Lib.hid fun b c W (h1 : RInt W b (valZ p0)) (h2 : RInt W c (valZ q1)) => tight_high r0 r1 b c _ (pE p0) _ (pE q1) W hr1 nr1 b1 h1 h2 (by omega) (by omega) (by omega) (by omega) (by omega) (by omega)
  have hsq1 : (FloatKind.f64.format.order q1 0 == some Ordering.lt) = false := by rw [lt_test hq1 (by decide) (nan_fin fq1) (by decide), ky_zero]; exact decide_eq_false (by omega)
  have m2 := bl_mul (valZ p1).natAbs (valZ q0).natAbs
  rw [← Int.natAbs_mul] at m2
  have HM2 := Lib.hid fun b c W (h1 : RInt W b (valZ p1)) (h2 : RInt W c (valZ q0)) => rMulX_any b c _ (pE p1) _ (pE q0) W h1 h2 (by omega) (by omega) (by omega) (by omega) (by omega) (by omega)
  have HL2 := Lib.hid fun b c W (h1 : RInt W b (valZ p1)) (h2 : RInt W c (valZ q0)) => tight_low r0 r1 b c _ (pE p1) _ (pE q0) W hr0 nr0 b0 h1 h2 (by omega) (by omega) (by omega) (by omega) (by omega) (by omega)
  have HH2 := Lib.hid fun b c W (h1 : RInt W b (valZ p1)) (h2 : RInt W c (valZ q0)) => tight_high r0 r1 b c _ (pE p1) _ (pE q0) W hr1 nr1 b1 h1 h2 (by omega) (by omega) (by omega) (by omega) (by omega) (by omega)
  have m3 := bl_mul (valZ p1).natAbs (valZ q1).natAbs
  rw [← Int.natAbs_mul] at m3
  have HM3 := Lib.hid fun b c W (h1 : RInt W b (valZ p1)) (h2 : RInt W c (valZ q1)) => rMulX_any b c _ (pE p1) _ (pE q1) W h1 h2 (by omega) (by omega) (by omega) (by omega) (by omega) (by omega)
  have HL3 := Lib.hid fun b c W (h1 : RInt W b (valZ p1)) (h2 : RInt W c (valZ q1)) => tight_low r0 r1 b c _ (pE p1) _ (pE q1) W hr0 nr0 b0 h1 h2 (by omega) (by omega) (by omega) (by omega) (by omega) (by omega)
  have HH3 := Lib.hid fun b c W (h1 : RInt W b (valZ p1)) (h2 : RInt W c (valZ q1)) => tight_high r0 r1 b c _ (pE p1) _ (pE q1) W hr1 nr1 b1 h1 h2 (by omega) (by omega) (by omega) (by omega) (by omega) (by omega)
  have HLT := Lib.hid hL
  have HHT := Lib.hid hH
  clear hL hH
  generalize (tgL (ky r0) (valZ p0) (pE p0) (valZ q0) (pE q0)) = L0 at *
  generalize (tgH (ky r1) (valZ p0) (pE p0) (valZ q0) (pE q0)) = H0 at *
  generalize (tgL (ky r0) (valZ p0) (pE p0) (valZ q1) (pE q1)) = L1 at *
  generalize (tgH (ky r1) (valZ p0) (pE p0) (valZ q1) (pE q1)) = H1 at *
  generalize (tgL (ky r0) (valZ p1) (pE p1) (valZ q0) (pE q0)) = L2 at *
  generalize (tgH (ky r1) (valZ p1) (pE p1) (valZ q0) (pE q0)) = H2 at *
  generalize (tgL (ky r0) (valZ p1) (pE p1) (valZ q1) (pE q1)) = L3 at *
  generalize (tgH (ky r1) (valZ p1) (pE p1) (valZ q1) (pE q1)) = H3 at *
  clear sq0 sq1
  clear hr0 hr1 nr0 nr1 b0 b1 hp0 hp1 hq0 hq1 fp0 fp1 fq0 fq1 ep0 vp0 ep1 vp1 eq0 vq0 eq1 vq1 m0 m1 m2 m3
  have HS := Lib.hid (Bks.new3 w 34 34 34 #[.float .f64 r0, .float .f64 r1] #[.float .f64 p0, .float .f64 p1] #[.float .f64 q0, .float .f64 q1])
  go_enter Tryz.func22, Tryz.ntmps22
  obtain ⟨⟨⟨g0, g1⟩, g2, g3⟩, g4, g5⟩ := HS.out.tri
  go_upto_region 3 with fail
  clear g0 g1 g2 g3 g4 g5
  skip
  replace HS := Lib.hid (HS.out.alloc #[.float .f64 p0, .float .f64 p0, .float .f64 p1, .float .f64 p1] 82)
  generalize World.alloc (World.alloc (World.alloc (World.alloc w _) _) _) _ = W1 at HS ⊢
  obtain ⟨rx, hrx⟩ : ∃ t, (((w.alloc (.cells #[.float .f64 r0, .float .f64 r1] 34)).alloc (.cells #[.float .f64 p0, .float .f64 p1] 34)).alloc (.cells #[.float .f64 q0, .float .f64 q1] 34)).heap.size = t := ⟨_, rfl⟩
  rw [hrx] at HS
  have hrx2 : w.heap.size + 1 + 1 + 1 = rx := by rw [← hrx]; simp
  try rw [hrx2]
  clear hrx hrx2
  obtain ⟨g0, g1⟩ := HS.out.two (.tail _ (.tail _ (.tail _ (.head _))))
  go_upto_region 4 with fail
  clear g0 g1
  replace HS := Lib.hid (HS.out.alloc #[.float .f64 q0, .float .f64 q1, .float .f64 q0, .float .f64 q1] 82)
  generalize World.alloc W1 _ = W2 at HS ⊢
  generalize W1.heap.size = ry at HS ⊢
  replace HS := Lib.hid (HS.out.sub (l' := [(rx, 82, #[.float .f64 p0, .float .f64 p0, .float .f64 p1, .float .f64 p1]), (ry, 82, #[.float .f64 q0, .float .f64 q1, .float .f64 q0, .float .f64 q1]), (w.heap.size, 34, #[.float .f64 r0, .float .f64 r1])]) (by intro t m; simp only [List.mem_cons, List.not_mem_nil, or_false] at m ⊢; rcases m with rfl | rfl | rfl <;> simp))
  go_wp2
  go_loopw [9, 10, 13] (fun lo hi i wr => ∃ (j : Int) (a b : Bool), i = .int .i64 j ∧ lo = .bool a ∧ hi = .bool b ∧ Hid ((j = 0 ∧ a = (false) ∧ b = (false)) ∨ (j = 1 ∧ a = (L0) ∧ b = (H0)) ∨ (j = 2 ∧ a = (L0 || L1) ∧ b = (H0 || H1)) ∨ (j = 3 ∧ a = (L0 || L1 || L2) ∧ b = (H0 || H1 || H2)) ∨ (j = 4 ∧ a = (L0 || L1 || L2 || L3) ∧ b = (H0 || H1 || H2 || H3))) ∧ Hid (Bks w wr [(rx, 82, #[.float .f64 p0, .float .f64 p0, .float .f64 p1, .float .f64 p1]), (ry, 82, #[.float .f64 q0, .float .f64 q1, .float .f64 q0, .float .f64 q1]), (w.heap.size, 34, #[.float .f64 r0, .float .f64 r1])])) (fun _ _ i _ => 4 - (intOf i).toNat)
  case atStart => exact ⟨0, false, false, rfl, rfl, rfl, Lib.hid (.inl ⟨rfl, rfl, rfl⟩), HS⟩
  case round =>
    clear HS W1 W2
    obtain ⟨j, a, b, rfl, rfl, rfl, HJ, HS⟩ := hrel
    rcases HJ.out with ⟨rfl, ha, hb⟩ | ⟨rfl, ha, hb⟩ | ⟨rfl, ha, hb⟩ | ⟨rfl, ha, hb⟩ | ⟨rfl, ha, hb⟩
    · clear HM1 HL1 HH1 HM2 HL2 HH2 HM3 HL3 HH3 HLT HHT
      have HA : Hid (a = (false)) := Lib.hid ha
      have HB : Hid (b = (false)) := Lib.hid hb
      clear ha hb HJ
      go_upto_region 7 with fail
      refine wp_region_q (fun w' : World => w'.cell? ⟨rx, 0, none⟩ = some (.float .f64 p0) ∧ w'.cell? ⟨ry, 0, none⟩ = some (.float .f64 q0)) 12 (.take 0 (.take 1 (.take 2 (.take 4 (.take 5 (.take 6 (.bag [(3, 41, []), (7, 45, []), (8, 46, []), (9, 47, []), (10, 14, []), (11, 15, [])] .nil))))))) (by kernel_rfl) (by kernel_rfl) ?_
      replace HS := Lib.hid (HS.out.later (drew_below _))
      generalize World.drew _ = W3 at HS ⊢
      have HSZ : Hid (SzLe W3 W3.heap.size) := Lib.hid (Nat.le_refl _)
      have HLB := Lib.hid HS.out.lt
      have HSW : Hid (w.heap.size ≤ W3.heap.size) := Lib.hid HS.out.size
      generalize W3.heap.size = nB at HSZ HLB HSW
      have hS : (fun w' : World => w'.cell? ⟨rx, 0, none⟩ = some (.float .f64 p0) ∧ w'.cell? ⟨ry, 0, none⟩ = some (.float .f64 q0)) W3 := (HS.out.at2 0)
      repeat (refine wpPq_takeL (v := ?_) rfl rfl (fun _ _ _ h => h) rfl (fun w' hSw => ?_) hS ?_; rotate_left; (focus (go_simp; with_reducible rfl)); simp only [setL])
      clear hS
      have hAp : ∀ j ∈ ([10, 11] : List Nat), ∀ s w', (pick [(3, fun v w' => ∃ p, v = ExV p (pE p0) ∧ RInt w' p (valZ p0)), (7, fun v w' => ∃ p, v = ExV p (pE q0) ∧ RInt w' p (valZ q0)), (8, fun v w' => ∃ p, v = ExV p (pE p0 + pE q0) ∧ RInt w' p (valZ p0 * valZ q0)), (9, fun v w' => ∃ p, v = ExV p 0 ∧ RInt w' p 1), (10, fun v w' => ∃ r, v = .pointer (some ⟨r, 0, none⟩) ∧ nB ≤ r ∧ BlkT w' r 27 #[.pointer none, .int .i64 0]), (11, fun v w' => ∃ r, v = .pointer (some ⟨r, 0, none⟩) ∧ nB ≤ r ∧ BlkT w' r 27 #[.pointer none, .int .i64 0])]) j (.pointer (some ⟨s, 0, none⟩)) w' → s < w'.heap.size := (bag_cons (fun s w' h => by obtain ⟨r, hr, -, hB⟩ := (h : (fun (v : Value) (w' : World) => ∃ r, v = .pointer (some ⟨r, 0, none⟩) ∧ nB ≤ r ∧ BlkT w' r 27 #[.pointer none, .int .i64 0]) (.pointer (some ⟨s, 0, none⟩)) w'); simp only [Value.pointer.injEq, Option.some.injEq, Addr.mk.injEq, and_true] at hr; subst hr; exact hB.lt) (bag_cons (fun s w' h => by obtain ⟨r, hr, -, hB⟩ := (h : (fun (v : Value) (w' : World) => ∃ r, v = .pointer (some ⟨r, 0, none⟩) ∧ nB ≤ r ∧ BlkT w' r 27 #[.pointer none, .int .i64 0]) (.pointer (some ⟨s, 0, none⟩)) w'); simp only [Value.pointer.injEq, Option.some.injEq, Addr.mk.injEq, and_true] at hr; subst hr; exact hB.lt) bag_nil))
      refine wpPq_bagD [10, 11] (pick [(3, fun v w' => ∃ p, v = ExV p (pE p0) ∧ RInt w' p (valZ p0)), (7, fun v w' => ∃ p, v = ExV p (pE q0) ∧ RInt w' p (valZ q0)), (8, fun v w' => ∃ p, v = ExV p (pE p0 + pE q0) ∧ RInt w' p (valZ p0 * valZ q0)), (9, fun v w' => ∃ p, v = ExV p 0 ∧ RInt w' p 1), (10, fun v w' => ∃ r, v = .pointer (some ⟨r, 0, none⟩) ∧ nB ≤ r ∧ BlkT w' r 27 #[.pointer none, .int .i64 0]), (11, fun v w' => ∃ r, v = .pointer (some ⟨r, 0, none⟩) ∧ nB ≤ r ∧ BlkT w' r 27 #[.pointer none, .int .i64 0])]) (pick_mono (bag_cons (fun v w1 w2 ⟨p3', hv3, hi3⟩ hb => ⟨p3', hv3, hi3.below hb⟩) (bag_cons (fun v w1 w2 ⟨p7', hv7, hi7⟩ hb => ⟨p7', hv7, hi7.below hb⟩) (bag_cons (fun v w1 w2 ⟨p8', hv8, hi8⟩ hb => ⟨p8', hv8, hi8.below hb⟩) (bag_cons (fun v w1 w2 ⟨p9', hv9, hi9⟩ hb => ⟨p9', hv9, hi9.below hb⟩) (bag_cons (fun v w1 w2 ⟨r10, hv10, hl10, hB10⟩ hb => ⟨r10, hv10, hl10, hB10.below hb⟩) (bag_cons (fun v w1 w2 ⟨r11, hv11, hl11, hB11⟩ hb => ⟨r11, hv11, hl11, hB11.below hb⟩) bag_nil))))))) (fun w' hb => ((HS.out.later hb).at2 0)) (by simp [prE]) (fun _ _ _ _ _ h => h) (by decide) (bag_cons (bagD_one rfl (BagStep.other (by decide) ?_)) (bag_cons (bagD_one rfl (BagStep.other (by decide) ?_)) (bag_cons (bagD_one rfl (BagStep.other (by decide) ?_)) (bag_cons (bagD_one rfl (BagStep.other (by decide) ?_)) (bag_cons (bagD_one rfl (BagStep.fresh hAp ?_)) (bag_cons (bagD_one rfl (BagStep.fresh hAp ?_)) bag_nil)))))) bag_nil ?_
      · intro a' V hdf hin hdep hb1 K hK
        have i40 : a'.tmps[40]?.getD undef = .float .f64 p0 := evT (hin 40 (by decide))
        clear hin hdep hdf
        have HS := Lib.hid (HS.out.later hb1)
        have HSZ := Lib.hid (HSZ.out.below hb1)
        go_simp
        refine (HOp0.out _).mono ?_
        rintro e1 V2 ⟨p, rfl, -, hi, hb2⟩
        exact hK _ _ ⟨p, rfl, hi⟩ hb2
      · intro a' V hdf hin hdep hb1 K hK
        have i44 : a'.tmps[44]?.getD undef = .float .f64 q0 := evT (hin 44 (by decide))
        clear hin hdep hdf
        have HS := Lib.hid (HS.out.later hb1)
        have HSZ := Lib.hid (HSZ.out.below hb1)
        go_simp
        refine (HOq0.out _).mono ?_
        rintro e1 V2 ⟨p, rfl, -, hi, hb2⟩
        exact hK _ _ ⟨p, rfl, hi⟩ hb2
      · intro a' V hdf hin hdep hb1 K hK
        obtain ⟨p3', hv3, hi3⟩ : (fun (v : Value) (w' : World) => ∃ p, v = ExV p (pE p0) ∧ RInt w' p (valZ p0)) (a'.tmps.getD 41 undef) V := hdep ⟨3, .data⟩ (by simp) rfl 41 (by decide)
        replace hv3 := evT hv3
        obtain ⟨p7', hv7, hi7⟩ : (fun (v : Value) (w' : World) => ∃ p, v = ExV p (pE q0) ∧ RInt w' p (valZ q0)) (a'.tmps.getD 45 undef) V := hdep ⟨7, .data⟩ (by simp) rfl 45 (by decide)
        replace hv7 := evT hv7
        clear hin hdep hdf
        have HS := Lib.hid (HS.out.later hb1)
        have HSZ := Lib.hid (HSZ.out.below hb1)
        simp only [ExV] at hv3 hv7
        go_simp
        refine (HM0.out _ _ _ hi3 hi7).mono ?_
        rintro e1 V2 ⟨p, rfl, -, hi, hb2⟩
        exact hK _ _ ⟨p, rfl, hi⟩ hb2
      · intro a' V hdf hin hdep hb1 K hK
        clear hin hdep hdf
        have HS := Lib.hid (HS.out.later hb1)
        have HSZ := Lib.hid (HSZ.out.below hb1)
        go_simp
        refine (HWH.out _).mono ?_
        rintro e1 V2 ⟨p, rfl, -, hi, hb2⟩
        exact hK _ _ ⟨p, rfl, hi⟩ hb2
      · intro a' V hdf hin hdep hb1 K hK
        clear hin hdep hdf
        have HS := Lib.hid (HS.out.later hb1)
        have HSZ := Lib.hid (HSZ.out.below hb1)
        go_simp
        exact hK _ ⟨_, rfl, HSZ.out, BlkT.new V _ _⟩ (Below.alloc_self _ _)
      · intro a' V hdf hin hdep hb1 K hK
        clear hin hdep hdf
        have HS := Lib.hid (HS.out.later hb1)
        have HSZ := Lib.hid (HSZ.out.below hb1)
        go_simp
        exact hK _ ⟨_, rfl, HSZ.out, BlkT.new V _ _⟩ (Below.alloc_self _ _)
      intro vals B1 hb1 hR hNE
      replace HS := Lib.hid (HS.out.later hb1)
      replace HSZ := Lib.hid (HSZ.out.below hb1)
      obtain ⟨p3', hv3, hi3⟩ : (fun (v : Value) (w' : World) => ∃ p, v = ExV p (pE p0) ∧ RInt w' p (valZ p0)) (vals 3) B1 := hR (3, 41) (by decide)
      obtain ⟨p7', hv7, hi7⟩ : (fun (v : Value) (w' : World) => ∃ p, v = ExV p (pE q0) ∧ RInt w' p (valZ q0)) (vals 7) B1 := hR (7, 45) (by decide)
      obtain ⟨p8', hv8, hi8⟩ : (fun (v : Value) (w' : World) => ∃ p, v = ExV p (pE p0 + pE q0) ∧ RInt w' p (valZ p0 * valZ q0)) (vals 8) B1 := hR (8, 46) (by decide)
      obtain ⟨p9', hv9, hi9⟩ : (fun (v : Value) (w' : World) => ∃ p, v = ExV p 0 ∧ RInt w' p 1) (vals 9) B1 := hR (9, 47) (by decide)
      obtain ⟨r10, hv10, hl10, hB10⟩ : (fun (v : Value) (w' : World) => ∃ r, v = .pointer (some ⟨r, 0, none⟩) ∧ nB ≤ r ∧ BlkT w' r 27 #[.pointer none, .int .i64 0]) (vals 10) B1 := hR (10, 14) (by decide)
      obtain ⟨r11, hv11, hl11, hB11⟩ : (fun (v : Value) (w' : World) => ∃ r, v = .pointer (some ⟨r, 0, none⟩) ∧ nB ≤ r ∧ BlkT w' r 27 #[.pointer none, .int .i64 0]) (vals 11) B1 := hR (11, 15) (by decide)
      have hne10_11 := hNE (10, 14) (by decide) (11, 15) (by decide) (by decide) (by decide) (by decide) r10 r11 hv10 hv11
      clear hNE hAp
      clear hb1 hR
      simp only [prE, List.flatMap_cons, List.flatMap_nil, List.cons_append, List.nil_append, List.append_nil, setD, List.setIfInBounds_toArray, List.set_cons_zero, List.set_cons_succ, hv3, hv7, hv8, hv9, hv10, hv11]
      clear vals hv3 hv7 hv8 hv9 hv10 hv11
      refine wpPq_nil ?_
      simp only [List.drop_succ_cons, List.drop_zero]
      replace HS := Lib.hid (HS.out.fill2 hB10 hB11 (Nat.le_trans HSW.out hl10) (Nat.le_trans HSW.out hl11) hne10_11 (fun q m e => by have := HLB.out q m; omega) (fun q m e => by have := HLB.out q m; omega) (.pointer (some ⟨p8', 0, none⟩)) (.int .i64 (pE p0 + pE q0)) (.pointer (some ⟨p9', 0, none⟩)) (.int .i64 0))
      have HN := Lib.hid (RInt.st22 hi8 hB10 hB11 hne10_11 (.pointer (some ⟨p8', 0, none⟩)) (.int .i64 (pE p0 + pE q0)) (.pointer (some ⟨p9', 0, none⟩)) (.int .i64 0))
      have HD := Lib.hid (RInt.st22 hi9 hB10 hB11 hne10_11 (.pointer (some ⟨p8', 0, none⟩)) (.int .i64 (pE p0 + pE q0)) (.pointer (some ⟨p9', 0, none⟩)) (.int .i64 0))
      have HNE : Hid ((w.heap.size ≤ r10 ∧ w.heap.size ≤ r11) ∧ r10 ≠ r11 ∧ (∀ q ∈ ([(rx, 82, #[.float .f64 p0, .float .f64 p0, .float .f64 p1, .float .f64 p1]), (ry, 82, #[.float .f64 q0, .float .f64 q1, .float .f64 q0, .float .f64 q1]), (w.heap.size, 34, #[.float .f64 r0, .float .f64 r1])] : List (Nat × Nat × Array Value)), q.1 ≠ r10) ∧ ∀ q ∈ ([(rx, 82, #[.float .f64 p0, .float .f64 p0, .float .f64 p1, .float .f64 p1]), (ry, 82, #[.float .f64 q0, .float .f64 q1, .float .f64 q0, .float .f64 q1]), (w.heap.size, 34, #[.float .f64 r0, .float .f64 r1])] : List (Nat × Nat × Array Value)), q.1 ≠ r11) := Lib.hid ⟨⟨Nat.le_trans HSW.out hl10, Nat.le_trans HSW.out hl11⟩, hne10_11, (fun q m e => by have := HLB.out q m; omega), (fun q m e => by have := HLB.out q m; omega)⟩
      obtain ⟨f60, f61, f62, f63⟩ := hB10.cells2
      obtain ⟨f70, f71, f72, f73⟩ := hB11.cells2
      have hn1 : r11 ≠ r10 := hne10_11.symm
      clear HLB HSZ HSW hB10 hB11 hl10 hl11 hi3 hi7 hi8 hi9
      unfold ExV
      go_upto_region 8 with fail
      clear f60 f61 f62 f63 f70 f71 f72 f73 hne10_11 hn1
      generalize World.setCell (World.setCell (World.setCell (World.setCell _ _ _) _ _) _ _) _ _ = W4 at HS HN HD ⊢
      clear HN HD
      go_upto_region 9 with fail
      refine wp_region_pl (fun w' : World => w'.cell? ⟨rx, 0, none⟩ = some (.float .f64 p0) ∧ w'.cell? ⟨ry, 0, none⟩ = some (.float .f64 q0)) 7 (.take 0 (.take 1 (.take 2 (.take 4 (.take 5 (.take 6 (.run 3 (.nil)))))))) (by kernel_rfl) (by kernel_rfl) ?_
      replace HS := Lib.hid (HS.out.later (drew_below _))
      generalize World.drew _ = W5 at HS ⊢
      repeat (first | (refine wpPl_takeL (v := ?_) rfl rfl (fun _ _ _ h => h) rfl (fun w' hSw => ?_) (HS.out.tail.tail.at2 0) ?_; rotate_left; (focus (go_simp; with_reducible rfl)); simp only [setL]) | (refine wpPl_skipL rfl rfl (fun _ _ _ h => h) rfl (HS.out.tail.tail.at2 0) ?_; simp only [setL]))
      refine wpPl_goL rfl rfl fun K' hK => ?_
      go_simp
      refine (HOp0.out _).mono ?_
      rintro e1 W5v1 ⟨bx, rfl, -, hi1, hb1⟩
      replace HS := Lib.hid (HS.out.later hb1)
      have HN := Lib.hid hi1
      clear hi1
      unfold ExV
      refine hK _ _ (HS.out.tail.tail.at2 0) ?_
      clear hK K' hb1
      try simp only [Act.put, setL]
      repeat (first | (refine wpPl_takeL (v := ?_) rfl rfl (fun _ _ _ h => h) rfl (fun w' hSw => ?_) (HS.out.tail.tail.at2 0) ?_; rotate_left; (focus (go_simp; with_reducible rfl)); simp only [setL]) | (refine wpPl_skipL rfl rfl (fun _ _ _ h => h) rfl (HS.out.tail.tail.at2 0) ?_; simp only [setL]))
      refine wpPl_nil ?_
      simp only [List.drop_succ_cons, List.drop_zero]
      go_wp2_with fail
      refine (HOq0.out _).mono ?_
      rintro e6 w6 ⟨by', rfl, -, hi6, hb6⟩
      replace HS := Lib.hid (HS.out.later hb6)
      replace HN := Lib.hid (HN.out.below hb6)
      have HD := Lib.hid hi6
      clear hi6 hb6
      unfold ExV
      obtain ⟨f60, f61, f62, f63⟩ := (HS.out.get (.head _)).cells2
      obtain ⟨f70, f71, f72, f73⟩ := (HS.out.get (.tail _ (.head _))).cells2
      have hn1 : r10 ≠ r11 := HNE.out.2.1
      have hn2 : r11 ≠ r10 := HNE.out.2.1.symm
      have HB1 := Lib.hid (HS.out.get (.head _))
      have HB2 := Lib.hid (HS.out.get (.tail _ (.head _)))
      replace HS := Lib.hid (HS.out.tail.tail.fill2 HB1.out HB2.out HNE.out.1.1 HNE.out.1.2 HNE.out.2.1 HNE.out.2.2.1 HNE.out.2.2.2 (.pointer (some ⟨bx, 0, none⟩)) (.int .i64 (pE p0)) (.pointer (some ⟨by', 0, none⟩)) (.int .i64 (pE q0)))
      replace HN := Lib.hid (RInt.st22 HN.out HB1.out HB2.out HNE.out.2.1 (.pointer (some ⟨bx, 0, none⟩)) (.int .i64 (pE p0)) (.pointer (some ⟨by', 0, none⟩)) (.int .i64 (pE q0)))
      replace HD := Lib.hid (RInt.st22 HD.out HB1.out HB2.out HNE.out.2.1 (.pointer (some ⟨bx, 0, none⟩)) (.int .i64 (pE p0)) (.pointer (some ⟨by', 0, none⟩)) (.int .i64 (pE q0)))
      clear HB1 HB2
      go_upto_region 10 with fail
      clear f60 f61 f62 f63 f70 f71 f72 f73 hn1 hn2
      generalize World.setCell (World.setCell (World.setCell (World.setCell _ _ _) _ _) _ _) _ _ = W7 at HS HN HD ⊢
      have hcy := (HS.out.tail.tail.at2 0).2
      replace hcy : W7.cell? ⟨ry, 0, none⟩ = some (.float .f64 q0) := hcy
      go_upto_region 12 with fail
      clear hcy
      clear HNE
      obtain rfl : a = false := HA.out
      obtain rfl : b = false := HB.out
      obtain ⟨⟨⟨g0, g1⟩, g2, g3⟩, g4, g5⟩ := HS.out.c125
      go_wp2_with fail
      refine (HL0.out _ _ _ HN.out HD.out).mono ?_
      rintro e41 w41 ⟨rfl, hb41⟩
      replace HS := Lib.hid (HS.out.later hb41)
      replace HN := Lib.hid (HN.out.below hb41)
      replace HD := Lib.hid (HD.out.below hb41)
      clear hb41
      clear g0 g1 g2 g3 g4 g5
      go_upto_region 13 with fail
      obtain ⟨⟨⟨g0, g1⟩, g2, g3⟩, g4, g5⟩ := HS.out.c125
      go_wp2_with fail
      refine (HH0.out _ _ _ HN.out HD.out).mono ?_
      rintro e42 w42 ⟨rfl, hb42⟩
      replace HS := Lib.hid (HS.out.later hb42)
      replace HN := Lib.hid (HN.out.below hb42)
      replace HD := Lib.hid (HD.out.below hb42)
      clear hb42
      clear g0 g1 g2 g3 g4 g5
      have HA2 : Hid (L0 = (L0)) := Lib.hid rfl
      have HB2 : Hid (H0 = (H0)) := Lib.hid rfl
      go_wp2
      go_roundw
      case rel => exact ⟨1, L0, H0, by go_num, rfl, rfl, Lib.hid (.inr (.inl ⟨rfl, rfl, rfl⟩)), Lib.hid (HS.out.sub fun t m => .tail _ (.tail _ m))⟩
      case measure => simp [intOf]
    · clear HM0 HL0 HH0 HM2 HL2 HH2 HM3 HL3 HH3 HLT HHT
      have HA : Hid (a = (L0)) := Lib.hid ha
      have HB : Hid (b = (H0)) := Lib.hid hb
      clear ha hb HJ
      go_upto_region 7 with fail
      refine wp_region_q (fun w' : World => w'.cell? ⟨rx, 1, none⟩ = some (.float .f64 p0) ∧ w'.cell? ⟨ry, 1, none⟩ = some (.float .f64 q1)) 12 (.take 0 (.take 1 (.take 2 (.take 4 (.take 5 (.take 6 (.bag [(3, 41, []), (7, 45, []), (8, 46, []), (9, 47, []), (10, 14, []), (11, 15, [])] .nil))))))) (by kernel_rfl) (by kernel_rfl) ?_
      replace HS := Lib.hid (HS.out.later (drew_below _))
      generalize World.drew _ = W3 at HS ⊢
      have HSZ : Hid (SzLe W3 W3.heap.size) := Lib.hid (Nat.le_refl _)
      have HLB := Lib.hid HS.out.lt
      have HSW : Hid (w.heap.size ≤ W3.heap.size) := Lib.hid HS.out.size
      generalize W3.heap.size = nB at HSZ HLB HSW
      have hS : (fun w' : World => w'.cell? ⟨rx, 1, none⟩ = some (.float .f64 p0) ∧ w'.cell? ⟨ry, 1, none⟩ = some (.float .f64 q1)) W3 := (HS.out.at2 1)
      repeat (refine wpPq_takeL (v := ?_) rfl rfl (fun _ _ _ h => h) rfl (fun w' hSw => ?_) hS ?_; rotate_left; (focus (go_simp; with_reducible rfl)); simp only [setL])
      clear hS
      have hAp : ∀ j ∈ ([10, 11] : List Nat), ∀ s w', (pick [(3, fun v w' => ∃ p, v = ExV p (pE p0) ∧ RInt w' p (valZ p0)), (7, fun v w' => ∃ p, v = ExV p (pE q1) ∧ RInt w' p (valZ q1)), (8, fun v w' => ∃ p, v = ExV p (pE p0 + pE q1) ∧ RInt w' p (valZ p0 * valZ q1)), (9, fun v w' => ∃ p, v = ExV p 0 ∧ RInt w' p 1), (10, fun v w' => ∃ r, v = .pointer (some ⟨r, 0, none⟩) ∧ nB ≤ r ∧ BlkT w' r 27 #[.pointer none, .int .i64 0]), (11, fun v w' => ∃ r, v = .pointer (some ⟨r, 0, none⟩) ∧ nB ≤ r ∧ BlkT w' r 27 #[.pointer none, .int .i64 0])]) j (.pointer (some ⟨s, 0, none⟩)) w' → s < w'.heap.size := (bag_cons (fun s w' h => by obtain ⟨r, hr, -, hB⟩ := (h : (fun (v : Value) (w' : World) => ∃ r, v = .pointer (some ⟨r, 0, none⟩) ∧ nB ≤ r ∧ BlkT w' r 27 #[.pointer none, .int .i64 0]) (.pointer (some ⟨s, 0, none⟩)) w'); simp only [Value.pointer.injEq, Option.some.injEq, Addr.mk.injEq, and_true] at hr; subst hr; exact hB.lt) (bag_cons (fun s w' h => by obtain ⟨r, hr, -, hB⟩ := (h : (fun (v : Value) (w' : World) => ∃ r, v = .pointer (some ⟨r, 0, none⟩) ∧ nB ≤ r ∧ BlkT w' r 27 #[.pointer none, .int .i64 0]) (.pointer (some ⟨s, 0, none⟩)) w'); simp only [Value.pointer.injEq, Option.some.injEq, Addr.mk.injEq, and_true] at hr; subst hr; exact hB.lt) bag_nil))
      refine wpPq_bagD [10, 11] (pick [(3, fun v w' => ∃ p, v = ExV p (pE p0) ∧ RInt w' p (valZ p0)), (7, fun v w' => ∃ p, v = ExV p (pE q1) ∧ RInt w' p (valZ q1)), (8, fun v w' => ∃ p, v = ExV p (pE p0 + pE q1) ∧ RInt w' p (valZ p0 * valZ q1)), (9, fun v w' => ∃ p, v = ExV p 0 ∧ RInt w' p 1), (10, fun v w' => ∃ r, v = .pointer (some ⟨r, 0, none⟩) ∧ nB ≤ r ∧ BlkT w' r 27 #[.pointer none, .int .i64 0]), (11, fun v w' => ∃ r, v = .pointer (some ⟨r, 0, none⟩) ∧ nB ≤ r ∧ BlkT w' r 27 #[.pointer none, .int .i64 0])]) (pick_mono (bag_cons (fun v w1 w2 ⟨p3', hv3, hi3⟩ hb => ⟨p3', hv3, hi3.below hb⟩) (bag_cons (fun v w1 w2 ⟨p7', hv7, hi7⟩ hb => ⟨p7', hv7, hi7.below hb⟩) (bag_cons (fun v w1 w2 ⟨p8', hv8, hi8⟩ hb => ⟨p8', hv8, hi8.below hb⟩) (bag_cons (fun v w1 w2 ⟨p9', hv9, hi9⟩ hb => ⟨p9', hv9, hi9.below hb⟩) (bag_cons (fun v w1 w2 ⟨r10, hv10, hl10, hB10⟩ hb => ⟨r10, hv10, hl10, hB10.below hb⟩) (bag_cons (fun v w1 w2 ⟨r11, hv11, hl11, hB11⟩ hb => ⟨r11, hv11, hl11, hB11.below hb⟩) bag_nil))))))) (fun w' hb => ((HS.out.later hb).at2 1)) (by simp [prE]) (fun _ _ _ _ _ h => h) (by decide) (bag_cons (bagD_one rfl (BagStep.other (by decide) ?_)) (bag_cons (bagD_one rfl (BagStep.other (by decide) ?_)) (bag_cons (bagD_one rfl (BagStep.other (by decide) ?_)) (bag_cons (bagD_one rfl (BagStep.other (by decide) ?_)) (bag_cons (bagD_one rfl (BagStep.fresh hAp ?_)) (bag_cons (bagD_one rfl (BagStep.fresh hAp ?_)) bag_nil)))))) bag_nil ?_
      · intro a' V hdf hin hdep hb1 K hK
        have i40 : a'.tmps[40]?.getD undef = .float .f64 p0 := evT (hin 40 (by decide))
        clear hin hdep hdf
        have HS := Lib.hid (HS.out.later hb1)
        have HSZ := Lib.hid (HSZ.out.below hb1)
        go_simp
        refine (HOp0.out _).mono ?_
        rintro e1 V2 ⟨p, rfl, -, hi, hb2⟩
        exact hK _ _ ⟨p, rfl, hi⟩ hb2
      · intro a' V hdf hin hdep hb1 K hK
        have i44 : a'.tmps[44]?.getD undef = .float .f64 q1 := evT (hin 44 (by decide))
        clear hin hdep hdf
        have HS := Lib.hid (HS.out.later hb1)
        have HSZ := Lib.hid (HSZ.out.below hb1)
        go_simp
        refine (HOq1.out _).mono ?_
        rintro e1 V2 ⟨p, rfl, -, hi, hb2⟩
        exact hK _ _ ⟨p, rfl, hi⟩ hb2
      · intro a' V hdf hin hdep hb1 K hK
        obtain ⟨p3', hv3, hi3⟩ : (fun (v : Value) (w' : World) => ∃ p, v = ExV p (pE p0) ∧ RInt w' p (valZ p0)) (a'.tmps.getD 41 undef) V := hdep ⟨3, .data⟩ (by simp) rfl 41 (by decide)
        replace hv3 := evT hv3
        obtain ⟨p7', hv7, hi7⟩ : (fun (v : Value) (w' : World) => ∃ p, v = ExV p (pE q1) ∧ RInt w' p (valZ q1)) (a'.tmps.getD 45 undef) V := hdep ⟨7, .data⟩ (by simp) rfl 45 (by decide)
        replace hv7 := evT hv7
        clear hin hdep hdf
        have HS := Lib.hid (HS.out.later hb1)
        have HSZ := Lib.hid (HSZ.out.below hb1)
        simp only [ExV] at hv3 hv7
        go_simp
        refine (HM1.out _ _ _ hi3 hi7).mono ?_
        rintro e1 V2 ⟨p, rfl, -, hi, hb2⟩
        exact hK _ _ ⟨p, rfl, hi⟩ hb2
      · intro a' V hdf hin hdep hb1 K hK
        clear hin hdep hdf
        have HS := Lib.hid (HS.out.later hb1)
        have HSZ := Lib.hid (HSZ.out.below hb1)
        go_simp
        refine (HWH.out _).mono ?_
        rintro e1 V2 ⟨p, rfl, -, hi, hb2⟩
        exact hK _ _ ⟨p, rfl, hi⟩ hb2
      · intro a' V hdf hin hdep hb1 K hK
        clear hin hdep hdf
        have HS := Lib.hid (HS.out.later hb1)
        have HSZ := Lib.hid (HSZ.out.below hb1)
        go_simp
        exact hK _ ⟨_, rfl, HSZ.out, BlkT.new V _ _⟩ (Below.alloc_self _ _)
      · intro a' V hdf hin hdep hb1 K hK
        clear hin hdep hdf
        have HS := Lib.hid (HS.out.later hb1)
        have HSZ := Lib.hid (HSZ.out.below hb1)
        go_simp
        exact hK _ ⟨_, rfl, HSZ.out, BlkT.new V _ _⟩ (Below.alloc_self _ _)
      intro vals B1 hb1 hR hNE
      replace HS := Lib.hid (HS.out.later hb1)
      replace HSZ := Lib.hid (HSZ.out.below hb1)
      obtain ⟨p3', hv3, hi3⟩ : (fun (v : Value) (w' : World) => ∃ p, v = ExV p (pE p0) ∧ RInt w' p (valZ p0)) (vals 3) B1 := hR (3, 41) (by decide)
      obtain ⟨p7', hv7, hi7⟩ : (fun (v : Value) (w' : World) => ∃ p, v = ExV p (pE q1) ∧ RInt w' p (valZ q1)) (vals 7) B1 := hR (7, 45) (by decide)
      obtain ⟨p8', hv8, hi8⟩ : (fun (v : Value) (w' : World) => ∃ p, v = ExV p (pE p0 + pE q1) ∧ RInt w' p (valZ p0 * valZ q1)) (vals 8) B1 := hR (8, 46) (by decide)
      obtain ⟨p9', hv9, hi9⟩ : (fun (v : Value) (w' : World) => ∃ p, v = ExV p 0 ∧ RInt w' p 1) (vals 9) B1 := hR (9, 47) (by decide)
      obtain ⟨r10, hv10, hl10, hB10⟩ : (fun (v : Value) (w' : World) => ∃ r, v = .pointer (some ⟨r, 0, none⟩) ∧ nB ≤ r ∧ BlkT w' r 27 #[.pointer none, .int .i64 0]) (vals 10) B1 := hR (10, 14) (by decide)
      obtain ⟨r11, hv11, hl11, hB11⟩ : (fun (v : Value) (w' : World) => ∃ r, v = .pointer (some ⟨r, 0, none⟩) ∧ nB ≤ r ∧ BlkT w' r 27 #[.pointer none, .int .i64 0]) (vals 11) B1 := hR (11, 15) (by decide)
      have hne10_11 := hNE (10, 14) (by decide) (11, 15) (by decide) (by decide) (by decide) (by decide) r10 r11 hv10 hv11
      clear hNE hAp
      clear hb1 hR
      simp only [prE, List.flatMap_cons, List.flatMap_nil, List.cons_append, List.nil_append, List.append_nil, setD, List.setIfInBounds_toArray, List.set_cons_zero, List.set_cons_succ, hv3, hv7, hv8, hv9, hv10, hv11]
      clear vals hv3 hv7 hv8 hv9 hv10 hv11
      refine wpPq_nil ?_
      simp only [List.drop_succ_cons, List.drop_zero]
      replace HS := Lib.hid (HS.out.fill2 hB10 hB11 (Nat.le_trans HSW.out hl10) (Nat.le_trans HSW.out hl11) hne10_11 (fun q m e => by have := HLB.out q m; omega) (fun q m e => by have := HLB.out q m; omega) (.pointer (some ⟨p8', 0, none⟩)) (.int .i64 (pE p0 + pE q1)) (.pointer (some ⟨p9', 0, none⟩)) (.int .i64 0))
      have HN := Lib.hid (RInt.st22 hi8 hB10 hB11 hne10_11 (.pointer (some ⟨p8', 0, none⟩)) (.int .i64 (pE p0 + pE q1)) (.pointer (some ⟨p9', 0, none⟩)) (.int .i64 0))
      have HD := Lib.hid (RInt.st22 hi9 hB10 hB11 hne10_11 (.pointer (some ⟨p8', 0, none⟩)) (.int .i64 (pE p0 + pE q1)) (.pointer (some ⟨p9', 0, none⟩)) (.int .i64 0))
      have HNE : Hid ((w.heap.size ≤ r10 ∧ w.heap.size ≤ r11) ∧ r10 ≠ r11 ∧ (∀ q ∈ ([(rx, 82, #[.float .f64 p0, .float .f64 p0, .float .f64 p1, .float .f64 p1]), (ry, 82, #[.float .f64 q0, .float .f64 q1, .float .f64 q0, .float .f64 q1]), (w.heap.size, 34, #[.float .f64 r0, .float .f64 r1])] : List (Nat × Nat × Array Value)), q.1 ≠ r10) ∧ ∀ q ∈ ([(rx, 82, #[.float .f64 p0, .float .f64 p0, .float .f64 p1, .float .f64 p1]), (ry, 82, #[.float .f64 q0, .float .f64 q1, .float .f64 q0, .float .f64 q1]), (w.heap.size, 34, #[.float .f64 r0, .float .f64 r1])] : List (Nat × Nat × Array Value)), q.1 ≠ r11) := Lib.hid ⟨⟨Nat.le_trans HSW.out hl10, Nat.le_trans HSW.out hl11⟩, hne10_11, (fun q m e => by have := HLB.out q m; omega), (fun q m e => by have := HLB.out q m; omega)⟩
      obtain ⟨f60, f61, f62, f63⟩ := hB10.cells2
      obtain ⟨f70, f71, f72, f73⟩ := hB11.cells2
      have hn1 : r11 ≠ r10 := hne10_11.symm
      clear HLB HSZ HSW hB10 hB11 hl10 hl11 hi3 hi7 hi8 hi9
      unfold ExV
      go_upto_region 8 with fail
      clear f60 f61 f62 f63 f70 f71 f72 f73 hne10_11 hn1
      generalize World.setCell (World.setCell (World.setCell (World.setCell _ _ _) _ _) _ _) _ _ = W4 at HS HN HD ⊢
      clear HN HD
      go_upto_region 9 with fail
      refine wp_region_pl (fun w' : World => w'.cell? ⟨rx, 1, none⟩ = some (.float .f64 p0) ∧ w'.cell? ⟨ry, 1, none⟩ = some (.float .f64 q1)) 7 (.take 0 (.take 1 (.take 2 (.take 4 (.take 5 (.take 6 (.run 3 (.nil)))))))) (by kernel_rfl) (by kernel_rfl) ?_
      replace HS := Lib.hid (HS.out.later (drew_below _))
      generalize World.drew _ = W5 at HS ⊢
      repeat (first | (refine wpPl_takeL (v := ?_) rfl rfl (fun _ _ _ h => h) rfl (fun w' hSw => ?_) (HS.out.tail.tail.at2 1) ?_; rotate_left; (focus (go_simp; with_reducible rfl)); simp only [setL]) | (refine wpPl_skipL rfl rfl (fun _ _ _ h => h) rfl (HS.out.tail.tail.at2 1) ?_; simp only [setL]))
      refine wpPl_goL rfl rfl fun K' hK => ?_
      go_simp
      refine (HOp0.out _).mono ?_
      rintro e1 W5v1 ⟨bx, rfl, -, hi1, hb1⟩
      replace HS := Lib.hid (HS.out.later hb1)
      have HN := Lib.hid hi1
      clear hi1
      unfold ExV
      refine hK _ _ (HS.out.tail.tail.at2 1) ?_
      clear hK K' hb1
      try simp only [Act.put, setL]
      repeat (first | (refine wpPl_takeL (v := ?_) rfl rfl (fun _ _ _ h => h) rfl (fun w' hSw => ?_) (HS.out.tail.tail.at2 1) ?_; rotate_left; (focus (go_simp; with_reducible rfl)); simp only [setL]) | (refine wpPl_skipL rfl rfl (fun _ _ _ h => h) rfl (HS.out.tail.tail.at2 1) ?_; simp only [setL]))
      refine wpPl_nil ?_
      simp only [List.drop_succ_cons, List.drop_zero]
      go_wp2_with fail
      refine (HOq1.out _).mono ?_
      rintro e6 w6 ⟨by', rfl, -, hi6, hb6⟩
      replace HS := Lib.hid (HS.out.later hb6)
      replace HN := Lib.hid (HN.out.below hb6)
      have HD := Lib.hid hi6
      clear hi6 hb6
      unfold ExV
      obtain ⟨f60, f61, f62, f63⟩ := (HS.out.get (.head _)).cells2
      obtain ⟨f70, f71, f72, f73⟩ := (HS.out.get (.tail _ (.head _))).cells2
      have hn1 : r10 ≠ r11 := HNE.out.2.1
      have hn2 : r11 ≠ r10 := HNE.out.2.1.symm
      have HB1 := Lib.hid (HS.out.get (.head _))
      have HB2 := Lib.hid (HS.out.get (.tail _ (.head _)))
      replace HS := Lib.hid (HS.out.tail.tail.fill2 HB1.out HB2.out HNE.out.1.1 HNE.out.1.2 HNE.out.2.1 HNE.out.2.2.1 HNE.out.2.2.2 (.pointer (some ⟨bx, 0, none⟩)) (.int .i64 (pE p0)) (.pointer (some ⟨by', 0, none⟩)) (.int .i64 (pE q1)))
      replace HN := Lib.hid (RInt.st22 HN.out HB1.out HB2.out HNE.out.2.1 (.pointer (some ⟨bx, 0, none⟩)) (.int .i64 (pE p0)) (.pointer (some ⟨by', 0, none⟩)) (.int .i64 (pE q1)))
      replace HD := Lib.hid (RInt.st22 HD.out HB1.out HB2.out HNE.out.2.1 (.pointer (some ⟨bx, 0, none⟩)) (.int .i64 (pE p0)) (.pointer (some ⟨by', 0, none⟩)) (.int .i64 (pE q1)))
      clear HB1 HB2
      go_upto_region 10 with fail
      clear f60 f61 f62 f63 f70 f71 f72 f73 hn1 hn2
      generalize World.setCell (World.setCell (World.setCell (World.setCell _ _ _) _ _) _ _) _ _ = W7 at HS HN HD ⊢
      have hcy := (HS.out.tail.tail.at2 1).2
      replace hcy : W7.cell? ⟨ry, 1, none⟩ = some (.float .f64 q1) := hcy
      go_upto_region 12 with fail
      clear hcy
      clear HNE
      cases a
      · have HA2 : Hid (L1 = (L0 || L1)) := Lib.hid (by rw [show (L0 || L1) = ((L0) || L1) from rfl, ← HA.out, Bool.false_or])
        obtain ⟨⟨⟨g0, g1⟩, g2, g3⟩, g4, g5⟩ := HS.out.c125
        go_wp2_with fail
        refine (HL1.out _ _ _ HN.out HD.out).mono ?_
        rintro e41 w41 ⟨rfl, hb41⟩
        replace HS := Lib.hid (HS.out.later hb41)
        replace HN := Lib.hid (HN.out.below hb41)
        replace HD := Lib.hid (HD.out.below hb41)
        clear hb41
        clear g0 g1 g2 g3 g4 g5
        go_upto_region 13 with fail
        cases b
        · have HB2 : Hid (H1 = (H0 || H1)) := Lib.hid (by rw [show (H0 || H1) = ((H0) || H1) from rfl, ← HB.out, Bool.false_or])
          obtain ⟨⟨⟨g0, g1⟩, g2, g3⟩, g4, g5⟩ := HS.out.c125
          go_wp2_with fail
          refine (HH1.out _ _ _ HN.out HD.out).mono ?_
          rintro e42 w42 ⟨rfl, hb42⟩
          replace HS := Lib.hid (HS.out.later hb42)
          replace HN := Lib.hid (HN.out.below hb42)
          replace HD := Lib.hid (HD.out.below hb42)
          clear hb42
          clear g0 g1 g2 g3 g4 g5
          go_wp2
          go_roundw
          case rel => exact ⟨2, L1, H1, by go_num, rfl, rfl, Lib.hid (.inr (.inr (.inl ⟨rfl, HA2.out, HB2.out⟩))), Lib.hid (HS.out.sub fun t m => .tail _ (.tail _ m))⟩
          case measure => simp [intOf]
        · have HB2 : Hid (true = (H0 || H1)) := Lib.hid (by rw [show (H0 || H1) = ((H0) || H1) from rfl, ← HB.out, Bool.true_or])
          go_wp2
          go_roundw
          case rel => exact ⟨2, L1, true, by go_num, rfl, rfl, Lib.hid (.inr (.inr (.inl ⟨rfl, HA2.out, HB2.out⟩))), Lib.hid (HS.out.sub fun t m => .tail _ (.tail _ m))⟩
          case measure => simp [intOf]
      · have HA2 : Hid (true = (L0 || L1)) := Lib.hid (by rw [show (L0 || L1) = ((L0) || L1) from rfl, ← HA.out, Bool.true_or])
        go_upto_region 13 with fail
        cases b
        · have HB2 : Hid (H1 = (H0 || H1)) := Lib.hid (by rw [show (H0 || H1) = ((H0) || H1) from rfl, ← HB.out, Bool.false_or])
          obtain ⟨⟨⟨g0, g1⟩, g2, g3⟩, g4, g5⟩ := HS.out.c125
          go_wp2_with fail
          refine (HH1.out _ _ _ HN.out HD.out).mono ?_
          rintro e42 w42 ⟨rfl, hb42⟩
          replace HS := Lib.hid (HS.out.later hb42)
          replace HN := Lib.hid (HN.out.below hb42)
          replace HD := Lib.hid (HD.out.below hb42)
          clear hb42
          clear g0 g1 g2 g3 g4 g5
          go_wp2
          go_roundw
          case rel => exact ⟨2, true, H1, by go_num, rfl, rfl, Lib.hid (.inr (.inr (.inl ⟨rfl, HA2.out, HB2.out⟩))), Lib.hid (HS.out.sub fun t m => .tail _ (.tail _ m))⟩
          case measure => simp [intOf]
        · have HB2 : Hid (true = (H0 || H1)) := Lib.hid (by rw [show (H0 || H1) = ((H0) || H1) from rfl, ← HB.out, Bool.true_or])
          go_wp2
          go_roundw
          case rel => exact ⟨2, true, true, by go_num, rfl, rfl, Lib.hid (.inr (.inr (.inl ⟨rfl, HA2.out, HB2.out⟩))), Lib.hid (HS.out.sub fun t m => .tail _ (.tail _ m))⟩
          case measure => simp [intOf]
    · clear HM0 HL0 HH0 HM1 HL1 HH1 HM3 HL3 HH3 HLT HHT
      have HA : Hid (a = (L0 || L1)) := Lib.hid ha
      have HB : Hid (b = (H0 || H1)) := Lib.hid hb
      clear ha hb HJ
      go_upto_region 7 with fail
      refine wp_region_q (fun w' : World => w'.cell? ⟨rx, 2, none⟩ = some (.float .f64 p1) ∧ w'.cell? ⟨ry, 2, none⟩ = some (.float .f64 q0)) 12 (.take 0 (.take 1 (.take 2 (.take 4 (.take 5 (.take 6 (.bag [(3, 41, []), (7, 45, []), (8, 46, []), (9, 47, []), (10, 14, []), (11, 15, [])] .nil))))))) (by kernel_rfl) (by kernel_rfl) ?_
      replace HS := Lib.hid (HS.out.later (drew_below _))
      generalize World.drew _ = W3 at HS ⊢
      have HSZ : Hid (SzLe W3 W3.heap.size) := Lib.hid (Nat.le_refl _)
      have HLB := Lib.hid HS.out.lt
      have HSW : Hid (w.heap.size ≤ W3.heap.size) := Lib.hid HS.out.size
      generalize W3.heap.size = nB at HSZ HLB HSW
      have hS : (fun w' : World => w'.cell? ⟨rx, 2, none⟩ = some (.float .f64 p1) ∧ w'.cell? ⟨ry, 2, none⟩ = some (.float .f64 q0)) W3 := (HS.out.at2 2)
      repeat (refine wpPq_takeL (v := ?_) rfl rfl (fun _ _ _ h => h) rfl (fun w' hSw => ?_) hS ?_; rotate_left; (focus (go_simp; with_reducible rfl)); simp only [setL])
      clear hS
      have hAp : ∀ j ∈ ([10, 11] : List Nat), ∀ s w', (pick [(3, fun v w' => ∃ p, v = ExV p (pE p1) ∧ RInt w' p (valZ p1)), (7, fun v w' => ∃ p, v = ExV p (pE q0) ∧ RInt w' p (valZ q0)), (8, fun v w' => ∃ p, v = ExV p (pE p1 + pE q0) ∧ RInt w' p (valZ p1 * valZ q0)), (9, fun v w' => ∃ p, v = ExV p 0 ∧ RInt w' p 1), (10, fun v w' => ∃ r, v = .pointer (some ⟨r, 0, none⟩) ∧ nB ≤ r ∧ BlkT w' r 27 #[.pointer none, .int .i64 0]), (11, fun v w' => ∃ r, v = .pointer (some ⟨r, 0, none⟩) ∧ nB ≤ r ∧ BlkT w' r 27 #[.pointer none, .int .i64 0])]) j (.pointer (some ⟨s, 0, none⟩)) w' → s < w'.heap.size := (bag_cons (fun s w' h => by obtain ⟨r, hr, -, hB⟩ := (h : (fun (v : Value) (w' : World) => ∃ r, v = .pointer (some ⟨r, 0, none⟩) ∧ nB ≤ r ∧ BlkT w' r 27 #[.pointer none, .int .i64 0]) (.pointer (some ⟨s, 0, none⟩)) w'); simp only [Value.pointer.injEq, Option.some.injEq, Addr.mk.injEq, and_true] at hr; subst hr; exact hB.lt) (bag_cons (fun s w' h => by obtain ⟨r, hr, -, hB⟩ := (h : (fun (v : Value) (w' : World) => ∃ r, v = .pointer (some ⟨r, 0, none⟩) ∧ nB ≤ r ∧ BlkT w' r 27 #[.pointer none, .int .i64 0]) (.pointer (some ⟨s, 0, none⟩)) w'); simp only [Value.pointer.injEq, Option.some.injEq, Addr.mk.injEq, and_true] at hr; subst hr; exact hB.lt) bag_nil))
      refine wpPq_bagD [10, 11] (pick [(3, fun v w' => ∃ p, v = ExV p (pE p1) ∧ RInt w' p (valZ p1)), (7, fun v w' => ∃ p, v = ExV p (pE q0) ∧ RInt w' p (valZ q0)), (8, fun v w' => ∃ p, v = ExV p (pE p1 + pE q0) ∧ RInt w' p (valZ p1 * valZ q0)), (9, fun v w' => ∃ p, v = ExV p 0 ∧ RInt w' p 1), (10, fun v w' => ∃ r, v = .pointer (some ⟨r, 0, none⟩) ∧ nB ≤ r ∧ BlkT w' r 27 #[.pointer none, .int .i64 0]), (11, fun v w' => ∃ r, v = .pointer (some ⟨r, 0, none⟩) ∧ nB ≤ r ∧ BlkT w' r 27 #[.pointer none, .int .i64 0])]) (pick_mono (bag_cons (fun v w1 w2 ⟨p3', hv3, hi3⟩ hb => ⟨p3', hv3, hi3.below hb⟩) (bag_cons (fun v w1 w2 ⟨p7', hv7, hi7⟩ hb => ⟨p7', hv7, hi7.below hb⟩) (bag_cons (fun v w1 w2 ⟨p8', hv8, hi8⟩ hb => ⟨p8', hv8, hi8.below hb⟩) (bag_cons (fun v w1 w2 ⟨p9', hv9, hi9⟩ hb => ⟨p9', hv9, hi9.below hb⟩) (bag_cons (fun v w1 w2 ⟨r10, hv10, hl10, hB10⟩ hb => ⟨r10, hv10, hl10, hB10.below hb⟩) (bag_cons (fun v w1 w2 ⟨r11, hv11, hl11, hB11⟩ hb => ⟨r11, hv11, hl11, hB11.below hb⟩) bag_nil))))))) (fun w' hb => ((HS.out.later hb).at2 2)) (by simp [prE]) (fun _ _ _ _ _ h => h) (by decide) (bag_cons (bagD_one rfl (BagStep.other (by decide) ?_)) (bag_cons (bagD_one rfl (BagStep.other (by decide) ?_)) (bag_cons (bagD_one rfl (BagStep.other (by decide) ?_)) (bag_cons (bagD_one rfl (BagStep.other (by decide) ?_)) (bag_cons (bagD_one rfl (BagStep.fresh hAp ?_)) (bag_cons (bagD_one rfl (BagStep.fresh hAp ?_)) bag_nil)))))) bag_nil ?_
      · intro a' V hdf hin hdep hb1 K hK
        have i40 : a'.tmps[40]?.getD undef = .float .f64 p1 := evT (hin 40 (by decide))
        clear hin hdep hdf
        have HS := Lib.hid (HS.out.later hb1)
        have HSZ := Lib.hid (HSZ.out.below hb1)
        go_simp
        refine (HOp1.out _).mono ?_
        rintro e1 V2 ⟨p, rfl, -, hi, hb2⟩
        exact hK _ _ ⟨p, rfl, hi⟩ hb2
      · intro a' V hdf hin hdep hb1 K hK
        have i44 : a'.tmps[44]?.getD undef = .float .f64 q0 := evT (hin 44 (by decide))
        clear hin hdep hdf
        have HS := Lib.hid (HS.out.later hb1)
        have HSZ := Lib.hid (HSZ.out.below hb1)
        go_simp
        refine (HOq0.out _).mono ?_
        rintro e1 V2 ⟨p, rfl, -, hi, hb2⟩
        exact hK _ _ ⟨p, rfl, hi⟩ hb2
      · intro a' V hdf hin hdep hb1 K hK
        obtain ⟨p3', hv3, hi3⟩ : (fun (v : Value) (w' : World) => ∃ p, v = ExV p (pE p1) ∧ RInt w' p (valZ p1)) (a'.tmps.getD 41 undef) V := hdep ⟨3, .data⟩ (by simp) rfl 41 (by decide)
        replace hv3 := evT hv3
        obtain ⟨p7', hv7, hi7⟩ : (fun (v : Value) (w' : World) => ∃ p, v = ExV p (pE q0) ∧ RInt w' p (valZ q0)) (a'.tmps.getD 45 undef) V := hdep ⟨7, .data⟩ (by simp) rfl 45 (by decide)
        replace hv7 := evT hv7
        clear hin hdep hdf
        have HS := Lib.hid (HS.out.later hb1)
        have HSZ := Lib.hid (HSZ.out.below hb1)
        simp only [ExV] at hv3 hv7
        go_simp
        refine (HM2.out _ _ _ hi3 hi7).mono ?_
        rintro e1 V2 ⟨p, rfl, -, hi, hb2⟩
        exact hK _ _ ⟨p, rfl, hi⟩ hb2
      · intro a' V hdf hin hdep hb1 K hK
        clear hin hdep hdf
        have HS := Lib.hid (HS.out.later hb1)
        have HSZ := Lib.hid (HSZ.out.below hb1)
        go_simp
        refine (HWH.out _).mono ?_
        rintro e1 V2 ⟨p, rfl, -, hi, hb2⟩
        exact hK _ _ ⟨p, rfl, hi⟩ hb2
      · intro a' V hdf hin hdep hb1 K hK
        clear hin hdep hdf
        have HS := Lib.hid (HS.out.later hb1)
        have HSZ := Lib.hid (HSZ.out.below hb1)
        go_simp
        exact hK _ ⟨_, rfl, HSZ.out, BlkT.new V _ _⟩ (Below.alloc_self _ _)
      · intro a' V hdf hin hdep hb1 K hK
        clear hin hdep hdf
        have HS := Lib.hid (HS.out.later hb1)
        have HSZ := Lib.hid (HSZ.out.below hb1)
        go_simp
        exact hK _ ⟨_, rfl, HSZ.out, BlkT.new V _ _⟩ (Below.alloc_self _ _)
      intro vals B1 hb1 hR hNE
      replace HS := Lib.hid (HS.out.later hb1)
      replace HSZ := Lib.hid (HSZ.out.below hb1)
      obtain ⟨p3', hv3, hi3⟩ : (fun (v : Value) (w' : World) => ∃ p, v = ExV p (pE p1) ∧ RInt w' p (valZ p1)) (vals 3) B1 := hR (3, 41) (by decide)
      obtain ⟨p7', hv7, hi7⟩ : (fun (v : Value) (w' : World) => ∃ p, v = ExV p (pE q0) ∧ RInt w' p (valZ q0)) (vals 7) B1 := hR (7, 45) (by decide)
      obtain ⟨p8', hv8, hi8⟩ : (fun (v : Value) (w' : World) => ∃ p, v = ExV p (pE p1 + pE q0) ∧ RInt w' p (valZ p1 * valZ q0)) (vals 8) B1 := hR (8, 46) (by decide)
      obtain ⟨p9', hv9, hi9⟩ : (fun (v : Value) (w' : World) => ∃ p, v = ExV p 0 ∧ RInt w' p 1) (vals 9) B1 := hR (9, 47) (by decide)
      obtain ⟨r10, hv10, hl10, hB10⟩ : (fun (v : Value) (w' : World) => ∃ r, v = .pointer (some ⟨r, 0, none⟩) ∧ nB ≤ r ∧ BlkT w' r 27 #[.pointer none, .int .i64 0]) (vals 10) B1 := hR (10, 14) (by decide)
      obtain ⟨r11, hv11, hl11, hB11⟩ : (fun (v : Value) (w' : World) => ∃ r, v = .pointer (some ⟨r, 0, none⟩) ∧ nB ≤ r ∧ BlkT w' r 27 #[.pointer none, .int .i64 0]) (vals 11) B1 := hR (11, 15) (by decide)
      have hne10_11 := hNE (10, 14) (by decide) (11, 15) (by decide) (by decide) (by decide) (by decide) r10 r11 hv10 hv11
      clear hNE hAp
      clear hb1 hR
      simp only [prE, List.flatMap_cons, List.flatMap_nil, List.cons_append, List.nil_append, List.append_nil, setD, List.setIfInBounds_toArray, List.set_cons_zero, List.set_cons_succ, hv3, hv7, hv8, hv9, hv10, hv11]
      clear vals hv3 hv7 hv8 hv9 hv10 hv11
      refine wpPq_nil ?_
      simp only [List.drop_succ_cons, List.drop_zero]
      replace HS := Lib.hid (HS.out.fill2 hB10 hB11 (Nat.le_trans HSW.out hl10) (Nat.le_trans HSW.out hl11) hne10_11 (fun q m e => by have := HLB.out q m; omega) (fun q m e => by have := HLB.out q m; omega) (.pointer (some ⟨p8', 0, none⟩)) (.int .i64 (pE p1 + pE q0)) (.pointer (some ⟨p9', 0, none⟩)) (.int .i64 0))
      have HN := Lib.hid (RInt.st22 hi8 hB10 hB11 hne10_11 (.pointer (some ⟨p8', 0, none⟩)) (.int .i64 (pE p1 + pE q0)) (.pointer (some ⟨p9', 0, none⟩)) (.int .i64 0))
      have HD := Lib.hid (RInt.st22 hi9 hB10 hB11 hne10_11 (.pointer (some ⟨p8', 0, none⟩)) (.int .i64 (pE p1 + pE q0)) (.pointer (some ⟨p9', 0, none⟩)) (.int .i64 0))
      have HNE : Hid ((w.heap.size ≤ r10 ∧ w.heap.size ≤ r11) ∧ r10 ≠ r11 ∧ (∀ q ∈ ([(rx, 82, #[.float .f64 p0, .float .f64 p0, .float .f64 p1, .float .f64 p1]), (ry, 82, #[.float .f64 q0, .float .f64 q1, .float .f64 q0, .float .f64 q1]), (w.heap.size, 34, #[.float .f64 r0, .float .f64 r1])] : List (Nat × Nat × Array Value)), q.1 ≠ r10) ∧ ∀ q ∈ ([(rx, 82, #[.float .f64 p0, .float .f64 p0, .float .f64 p1, .float .f64 p1]), (ry, 82, #[.float .f64 q0, .float .f64 q1, .float .f64 q0, .float .f64 q1]), (w.heap.size, 34, #[.float .f64 r0, .float .f64 r1])] : List (Nat × Nat × Array Value)), q.1 ≠ r11) := Lib.hid ⟨⟨Nat.le_trans HSW.out hl10, Nat.le_trans HSW.out hl11⟩, hne10_11, (fun q m e => by have := HLB.out q m; omega), (fun q m e => by have := HLB.out q m; omega)⟩
      obtain ⟨f60, f61, f62, f63⟩ := hB10.cells2
      obtain ⟨f70, f71, f72, f73⟩ := hB11.cells2
      have hn1 : r11 ≠ r10 := hne10_11.symm
      clear HLB HSZ HSW hB10 hB11 hl10 hl11 hi3 hi7 hi8 hi9
      unfold ExV
      go_upto_region 8 with fail
      clear f60 f61 f62 f63 f70 f71 f72 f73 hne10_11 hn1
      generalize World.setCell (World.setCell (World.setCell (World.setCell _ _ _) _ _) _ _) _ _ = W4 at HS HN HD ⊢
      clear HN HD
      go_upto_region 9 with fail
      refine wp_region_pl (fun w' : World => w'.cell? ⟨rx, 2, none⟩ = some (.float .f64 p1) ∧ w'.cell? ⟨ry, 2, none⟩ = some (.float .f64 q0)) 7 (.take 0 (.take 1 (.take 2 (.take 4 (.take 5 (.take 6 (.run 3 (.nil)))))))) (by kernel_rfl) (by kernel_rfl) ?_
      replace HS := Lib.hid (HS.out.later (drew_below _))
      generalize World.drew _ = W5 at HS ⊢
      repeat (first | (refine wpPl_takeL (v := ?_) rfl rfl (fun _ _ _ h => h) rfl (fun w' hSw => ?_) (HS.out.tail.tail.at2 2) ?_; rotate_left; (focus (go_simp; with_reducible rfl)); simp only [setL]) | (refine wpPl_skipL rfl rfl (fun _ _ _ h => h) rfl (HS.out.tail.tail.at2 2) ?_; simp only [setL]))
      refine wpPl_goL rfl rfl fun K' hK => ?_
      go_simp
      refine (HOp1.out _).mono ?_
      rintro e1 W5v1 ⟨bx, rfl, -, hi1, hb1⟩
      replace HS := Lib.hid (HS.out.later hb1)
      have HN := Lib.hid hi1
      clear hi1
      unfold ExV
      refine hK _ _ (HS.out.tail.tail.at2 2) ?_
      clear hK K' hb1
      try simp only [Act.put, setL]
      repeat (first | (refine wpPl_takeL (v := ?_) rfl rfl (fun _ _ _ h => h) rfl (fun w' hSw => ?_) (HS.out.tail.tail.at2 2) ?_; rotate_left; (focus (go_simp; with_reducible rfl)); simp only [setL]) | (refine wpPl_skipL rfl rfl (fun _ _ _ h => h) rfl (HS.out.tail.tail.at2 2) ?_; simp only [setL]))
      refine wpPl_nil ?_
      simp only [List.drop_succ_cons, List.drop_zero]
      go_wp2_with fail
      refine (HOq0.out _).mono ?_
      rintro e6 w6 ⟨by', rfl, -, hi6, hb6⟩
      replace HS := Lib.hid (HS.out.later hb6)
      replace HN := Lib.hid (HN.out.below hb6)
      have HD := Lib.hid hi6
      clear hi6 hb6
      unfold ExV
      obtain ⟨f60, f61, f62, f63⟩ := (HS.out.get (.head _)).cells2
      obtain ⟨f70, f71, f72, f73⟩ := (HS.out.get (.tail _ (.head _))).cells2
      have hn1 : r10 ≠ r11 := HNE.out.2.1
      have hn2 : r11 ≠ r10 := HNE.out.2.1.symm
      have HB1 := Lib.hid (HS.out.get (.head _))
      have HB2 := Lib.hid (HS.out.get (.tail _ (.head _)))
      replace HS := Lib.hid (HS.out.tail.tail.fill2 HB1.out HB2.out HNE.out.1.1 HNE.out.1.2 HNE.out.2.1 HNE.out.2.2.1 HNE.out.2.2.2 (.pointer (some ⟨bx, 0, none⟩)) (.int .i64 (pE p1)) (.pointer (some ⟨by', 0, none⟩)) (.int .i64 (pE q0)))
      replace HN := Lib.hid (RInt.st22 HN.out HB1.out HB2.out HNE.out.2.1 (.pointer (some ⟨bx, 0, none⟩)) (.int .i64 (pE p1)) (.pointer (some ⟨by', 0, none⟩)) (.int .i64 (pE q0)))
      replace HD := Lib.hid (RInt.st22 HD.out HB1.out HB2.out HNE.out.2.1 (.pointer (some ⟨bx, 0, none⟩)) (.int .i64 (pE p1)) (.pointer (some ⟨by', 0, none⟩)) (.int .i64 (pE q0)))
      clear HB1 HB2
      go_upto_region 10 with fail
      clear f60 f61 f62 f63 f70 f71 f72 f73 hn1 hn2
      generalize World.setCell (World.setCell (World.setCell (World.setCell _ _ _) _ _) _ _) _ _ = W7 at HS HN HD ⊢
      have hcy := (HS.out.tail.tail.at2 2).2
      replace hcy : W7.cell? ⟨ry, 2, none⟩ = some (.float .f64 q0) := hcy
      go_upto_region 12 with fail
      clear hcy
      clear HNE
      cases a
      · have HA2 : Hid (L2 = (L0 || L1 || L2)) := Lib.hid (by rw [show (L0 || L1 || L2) = ((L0 || L1) || L2) from rfl, ← HA.out, Bool.false_or])
        obtain ⟨⟨⟨g0, g1⟩, g2, g3⟩, g4, g5⟩ := HS.out.c125
        go_wp2_with fail
        refine (HL2.out _ _ _ HN.out HD.out).mono ?_
        rintro e41 w41 ⟨rfl, hb41⟩
        replace HS := Lib.hid (HS.out.later hb41)
        replace HN := Lib.hid (HN.out.below hb41)
        replace HD := Lib.hid (HD.out.below hb41)
        clear hb41
        clear g0 g1 g2 g3 g4 g5
        go_upto_region 13 with fail
        cases b
        · have HB2 : Hid (H2 = (H0 || H1 || H2)) := Lib.hid (by rw [show (H0 || H1 || H2) = ((H0 || H1) || H2) from rfl, ← HB.out, Bool.false_or])
          obtain ⟨⟨⟨g0, g1⟩, g2, g3⟩, g4, g5⟩ := HS.out.c125
          go_wp2_with fail
          refine (HH2.out _ _ _ HN.out HD.out).mono ?_
          rintro e42 w42 ⟨rfl, hb42⟩
          replace HS := Lib.hid (HS.out.later hb42)
          replace HN := Lib.hid (HN.out.below hb42)
          replace HD := Lib.hid (HD.out.below hb42)
          clear hb42
          clear g0 g1 g2 g3 g4 g5
          go_wp2
          go_roundw
          case rel => exact ⟨3, L2, H2, by go_num, rfl, rfl, Lib.hid (.inr (.inr (.inr (.inl ⟨rfl, HA2.out, HB2.out⟩)))), Lib.hid (HS.out.sub fun t m => .tail _ (.tail _ m))⟩
          case measure => simp [intOf]
        · have HB2 : Hid (true = (H0 || H1 || H2)) := Lib.hid (by rw [show (H0 || H1 || H2) = ((H0 || H1) || H2) from rfl, ← HB.out, Bool.true_or])
          go_wp2
          go_roundw
          case rel => exact ⟨3, L2, true, by go_num, rfl, rfl, Lib.hid (.inr (.inr (.inr (.inl ⟨rfl, HA2.out, HB2.out⟩)))), Lib.hid (HS.out.sub fun t m => .tail _ (.tail _ m))⟩
          case measure => simp [intOf]
      · have HA2 : Hid (true = (L0 || L1 || L2)) := Lib.hid (by rw [show (L0 || L1 || L2) = ((L0 || L1) || L2) from rfl, ← HA.out, Bool.true_or])
        go_upto_region 13 with fail
        cases b
        · have HB2 : Hid (H2 = (H0 || H1 || H2)) := Lib.hid (by rw [show (H0 || H1 || H2) = ((H0 || H1) || H2) from rfl, ← HB.out, Bool.false_or])
          obtain ⟨⟨⟨g0, g1⟩, g2, g3⟩, g4, g5⟩ := HS.out.c125
          go_wp2_with fail
          refine (HH2.out _ _ _ HN.out HD.out).mono ?_
          rintro e42 w42 ⟨rfl, hb42⟩
          replace HS := Lib.hid (HS.out.later hb42)
          replace HN := Lib.hid (HN.out.below hb42)
          replace HD := Lib.hid (HD.out.below hb42)
          clear hb42
          clear g0 g1 g2 g3 g4 g5
          go_wp2
          go_roundw
          case rel => exact ⟨3, true, H2, by go_num, rfl, rfl, Lib.hid (.inr (.inr (.inr (.inl ⟨rfl, HA2.out, HB2.out⟩)))), Lib.hid (HS.out.sub fun t m => .tail _ (.tail _ m))⟩
          case measure => simp [intOf]
        · have HB2 : Hid (true = (H0 || H1 || H2)) := Lib.hid (by rw [show (H0 || H1 || H2) = ((H0 || H1) || H2) from rfl, ← HB.out, Bool.true_or])
          go_wp2
          go_roundw
          case rel => exact ⟨3, true, true, by go_num, rfl, rfl, Lib.hid (.inr (.inr (.inr (.inl ⟨rfl, HA2.out, HB2.out⟩)))), Lib.hid (HS.out.sub fun t m => .tail _ (.tail _ m))⟩
          case measure => simp [intOf]
    · clear HM0 HL0 HH0 HM1 HL1 HH1 HM2 HL2 HH2 HLT HHT
      have HA : Hid (a = (L0 || L1 || L2)) := Lib.hid ha
      have HB : Hid (b = (H0 || H1 || H2)) := Lib.hid hb
      clear ha hb HJ
      go_upto_region 7 with fail
      refine wp_region_q (fun w' : World => w'.cell? ⟨rx, 3, none⟩ = some (.float .f64 p1) ∧ w'.cell? ⟨ry, 3, none⟩ = some (.float .f64 q1)) 12 (.take 0 (.take 1 (.take 2 (.take 4 (.take 5 (.take 6 (.bag [(3, 41, []), (7, 45, []), (8, 46, []), (9, 47, []), (10, 14, []), (11, 15, [])] .nil))))))) (by kernel_rfl) (by kernel_rfl) ?_
      replace HS := Lib.hid (HS.out.later (drew_below _))
      generalize World.drew _ = W3 at HS ⊢
      have HSZ : Hid (SzLe W3 W3.heap.size) := Lib.hid (Nat.le_refl _)
      have HLB := Lib.hid HS.out.lt
      have HSW : Hid (w.heap.size ≤ W3.heap.size) := Lib.hid HS.out.size
      generalize W3.heap.size = nB at HSZ HLB HSW
      have hS : (fun w' : World => w'.cell? ⟨rx, 3, none⟩ = some (.float .f64 p1) ∧ w'.cell? ⟨ry, 3, none⟩ = some (.float .f64 q1)) W3 := (HS.out.at2 3)
      repeat (refine wpPq_takeL (v := ?_) rfl rfl (fun _ _ _ h => h) rfl (fun w' hSw => ?_) hS ?_; rotate_left; (focus (go_simp; with_reducible rfl)); simp only [setL])
      clear hS
      have hAp : ∀ j ∈ ([10, 11] : List Nat), ∀ s w', (pick [(3, fun v w' => ∃ p, v = ExV p (pE p1) ∧ RInt w' p (valZ p1)), (7, fun v w' => ∃ p, v = ExV p (pE q1) ∧ RInt w' p (valZ q1)), (8, fun v w' => ∃ p, v = ExV p (pE p1 + pE q1) ∧ RInt w' p (valZ p1 * valZ q1)), (9, fun v w' => ∃ p, v = ExV p 0 ∧ RInt w' p 1), (10, fun v w' => ∃ r, v = .pointer (some ⟨r, 0, none⟩) ∧ nB ≤ r ∧ BlkT w' r 27 #[.pointer none, .int .i64 0]), (11, fun v w' => ∃ r, v = .pointer (some ⟨r, 0, none⟩) ∧ nB ≤ r ∧ BlkT w' r 27 #[.pointer none, .int .i64 0])]) j (.pointer (some ⟨s, 0, none⟩)) w' → s < w'.heap.size := (bag_cons (fun s w' h => by obtain ⟨r, hr, -, hB⟩ := (h : (fun (v : Value) (w' : World) => ∃ r, v = .pointer (some ⟨r, 0, none⟩) ∧ nB ≤ r ∧ BlkT w' r 27 #[.pointer none, .int .i64 0]) (.pointer (some ⟨s, 0, none⟩)) w'); simp only [Value.pointer.injEq, Option.some.injEq, Addr.mk.injEq, and_true] at hr; subst hr; exact hB.lt) (bag_cons (fun s w' h => by obtain ⟨r, hr, -, hB⟩ := (h : (fun (v : Value) (w' : World) => ∃ r, v = .pointer (some ⟨r, 0, none⟩) ∧ nB ≤ r ∧ BlkT w' r 27 #[.pointer none, .int .i64 0]) (.pointer (some ⟨s, 0, none⟩)) w'); simp only [Value.pointer.injEq, Option.some.injEq, Addr.mk.injEq, and_true] at hr; subst hr; exact hB.lt) bag_nil))
      refine wpPq_bagD [10, 11] (pick [(3, fun v w' => ∃ p, v = ExV p (pE p1) ∧ RInt w' p (valZ p1)), (7, fun v w' => ∃ p, v = ExV p (pE q1) ∧ RInt w' p (valZ q1)), (8, fun v w' => ∃ p, v = ExV p (pE p1 + pE q1) ∧ RInt w' p (valZ p1 * valZ q1)), (9, fun v w' => ∃ p, v = ExV p 0 ∧ RInt w' p 1), (10, fun v w' => ∃ r, v = .pointer (some ⟨r, 0, none⟩) ∧ nB ≤ r ∧ BlkT w' r 27 #[.pointer none, .int .i64 0]), (11, fun v w' => ∃ r, v = .pointer (some ⟨r, 0, none⟩) ∧ nB ≤ r ∧ BlkT w' r 27 #[.pointer none, .int .i64 0])]) (pick_mono (bag_cons (fun v w1 w2 ⟨p3', hv3, hi3⟩ hb => ⟨p3', hv3, hi3.below hb⟩) (bag_cons (fun v w1 w2 ⟨p7', hv7, hi7⟩ hb => ⟨p7', hv7, hi7.below hb⟩) (bag_cons (fun v w1 w2 ⟨p8', hv8, hi8⟩ hb => ⟨p8', hv8, hi8.below hb⟩) (bag_cons (fun v w1 w2 ⟨p9', hv9, hi9⟩ hb => ⟨p9', hv9, hi9.below hb⟩) (bag_cons (fun v w1 w2 ⟨r10, hv10, hl10, hB10⟩ hb => ⟨r10, hv10, hl10, hB10.below hb⟩) (bag_cons (fun v w1 w2 ⟨r11, hv11, hl11, hB11⟩ hb => ⟨r11, hv11, hl11, hB11.below hb⟩) bag_nil))))))) (fun w' hb => ((HS.out.later hb).at2 3)) (by simp [prE]) (fun _ _ _ _ _ h => h) (by decide) (bag_cons (bagD_one rfl (BagStep.other (by decide) ?_)) (bag_cons (bagD_one rfl (BagStep.other (by decide) ?_)) (bag_cons (bagD_one rfl (BagStep.other (by decide) ?_)) (bag_cons (bagD_one rfl (BagStep.other (by decide) ?_)) (bag_cons (bagD_one rfl (BagStep.fresh hAp ?_)) (bag_cons (bagD_one rfl (BagStep.fresh hAp ?_)) bag_nil)))))) bag_nil ?_
      · intro a' V hdf hin hdep hb1 K hK
        have i40 : a'.tmps[40]?.getD undef = .float .f64 p1 := evT (hin 40 (by decide))
        clear hin hdep hdf
        have HS := Lib.hid (HS.out.later hb1)
        have HSZ := Lib.hid (HSZ.out.below hb1)
        go_simp
        refine (HOp1.out _).mono ?_
        rintro e1 V2 ⟨p, rfl, -, hi, hb2⟩
        exact hK _ _ ⟨p, rfl, hi⟩ hb2
      · intro a' V hdf hin hdep hb1 K hK
        have i44 : a'.tmps[44]?.getD undef = .float .f64 q1 := evT (hin 44 (by decide))
        clear hin hdep hdf
        have HS := Lib.hid (HS.out.later hb1)
        have HSZ := Lib.hid (HSZ.out.below hb1)
        go_simp
        refine (HOq1.out _).mono ?_
        rintro e1 V2 ⟨p, rfl, -, hi, hb2⟩
        exact hK _ _ ⟨p, rfl, hi⟩ hb2
      · intro a' V hdf hin hdep hb1 K hK
        obtain ⟨p3', hv3, hi3⟩ : (fun (v : Value) (w' : World) => ∃ p, v = ExV p (pE p1) ∧ RInt w' p (valZ p1)) (a'.tmps.getD 41 undef) V := hdep ⟨3, .data⟩ (by simp) rfl 41 (by decide)
        replace hv3 := evT hv3
        obtain ⟨p7', hv7, hi7⟩ : (fun (v : Value) (w' : World) => ∃ p, v = ExV p (pE q1) ∧ RInt w' p (valZ q1)) (a'.tmps.getD 45 undef) V := hdep ⟨7, .data⟩ (by simp) rfl 45 (by decide)
        replace hv7 := evT hv7
        clear hin hdep hdf
        have HS := Lib.hid (HS.out.later hb1)
        have HSZ := Lib.hid (HSZ.out.below hb1)
        simp only [ExV] at hv3 hv7
        go_simp
        refine (HM3.out _ _ _ hi3 hi7).mono ?_
        rintro e1 V2 ⟨p, rfl, -, hi, hb2⟩
        exact hK _ _ ⟨p, rfl, hi⟩ hb2
      · intro a' V hdf hin hdep hb1 K hK
        clear hin hdep hdf
        have HS := Lib.hid (HS.out.later hb1)
        have HSZ := Lib.hid (HSZ.out.below hb1)
        go_simp
        refine (HWH.out _).mono ?_
        rintro e1 V2 ⟨p, rfl, -, hi, hb2⟩
        exact hK _ _ ⟨p, rfl, hi⟩ hb2
      · intro a' V hdf hin hdep hb1 K hK
        clear hin hdep hdf
        have HS := Lib.hid (HS.out.later hb1)
        have HSZ := Lib.hid (HSZ.out.below hb1)
        go_simp
        exact hK _ ⟨_, rfl, HSZ.out, BlkT.new V _ _⟩ (Below.alloc_self _ _)
      · intro a' V hdf hin hdep hb1 K hK
        clear hin hdep hdf
        have HS := Lib.hid (HS.out.later hb1)
        have HSZ := Lib.hid (HSZ.out.below hb1)
        go_simp
        exact hK _ ⟨_, rfl, HSZ.out, BlkT.new V _ _⟩ (Below.alloc_self _ _)
      intro vals B1 hb1 hR hNE
      replace HS := Lib.hid (HS.out.later hb1)
      replace HSZ := Lib.hid (HSZ.out.below hb1)
      obtain ⟨p3', hv3, hi3⟩ : (fun (v : Value) (w' : World) => ∃ p, v = ExV p (pE p1) ∧ RInt w' p (valZ p1)) (vals 3) B1 := hR (3, 41) (by decide)
      obtain ⟨p7', hv7, hi7⟩ : (fun (v : Value) (w' : World) => ∃ p, v = ExV p (pE q1) ∧ RInt w' p (valZ q1)) (vals 7) B1 := hR (7, 45) (by decide)
      obtain ⟨p8', hv8, hi8⟩ : (fun (v : Value) (w' : World) => ∃ p, v = ExV p (pE p1 + pE q1) ∧ RInt w' p (valZ p1 * valZ q1)) (vals 8) B1 := hR (8, 46) (by decide)
      obtain ⟨p9', hv9, hi9⟩ : (fun (v : Value) (w' : World) => ∃ p, v = ExV p 0 ∧ RInt w' p 1) (vals 9) B1 := hR (9, 47) (by decide)
      obtain ⟨r10, hv10, hl10, hB10⟩ : (fun (v : Value) (w' : World) => ∃ r, v = .pointer (some ⟨r, 0, none⟩) ∧ nB ≤ r ∧ BlkT w' r 27 #[.pointer none, .int .i64 0]) (vals 10) B1 := hR (10, 14) (by decide)
      obtain ⟨r11, hv11, hl11, hB11⟩ : (fun (v : Value) (w' : World) => ∃ r, v = .pointer (some ⟨r, 0, none⟩) ∧ nB ≤ r ∧ BlkT w' r 27 #[.pointer none, .int .i64 0]) (vals 11) B1 := hR (11, 15) (by decide)
      have hne10_11 := hNE (10, 14) (by decide) (11, 15) (by decide) (by decide) (by decide) (by decide) r10 r11 hv10 hv11
      clear hNE hAp
      clear hb1 hR
      simp only [prE, List.flatMap_cons, List.flatMap_nil, List.cons_append, List.nil_append, List.append_nil, setD, List.setIfInBounds_toArray, List.set_cons_zero, List.set_cons_succ, hv3, hv7, hv8, hv9, hv10, hv11]
      clear vals hv3 hv7 hv8 hv9 hv10 hv11
      refine wpPq_nil ?_
      simp only [List.drop_succ_cons, List.drop_zero]
      replace HS := Lib.hid (HS.out.fill2 hB10 hB11 (Nat.le_trans HSW.out hl10) (Nat.le_trans HSW.out hl11) hne10_11 (fun q m e => by have := HLB.out q m; omega) (fun q m e => by have := HLB.out q m; omega) (.pointer (some ⟨p8', 0, none⟩)) (.int .i64 (pE p1 + pE q1)) (.pointer (some ⟨p9', 0, none⟩)) (.int .i64 0))
      have HN := Lib.hid (RInt.st22 hi8 hB10 hB11 hne10_11 (.pointer (some ⟨p8', 0, none⟩)) (.int .i64 (pE p1 + pE q1)) (.pointer (some ⟨p9', 0, none⟩)) (.int .i64 0))
      have HD := Lib.hid (RInt.st22 hi9 hB10 hB11 hne10_11 (.pointer (some ⟨p8', 0, none⟩)) (.int .i64 (pE p1 + pE q1)) (.pointer (some ⟨p9', 0, none⟩)) (.int .i64 0))
      have HNE : Hid ((w.heap.size ≤ r10 ∧ w.heap.size ≤ r11) ∧ r10 ≠ r11 ∧ (∀ q ∈ ([(rx, 82, #[.float .f64 p0, .float .f64 p0, .float .f64 p1, .float .f64 p1]), (ry, 82, #[.float .f64 q0, .float .f64 q1, .float .f64 q0, .float .f64 q1]), (w.heap.size, 34, #[.float .f64 r0, .float .f64 r1])] : List (Nat × Nat × Array Value)), q.1 ≠ r10) ∧ ∀ q ∈ ([(rx, 82, #[.float .f64 p0, .float .f64 p0, .float .f64 p1, .float .f64 p1]), (ry, 82, #[.float .f64 q0, .float .f64 q1, .float .f64 q0, .float .f64 q1]), (w.heap.size, 34, #[.float .f64 r0, .float .f64 r1])] : List (Nat × Nat × Array Value)), q.1 ≠ r11) := Lib.hid ⟨⟨Nat.le_trans HSW.out hl10, Nat.le_trans HSW.out hl11⟩, hne10_11, (fun q m e => by have := HLB.out q m; omega), (fun q m e => by have := HLB.out q m; omega)⟩
      obtain ⟨f60, f61, f62, f63⟩ := hB10.cells2
      obtain ⟨f70, f71, f72, f73⟩ := hB11.cells2
      have hn1 : r11 ≠ r10 := hne10_11.symm
      clear HLB HSZ HSW hB10 hB11 hl10 hl11 hi3 hi7 hi8 hi9
      unfold ExV
      go_upto_region 8 with fail
      clear f60 f61 f62 f63 f70 f71 f72 f73 hne10_11 hn1
      generalize World.setCell (World.setCell (World.setCell (World.setCell _ _ _) _ _) _ _) _ _ = W4 at HS HN HD ⊢
      clear HN HD
      go_upto_region 9 with fail
      refine wp_region_pl (fun w' : World => w'.cell? ⟨rx, 3, none⟩ = some (.float .f64 p1) ∧ w'.cell? ⟨ry, 3, none⟩ = some (.float .f64 q1)) 7 (.take 0 (.take 1 (.take 2 (.take 4 (.take 5 (.take 6 (.run 3 (.nil)))))))) (by kernel_rfl) (by kernel_rfl) ?_
      replace HS := Lib.hid (HS.out.later (drew_below _))
      generalize World.drew _ = W5 at HS ⊢
      repeat (first | (refine wpPl_takeL (v := ?_) rfl rfl (fun _ _ _ h => h) rfl (fun w' hSw => ?_) (HS.out.tail.tail.at2 3) ?_; rotate_left; (focus (go_simp; with_reducible rfl)); simp only [setL]) | (refine wpPl_skipL rfl rfl (fun _ _ _ h => h) rfl (HS.out.tail.tail.at2 3) ?_; simp only [setL]))
      refine wpPl_goL rfl rfl fun K' hK => ?_
      go_simp
      refine (HOp1.out _).mono ?_
      rintro e1 W5v1 ⟨bx, rfl, -, hi1, hb1⟩
      replace HS := Lib.hid (HS.out.later hb1)
      have HN := Lib.hid hi1
      clear hi1
      unfold ExV
      refine hK _ _ (HS.out.tail.tail.at2 3) ?_
      clear hK K' hb1
      try simp only [Act.put, setL]
      repeat (first | (refine wpPl_takeL (v := ?_) rfl rfl (fun _ _ _ h => h) rfl (fun w' hSw => ?_) (HS.out.tail.tail.at2 3) ?_; rotate_left; (focus (go_simp; with_reducible rfl)); simp only [setL]) | (refine wpPl_skipL rfl rfl (fun _ _ _ h => h) rfl (HS.out.tail.tail.at2 3) ?_; simp only [setL]))
      refine wpPl_nil ?_
      simp only [List.drop_succ_cons, List.drop_zero]
      go_wp2_with fail
      refine (HOq1.out _).mono ?_
      rintro e6 w6 ⟨by', rfl, -, hi6, hb6⟩
      replace HS := Lib.hid (HS.out.later hb6)
      replace HN := Lib.hid (HN.out.below hb6)
      have HD := Lib.hid hi6
      clear hi6 hb6
      unfold ExV
      obtain ⟨f60, f61, f62, f63⟩ := (HS.out.get (.head _)).cells2
      obtain ⟨f70, f71, f72, f73⟩ := (HS.out.get (.tail _ (.head _))).cells2
      have hn1 : r10 ≠ r11 := HNE.out.2.1
      have hn2 : r11 ≠ r10 := HNE.out.2.1.symm
      have HB1 := Lib.hid (HS.out.get (.head _))
      have HB2 := Lib.hid (HS.out.get (.tail _ (.head _)))
      replace HS := Lib.hid (HS.out.tail.tail.fill2 HB1.out HB2.out HNE.out.1.1 HNE.out.1.2 HNE.out.2.1 HNE.out.2.2.1 HNE.out.2.2.2 (.pointer (some ⟨bx, 0, none⟩)) (.int .i64 (pE p1)) (.pointer (some ⟨by', 0, none⟩)) (.int .i64 (pE q1)))
      replace HN := Lib.hid (RInt.st22 HN.out HB1.out HB2.out HNE.out.2.1 (.pointer (some ⟨bx, 0, none⟩)) (.int .i64 (pE p1)) (.pointer (some ⟨by', 0, none⟩)) (.int .i64 (pE q1)))
      replace HD := Lib.hid (RInt.st22 HD.out HB1.out HB2.out HNE.out.2.1 (.pointer (some ⟨bx, 0, none⟩)) (.int .i64 (pE p1)) (.pointer (some ⟨by', 0, none⟩)) (.int .i64 (pE q1)))
      clear HB1 HB2
      go_upto_region 10 with fail
      clear f60 f61 f62 f63 f70 f71 f72 f73 hn1 hn2
      generalize World.setCell (World.setCell (World.setCell (World.setCell _ _ _) _ _) _ _) _ _ = W7 at HS HN HD ⊢
      have hcy := (HS.out.tail.tail.at2 3).2
      replace hcy : W7.cell? ⟨ry, 3, none⟩ = some (.float .f64 q1) := hcy
      go_upto_region 12 with fail
      clear hcy
      clear HNE
      cases a
      · have HA2 : Hid (L3 = (L0 || L1 || L2 || L3)) := Lib.hid (by rw [show (L0 || L1 || L2 || L3) = ((L0 || L1 || L2) || L3) from rfl, ← HA.out, Bool.false_or])
        obtain ⟨⟨⟨g0, g1⟩, g2, g3⟩, g4, g5⟩ := HS.out.c125
        go_wp2_with fail
        refine (HL3.out _ _ _ HN.out HD.out).mono ?_
        rintro e41 w41 ⟨rfl, hb41⟩
        replace HS := Lib.hid (HS.out.later hb41)
        replace HN := Lib.hid (HN.out.below hb41)
        replace HD := Lib.hid (HD.out.below hb41)
        clear hb41
        clear g0 g1 g2 g3 g4 g5
        go_upto_region 13 with fail
        cases b
        · have HB2 : Hid (H3 = (H0 || H1 || H2 || H3)) := Lib.hid (by rw [show (H0 || H1 || H2 || H3) = ((H0 || H1 || H2) || H3) from rfl, ← HB.out, Bool.false_or])
          obtain ⟨⟨⟨g0, g1⟩, g2, g3⟩, g4, g5⟩ := HS.out.c125
          go_wp2_with fail
          refine (HH3.out _ _ _ HN.out HD.out).mono ?_
          rintro e42 w42 ⟨rfl, hb42⟩
          replace HS := Lib.hid (HS.out.later hb42)
          replace HN := Lib.hid (HN.out.below hb42)
          replace HD := Lib.hid (HD.out.below hb42)
          clear hb42
          clear g0 g1 g2 g3 g4 g5
          go_wp2
          go_roundw
          case rel => exact ⟨4, L3, H3, by go_num, rfl, rfl, Lib.hid (.inr (.inr (.inr (.inr (⟨rfl, HA2.out, HB2.out⟩))))), Lib.hid (HS.out.sub fun t m => .tail _ (.tail _ m))⟩
          case measure => simp [intOf]
        · have HB2 : Hid (true = (H0 || H1 || H2 || H3)) := Lib.hid (by rw [show (H0 || H1 || H2 || H3) = ((H0 || H1 || H2) || H3) from rfl, ← HB.out, Bool.true_or])
          go_wp2
          go_roundw
          case rel => exact ⟨4, L3, true, by go_num, rfl, rfl, Lib.hid (.inr (.inr (.inr (.inr (⟨rfl, HA2.out, HB2.out⟩))))), Lib.hid (HS.out.sub fun t m => .tail _ (.tail _ m))⟩
          case measure => simp [intOf]
      · have HA2 : Hid (true = (L0 || L1 || L2 || L3)) := Lib.hid (by rw [show (L0 || L1 || L2 || L3) = ((L0 || L1 || L2) || L3) from rfl, ← HA.out, Bool.true_or])
        go_upto_region 13 with fail
        cases b
        · have HB2 : Hid (H3 = (H0 || H1 || H2 || H3)) := Lib.hid (by rw [show (H0 || H1 || H2 || H3) = ((H0 || H1 || H2) || H3) from rfl, ← HB.out, Bool.false_or])
          obtain ⟨⟨⟨g0, g1⟩, g2, g3⟩, g4, g5⟩ := HS.out.c125
          go_wp2_with fail
          refine (HH3.out _ _ _ HN.out HD.out).mono ?_
          rintro e42 w42 ⟨rfl, hb42⟩
          replace HS := Lib.hid (HS.out.later hb42)
          replace HN := Lib.hid (HN.out.below hb42)
          replace HD := Lib.hid (HD.out.below hb42)
          clear hb42
          clear g0 g1 g2 g3 g4 g5
          go_wp2
          go_roundw
          case rel => exact ⟨4, true, H3, by go_num, rfl, rfl, Lib.hid (.inr (.inr (.inr (.inr (⟨rfl, HA2.out, HB2.out⟩))))), Lib.hid (HS.out.sub fun t m => .tail _ (.tail _ m))⟩
          case measure => simp [intOf]
        · have HB2 : Hid (true = (H0 || H1 || H2 || H3)) := Lib.hid (by rw [show (H0 || H1 || H2 || H3) = ((H0 || H1 || H2) || H3) from rfl, ← HB.out, Bool.true_or])
          go_wp2
          go_roundw
          case rel => exact ⟨4, true, true, by go_num, rfl, rfl, Lib.hid (.inr (.inr (.inr (.inr (⟨rfl, HA2.out, HB2.out⟩))))), Lib.hid (HS.out.sub fun t m => .tail _ (.tail _ m))⟩
          case measure => simp [intOf]
    · have ha2 := ha.trans HLT.out
      have hb2 := hb.trans HHT.out
      clear ha hb HJ HLT HHT
      subst ha2 hb2
      go_wp2
      go_ret
      exact ⟨rfl, HS.out.2⟩

set_option maxRecDepth 100000 in
set_option maxHeartbeats 25600000 in
theorem corners_neg (r0 r1 p0 p1 q0 q1 : Nat) (w : World) (hr0 : W64 r0) (hr1 : W64 r1) (nr0 : nanB r0 = false) (nr1 : nanB r1 = false) (b0 : ky r0 < kInf) (b1 : -(kInf : Int) < ky r1) (hp0 : W64 p0) (hp1 : W64 p1) (hq0 : W64 q0) (hq1 : W64 q1) (fp0 : finB p0 = true) (fp1 : finB p1 = true) (fq0 : finB q0 = true) (fq1 : finB q1 = true) (sq0 : ky q0 < 0) (sq1 : ky q1 < 0)
    (hL : ((tgL (ky r0) (-(valZ p0)) (pE p0) (-(valZ q0)) (pE q0)) || (tgL (ky r0) (-(valZ p0)) (pE p0) (-(valZ q1)) (pE q1)) || (tgL (ky r0) (-(valZ p1)) (pE p1) (-(valZ q0)) (pE q0)) || (tgL (ky r0) (-(valZ p1)) (pE p1) (-(valZ q1)) (pE q1))) = true) (hH : ((tgH (ky r1) (-(valZ p0)) (pE p0) (-(valZ q0)) (pE q0)) || (tgH (ky r1) (-(valZ p0)) (pE p0) (-(valZ q1)) (pE q1)) || (tgH (ky r1) (-(valZ p1)) (pE p1) (-(valZ q0)) (pE q0)) || (tgH (ky r1) (-(valZ p1)) (pE p1) (-(valZ q1)) (pE q1))) = true) :
    Calls Tryz.prog 22 #[.agg #[.float .f64 r0, .float .f64 r1], .agg #[.float .f64 p0, .float .f64 p1], .agg #[.float .f64 q0, .float .f64 q1], .bool true] w (Gives (.bool true) w) := by
  have HWH := Lib.hid fun W => rWhole_any 1 W (by decide) (by decide)
  have HOp0 := Lib.hid fun W => rOf_any p0 W hp0 fp0
  have ep0 := pE_bd fp0
  have vp0 := val_bl (b := p0)
  have HOp1 := Lib.hid fun W => rOf_any p1 W hp1 fp1
  have ep1 := pE_bd fp1
  have vp1 := val_bl (b := p1)
  have HOq0 := Lib.hid fun W => rOf_any q0 W hq0 fq0
  have eq0 := pE_bd fq0
  have vq0 := val_bl (b := q0)
  have HOq1 := Lib.hid fun W => rOf_any q1 W hq1 fq1
  have eq1 := pE_bd fq1
  have vq1 := val_bl (b := q1)
  have m0 := bl_mul (valZ p0).natAbs (valZ q0).natAbs
  rw [← Int.natAbs_mul] at m0
  have HM0 := Lib.hid fun b c W (h1 : RInt W b (valZ p0)) (h2 : RInt W c (valZ q0)) => rMulX_any b c _ (pE p0) _ (pE q0) W h1 h2 (by omega) (by omega) (by omega) (by omega) (by omega) (by omega)
  have HL0 := Lib.hid fun b c W (h1 : RInt W b (-(valZ p0))) (h2 : RInt W c (-(valZ q0))) => tight_low r0 r1 b c _ (pE p0) _ (pE q0) W hr0 nr0 b0 h1 h2 (by rw [Int.natAbs_neg]; omega) (by rw [Int.natAbs_neg]; omega) (by omega) (by omega) (by omega) (by omega)
  have HH0 := Lib.hid fun b c W (h1 : RInt W b (-(valZ p0))) (h2 : RInt W c (-(valZ q0))) => tight_high r0 r1 b c _ (pE p0) _ (pE q0) W hr1 nr1 b1 h1 h2 (by rw [Int.natAbs_neg]; omega) (by rw [Int.natAbs_neg]; omega) (by omega) (by omega) (by omega) (by omega)
  have hsq0 : (FloatKind.f64.format.order q0 0 == some Ordering.lt) = true := by rw [lt_test hq0 (by decide) (nan_fin fq0) (by decide), ky_zero]; exact decide_eq_true (by omega)
  have m1 := bl_mul (valZ p0).natAbs (valZ q1).natAbs
  rw [← Int.natAbs_mul] at m1
  have HM1 := Lib.hid fun b c W (h1 : RInt W b (valZ p0)) (h2 : RInt W c (valZ q1)) => rMulX_any b c _ (pE p0) _ (pE q1) W h1 h2 (by omega) (by omega) (by omega) (by omega) (by omega) (by omega)
  have HL1 := Lib.hid fun b c W (h1 : RInt W b (-(valZ p0))) (h2 : RInt W c (-(valZ q1))) => tight_low r0 r1 b c _ (pE p0) _ (pE q1) W hr0 nr0 b0 h1 h2 (by rw [Int.natAbs_neg]; omega) (by rw [Int.natAbs_neg]; omega) (by omega) (by omega) (by omega) (by omega)
  have HH1 := Lib.hid fun b c W (h1 : RInt W b (-(valZ p0))) (h2 : RInt W c (-(valZ q1))) => tight_high r0 r1 b c _ (pE p0) _ (pE q1) W hr1 nr1 b1 h1 h2 (by rw [Int.natAbs_neg]; omega) (by rw [Int.natAbs_neg]; omega) (by omega) (by omega) (by omega) (by omega)
  have hsq1 : (FloatKind.f64.format.order q1 0 == some Ordering.lt) = true := by rw [lt_test hq1 (by decide) (nan_fin fq1) (by decide), ky_zero]; exact decide_eq_true (by omega)
  have m2 := bl_mul (valZ p1).natAbs (valZ q0).natAbs
  rw [← Int.natAbs_mul] at m2
  have HM2 := Lib.hid fun b c W (h1 : RInt W b (valZ p1)) (h2 : RInt W c (valZ q0)) => rMulX_any b c _ (pE p1) _ (pE q0) W h1 h2 (by omega) (by omega) (by omega) (by omega) (by omega) (by omega)
  have HL2 := Lib.hid fun b c W (h1 : RInt W b (-(valZ p1))) (h2 : RInt W c (-(valZ q0))) => tight_low r0 r1 b c _ (pE p1) _ (pE q0) W hr0 nr0 b0 h1 h2 (by rw [Int.natAbs_neg]; omega) (by rw [Int.natAbs_neg]; omega) (by omega) (by omega) (by omega) (by omega)
  have HH2 := Lib.hid fun b c W (h1 : RInt W b (-(valZ p1))) (h2 : RInt W c (-(valZ q0))) => tight_high r0 r1 b c _ (pE p1) _ (pE q0) W hr1 nr1 b1 h1 h2 (by rw [Int.natAbs_neg]; omega) (by rw [Int.natAbs_neg]; omega) (by omega) (by omega) (by omega) (by omega)
  have m3 := bl_mul (valZ p1).natAbs (valZ q1).natAbs
  rw [← Int.natAbs_mul] at m3
  have HM3 := Lib.hid fun b c W (h1 : RInt W b (valZ p1)) (h2 : RInt W c (valZ q1)) => rMulX_any b c _ (pE p1) _ (pE q1) W h1 h2 (by omega) (by omega) (by omega) (by omega) (by omega) (by omega)
  have HL3 := Lib.hid fun b c W (h1 : RInt W b (-(valZ p1))) (h2 : RInt W c (-(valZ q1))) => tight_low r0 r1 b c _ (pE p1) _ (pE q1) W hr0 nr0 b0 h1 h2 (by rw [Int.natAbs_neg]; omega) (by rw [Int.natAbs_neg]; omega) (by omega) (by omega) (by omega) (by omega)
  have HH3 := Lib.hid fun b c W (h1 : RInt W b (-(valZ p1))) (h2 : RInt W c (-(valZ q1))) => tight_high r0 r1 b c _ (pE p1) _ (pE q1) W hr1 nr1 b1 h1 h2 (by rw [Int.natAbs_neg]; omega) (by rw [Int.natAbs_neg]; omega) (by omega) (by omega) (by omega) (by omega)
  have HLT := Lib.hid hL
  have HHT := Lib.hid hH
  clear hL hH
  generalize (tgL (ky r0) (-(valZ p0)) (pE p0) (-(valZ q0)) (pE q0)) = L0 at *
  generalize (tgH (ky r1) (-(valZ p0)) (pE p0) (-(valZ q0)) (pE q0)) = H0 at *
  generalize (tgL (ky r0) (-(valZ p0)) (pE p0) (-(valZ q1)) (pE q1)) = L1 at *
  generalize (tgH (ky r1) (-(valZ p0)) (pE p0) (-(valZ q1)) (pE q1)) = H1 at *
  generalize (tgL (ky r0) (-(valZ p1)) (pE p1) (-(valZ q0)) (pE q0)) = L2 at *
  generalize (tgH (ky r1) (-(valZ p1)) (pE p1) (-(valZ q0)) (pE q0)) = H2 at *
  generalize (tgL (ky r0) (-(valZ p1)) (pE p1) (-(valZ q1)) (pE q1)) = L3 at *
  generalize (tgH (ky r1) (-(valZ p1)) (pE p1) (-(valZ q1)) (pE q1)) = H3 at *
  clear sq0 sq1
  clear hr0 hr1 nr0 nr1 b0 b1 hp0 hp1 hq0 hq1 fp0 fp1 fq0 fq1 ep0 vp0 ep1 vp1 eq0 vq0 eq1 vq1 m0 m1 m2 m3
  have HS := Lib.hid (Bks.new3 w 34 34 34 #[.float .f64 r0, .float .f64 r1] #[.float .f64 p0, .float .f64 p1] #[.float .f64 q0, .float .f64 q1])
  go_enter Tryz.func22, Tryz.ntmps22
  obtain ⟨⟨⟨g0, g1⟩, g2, g3⟩, g4, g5⟩ := HS.out.tri
  go_upto_region 3 with fail
  clear g0 g1 g2 g3 g4 g5
  skip
  replace HS := Lib.hid (HS.out.alloc #[.float .f64 p0, .float .f64 p0, .float .f64 p1, .float .f64 p1] 82)
  generalize World.alloc (World.alloc (World.alloc (World.alloc w _) _) _) _ = W1 at HS ⊢
  obtain ⟨rx, hrx⟩ : ∃ t, (((w.alloc (.cells #[.float .f64 r0, .float .f64 r1] 34)).alloc (.cells #[.float .f64 p0, .float .f64 p1] 34)).alloc (.cells #[.float .f64 q0, .float .f64 q1] 34)).heap.size = t := ⟨_, rfl⟩
  rw [hrx] at HS
  have hrx2 : w.heap.size + 1 + 1 + 1 = rx := by rw [← hrx]; simp
  try rw [hrx2]
  clear hrx hrx2
  obtain ⟨g0, g1⟩ := HS.out.two (.tail _ (.tail _ (.tail _ (.head _))))
  go_upto_region 4 with fail
  clear g0 g1
  replace HS := Lib.hid (HS.out.alloc #[.float .f64 q0, .float .f64 q1, .float .f64 q0, .float .f64 q1] 82)
  generalize World.alloc W1 _ = W2 at HS ⊢
  generalize W1.heap.size = ry at HS ⊢
  replace HS := Lib.hid (HS.out.sub (l' := [(rx, 82, #[.float .f64 p0, .float .f64 p0, .float .f64 p1, .float .f64 p1]), (ry, 82, #[.float .f64 q0, .float .f64 q1, .float .f64 q0, .float .f64 q1]), (w.heap.size, 34, #[.float .f64 r0, .float .f64 r1])]) (by intro t m; simp only [List.mem_cons, List.not_mem_nil, or_false] at m ⊢; rcases m with rfl | rfl | rfl <;> simp))
  go_wp2
  go_loopw [9, 10, 13] (fun lo hi i wr => ∃ (j : Int) (a b : Bool), i = .int .i64 j ∧ lo = .bool a ∧ hi = .bool b ∧ Hid ((j = 0 ∧ a = (false) ∧ b = (false)) ∨ (j = 1 ∧ a = (L0) ∧ b = (H0)) ∨ (j = 2 ∧ a = (L0 || L1) ∧ b = (H0 || H1)) ∨ (j = 3 ∧ a = (L0 || L1 || L2) ∧ b = (H0 || H1 || H2)) ∨ (j = 4 ∧ a = (L0 || L1 || L2 || L3) ∧ b = (H0 || H1 || H2 || H3))) ∧ Hid (Bks w wr [(rx, 82, #[.float .f64 p0, .float .f64 p0, .float .f64 p1, .float .f64 p1]), (ry, 82, #[.float .f64 q0, .float .f64 q1, .float .f64 q0, .float .f64 q1]), (w.heap.size, 34, #[.float .f64 r0, .float .f64 r1])])) (fun _ _ i _ => 4 - (intOf i).toNat)
  case atStart => exact ⟨0, false, false, rfl, rfl, rfl, Lib.hid (.inl ⟨rfl, rfl, rfl⟩), HS⟩
  case round =>
    clear HS W1 W2
    obtain ⟨j, a, b, rfl, rfl, rfl, HJ, HS⟩ := hrel
    rcases HJ.out with ⟨rfl, ha, hb⟩ | ⟨rfl, ha, hb⟩ | ⟨rfl, ha, hb⟩ | ⟨rfl, ha, hb⟩ | ⟨rfl, ha, hb⟩
    · clear HM1 HL1 HH1 HM2 HL2 HH2 HM3 HL3 HH3 HLT HHT
      have HA : Hid (a = (false)) := Lib.hid ha
      have HB : Hid (b = (false)) := Lib.hid hb
      clear ha hb HJ
      go_upto_region 7 with fail
      refine wp_region_q (fun w' : World => w'.cell? ⟨rx, 0, none⟩ = some (.float .f64 p0) ∧ w'.cell? ⟨ry, 0, none⟩ = some (.float .f64 q0)) 12 (.take 0 (.take 1 (.take 2 (.take 4 (.take 5 (.take 6 (.bag [(3, 41, []), (7, 45, []), (8, 46, []), (9, 47, []), (10, 14, []), (11, 15, [])] .nil))))))) (by kernel_rfl) (by kernel_rfl) ?_
      replace HS := Lib.hid (HS.out.later (drew_below _))
      generalize World.drew _ = W3 at HS ⊢
      have HSZ : Hid (SzLe W3 W3.heap.size) := Lib.hid (Nat.le_refl _)
      have HLB := Lib.hid HS.out.lt
      have HSW : Hid (w.heap.size ≤ W3.heap.size) := Lib.hid HS.out.size
      generalize W3.heap.size = nB at HSZ HLB HSW
      have hS : (fun w' : World => w'.cell? ⟨rx, 0, none⟩ = some (.float .f64 p0) ∧ w'.cell? ⟨ry, 0, none⟩ = some (.float .f64 q0)) W3 := (HS.out.at2 0)
      repeat (refine wpPq_takeL (v := ?_) rfl rfl (fun _ _ _ h => h) rfl (fun w' hSw => ?_) hS ?_; rotate_left; (focus (go_simp; with_reducible rfl)); simp only [setL])
      clear hS
      have hAp : ∀ j ∈ ([10, 11] : List Nat), ∀ s w', (pick [(3, fun v w' => ∃ p, v = ExV p (pE p0) ∧ RInt w' p (valZ p0)), (7, fun v w' => ∃ p, v = ExV p (pE q0) ∧ RInt w' p (valZ q0)), (8, fun v w' => ∃ p, v = ExV p (pE p0 + pE q0) ∧ RInt w' p (valZ p0 * valZ q0)), (9, fun v w' => ∃ p, v = ExV p 0 ∧ RInt w' p 1), (10, fun v w' => ∃ r, v = .pointer (some ⟨r, 0, none⟩) ∧ nB ≤ r ∧ BlkT w' r 27 #[.pointer none, .int .i64 0]), (11, fun v w' => ∃ r, v = .pointer (some ⟨r, 0, none⟩) ∧ nB ≤ r ∧ BlkT w' r 27 #[.pointer none, .int .i64 0])]) j (.pointer (some ⟨s, 0, none⟩)) w' → s < w'.heap.size := (bag_cons (fun s w' h => by obtain ⟨r, hr, -, hB⟩ := (h : (fun (v : Value) (w' : World) => ∃ r, v = .pointer (some ⟨r, 0, none⟩) ∧ nB ≤ r ∧ BlkT w' r 27 #[.pointer none, .int .i64 0]) (.pointer (some ⟨s, 0, none⟩)) w'); simp only [Value.pointer.injEq, Option.some.injEq, Addr.mk.injEq, and_true] at hr; subst hr; exact hB.lt) (bag_cons (fun s w' h => by obtain ⟨r, hr, -, hB⟩ := (h : (fun (v : Value) (w' : World) => ∃ r, v = .pointer (some ⟨r, 0, none⟩) ∧ nB ≤ r ∧ BlkT w' r 27 #[.pointer none, .int .i64 0]) (.pointer (some ⟨s, 0, none⟩)) w'); simp only [Value.pointer.injEq, Option.some.injEq, Addr.mk.injEq, and_true] at hr; subst hr; exact hB.lt) bag_nil))
      refine wpPq_bagD [10, 11] (pick [(3, fun v w' => ∃ p, v = ExV p (pE p0) ∧ RInt w' p (valZ p0)), (7, fun v w' => ∃ p, v = ExV p (pE q0) ∧ RInt w' p (valZ q0)), (8, fun v w' => ∃ p, v = ExV p (pE p0 + pE q0) ∧ RInt w' p (valZ p0 * valZ q0)), (9, fun v w' => ∃ p, v = ExV p 0 ∧ RInt w' p 1), (10, fun v w' => ∃ r, v = .pointer (some ⟨r, 0, none⟩) ∧ nB ≤ r ∧ BlkT w' r 27 #[.pointer none, .int .i64 0]), (11, fun v w' => ∃ r, v = .pointer (some ⟨r, 0, none⟩) ∧ nB ≤ r ∧ BlkT w' r 27 #[.pointer none, .int .i64 0])]) (pick_mono (bag_cons (fun v w1 w2 ⟨p3', hv3, hi3⟩ hb => ⟨p3', hv3, hi3.below hb⟩) (bag_cons (fun v w1 w2 ⟨p7', hv7, hi7⟩ hb => ⟨p7', hv7, hi7.below hb⟩) (bag_cons (fun v w1 w2 ⟨p8', hv8, hi8⟩ hb => ⟨p8', hv8, hi8.below hb⟩) (bag_cons (fun v w1 w2 ⟨p9', hv9, hi9⟩ hb => ⟨p9', hv9, hi9.below hb⟩) (bag_cons (fun v w1 w2 ⟨r10, hv10, hl10, hB10⟩ hb => ⟨r10, hv10, hl10, hB10.below hb⟩) (bag_cons (fun v w1 w2 ⟨r11, hv11, hl11, hB11⟩ hb => ⟨r11, hv11, hl11, hB11.below hb⟩) bag_nil))))))) (fun w' hb => ((HS.out.later hb).at2 0)) (by simp [prE]) (fun _ _ _ _ _ h => h) (by decide) (bag_cons (bagD_one rfl (BagStep.other (by decide) ?_)) (bag_cons (bagD_one rfl (BagStep.other (by decide) ?_)) (bag_cons (bagD_one rfl (BagStep.other (by decide) ?_)) (bag_cons (bagD_one rfl (BagStep.other (by decide) ?_)) (bag_cons (bagD_one rfl (BagStep.fresh hAp ?_)) (bag_cons (bagD_one rfl (BagStep.fresh hAp ?_)) bag_nil)))))) bag_nil ?_
      · intro a' V hdf hin hdep hb1 K hK
        have i40 : a'.tmps[40]?.getD undef = .float .f64 p0 := evT (hin 40 (by decide))
        clear hin hdep hdf
        have HS := Lib.hid (HS.out.later hb1)
        have HSZ := Lib.hid (HSZ.out.below hb1)
        go_simp
        refine (HOp0.out _).mono ?_
        rintro e1 V2 ⟨p, rfl, -, hi, hb2⟩
        exact hK _ _ ⟨p, rfl, hi⟩ hb2
      · intro a' V hdf hin hdep hb1 K hK
        have i44 : a'.tmps[44]?.getD undef = .float .f64 q0 := evT (hin 44 (by decide))
        clear hin hdep hdf
        have HS := Lib.hid (HS.out.later hb1)
        have HSZ := Lib.hid (HSZ.out.below hb1)
        go_simp
        refine (HOq0.out _).mono ?_
        rintro e1 V2 ⟨p, rfl, -, hi, hb2⟩
        exact hK _ _ ⟨p, rfl, hi⟩ hb2
      · intro a' V hdf hin hdep hb1 K hK
        obtain ⟨p3', hv3, hi3⟩ : (fun (v : Value) (w' : World) => ∃ p, v = ExV p (pE p0) ∧ RInt w' p (valZ p0)) (a'.tmps.getD 41 undef) V := hdep ⟨3, .data⟩ (by simp) rfl 41 (by decide)
        replace hv3 := evT hv3
        obtain ⟨p7', hv7, hi7⟩ : (fun (v : Value) (w' : World) => ∃ p, v = ExV p (pE q0) ∧ RInt w' p (valZ q0)) (a'.tmps.getD 45 undef) V := hdep ⟨7, .data⟩ (by simp) rfl 45 (by decide)
        replace hv7 := evT hv7
        clear hin hdep hdf
        have HS := Lib.hid (HS.out.later hb1)
        have HSZ := Lib.hid (HSZ.out.below hb1)
        simp only [ExV] at hv3 hv7
        go_simp
        refine (HM0.out _ _ _ hi3 hi7).mono ?_
        rintro e1 V2 ⟨p, rfl, -, hi, hb2⟩
        exact hK _ _ ⟨p, rfl, hi⟩ hb2
      · intro a' V hdf hin hdep hb1 K hK
        clear hin hdep hdf
        have HS := Lib.hid (HS.out.later hb1)
        have HSZ := Lib.hid (HSZ.out.below hb1)
        go_simp
        refine (HWH.out _).mono ?_
        rintro e1 V2 ⟨p, rfl, -, hi, hb2⟩
        exact hK _ _ ⟨p, rfl, hi⟩ hb2
      · intro a' V hdf hin hdep hb1 K hK
        clear hin hdep hdf
        have HS := Lib.hid (HS.out.later hb1)
        have HSZ := Lib.hid (HSZ.out.below hb1)
        go_simp
        exact hK _ ⟨_, rfl, HSZ.out, BlkT.new V _ _⟩ (Below.alloc_self _ _)
      · intro a' V hdf hin hdep hb1 K hK
        clear hin hdep hdf
        have HS := Lib.hid (HS.out.later hb1)
        have HSZ := Lib.hid (HSZ.out.below hb1)
        go_simp
        exact hK _ ⟨_, rfl, HSZ.out, BlkT.new V _ _⟩ (Below.alloc_self _ _)
      intro vals B1 hb1 hR hNE
      replace HS := Lib.hid (HS.out.later hb1)
      replace HSZ := Lib.hid (HSZ.out.below hb1)
      obtain ⟨p3', hv3, hi3⟩ : (fun (v : Value) (w' : World) => ∃ p, v = ExV p (pE p0) ∧ RInt w' p (valZ p0)) (vals 3) B1 := hR (3, 41) (by decide)
      obtain ⟨p7', hv7, hi7⟩ : (fun (v : Value) (w' : World) => ∃ p, v = ExV p (pE q0) ∧ RInt w' p (valZ q0)) (vals 7) B1 := hR (7, 45) (by decide)
      obtain ⟨p8', hv8, hi8⟩ : (fun (v : Value) (w' : World) => ∃ p, v = ExV p (pE p0 + pE q0) ∧ RInt w' p (valZ p0 * valZ q0)) (vals 8) B1 := hR (8, 46) (by decide)
      obtain ⟨p9', hv9, hi9⟩ : (fun (v : Value) (w' : World) => ∃ p, v = ExV p 0 ∧ RInt w' p 1) (vals 9) B1 := hR (9, 47) (by decide)
      obtain ⟨r10, hv10, hl10, hB10⟩ : (fun (v : Value) (w' : World) => ∃ r, v = .pointer (some ⟨r, 0, none⟩) ∧ nB ≤ r ∧ BlkT w' r 27 #[.pointer none, .int .i64 0]) (vals 10) B1 := hR (10, 14) (by decide)
      obtain ⟨r11, hv11, hl11, hB11⟩ : (fun (v : Value) (w' : World) => ∃ r, v = .pointer (some ⟨r, 0, none⟩) ∧ nB ≤ r ∧ BlkT w' r 27 #[.pointer none, .int .i64 0]) (vals 11) B1 := hR (11, 15) (by decide)
      have hne10_11 := hNE (10, 14) (by decide) (11, 15) (by decide) (by decide) (by decide) (by decide) r10 r11 hv10 hv11
      clear hNE hAp
      clear hb1 hR
      simp only [prE, List.flatMap_cons, List.flatMap_nil, List.cons_append, List.nil_append, List.append_nil, setD, List.setIfInBounds_toArray, List.set_cons_zero, List.set_cons_succ, hv3, hv7, hv8, hv9, hv10, hv11]
      clear vals hv3 hv7 hv8 hv9 hv10 hv11
      refine wpPq_nil ?_
      simp only [List.drop_succ_cons, List.drop_zero]
      replace HS := Lib.hid (HS.out.fill2 hB10 hB11 (Nat.le_trans HSW.out hl10) (Nat.le_trans HSW.out hl11) hne10_11 (fun q m e => by have := HLB.out q m; omega) (fun q m e => by have := HLB.out q m; omega) (.pointer (some ⟨p8', 0, none⟩)) (.int .i64 (pE p0 + pE q0)) (.pointer (some ⟨p9', 0, none⟩)) (.int .i64 0))
      have HN := Lib.hid (RInt.st22 hi8 hB10 hB11 hne10_11 (.pointer (some ⟨p8', 0, none⟩)) (.int .i64 (pE p0 + pE q0)) (.pointer (some ⟨p9', 0, none⟩)) (.int .i64 0))
      have HD := Lib.hid (RInt.st22 hi9 hB10 hB11 hne10_11 (.pointer (some ⟨p8', 0, none⟩)) (.int .i64 (pE p0 + pE q0)) (.pointer (some ⟨p9', 0, none⟩)) (.int .i64 0))
      have HNE : Hid ((w.heap.size ≤ r10 ∧ w.heap.size ≤ r11) ∧ r10 ≠ r11 ∧ (∀ q ∈ ([(rx, 82, #[.float .f64 p0, .float .f64 p0, .float .f64 p1, .float .f64 p1]), (ry, 82, #[.float .f64 q0, .float .f64 q1, .float .f64 q0, .float .f64 q1]), (w.heap.size, 34, #[.float .f64 r0, .float .f64 r1])] : List (Nat × Nat × Array Value)), q.1 ≠ r10) ∧ ∀ q ∈ ([(rx, 82, #[.float .f64 p0, .float .f64 p0, .float .f64 p1, .float .f64 p1]), (ry, 82, #[.float .f64 q0, .float .f64 q1, .float .f64 q0, .float .f64 q1]), (w.heap.size, 34, #[.float .f64 r0, .float .f64 r1])] : List (Nat × Nat × Array Value)), q.1 ≠ r11) := Lib.hid ⟨⟨Nat.le_trans HSW.out hl10, Nat.le_trans HSW.out hl11⟩, hne10_11, (fun q m e => by have := HLB.out q m; omega), (fun q m e => by have := HLB.out q m; omega)⟩
      obtain ⟨f60, f61, f62, f63⟩ := hB10.cells2
      obtain ⟨f70, f71, f72, f73⟩ := hB11.cells2
      have hn1 : r11 ≠ r10 := hne10_11.symm
      clear HLB HSZ HSW hB10 hB11 hl10 hl11 hi3 hi7 hi8 hi9
      unfold ExV
      go_upto_region 8 with fail
      clear f60 f61 f62 f63 f70 f71 f72 f73 hne10_11 hn1
      generalize World.setCell (World.setCell (World.setCell (World.setCell _ _ _) _ _) _ _) _ _ = W4 at HS HN HD ⊢
      clear HN HD
      go_upto_region 9 with fail
      refine wp_region_pl (fun w' : World => w'.cell? ⟨rx, 0, none⟩ = some (.float .f64 p0) ∧ w'.cell? ⟨ry, 0, none⟩ = some (.float .f64 q0)) 7 (.take 0 (.take 1 (.take 2 (.take 4 (.take 5 (.take 6 (.run 3 (.nil)))))))) (by kernel_rfl) (by kernel_rfl) ?_
      replace HS := Lib.hid (HS.out.later (drew_below _))
      generalize World.drew _ = W5 at HS ⊢
      repeat (first | (refine wpPl_takeL (v := ?_) rfl rfl (fun _ _ _ h => h) rfl (fun w' hSw => ?_) (HS.out.tail.tail.at2 0) ?_; rotate_left; (focus (go_simp; with_reducible rfl)); simp only [setL]) | (refine wpPl_skipL rfl rfl (fun _ _ _ h => h) rfl (HS.out.tail.tail.at2 0) ?_; simp only [setL]))
      refine wpPl_goL rfl rfl fun K' hK => ?_
      go_simp
      refine (HOp0.out _).mono ?_
      rintro e1 W5v1 ⟨bx, rfl, -, hi1, hb1⟩
      replace HS := Lib.hid (HS.out.later hb1)
      have HN := Lib.hid hi1
      clear hi1
      unfold ExV
      refine hK _ _ (HS.out.tail.tail.at2 0) ?_
      clear hK K' hb1
      try simp only [Act.put, setL]
      repeat (first | (refine wpPl_takeL (v := ?_) rfl rfl (fun _ _ _ h => h) rfl (fun w' hSw => ?_) (HS.out.tail.tail.at2 0) ?_; rotate_left; (focus (go_simp; with_reducible rfl)); simp only [setL]) | (refine wpPl_skipL rfl rfl (fun _ _ _ h => h) rfl (HS.out.tail.tail.at2 0) ?_; simp only [setL]))
      refine wpPl_nil ?_
      simp only [List.drop_succ_cons, List.drop_zero]
      go_wp2_with fail
      refine (HOq0.out _).mono ?_
      rintro e6 w6 ⟨by', rfl, -, hi6, hb6⟩
      replace HS := Lib.hid (HS.out.later hb6)
      replace HN := Lib.hid (HN.out.below hb6)
      have HD := Lib.hid hi6
      clear hi6 hb6
      unfold ExV
      obtain ⟨f60, f61, f62, f63⟩ := (HS.out.get (.head _)).cells2
      obtain ⟨f70, f71, f72, f73⟩ := (HS.out.get (.tail _ (.head _))).cells2
      have hn1 : r10 ≠ r11 := HNE.out.2.1
      have hn2 : r11 ≠ r10 := HNE.out.2.1.symm
      have HB1 := Lib.hid (HS.out.get (.head _))
      have HB2 := Lib.hid (HS.out.get (.tail _ (.head _)))
      replace HS := Lib.hid (HS.out.tail.tail.fill2 HB1.out HB2.out HNE.out.1.1 HNE.out.1.2 HNE.out.2.1 HNE.out.2.2.1 HNE.out.2.2.2 (.pointer (some ⟨bx, 0, none⟩)) (.int .i64 (pE p0)) (.pointer (some ⟨by', 0, none⟩)) (.int .i64 (pE q0)))
      replace HN := Lib.hid (RInt.st22 HN.out HB1.out HB2.out HNE.out.2.1 (.pointer (some ⟨bx, 0, none⟩)) (.int .i64 (pE p0)) (.pointer (some ⟨by', 0, none⟩)) (.int .i64 (pE q0)))
      replace HD := Lib.hid (RInt.st22 HD.out HB1.out HB2.out HNE.out.2.1 (.pointer (some ⟨bx, 0, none⟩)) (.int .i64 (pE p0)) (.pointer (some ⟨by', 0, none⟩)) (.int .i64 (pE q0)))
      clear HB1 HB2
      go_upto_region 10 with fail
      clear f60 f61 f62 f63 f70 f71 f72 f73 hn1 hn2
      generalize World.setCell (World.setCell (World.setCell (World.setCell _ _ _) _ _) _ _) _ _ = W7 at HS HN HD ⊢
      have hcy := (HS.out.tail.tail.at2 0).2
      replace hcy : W7.cell? ⟨ry, 0, none⟩ = some (.float .f64 q0) := hcy
      go_upto_region 11 with fail
      clear hcy
      refine wp_region_pl (fun w' : World => (w'.cell? ⟨r10, 0, none⟩ = some (.pointer (some ⟨bx, 0, none⟩)) ∧ w'.cell? ⟨r10, 1, none⟩ = some (.int .i64 (pE p0))) ∧ w'.cell? ⟨r11, 0, none⟩ = some (.pointer (some ⟨by', 0, none⟩)) ∧ w'.cell? ⟨r11, 1, none⟩ = some (.int .i64 (pE q0))) 3 (.take 0 (.take 2 (.run 1 (.nil)))) (by kernel_rfl) (by kernel_rfl) ?_
      replace HS := Lib.hid (HS.out.later (drew_below _))
      replace HN := Lib.hid (HN.out.below (drew_below _))
      replace HD := Lib.hid (HD.out.below (drew_below _))
      generalize World.drew _ = W8 at HS HN HD ⊢
      repeat (first | (refine wpPl_takeL (v := ?_) rfl rfl (fun _ _ _ h => h) rfl (fun w' hSw => ?_) HS.out.two2 ?_; rotate_left; (focus (go_simp; with_reducible rfl)); simp only [setL]) | (refine wpPl_skipL rfl rfl (fun _ _ _ h => h) rfl HS.out.two2 ?_; simp only [setL]))
      refine wpPl_goL rfl rfl fun K' hK => ?_
      go_simp
      refine (rNegX_any _ _ _ _ HN.out).mono ?_
      rintro e1 W8v1 ⟨nx, rfl, -, hi1, hb1⟩
      replace HS := Lib.hid (HS.out.later hb1)
      replace HN := Lib.hid (HN.out.below hb1)
      replace HD := Lib.hid (HD.out.below hb1)
      replace HN := Lib.hid hi1
      clear hi1
      unfold ExV
      refine hK _ _ HS.out.two2 ?_
      clear hK K' hb1
      try simp only [Act.put, setL]
      repeat (first | (refine wpPl_takeL (v := ?_) rfl rfl (fun _ _ _ h => h) rfl (fun w' hSw => ?_) HS.out.two2 ?_; rotate_left; (focus (go_simp; with_reducible rfl)); simp only [setL]) | (refine wpPl_skipL rfl rfl (fun _ _ _ h => h) rfl HS.out.two2 ?_; simp only [setL]))
      refine wpPl_nil ?_
      simp only [List.drop_succ_cons, List.drop_zero]
      go_wp2_with fail
      refine (rNegX_any _ _ _ _ HD.out).mono ?_
      rintro e9 w9 ⟨ny, rfl, -, hi9, hb9⟩
      replace HS := Lib.hid (HS.out.later hb9)
      replace HN := Lib.hid (HN.out.below hb9)
      replace HD := Lib.hid hi9
      clear hi9 hb9
      unfold ExV
      obtain ⟨f60, f61, f62, f63⟩ := (HS.out.get (.head _)).cells2
      obtain ⟨f70, f71, f72, f73⟩ := (HS.out.get (.tail _ (.head _))).cells2
      have hn1 : r10 ≠ r11 := HNE.out.2.1
      have hn2 : r11 ≠ r10 := HNE.out.2.1.symm
      have HB1 := Lib.hid (HS.out.get (.head _))
      have HB2 := Lib.hid (HS.out.get (.tail _ (.head _)))
      replace HS := Lib.hid (HS.out.tail.tail.fill2 HB1.out HB2.out HNE.out.1.1 HNE.out.1.2 HNE.out.2.1 HNE.out.2.2.1 HNE.out.2.2.2 (.pointer (some ⟨nx, 0, none⟩)) (.int .i64 (pE p0)) (.pointer (some ⟨ny, 0, none⟩)) (.int .i64 (pE q0)))
      replace HN := Lib.hid (RInt.st22 HN.out HB1.out HB2.out HNE.out.2.1 (.pointer (some ⟨nx, 0, none⟩)) (.int .i64 (pE p0)) (.pointer (some ⟨ny, 0, none⟩)) (.int .i64 (pE q0)))
      replace HD := Lib.hid (RInt.st22 HD.out HB1.out HB2.out HNE.out.2.1 (.pointer (some ⟨nx, 0, none⟩)) (.int .i64 (pE p0)) (.pointer (some ⟨ny, 0, none⟩)) (.int .i64 (pE q0)))
      clear HB1 HB2
      go_upto_region 12 with fail
      clear f60 f61 f62 f63 f70 f71 f72 f73 hn1 hn2
      generalize World.setCell (World.setCell (World.setCell (World.setCell _ _ _) _ _) _ _) _ _ = W10 at HS HN HD ⊢
      clear HNE
      obtain rfl : a = false := HA.out
      obtain rfl : b = false := HB.out
      obtain ⟨⟨⟨g0, g1⟩, g2, g3⟩, g4, g5⟩ := HS.out.c125
      go_wp2_with fail
      refine (HL0.out _ _ _ HN.out HD.out).mono ?_
      rintro e41 w41 ⟨rfl, hb41⟩
      replace HS := Lib.hid (HS.out.later hb41)
      replace HN := Lib.hid (HN.out.below hb41)
      replace HD := Lib.hid (HD.out.below hb41)
      clear hb41
      clear g0 g1 g2 g3 g4 g5
      go_upto_region 13 with fail
      obtain ⟨⟨⟨g0, g1⟩, g2, g3⟩, g4, g5⟩ := HS.out.c125
      go_wp2_with fail
      refine (HH0.out _ _ _ HN.out HD.out).mono ?_
      rintro e42 w42 ⟨rfl, hb42⟩
      replace HS := Lib.hid (HS.out.later hb42)
      replace HN := Lib.hid (HN.out.below hb42)
      replace HD := Lib.hid (HD.out.below hb42)
      clear hb42
      clear g0 g1 g2 g3 g4 g5
      have HA2 : Hid (L0 = (L0)) := Lib.hid rfl
      have HB2 : Hid (H0 = (H0)) := Lib.hid rfl
      go_wp2
      go_roundw
      case rel => exact ⟨1, L0, H0, by go_num, rfl, rfl, Lib.hid (.inr (.inl ⟨rfl, rfl, rfl⟩)), Lib.hid (HS.out.sub fun t m => .tail _ (.tail _ m))⟩
      case measure => simp [intOf]
    · clear HM0 HL0 HH0 HM2 HL2 HH2 HM3 HL3 HH3 HLT HHT
      have HA : Hid (a = (L0)) := Lib.hid ha
      have HB : Hid (b = (H0)) := Lib.hid hb
      clear ha hb HJ
      go_upto_region 7 with fail
      refine wp_region_q (fun w' : World => w'.cell? ⟨rx, 1, none⟩ = some (.float .f64 p0) ∧ w'.cell? ⟨ry, 1, none⟩ = some (.float .f64 q1)) 12 (.take 0 (.take 1 (.take 2 (.take 4 (.take 5 (.take 6 (.bag [(3, 41, []), (7, 45, []), (8, 46, []), (9, 47, []), (10, 14, []), (11, 15, [])] .nil))))))) (by kernel_rfl) (by kernel_rfl) ?_
      replace HS := Lib.hid (HS.out.later (drew_below _))
      generalize World.drew _ = W3 at HS ⊢
      have HSZ : Hid (SzLe W3 W3.heap.size) := Lib.hid (Nat.le_refl _)
      have HLB := Lib.hid HS.out.lt
      have HSW : Hid (w.heap.size ≤ W3.heap.size) := Lib.hid HS.out.size
      generalize W3.heap.size = nB at HSZ HLB HSW
      have hS : (fun w' : World => w'.cell? ⟨rx, 1, none⟩ = some (.float .f64 p0) ∧ w'.cell? ⟨ry, 1, none⟩ = some (.float .f64 q1)) W3 := (HS.out.at2 1)
      repeat (refine wpPq_takeL (v := ?_) rfl rfl (fun _ _ _ h => h) rfl (fun w' hSw => ?_) hS ?_; rotate_left; (focus (go_simp; with_reducible rfl)); simp only [setL])
      clear hS
      have hAp : ∀ j ∈ ([10, 11] : List Nat), ∀ s w', (pick [(3, fun v w' => ∃ p, v = ExV p (pE p0) ∧ RInt w' p (valZ p0)), (7, fun v w' => ∃ p, v = ExV p (pE q1) ∧ RInt w' p (valZ q1)), (8, fun v w' => ∃ p, v = ExV p (pE p0 + pE q1) ∧ RInt w' p (valZ p0 * valZ q1)), (9, fun v w' => ∃ p, v = ExV p 0 ∧ RInt w' p 1), (10, fun v w' => ∃ r, v = .pointer (some ⟨r, 0, none⟩) ∧ nB ≤ r ∧ BlkT w' r 27 #[.pointer none, .int .i64 0]), (11, fun v w' => ∃ r, v = .pointer (some ⟨r, 0, none⟩) ∧ nB ≤ r ∧ BlkT w' r 27 #[.pointer none, .int .i64 0])]) j (.pointer (some ⟨s, 0, none⟩)) w' → s < w'.heap.size := (bag_cons (fun s w' h => by obtain ⟨r, hr, -, hB⟩ := (h : (fun (v : Value) (w' : World) => ∃ r, v = .pointer (some ⟨r, 0, none⟩) ∧ nB ≤ r ∧ BlkT w' r 27 #[.pointer none, .int .i64 0]) (.pointer (some ⟨s, 0, none⟩)) w'); simp only [Value.pointer.injEq, Option.some.injEq, Addr.mk.injEq, and_true] at hr; subst hr; exact hB.lt) (bag_cons (fun s w' h => by obtain ⟨r, hr, -, hB⟩ := (h : (fun (v : Value) (w' : World) => ∃ r, v = .pointer (some ⟨r, 0, none⟩) ∧ nB ≤ r ∧ BlkT w' r 27 #[.pointer none, .int .i64 0]) (.pointer (some ⟨s, 0, none⟩)) w'); simp only [Value.pointer.injEq, Option.some.injEq, Addr.mk.injEq, and_true] at hr; subst hr; exact hB.lt) bag_nil))
      refine wpPq_bagD [10, 11] (pick [(3, fun v w' => ∃ p, v = ExV p (pE p0) ∧ RInt w' p (valZ p0)), (7, fun v w' => ∃ p, v = ExV p (pE q1) ∧ RInt w' p (valZ q1)), (8, fun v w' => ∃ p, v = ExV p (pE p0 + pE q1) ∧ RInt w' p (valZ p0 * valZ q1)), (9, fun v w' => ∃ p, v = ExV p 0 ∧ RInt w' p 1), (10, fun v w' => ∃ r, v = .pointer (some ⟨r, 0, none⟩) ∧ nB ≤ r ∧ BlkT w' r 27 #[.pointer none, .int .i64 0]), (11, fun v w' => ∃ r, v = .pointer (some ⟨r, 0, none⟩) ∧ nB ≤ r ∧ BlkT w' r 27 #[.pointer none, .int .i64 0])]) (pick_mono (bag_cons (fun v w1 w2 ⟨p3', hv3, hi3⟩ hb => ⟨p3', hv3, hi3.below hb⟩) (bag_cons (fun v w1 w2 ⟨p7', hv7, hi7⟩ hb => ⟨p7', hv7, hi7.below hb⟩) (bag_cons (fun v w1 w2 ⟨p8', hv8, hi8⟩ hb => ⟨p8', hv8, hi8.below hb⟩) (bag_cons (fun v w1 w2 ⟨p9', hv9, hi9⟩ hb => ⟨p9', hv9, hi9.below hb⟩) (bag_cons (fun v w1 w2 ⟨r10, hv10, hl10, hB10⟩ hb => ⟨r10, hv10, hl10, hB10.below hb⟩) (bag_cons (fun v w1 w2 ⟨r11, hv11, hl11, hB11⟩ hb => ⟨r11, hv11, hl11, hB11.below hb⟩) bag_nil))))))) (fun w' hb => ((HS.out.later hb).at2 1)) (by simp [prE]) (fun _ _ _ _ _ h => h) (by decide) (bag_cons (bagD_one rfl (BagStep.other (by decide) ?_)) (bag_cons (bagD_one rfl (BagStep.other (by decide) ?_)) (bag_cons (bagD_one rfl (BagStep.other (by decide) ?_)) (bag_cons (bagD_one rfl (BagStep.other (by decide) ?_)) (bag_cons (bagD_one rfl (BagStep.fresh hAp ?_)) (bag_cons (bagD_one rfl (BagStep.fresh hAp ?_)) bag_nil)))))) bag_nil ?_
      · intro a' V hdf hin hdep hb1 K hK
        have i40 : a'.tmps[40]?.getD undef = .float .f64 p0 := evT (hin 40 (by decide))
        clear hin hdep hdf
        have HS := Lib.hid (HS.out.later hb1)
        have HSZ := Lib.hid (HSZ.out.below hb1)
        go_simp
        refine (HOp0.out _).mono ?_
        rintro e1 V2 ⟨p, rfl, -, hi, hb2⟩
        exact hK _ _ ⟨p, rfl, hi⟩ hb2
      · intro a' V hdf hin hdep hb1 K hK
        have i44 : a'.tmps[44]?.getD undef = .float .f64 q1 := evT (hin 44 (by decide))
        clear hin hdep hdf
        have HS := Lib.hid (HS.out.later hb1)
        have HSZ := Lib.hid (HSZ.out.below hb1)
        go_simp
        refine (HOq1.out _).mono ?_
        rintro e1 V2 ⟨p, rfl, -, hi, hb2⟩
        exact hK _ _ ⟨p, rfl, hi⟩ hb2
      · intro a' V hdf hin hdep hb1 K hK
        obtain ⟨p3', hv3, hi3⟩ : (fun (v : Value) (w' : World) => ∃ p, v = ExV p (pE p0) ∧ RInt w' p (valZ p0)) (a'.tmps.getD 41 undef) V := hdep ⟨3, .data⟩ (by simp) rfl 41 (by decide)
        replace hv3 := evT hv3
        obtain ⟨p7', hv7, hi7⟩ : (fun (v : Value) (w' : World) => ∃ p, v = ExV p (pE q1) ∧ RInt w' p (valZ q1)) (a'.tmps.getD 45 undef) V := hdep ⟨7, .data⟩ (by simp) rfl 45 (by decide)
        replace hv7 := evT hv7
        clear hin hdep hdf
        have HS := Lib.hid (HS.out.later hb1)
        have HSZ := Lib.hid (HSZ.out.below hb1)
        simp only [ExV] at hv3 hv7
        go_simp
        refine (HM1.out _ _ _ hi3 hi7).mono ?_
        rintro e1 V2 ⟨p, rfl, -, hi, hb2⟩
        exact hK _ _ ⟨p, rfl, hi⟩ hb2
      · intro a' V hdf hin hdep hb1 K hK
        clear hin hdep hdf
        have HS := Lib.hid (HS.out.later hb1)
        have HSZ := Lib.hid (HSZ.out.below hb1)
        go_simp
        refine (HWH.out _).mono ?_
        rintro e1 V2 ⟨p, rfl, -, hi, hb2⟩
        exact hK _ _ ⟨p, rfl, hi⟩ hb2
      · intro a' V hdf hin hdep hb1 K hK
        clear hin hdep hdf
        have HS := Lib.hid (HS.out.later hb1)
        have HSZ := Lib.hid (HSZ.out.below hb1)
        go_simp
        exact hK _ ⟨_, rfl, HSZ.out, BlkT.new V _ _⟩ (Below.alloc_self _ _)
      · intro a' V hdf hin hdep hb1 K hK
        clear hin hdep hdf
        have HS := Lib.hid (HS.out.later hb1)
        have HSZ := Lib.hid (HSZ.out.below hb1)
        go_simp
        exact hK _ ⟨_, rfl, HSZ.out, BlkT.new V _ _⟩ (Below.alloc_self _ _)
      intro vals B1 hb1 hR hNE
      replace HS := Lib.hid (HS.out.later hb1)
      replace HSZ := Lib.hid (HSZ.out.below hb1)
      obtain ⟨p3', hv3, hi3⟩ : (fun (v : Value) (w' : World) => ∃ p, v = ExV p (pE p0) ∧ RInt w' p (valZ p0)) (vals 3) B1 := hR (3, 41) (by decide)
      obtain ⟨p7', hv7, hi7⟩ : (fun (v : Value) (w' : World) => ∃ p, v = ExV p (pE q1) ∧ RInt w' p (valZ q1)) (vals 7) B1 := hR (7, 45) (by decide)
      obtain ⟨p8', hv8, hi8⟩ : (fun (v : Value) (w' : World) => ∃ p, v = ExV p (pE p0 + pE q1) ∧ RInt w' p (valZ p0 * valZ q1)) (vals 8) B1 := hR (8, 46) (by decide)
      obtain ⟨p9', hv9, hi9⟩ : (fun (v : Value) (w' : World) => ∃ p, v = ExV p 0 ∧ RInt w' p 1) (vals 9) B1 := hR (9, 47) (by decide)
      obtain ⟨r10, hv10, hl10, hB10⟩ : (fun (v : Value) (w' : World) => ∃ r, v = .pointer (some ⟨r, 0, none⟩) ∧ nB ≤ r ∧ BlkT w' r 27 #[.pointer none, .int .i64 0]) (vals 10) B1 := hR (10, 14) (by decide)
      obtain ⟨r11, hv11, hl11, hB11⟩ : (fun (v : Value) (w' : World) => ∃ r, v = .pointer (some ⟨r, 0, none⟩) ∧ nB ≤ r ∧ BlkT w' r 27 #[.pointer none, .int .i64 0]) (vals 11) B1 := hR (11, 15) (by decide)
      have hne10_11 := hNE (10, 14) (by decide) (11, 15) (by decide) (by decide) (by decide) (by decide) r10 r11 hv10 hv11
      clear hNE hAp
      clear hb1 hR
      simp only [prE, List.flatMap_cons, List.flatMap_nil, List.cons_append, List.nil_append, List.append_nil, setD, List.setIfInBounds_toArray, List.set_cons_zero, List.set_cons_succ, hv3, hv7, hv8, hv9, hv10, hv11]
      clear vals hv3 hv7 hv8 hv9 hv10 hv11
      refine wpPq_nil ?_
      simp only [List.drop_succ_cons, List.drop_zero]
      replace HS := Lib.hid (HS.out.fill2 hB10 hB11 (Nat.le_trans HSW.out hl10) (Nat.le_trans HSW.out hl11) hne10_11 (fun q m e => by have := HLB.out q m; omega) (fun q m e => by have := HLB.out q m; omega) (.pointer (some ⟨p8', 0, none⟩)) (.int .i64 (pE p0 + pE q1)) (.pointer (some ⟨p9', 0, none⟩)) (.int .i64 0))
      have HN := Lib.hid (RInt.st22 hi8 hB10 hB11 hne10_11 (.pointer (some ⟨p8', 0, none⟩)) (.int .i64 (pE p0 + pE q1)) (.pointer (some ⟨p9', 0, none⟩)) (.int .i64 0))
      have HD := Lib.hid (RInt.st22 hi9 hB10 hB11 hne10_11 (.pointer (some ⟨p8', 0, none⟩)) (.int .i64 (pE p0 + pE q1)) (.pointer (some ⟨p9', 0, none⟩)) (.int .i64 0))
      have HNE : Hid ((w.heap.size ≤ r10 ∧ w.heap.size ≤ r11) ∧ r10 ≠ r11 ∧ (∀ q ∈ ([(rx, 82, #[.float .f64 p0, .float .f64 p0, .float .f64 p1, .float .f64 p1]), (ry, 82, #[.float .f64 q0, .float .f64 q1, .float .f64 q0, .float .f64 q1]), (w.heap.size, 34, #[.float .f64 r0, .float .f64 r1])] : List (Nat × Nat × Array Value)), q.1 ≠ r10) ∧ ∀ q ∈ ([(rx, 82, #[.float .f64 p0, .float .f64 p0, .float .f64 p1, .float .f64 p1]), (ry, 82, #[.float .f64 q0, .float .f64 q1, .float .f64 q0, .float .f64 q1]), (w.heap.size, 34, #[.float .f64 r0, .float .f64 r1])] : List (Nat × Nat × Array Value)), q.1 ≠ r11) := Lib.hid ⟨⟨Nat.le_trans HSW.out hl10, Nat.le_trans HSW.out hl11⟩, hne10_11, (fun q m e => by have := HLB.out q m; omega), (fun q m e => by have := HLB.out q m; omega)⟩
      obtain ⟨f60, f61, f62, f63⟩ := hB10.cells2
      obtain ⟨f70, f71, f72, f73⟩ := hB11.cells2
      have hn1 : r11 ≠ r10 := hne10_11.symm
      clear HLB HSZ HSW hB10 hB11 hl10 hl11 hi3 hi7 hi8 hi9
      unfold ExV
      go_upto_region 8 with fail
      clear f60 f61 f62 f63 f70 f71 f72 f73 hne10_11 hn1
      generalize World.setCell (World.setCell (World.setCell (World.setCell _ _ _) _ _) _ _) _ _ = W4 at HS HN HD ⊢
      clear HN HD
      go_upto_region 9 with fail
      refine wp_region_pl (fun w' : World => w'.cell? ⟨rx, 1, none⟩ = some (.float .f64 p0) ∧ w'.cell? ⟨ry, 1, none⟩ = some (.float .f64 q1)) 7 (.take 0 (.take 1 (.take 2 (.take 4 (.take 5 (.take 6 (.run 3 (.nil)))))))) (by kernel_rfl) (by kernel_rfl) ?_
      replace HS := Lib.hid (HS.out.later (drew_below _))
      generalize World.drew _ = W5 at HS ⊢
      repeat (first | (refine wpPl_takeL (v := ?_) rfl rfl (fun _ _ _ h => h) rfl (fun w' hSw => ?_) (HS.out.tail.tail.at2 1) ?_; rotate_left; (focus (go_simp; with_reducible rfl)); simp only [setL]) | (refine wpPl_skipL rfl rfl (fun _ _ _ h => h) rfl (HS.out.tail.tail.at2 1) ?_; simp only [setL]))
      refine wpPl_goL rfl rfl fun K' hK => ?_
      go_simp
      refine (HOp0.out _).mono ?_
      rintro e1 W5v1 ⟨bx, rfl, -, hi1, hb1⟩
      replace HS := Lib.hid (HS.out.later hb1)
      have HN := Lib.hid hi1
      clear hi1
      unfold ExV
      refine hK _ _ (HS.out.tail.tail.at2 1) ?_
      clear hK K' hb1
      try simp only [Act.put, setL]
      repeat (first | (refine wpPl_takeL (v := ?_) rfl rfl (fun _ _ _ h => h) rfl (fun w' hSw => ?_) (HS.out.tail.tail.at2 1) ?_; rotate_left; (focus (go_simp; with_reducible rfl)); simp only [setL]) | (refine wpPl_skipL rfl rfl (fun _ _ _ h => h) rfl (HS.out.tail.tail.at2 1) ?_; simp only [setL]))
      refine wpPl_nil ?_
      simp only [List.drop_succ_cons, List.drop_zero]
      go_wp2_with fail
      refine (HOq1.out _).mono ?_
      rintro e6 w6 ⟨by', rfl, -, hi6, hb6⟩
      replace HS := Lib.hid (HS.out.later hb6)
      replace HN := Lib.hid (HN.out.below hb6)
      have HD := Lib.hid hi6
      clear hi6 hb6
      unfold ExV
      obtain ⟨f60, f61, f62, f63⟩ := (HS.out.get (.head _)).cells2
      obtain ⟨f70, f71, f72, f73⟩ := (HS.out.get (.tail _ (.head _))).cells2
      have hn1 : r10 ≠ r11 := HNE.out.2.1
      have hn2 : r11 ≠ r10 := HNE.out.2.1.symm
      have HB1 := Lib.hid (HS.out.get (.head _))
      have HB2 := Lib.hid (HS.out.get (.tail _ (.head _)))
      replace HS := Lib.hid (HS.out.tail.tail.fill2 HB1.out HB2.out HNE.out.1.1 HNE.out.1.2 HNE.out.2.1 HNE.out.2.2.1 HNE.out.2.2.2 (.pointer (some ⟨bx, 0, none⟩)) (.int .i64 (pE p0)) (.pointer (some ⟨by', 0, none⟩)) (.int .i64 (pE q1)))
      replace HN := Lib.hid (RInt.st22 HN.out HB1.out HB2.out HNE.out.2.1 (.pointer (some ⟨bx, 0, none⟩)) (.int .i64 (pE p0)) (.pointer (some ⟨by', 0, none⟩)) (.int .i64 (pE q1)))
      replace HD := Lib.hid (RInt.st22 HD.out HB1.out HB2.out HNE.out.2.1 (.pointer (some ⟨bx, 0, none⟩)) (.int .i64 (pE p0)) (.pointer (some ⟨by', 0, none⟩)) (.int .i64 (pE q1)))
      clear HB1 HB2
      go_upto_region 10 with fail
      clear f60 f61 f62 f63 f70 f71 f72 f73 hn1 hn2
      generalize World.setCell (World.setCell (World.setCell (World.setCell _ _ _) _ _) _ _) _ _ = W7 at HS HN HD ⊢
      have hcy := (HS.out.tail.tail.at2 1).2
      replace hcy : W7.cell? ⟨ry, 1, none⟩ = some (.float .f64 q1) := hcy
      go_upto_region 11 with fail
      clear hcy
      refine wp_region_pl (fun w' : World => (w'.cell? ⟨r10, 0, none⟩ = some (.pointer (some ⟨bx, 0, none⟩)) ∧ w'.cell? ⟨r10, 1, none⟩ = some (.int .i64 (pE p0))) ∧ w'.cell? ⟨r11, 0, none⟩ = some (.pointer (some ⟨by', 0, none⟩)) ∧ w'.cell? ⟨r11, 1, none⟩ = some (.int .i64 (pE q1))) 3 (.take 0 (.take 2 (.run 1 (.nil)))) (by kernel_rfl) (by kernel_rfl) ?_
      replace HS := Lib.hid (HS.out.later (drew_below _))
      replace HN := Lib.hid (HN.out.below (drew_below _))
      replace HD := Lib.hid (HD.out.below (drew_below _))
      generalize World.drew _ = W8 at HS HN HD ⊢
      repeat (first | (refine wpPl_takeL (v := ?_) rfl rfl (fun _ _ _ h => h) rfl (fun w' hSw => ?_) HS.out.two2 ?_; rotate_left; (focus (go_simp; with_reducible rfl)); simp only [setL]) | (refine wpPl_skipL rfl rfl (fun _ _ _ h => h) rfl HS.out.two2 ?_; simp only [setL]))
      refine wpPl_goL rfl rfl fun K' hK => ?_
      go_simp
      refine (rNegX_any _ _ _ _ HN.out).mono ?_
      rintro e1 W8v1 ⟨nx, rfl, -, hi1, hb1⟩
      replace HS := Lib.hid (HS.out.later hb1)
      replace HN := Lib.hid (HN.out.below hb1)
      replace HD := Lib.hid (HD.out.below hb1)
      replace HN := Lib.hid hi1
      clear hi1
      unfold ExV
      refine hK _ _ HS.out.two2 ?_
      clear hK K' hb1
      try simp only [Act.put, setL]
      repeat (first | (refine wpPl_takeL (v := ?_) rfl rfl (fun _ _ _ h => h) rfl (fun w' hSw => ?_) HS.out.two2 ?_; rotate_left; (focus (go_simp; with_reducible rfl)); simp only [setL]) | (refine wpPl_skipL rfl rfl (fun _ _ _ h => h) rfl HS.out.two2 ?_; simp only [setL]))
      refine wpPl_nil ?_
      simp only [List.drop_succ_cons, List.drop_zero]
      go_wp2_with fail
      refine (rNegX_any _ _ _ _ HD.out).mono ?_
      rintro e9 w9 ⟨ny, rfl, -, hi9, hb9⟩
      replace HS := Lib.hid (HS.out.later hb9)
      replace HN := Lib.hid (HN.out.below hb9)
      replace HD := Lib.hid hi9
      clear hi9 hb9
      unfold ExV
      obtain ⟨f60, f61, f62, f63⟩ := (HS.out.get (.head _)).cells2
      obtain ⟨f70, f71, f72, f73⟩ := (HS.out.get (.tail _ (.head _))).cells2
      have hn1 : r10 ≠ r11 := HNE.out.2.1
      have hn2 : r11 ≠ r10 := HNE.out.2.1.symm
      have HB1 := Lib.hid (HS.out.get (.head _))
      have HB2 := Lib.hid (HS.out.get (.tail _ (.head _)))
      replace HS := Lib.hid (HS.out.tail.tail.fill2 HB1.out HB2.out HNE.out.1.1 HNE.out.1.2 HNE.out.2.1 HNE.out.2.2.1 HNE.out.2.2.2 (.pointer (some ⟨nx, 0, none⟩)) (.int .i64 (pE p0)) (.pointer (some ⟨ny, 0, none⟩)) (.int .i64 (pE q1)))
      replace HN := Lib.hid (RInt.st22 HN.out HB1.out HB2.out HNE.out.2.1 (.pointer (some ⟨nx, 0, none⟩)) (.int .i64 (pE p0)) (.pointer (some ⟨ny, 0, none⟩)) (.int .i64 (pE q1)))
      replace HD := Lib.hid (RInt.st22 HD.out HB1.out HB2.out HNE.out.2.1 (.pointer (some ⟨nx, 0, none⟩)) (.int .i64 (pE p0)) (.pointer (some ⟨ny, 0, none⟩)) (.int .i64 (pE q1)))
      clear HB1 HB2
      go_upto_region 12 with fail
      clear f60 f61 f62 f63 f70 f71 f72 f73 hn1 hn2
      generalize World.setCell (World.setCell (World.setCell (World.setCell _ _ _) _ _) _ _) _ _ = W10 at HS HN HD ⊢
      clear HNE
      cases a
      · have HA2 : Hid (L1 = (L0 || L1)) := Lib.hid (by rw [show (L0 || L1) = ((L0) || L1) from rfl, ← HA.out, Bool.false_or])
        obtain ⟨⟨⟨g0, g1⟩, g2, g3⟩, g4, g5⟩ := HS.out.c125
        go_wp2_with fail
        refine (HL1.out _ _ _ HN.out HD.out).mono ?_
        rintro e41 w41 ⟨rfl, hb41⟩
        replace HS := Lib.hid (HS.out.later hb41)
        replace HN := Lib.hid (HN.out.below hb41)
        replace HD := Lib.hid (HD.out.below hb41)
        clear hb41
        clear g0 g1 g2 g3 g4 g5
        go_upto_region 13 with fail
        cases b
        · have HB2 : Hid (H1 = (H0 || H1)) := Lib.hid (by rw [show (H0 || H1) = ((H0) || H1) from rfl, ← HB.out, Bool.false_or])
          obtain ⟨⟨⟨g0, g1⟩, g2, g3⟩, g4, g5⟩ := HS.out.c125
          go_wp2_with fail
          refine (HH1.out _ _ _ HN.out HD.out).mono ?_
          rintro e42 w42 ⟨rfl, hb42⟩
          replace HS := Lib.hid (HS.out.later hb42)
          replace HN := Lib.hid (HN.out.below hb42)
          replace HD := Lib.hid (HD.out.below hb42)
          clear hb42
          clear g0 g1 g2 g3 g4 g5
          go_wp2
          go_roundw
          case rel => exact ⟨2, L1, H1, by go_num, rfl, rfl, Lib.hid (.inr (.inr (.inl ⟨rfl, HA2.out, HB2.out⟩))), Lib.hid (HS.out.sub fun t m => .tail _ (.tail _ m))⟩
          case measure => simp [intOf]
        · have HB2 : Hid (true = (H0 || H1)) := Lib.hid (by rw [show (H0 || H1) = ((H0) || H1) from rfl, ← HB.out, Bool.true_or])
          go_wp2
          go_roundw
          case rel => exact ⟨2, L1, true, by go_num, rfl, rfl, Lib.hid (.inr (.inr (.inl ⟨rfl, HA2.out, HB2.out⟩))), Lib.hid (HS.out.sub fun t m => .tail _ (.tail _ m))⟩
          case measure => simp [intOf]
      · have HA2 : Hid (true = (L0 || L1)) := Lib.hid (by rw [show (L0 || L1) = ((L0) || L1) from rfl, ← HA.out, Bool.true_or])
        go_upto_region 13 with fail
        cases b
        · have HB2 : Hid (H1 = (H0 || H1)) := Lib.hid (by rw [show (H0 || H1) = ((H0) || H1) from rfl, ← HB.out, Bool.false_or])
          obtain ⟨⟨⟨g0, g1⟩, g2, g3⟩, g4, g5⟩ := HS.out.c125
          go_wp2_with fail
          refine (HH1.out _ _ _ HN.out HD.out).mono ?_
          rintro e42 w42 ⟨rfl, hb42⟩
          replace HS := Lib.hid (HS.out.later hb42)
          replace HN := Lib.hid (HN.out.below hb42)
          replace HD := Lib.hid (HD.out.below hb42)
          clear hb42
          clear g0 g1 g2 g3 g4 g5
          go_wp2
          go_roundw
          case rel => exact ⟨2, true, H1, by go_num, rfl, rfl, Lib.hid (.inr (.inr (.inl ⟨rfl, HA2.out, HB2.out⟩))), Lib.hid (HS.out.sub fun t m => .tail _ (.tail _ m))⟩
          case measure => simp [intOf]
        · have HB2 : Hid (true = (H0 || H1)) := Lib.hid (by rw [show (H0 || H1) = ((H0) || H1) from rfl, ← HB.out, Bool.true_or])
          go_wp2
          go_roundw
          case rel => exact ⟨2, true, true, by go_num, rfl, rfl, Lib.hid (.inr (.inr (.inl ⟨rfl, HA2.out, HB2.out⟩))), Lib.hid (HS.out.sub fun t m => .tail _ (.tail _ m))⟩
          case measure => simp [intOf]
    · clear HM0 HL0 HH0 HM1 HL1 HH1 HM3 HL3 HH3 HLT HHT
      have HA : Hid (a = (L0 || L1)) := Lib.hid ha
      have HB : Hid (b = (H0 || H1)) := Lib.hid hb
      clear ha hb HJ
      go_upto_region 7 with fail
      refine wp_region_q (fun w' : World => w'.cell? ⟨rx, 2, none⟩ = some (.float .f64 p1) ∧ w'.cell? ⟨ry, 2, none⟩ = some (.float .f64 q0)) 12 (.take 0 (.take 1 (.take 2 (.take 4 (.take 5 (.take 6 (.bag [(3, 41, []), (7, 45, []), (8, 46, []), (9, 47, []), (10, 14, []), (11, 15, [])] .nil))))))) (by kernel_rfl) (by kernel_rfl) ?_
      replace HS := Lib.hid (HS.out.later (drew_below _))
      generalize World.drew _ = W3 at HS ⊢
      have HSZ : Hid (SzLe W3 W3.heap.size) := Lib.hid (Nat.le_refl _)
      have HLB := Lib.hid HS.out.lt
      have HSW : Hid (w.heap.size ≤ W3.heap.size) := Lib.hid HS.out.size
      generalize W3.heap.size = nB at HSZ HLB HSW
      have hS : (fun w' : World => w'.cell? ⟨rx, 2, none⟩ = some (.float .f64 p1) ∧ w'.cell? ⟨ry, 2, none⟩ = some (.float .f64 q0)) W3 := (HS.out.at2 2)
      repeat (refine wpPq_takeL (v := ?_) rfl rfl (fun _ _ _ h => h) rfl (fun w' hSw => ?_) hS ?_; rotate_left; (focus (go_simp; with_reducible rfl)); simp only [setL])
      clear hS
      have hAp : ∀ j ∈ ([10, 11] : List Nat), ∀ s w', (pick [(3, fun v w' => ∃ p, v = ExV p (pE p1) ∧ RInt w' p (valZ p1)), (7, fun v w' => ∃ p, v = ExV p (pE q0) ∧ RInt w' p (valZ q0)), (8, fun v w' => ∃ p, v = ExV p (pE p1 + pE q0) ∧ RInt w' p (valZ p1 * valZ q0)), (9, fun v w' => ∃ p, v = ExV p 0 ∧ RInt w' p 1), (10, fun v w' => ∃ r, v = .pointer (some ⟨r, 0, none⟩) ∧ nB ≤ r ∧ BlkT w' r 27 #[.pointer none, .int .i64 0]), (11, fun v w' => ∃ r, v = .pointer (some ⟨r, 0, none⟩) ∧ nB ≤ r ∧ BlkT w' r 27 #[.pointer none, .int .i64 0])]) j (.pointer (some ⟨s, 0, none⟩)) w' → s < w'.heap.size := (bag_cons (fun s w' h => by obtain ⟨r, hr, -, hB⟩ := (h : (fun (v : Value) (w' : World) => ∃ r, v = .pointer (some ⟨r, 0, none⟩) ∧ nB ≤ r ∧ BlkT w' r 27 #[.pointer none, .int .i64 0]) (.pointer (some ⟨s, 0, none⟩)) w'); simp only [Value.pointer.injEq, Option.some.injEq, Addr.mk.injEq, and_true] at hr; subst hr; exact hB.lt) (bag_cons (fun s w' h => by obtain ⟨r, hr, -, hB⟩ := (h : (fun (v : Value) (w' : World) => ∃ r, v = .pointer (some ⟨r, 0, none⟩) ∧ nB ≤ r ∧ BlkT w' r 27 #[.pointer none, .int .i64 0]) (.pointer (some ⟨s, 0, none⟩)) w'); simp only [Value.pointer.injEq, Option.some.injEq, Addr.mk.injEq, and_true] at hr; subst hr; exact hB.lt) bag_nil))
      refine wpPq_bagD [10, 11] (pick [(3, fun v w' => ∃ p, v = ExV p (pE p1) ∧ RInt w' p (valZ p1)), (7, fun v w' => ∃ p, v = ExV p (pE q0) ∧ RInt w' p (valZ q0)), (8, fun v w' => ∃ p, v = ExV p (pE p1 + pE q0) ∧ RInt w' p (valZ p1 * valZ q0)), (9, fun v w' => ∃ p, v = ExV p 0 ∧ RInt w' p 1), (10, fun v w' => ∃ r, v = .pointer (some ⟨r, 0, none⟩) ∧ nB ≤ r ∧ BlkT w' r 27 #[.pointer none, .int .i64 0]), (11, fun v w' => ∃ r, v = .pointer (some ⟨r, 0, none⟩) ∧ nB ≤ r ∧ BlkT w' r 27 #[.pointer none, .int .i64 0])]) (pick_mono (bag_cons (fun v w1 w2 ⟨p3', hv3, hi3⟩ hb => ⟨p3', hv3, hi3.below hb⟩) (bag_cons (fun v w1 w2 ⟨p7', hv7, hi7⟩ hb => ⟨p7', hv7, hi7.below hb⟩) (bag_cons (fun v w1 w2 ⟨p8', hv8, hi8⟩ hb => ⟨p8', hv8, hi8.below hb⟩) (bag_cons (fun v w1 w2 ⟨p9', hv9, hi9⟩ hb => ⟨p9', hv9, hi9.below hb⟩) (bag_cons (fun v w1 w2 ⟨r10, hv10, hl10, hB10⟩ hb => ⟨r10, hv10, hl10, hB10.below hb⟩) (bag_cons (fun v w1 w2 ⟨r11, hv11, hl11, hB11⟩ hb => ⟨r11, hv11, hl11, hB11.below hb⟩) bag_nil))))))) (fun w' hb => ((HS.out.later hb).at2 2)) (by simp [prE]) (fun _ _ _ _ _ h => h) (by decide) (bag_cons (bagD_one rfl (BagStep.other (by decide) ?_)) (bag_cons (bagD_one rfl (BagStep.other (by decide) ?_)) (bag_cons (bagD_one rfl (BagStep.other (by decide) ?_)) (bag_cons (bagD_one rfl (BagStep.other (by decide) ?_)) (bag_cons (bagD_one rfl (BagStep.fresh hAp ?_)) (bag_cons (bagD_one rfl (BagStep.fresh hAp ?_)) bag_nil)))))) bag_nil ?_
      · intro a' V hdf hin hdep hb1 K hK
        have i40 : a'.tmps[40]?.getD undef = .float .f64 p1 := evT (hin 40 (by decide))
        clear hin hdep hdf
        have HS := Lib.hid (HS.out.later hb1)
        have HSZ := Lib.hid (HSZ.out.below hb1)
        go_simp
        refine (HOp1.out _).mono ?_
        rintro e1 V2 ⟨p, rfl, -, hi, hb2⟩
        exact hK _ _ ⟨p, rfl, hi⟩ hb2
      · intro a' V hdf hin hdep hb1 K hK
        have i44 : a'.tmps[44]?.getD undef = .float .f64 q0 := evT (hin 44 (by decide))
        clear hin hdep hdf
        have HS := Lib.hid (HS.out.later hb1)
        have HSZ := Lib.hid (HSZ.out.below hb1)
        go_simp
        refine (HOq0.out _).mono ?_
        rintro e1 V2 ⟨p, rfl, -, hi, hb2⟩
        exact hK _ _ ⟨p, rfl, hi⟩ hb2
      · intro a' V hdf hin hdep hb1 K hK
        obtain ⟨p3', hv3, hi3⟩ : (fun (v : Value) (w' : World) => ∃ p, v = ExV p (pE p1) ∧ RInt w' p (valZ p1)) (a'.tmps.getD 41 undef) V := hdep ⟨3, .data⟩ (by simp) rfl 41 (by decide)
        replace hv3 := evT hv3
        obtain ⟨p7', hv7, hi7⟩ : (fun (v : Value) (w' : World) => ∃ p, v = ExV p (pE q0) ∧ RInt w' p (valZ q0)) (a'.tmps.getD 45 undef) V := hdep ⟨7, .data⟩ (by simp) rfl 45 (by decide)
        replace hv7 := evT hv7
        clear hin hdep hdf
        have HS := Lib.hid (HS.out.later hb1)
        have HSZ := Lib.hid (HSZ.out.below hb1)
        simp only [ExV] at hv3 hv7
        go_simp
        refine (HM2.out _ _ _ hi3 hi7).mono ?_
        rintro e1 V2 ⟨p, rfl, -, hi, hb2⟩
        exact hK _ _ ⟨p, rfl, hi⟩ hb2
      · intro a' V hdf hin hdep hb1 K hK
        clear hin hdep hdf
        have HS := Lib.hid (HS.out.later hb1)
        have HSZ := Lib.hid (HSZ.out.below hb1)
        go_simp
        refine (HWH.out _).mono ?_
        rintro e1 V2 ⟨p, rfl, -, hi, hb2⟩
        exact hK _ _ ⟨p, rfl, hi⟩ hb2
      · intro a' V hdf hin hdep hb1 K hK
        clear hin hdep hdf
        have HS := Lib.hid (HS.out.later hb1)
        have HSZ := Lib.hid (HSZ.out.below hb1)
        go_simp
        exact hK _ ⟨_, rfl, HSZ.out, BlkT.new V _ _⟩ (Below.alloc_self _ _)
      · intro a' V hdf hin hdep hb1 K hK
        clear hin hdep hdf
        have HS := Lib.hid (HS.out.later hb1)
        have HSZ := Lib.hid (HSZ.out.below hb1)
        go_simp
        exact hK _ ⟨_, rfl, HSZ.out, BlkT.new V _ _⟩ (Below.alloc_self _ _)
      intro vals B1 hb1 hR hNE
      replace HS := Lib.hid (HS.out.later hb1)
      replace HSZ := Lib.hid (HSZ.out.below hb1)
      obtain ⟨p3', hv3, hi3⟩ : (fun (v : Value) (w' : World) => ∃ p, v = ExV p (pE p1) ∧ RInt w' p (valZ p1)) (vals 3) B1 := hR (3, 41) (by decide)
      obtain ⟨p7', hv7, hi7⟩ : (fun (v : Value) (w' : World) => ∃ p, v = ExV p (pE q0) ∧ RInt w' p (valZ q0)) (vals 7) B1 := hR (7, 45) (by decide)
      obtain ⟨p8', hv8, hi8⟩ : (fun (v : Value) (w' : World) => ∃ p, v = ExV p (pE p1 + pE q0) ∧ RInt w' p (valZ p1 * valZ q0)) (vals 8) B1 := hR (8, 46) (by decide)
      obtain ⟨p9', hv9, hi9⟩ : (fun (v : Value) (w' : World) => ∃ p, v = ExV p 0 ∧ RInt w' p 1) (vals 9) B1 := hR (9, 47) (by decide)
      obtain ⟨r10, hv10, hl10, hB10⟩ : (fun (v : Value) (w' : World) => ∃ r, v = .pointer (some ⟨r, 0, none⟩) ∧ nB ≤ r ∧ BlkT w' r 27 #[.pointer none, .int .i64 0]) (vals 10) B1 := hR (10, 14) (by decide)
      obtain ⟨r11, hv11, hl11, hB11⟩ : (fun (v : Value) (w' : World) => ∃ r, v = .pointer (some ⟨r, 0, none⟩) ∧ nB ≤ r ∧ BlkT w' r 27 #[.pointer none, .int .i64 0]) (vals 11) B1 := hR (11, 15) (by decide)
      have hne10_11 := hNE (10, 14) (by decide) (11, 15) (by decide) (by decide) (by decide) (by decide) r10 r11 hv10 hv11
      clear hNE hAp
      clear hb1 hR
      simp only [prE, List.flatMap_cons, List.flatMap_nil, List.cons_append, List.nil_append, List.append_nil, setD, List.setIfInBounds_toArray, List.set_cons_zero, List.set_cons_succ, hv3, hv7, hv8, hv9, hv10, hv11]
      clear vals hv3 hv7 hv8 hv9 hv10 hv11
      refine wpPq_nil ?_
      simp only [List.drop_succ_cons, List.drop_zero]
      replace HS := Lib.hid (HS.out.fill2 hB10 hB11 (Nat.le_trans HSW.out hl10) (Nat.le_trans HSW.out hl11) hne10_11 (fun q m e => by have := HLB.out q m; omega) (fun q m e => by have := HLB.out q m; omega) (.pointer (some ⟨p8', 0, none⟩)) (.int .i64 (pE p1 + pE q0)) (.pointer (some ⟨p9', 0, none⟩)) (.int .i64 0))
      have HN := Lib.hid (RInt.st22 hi8 hB10 hB11 hne10_11 (.pointer (some ⟨p8', 0, none⟩)) (.int .i64 (pE p1 + pE q0)) (.pointer (some ⟨p9', 0, none⟩)) (.int .i64 0))
      have HD := Lib.hid (RInt.st22 hi9 hB10 hB11 hne10_11 (.pointer (some ⟨p8', 0, none⟩)) (.int .i64 (pE p1 + pE q0)) (.pointer (some ⟨p9', 0, none⟩)) (.int .i64 0))
      have HNE : Hid ((w.heap.size ≤ r10 ∧ w.heap.size ≤ r11) ∧ r10 ≠ r11 ∧ (∀ q ∈ ([(rx, 82, #[.float .f64 p0, .float .f64 p0, .float .f64 p1, .float .f64 p1]), (ry, 82, #[.float .f64 q0, .float .f64 q1, .float .f64 q0, .float .f64 q1]), (w.heap.size, 34, #[.float .f64 r0, .float .f64 r1])] : List (Nat × Nat × Array Value)), q.1 ≠ r10) ∧ ∀ q ∈ ([(rx, 82, #[.float .f64 p0, .float .f64 p0, .float .f64 p1, .float .f64 p1]), (ry, 82, #[.float .f64 q0, .float .f64 q1, .float .f64 q0, .float .f64 q1]), (w.heap.size, 34, #[.float .f64 r0, .float .f64 r1])] : List (Nat × Nat × Array Value)), q.1 ≠ r11) := Lib.hid ⟨⟨Nat.le_trans HSW.out hl10, Nat.le_trans HSW.out hl11⟩, hne10_11, (fun q m e => by have := HLB.out q m; omega), (fun q m e => by have := HLB.out q m; omega)⟩
      obtain ⟨f60, f61, f62, f63⟩ := hB10.cells2
      obtain ⟨f70, f71, f72, f73⟩ := hB11.cells2
      have hn1 : r11 ≠ r10 := hne10_11.symm
      clear HLB HSZ HSW hB10 hB11 hl10 hl11 hi3 hi7 hi8 hi9
      unfold ExV
      go_upto_region 8 with fail
      clear f60 f61 f62 f63 f70 f71 f72 f73 hne10_11 hn1
      generalize World.setCell (World.setCell (World.setCell (World.setCell _ _ _) _ _) _ _) _ _ = W4 at HS HN HD ⊢
      clear HN HD
      go_upto_region 9 with fail
      refine wp_region_pl (fun w' : World => w'.cell? ⟨rx, 2, none⟩ = some (.float .f64 p1) ∧ w'.cell? ⟨ry, 2, none⟩ = some (.float .f64 q0)) 7 (.take 0 (.take 1 (.take 2 (.take 4 (.take 5 (.take 6 (.run 3 (.nil)))))))) (by kernel_rfl) (by kernel_rfl) ?_
      replace HS := Lib.hid (HS.out.later (drew_below _))
      generalize World.drew _ = W5 at HS ⊢
      repeat (first | (refine wpPl_takeL (v := ?_) rfl rfl (fun _ _ _ h => h) rfl (fun w' hSw => ?_) (HS.out.tail.tail.at2 2) ?_; rotate_left; (focus (go_simp; with_reducible rfl)); simp only [setL]) | (refine wpPl_skipL rfl rfl (fun _ _ _ h => h) rfl (HS.out.tail.tail.at2 2) ?_; simp only [setL]))
      refine wpPl_goL rfl rfl fun K' hK => ?_
      go_simp
      refine (HOp1.out _).mono ?_
      rintro e1 W5v1 ⟨bx, rfl, -, hi1, hb1⟩
      replace HS := Lib.hid (HS.out.later hb1)
      have HN := Lib.hid hi1
      clear hi1
      unfold ExV
      refine hK _ _ (HS.out.tail.tail.at2 2) ?_
      clear hK K' hb1
      try simp only [Act.put, setL]
      repeat (first | (refine wpPl_takeL (v := ?_) rfl rfl (fun _ _ _ h => h) rfl (fun w' hSw => ?_) (HS.out.tail.tail.at2 2) ?_; rotate_left; (focus (go_simp; with_reducible rfl)); simp only [setL]) | (refine wpPl_skipL rfl rfl (fun _ _ _ h => h) rfl (HS.out.tail.tail.at2 2) ?_; simp only [setL]))
      refine wpPl_nil ?_
      simp only [List.drop_succ_cons, List.drop_zero]
      go_wp2_with fail
      refine (HOq0.out _).mono ?_
      rintro e6 w6 ⟨by', rfl, -, hi6, hb6⟩
      replace HS := Lib.hid (HS.out.later hb6)
      replace HN := Lib.hid (HN.out.below hb6)
      have HD := Lib.hid hi6
      clear hi6 hb6
      unfold ExV
      obtain ⟨f60, f61, f62, f63⟩ := (HS.out.get (.head _)).cells2
      obtain ⟨f70, f71, f72, f73⟩ := (HS.out.get (.tail _ (.head _))).cells2
      have hn1 : r10 ≠ r11 := HNE.out.2.1
      have hn2 : r11 ≠ r10 := HNE.out.2.1.symm
      have HB1 := Lib.hid (HS.out.get (.head _))
      have HB2 := Lib.hid (HS.out.get (.tail _ (.head _)))
      replace HS := Lib.hid (HS.out.tail.tail.fill2 HB1.out HB2.out HNE.out.1.1 HNE.out.1.2 HNE.out.2.1 HNE.out.2.2.1 HNE.out.2.2.2 (.pointer (some ⟨bx, 0, none⟩)) (.int .i64 (pE p1)) (.pointer (some ⟨by', 0, none⟩)) (.int .i64 (pE q0)))
      replace HN := Lib.hid (RInt.st22 HN.out HB1.out HB2.out HNE.out.2.1 (.pointer (some ⟨bx, 0, none⟩)) (.int .i64 (pE p1)) (.pointer (some ⟨by', 0, none⟩)) (.int .i64 (pE q0)))
      replace HD := Lib.hid (RInt.st22 HD.out HB1.out HB2.out HNE.out.2.1 (.pointer (some ⟨bx, 0, none⟩)) (.int .i64 (pE p1)) (.pointer (some ⟨by', 0, none⟩)) (.int .i64 (pE q0)))
      clear HB1 HB2
      go_upto_region 10 with fail
      clear f60 f61 f62 f63 f70 f71 f72 f73 hn1 hn2
      generalize World.setCell (World.setCell (World.setCell (World.setCell _ _ _) _ _) _ _) _ _ = W7 at HS HN HD ⊢
      have hcy := (HS.out.tail.tail.at2 2).2
      replace hcy : W7.cell? ⟨ry, 2, none⟩ = some (.float .f64 q0) := hcy
      go_upto_region 11 with fail
      clear hcy
      refine wp_region_pl (fun w' : World => (w'.cell? ⟨r10, 0, none⟩ = some (.pointer (some ⟨bx, 0, none⟩)) ∧ w'.cell? ⟨r10, 1, none⟩ = some (.int .i64 (pE p1))) ∧ w'.cell? ⟨r11, 0, none⟩ = some (.pointer (some ⟨by', 0, none⟩)) ∧ w'.cell? ⟨r11, 1, none⟩ = some (.int .i64 (pE q0))) 3 (.take 0 (.take 2 (.run 1 (.nil)))) (by kernel_rfl) (by kernel_rfl) ?_
      replace HS := Lib.hid (HS.out.later (drew_below _))
      replace HN := Lib.hid (HN.out.below (drew_below _))
      replace HD := Lib.hid (HD.out.below (drew_below _))
      generalize World.drew _ = W8 at HS HN HD ⊢
      repeat (first | (refine wpPl_takeL (v := ?_) rfl rfl (fun _ _ _ h => h) rfl (fun w' hSw => ?_) HS.out.two2 ?_; rotate_left; (focus (go_simp; with_reducible rfl)); simp only [setL]) | (refine wpPl_skipL rfl rfl (fun _ _ _ h => h) rfl HS.out.two2 ?_; simp only [setL]))
      refine wpPl_goL rfl rfl fun K' hK => ?_
      go_simp
      refine (rNegX_any _ _ _ _ HN.out).mono ?_
      rintro e1 W8v1 ⟨nx, rfl, -, hi1, hb1⟩
      replace HS := Lib.hid (HS.out.later hb1)
      replace HN := Lib.hid (HN.out.below hb1)
      replace HD := Lib.hid (HD.out.below hb1)
      replace HN := Lib.hid hi1
      clear hi1
      unfold ExV
      refine hK _ _ HS.out.two2 ?_
      clear hK K' hb1
      try simp only [Act.put, setL]
      repeat (first | (refine wpPl_takeL (v := ?_) rfl rfl (fun _ _ _ h => h) rfl (fun w' hSw => ?_) HS.out.two2 ?_; rotate_left; (focus (go_simp; with_reducible rfl)); simp only [setL]) | (refine wpPl_skipL rfl rfl (fun _ _ _ h => h) rfl HS.out.two2 ?_; simp only [setL]))
      refine wpPl_nil ?_
      simp only [List.drop_succ_cons, List.drop_zero]
      go_wp2_with fail
      refine (rNegX_any _ _ _ _ HD.out).mono ?_
      rintro e9 w9 ⟨ny, rfl, -, hi9, hb9⟩
      replace HS := Lib.hid (HS.out.later hb9)
      replace HN := Lib.hid (HN.out.below hb9)
      replace HD := Lib.hid hi9
      clear hi9 hb9
      unfold ExV
      obtain ⟨f60, f61, f62, f63⟩ := (HS.out.get (.head _)).cells2
      obtain ⟨f70, f71, f72, f73⟩ := (HS.out.get (.tail _ (.head _))).cells2
      have hn1 : r10 ≠ r11 := HNE.out.2.1
      have hn2 : r11 ≠ r10 := HNE.out.2.1.symm
      have HB1 := Lib.hid (HS.out.get (.head _))
      have HB2 := Lib.hid (HS.out.get (.tail _ (.head _)))
      replace HS := Lib.hid (HS.out.tail.tail.fill2 HB1.out HB2.out HNE.out.1.1 HNE.out.1.2 HNE.out.2.1 HNE.out.2.2.1 HNE.out.2.2.2 (.pointer (some ⟨nx, 0, none⟩)) (.int .i64 (pE p1)) (.pointer (some ⟨ny, 0, none⟩)) (.int .i64 (pE q0)))
      replace HN := Lib.hid (RInt.st22 HN.out HB1.out HB2.out HNE.out.2.1 (.pointer (some ⟨nx, 0, none⟩)) (.int .i64 (pE p1)) (.pointer (some ⟨ny, 0, none⟩)) (.int .i64 (pE q0)))
      replace HD := Lib.hid (RInt.st22 HD.out HB1.out HB2.out HNE.out.2.1 (.pointer (some ⟨nx, 0, none⟩)) (.int .i64 (pE p1)) (.pointer (some ⟨ny, 0, none⟩)) (.int .i64 (pE q0)))
      clear HB1 HB2
      go_upto_region 12 with fail
      clear f60 f61 f62 f63 f70 f71 f72 f73 hn1 hn2
      generalize World.setCell (World.setCell (World.setCell (World.setCell _ _ _) _ _) _ _) _ _ = W10 at HS HN HD ⊢
      clear HNE
      cases a
      · have HA2 : Hid (L2 = (L0 || L1 || L2)) := Lib.hid (by rw [show (L0 || L1 || L2) = ((L0 || L1) || L2) from rfl, ← HA.out, Bool.false_or])
        obtain ⟨⟨⟨g0, g1⟩, g2, g3⟩, g4, g5⟩ := HS.out.c125
        go_wp2_with fail
        refine (HL2.out _ _ _ HN.out HD.out).mono ?_
        rintro e41 w41 ⟨rfl, hb41⟩
        replace HS := Lib.hid (HS.out.later hb41)
        replace HN := Lib.hid (HN.out.below hb41)
        replace HD := Lib.hid (HD.out.below hb41)
        clear hb41
        clear g0 g1 g2 g3 g4 g5
        go_upto_region 13 with fail
        cases b
        · have HB2 : Hid (H2 = (H0 || H1 || H2)) := Lib.hid (by rw [show (H0 || H1 || H2) = ((H0 || H1) || H2) from rfl, ← HB.out, Bool.false_or])
          obtain ⟨⟨⟨g0, g1⟩, g2, g3⟩, g4, g5⟩ := HS.out.c125
          go_wp2_with fail
          refine (HH2.out _ _ _ HN.out HD.out).mono ?_
          rintro e42 w42 ⟨rfl, hb42⟩
          replace HS := Lib.hid (HS.out.later hb42)
          replace HN := Lib.hid (HN.out.below hb42)
          replace HD := Lib.hid (HD.out.below hb42)
          clear hb42
          clear g0 g1 g2 g3 g4 g5
          go_wp2
          go_roundw
          case rel => exact ⟨3, L2, H2, by go_num, rfl, rfl, Lib.hid (.inr (.inr (.inr (.inl ⟨rfl, HA2.out, HB2.out⟩)))), Lib.hid (HS.out.sub fun t m => .tail _ (.tail _ m))⟩
          case measure => simp [intOf]
        · have HB2 : Hid (true = (H0 || H1 || H2)) := Lib.hid (by rw [show (H0 || H1 || H2) = ((H0 || H1) || H2) from rfl, ← HB.out, Bool.true_or])
          go_wp2
          go_roundw
          case rel => exact ⟨3, L2, true, by go_num, rfl, rfl, Lib.hid (.inr (.inr (.inr (.inl ⟨rfl, HA2.out, HB2.out⟩)))), Lib.hid (HS.out.sub fun t m => .tail _ (.tail _ m))⟩
          case measure => simp [intOf]
      · have HA2 : Hid (true = (L0 || L1 || L2)) := Lib.hid (by rw [show (L0 || L1 || L2) = ((L0 || L1) || L2) from rfl, ← HA.out, Bool.true_or])
        go_upto_region 13 with fail
        cases b
        · have HB2 : Hid (H2 = (H0 || H1 || H2)) := Lib.hid (by rw [show (H0 || H1 || H2) = ((H0 || H1) || H2) from rfl, ← HB.out, Bool.false_or])
          obtain ⟨⟨⟨g0, g1⟩, g2, g3⟩, g4, g5⟩ := HS.out.c125
          go_wp2_with fail
          refine (HH2.out _ _ _ HN.out HD.out).mono ?_
          rintro e42 w42 ⟨rfl, hb42⟩
          replace HS := Lib.hid (HS.out.later hb42)
          replace HN := Lib.hid (HN.out.below hb42)
          replace HD := Lib.hid (HD.out.below hb42)
          clear hb42
          clear g0 g1 g2 g3 g4 g5
          go_wp2
          go_roundw
          case rel => exact ⟨3, true, H2, by go_num, rfl, rfl, Lib.hid (.inr (.inr (.inr (.inl ⟨rfl, HA2.out, HB2.out⟩)))), Lib.hid (HS.out.sub fun t m => .tail _ (.tail _ m))⟩
          case measure => simp [intOf]
        · have HB2 : Hid (true = (H0 || H1 || H2)) := Lib.hid (by rw [show (H0 || H1 || H2) = ((H0 || H1) || H2) from rfl, ← HB.out, Bool.true_or])
          go_wp2
          go_roundw
          case rel => exact ⟨3, true, true, by go_num, rfl, rfl, Lib.hid (.inr (.inr (.inr (.inl ⟨rfl, HA2.out, HB2.out⟩)))), Lib.hid (HS.out.sub fun t m => .tail _ (.tail _ m))⟩
          case measure => simp [intOf]
    · clear HM0 HL0 HH0 HM1 HL1 HH1 HM2 HL2 HH2 HLT HHT
      have HA : Hid (a = (L0 || L1 || L2)) := Lib.hid ha
      have HB : Hid (b = (H0 || H1 || H2)) := Lib.hid hb
      clear ha hb HJ
      go_upto_region 7 with fail
      refine wp_region_q (fun w' : World => w'.cell? ⟨rx, 3, none⟩ = some (.float .f64 p1) ∧ w'.cell? ⟨ry, 3, none⟩ = some (.float .f64 q1)) 12 (.take 0 (.take 1 (.take 2 (.take 4 (.take 5 (.take 6 (.bag [(3, 41, []), (7, 45, []), (8, 46, []), (9, 47, []), (10, 14, []), (11, 15, [])] .nil))))))) (by kernel_rfl) (by kernel_rfl) ?_
      replace HS := Lib.hid (HS.out.later (drew_below _))
      generalize World.drew _ = W3 at HS ⊢
      have HSZ : Hid (SzLe W3 W3.heap.size) := Lib.hid (Nat.le_refl _)
      have HLB := Lib.hid HS.out.lt
      have HSW : Hid (w.heap.size ≤ W3.heap.size) := Lib.hid HS.out.size
      generalize W3.heap.size = nB at HSZ HLB HSW
      have hS : (fun w' : World => w'.cell? ⟨rx, 3, none⟩ = some (.float .f64 p1) ∧ w'.cell? ⟨ry, 3, none⟩ = some (.float .f64 q1)) W3 := (HS.out.at2 3)
      repeat (refine wpPq_takeL (v := ?_) rfl rfl (fun _ _ _ h => h) rfl (fun w' hSw => ?_) hS ?_; rotate_left; (focus (go_simp; with_reducible rfl)); simp only [setL])
      clear hS
      have hAp : ∀ j ∈ ([10, 11] : List Nat), ∀ s w', (pick [(3, fun v w' => ∃ p, v = ExV p (pE p1) ∧ RInt w' p (valZ p1)), (7, fun v w' => ∃ p, v = ExV p (pE q1) ∧ RInt w' p (valZ q1)), (8, fun v w' => ∃ p, v = ExV p (pE p1 + pE q1) ∧ RInt w' p (valZ p1 * valZ q1)), (9, fun v w' => ∃ p, v = ExV p 0 ∧ RInt w' p 1), (10, fun v w' => ∃ r, v = .pointer (some ⟨r, 0, none⟩) ∧ nB ≤ r ∧ BlkT w' r 27 #[.pointer none, .int .i64 0]), (11, fun v w' => ∃ r, v = .pointer (some ⟨r, 0, none⟩) ∧ nB ≤ r ∧ BlkT w' r 27 #[.pointer none, .int .i64 0])]) j (.pointer (some ⟨s, 0, none⟩)) w' → s < w'.heap.size := (bag_cons (fun s w' h => by obtain ⟨r, hr, -, hB⟩ := (h : (fun (v : Value) (w' : World) => ∃ r, v = .pointer (some ⟨r, 0, none⟩) ∧ nB ≤ r ∧ BlkT w' r 27 #[.pointer none, .int .i64 0]) (.pointer (some ⟨s, 0, none⟩)) w'); simp only [Value.pointer.injEq, Option.some.injEq, Addr.mk.injEq, and_true] at hr; subst hr; exact hB.lt) (bag_cons (fun s w' h => by obtain ⟨r, hr, -, hB⟩ := (h : (fun (v : Value) (w' : World) => ∃ r, v = .pointer (some ⟨r, 0, none⟩) ∧ nB ≤ r ∧ BlkT w' r 27 #[.pointer none, .int .i64 0]) (.pointer (some ⟨s, 0, none⟩)) w'); simp only [Value.pointer.injEq, Option.some.injEq, Addr.mk.injEq, and_true] at hr; subst hr; exact hB.lt) bag_nil))
      refine wpPq_bagD [10, 11] (pick [(3, fun v w' => ∃ p, v = ExV p (pE p1) ∧ RInt w' p (valZ p1)), (7, fun v w' => ∃ p, v = ExV p (pE q1) ∧ RInt w' p (valZ q1)), (8, fun v w' => ∃ p, v = ExV p (pE p1 + pE q1) ∧ RInt w' p (valZ p1 * valZ q1)), (9, fun v w' => ∃ p, v = ExV p 0 ∧ RInt w' p 1), (10, fun v w' => ∃ r, v = .pointer (some ⟨r, 0, none⟩) ∧ nB ≤ r ∧ BlkT w' r 27 #[.pointer none, .int .i64 0]), (11, fun v w' => ∃ r, v = .pointer (some ⟨r, 0, none⟩) ∧ nB ≤ r ∧ BlkT w' r 27 #[.pointer none, .int .i64 0])]) (pick_mono (bag_cons (fun v w1 w2 ⟨p3', hv3, hi3⟩ hb => ⟨p3', hv3, hi3.below hb⟩) (bag_cons (fun v w1 w2 ⟨p7', hv7, hi7⟩ hb => ⟨p7', hv7, hi7.below hb⟩) (bag_cons (fun v w1 w2 ⟨p8', hv8, hi8⟩ hb => ⟨p8', hv8, hi8.below hb⟩) (bag_cons (fun v w1 w2 ⟨p9', hv9, hi9⟩ hb => ⟨p9', hv9, hi9.below hb⟩) (bag_cons (fun v w1 w2 ⟨r10, hv10, hl10, hB10⟩ hb => ⟨r10, hv10, hl10, hB10.below hb⟩) (bag_cons (fun v w1 w2 ⟨r11, hv11, hl11, hB11⟩ hb => ⟨r11, hv11, hl11, hB11.below hb⟩) bag_nil))))))) (fun w' hb => ((HS.out.later hb).at2 3)) (by simp [prE]) (fun _ _ _ _ _ h => h) (by decide) (bag_cons (bagD_one rfl (BagStep.other (by decide) ?_)) (bag_cons (bagD_one rfl (BagStep.other (by decide) ?_)) (bag_cons (bagD_one rfl (BagStep.other (by decide) ?_)) (bag_cons (bagD_one rfl (BagStep.other (by decide) ?_)) (bag_cons (bagD_one rfl (BagStep.fresh hAp ?_)) (bag_cons (bagD_one rfl (BagStep.fresh hAp ?_)) bag_nil)))))) bag_nil ?_
      · intro a' V hdf hin hdep hb1 K hK
        have i40 : a'.tmps[40]?.getD undef = .float .f64 p1 := evT (hin 40 (by decide))
        clear hin hdep hdf
        have HS := Lib.hid (HS.out.later hb1)
        have HSZ := Lib.hid (HSZ.out.below hb1)
        go_simp
        refine (HOp1.out _).mono ?_
        rintro e1 V2 ⟨p, rfl, -, hi, hb2⟩
        exact hK _ _ ⟨p, rfl, hi⟩ hb2
      · intro a' V hdf hin hdep hb1 K hK
        have i44 : a'.tmps[44]?.getD undef = .float .f64 q1 := evT (hin 44 (by decide))
        clear hin hdep hdf
        have HS := Lib.hid (HS.out.later hb1)
        have HSZ := Lib.hid (HSZ.out.below hb1)
        go_simp
        refine (HOq1.out _).mono ?_
        rintro e1 V2 ⟨p, rfl, -, hi, hb2⟩
        exact hK _ _ ⟨p, rfl, hi⟩ hb2
      · intro a' V hdf hin hdep hb1 K hK
        obtain ⟨p3', hv3, hi3⟩ : (fun (v : Value) (w' : World) => ∃ p, v = ExV p (pE p1) ∧ RInt w' p (valZ p1)) (a'.tmps.getD 41 undef) V := hdep ⟨3, .data⟩ (by simp) rfl 41 (by decide)
        replace hv3 := evT hv3
        obtain ⟨p7', hv7, hi7⟩ : (fun (v : Value) (w' : World) => ∃ p, v = ExV p (pE q1) ∧ RInt w' p (valZ q1)) (a'.tmps.getD 45 undef) V := hdep ⟨7, .data⟩ (by simp) rfl 45 (by decide)
        replace hv7 := evT hv7
        clear hin hdep hdf
        have HS := Lib.hid (HS.out.later hb1)
        have HSZ := Lib.hid (HSZ.out.below hb1)
        simp only [ExV] at hv3 hv7
        go_simp
        refine (HM3.out _ _ _ hi3 hi7).mono ?_
        rintro e1 V2 ⟨p, rfl, -, hi, hb2⟩
        exact hK _ _ ⟨p, rfl, hi⟩ hb2
      · intro a' V hdf hin hdep hb1 K hK
        clear hin hdep hdf
        have HS := Lib.hid (HS.out.later hb1)
        have HSZ := Lib.hid (HSZ.out.below hb1)
        go_simp
        refine (HWH.out _).mono ?_
        rintro e1 V2 ⟨p, rfl, -, hi, hb2⟩
        exact hK _ _ ⟨p, rfl, hi⟩ hb2
      · intro a' V hdf hin hdep hb1 K hK
        clear hin hdep hdf
        have HS := Lib.hid (HS.out.later hb1)
        have HSZ := Lib.hid (HSZ.out.below hb1)
        go_simp
        exact hK _ ⟨_, rfl, HSZ.out, BlkT.new V _ _⟩ (Below.alloc_self _ _)
      · intro a' V hdf hin hdep hb1 K hK
        clear hin hdep hdf
        have HS := Lib.hid (HS.out.later hb1)
        have HSZ := Lib.hid (HSZ.out.below hb1)
        go_simp
        exact hK _ ⟨_, rfl, HSZ.out, BlkT.new V _ _⟩ (Below.alloc_self _ _)
      intro vals B1 hb1 hR hNE
      replace HS := Lib.hid (HS.out.later hb1)
      replace HSZ := Lib.hid (HSZ.out.below hb1)
      obtain ⟨p3', hv3, hi3⟩ : (fun (v : Value) (w' : World) => ∃ p, v = ExV p (pE p1) ∧ RInt w' p (valZ p1)) (vals 3) B1 := hR (3, 41) (by decide)
      obtain ⟨p7', hv7, hi7⟩ : (fun (v : Value) (w' : World) => ∃ p, v = ExV p (pE q1) ∧ RInt w' p (valZ q1)) (vals 7) B1 := hR (7, 45) (by decide)
      obtain ⟨p8', hv8, hi8⟩ : (fun (v : Value) (w' : World) => ∃ p, v = ExV p (pE p1 + pE q1) ∧ RInt w' p (valZ p1 * valZ q1)) (vals 8) B1 := hR (8, 46) (by decide)
      obtain ⟨p9', hv9, hi9⟩ : (fun (v : Value) (w' : World) => ∃ p, v = ExV p 0 ∧ RInt w' p 1) (vals 9) B1 := hR (9, 47) (by decide)
      obtain ⟨r10, hv10, hl10, hB10⟩ : (fun (v : Value) (w' : World) => ∃ r, v = .pointer (some ⟨r, 0, none⟩) ∧ nB ≤ r ∧ BlkT w' r 27 #[.pointer none, .int .i64 0]) (vals 10) B1 := hR (10, 14) (by decide)
      obtain ⟨r11, hv11, hl11, hB11⟩ : (fun (v : Value) (w' : World) => ∃ r, v = .pointer (some ⟨r, 0, none⟩) ∧ nB ≤ r ∧ BlkT w' r 27 #[.pointer none, .int .i64 0]) (vals 11) B1 := hR (11, 15) (by decide)
      have hne10_11 := hNE (10, 14) (by decide) (11, 15) (by decide) (by decide) (by decide) (by decide) r10 r11 hv10 hv11
      clear hNE hAp
      clear hb1 hR
      simp only [prE, List.flatMap_cons, List.flatMap_nil, List.cons_append, List.nil_append, List.append_nil, setD, List.setIfInBounds_toArray, List.set_cons_zero, List.set_cons_succ, hv3, hv7, hv8, hv9, hv10, hv11]
      clear vals hv3 hv7 hv8 hv9 hv10 hv11
      refine wpPq_nil ?_
      simp only [List.drop_succ_cons, List.drop_zero]
      replace HS := Lib.hid (HS.out.fill2 hB10 hB11 (Nat.le_trans HSW.out hl10) (Nat.le_trans HSW.out hl11) hne10_11 (fun q m e => by have := HLB.out q m; omega) (fun q m e => by have := HLB.out q m; omega) (.pointer (some ⟨p8', 0, none⟩)) (.int .i64 (pE p1 + pE q1)) (.pointer (some ⟨p9', 0, none⟩)) (.int .i64 0))
      have HN := Lib.hid (RInt.st22 hi8 hB10 hB11 hne10_11 (.pointer (some ⟨p8', 0, none⟩)) (.int .i64 (pE p1 + pE q1)) (.pointer (some ⟨p9', 0, none⟩)) (.int .i64 0))
      have HD := Lib.hid (RInt.st22 hi9 hB10 hB11 hne10_11 (.pointer (some ⟨p8', 0, none⟩)) (.int .i64 (pE p1 + pE q1)) (.pointer (some ⟨p9', 0, none⟩)) (.int .i64 0))
      have HNE : Hid ((w.heap.size ≤ r10 ∧ w.heap.size ≤ r11) ∧ r10 ≠ r11 ∧ (∀ q ∈ ([(rx, 82, #[.float .f64 p0, .float .f64 p0, .float .f64 p1, .float .f64 p1]), (ry, 82, #[.float .f64 q0, .float .f64 q1, .float .f64 q0, .float .f64 q1]), (w.heap.size, 34, #[.float .f64 r0, .float .f64 r1])] : List (Nat × Nat × Array Value)), q.1 ≠ r10) ∧ ∀ q ∈ ([(rx, 82, #[.float .f64 p0, .float .f64 p0, .float .f64 p1, .float .f64 p1]), (ry, 82, #[.float .f64 q0, .float .f64 q1, .float .f64 q0, .float .f64 q1]), (w.heap.size, 34, #[.float .f64 r0, .float .f64 r1])] : List (Nat × Nat × Array Value)), q.1 ≠ r11) := Lib.hid ⟨⟨Nat.le_trans HSW.out hl10, Nat.le_trans HSW.out hl11⟩, hne10_11, (fun q m e => by have := HLB.out q m; omega), (fun q m e => by have := HLB.out q m; omega)⟩
      obtain ⟨f60, f61, f62, f63⟩ := hB10.cells2
      obtain ⟨f70, f71, f72, f73⟩ := hB11.cells2
      have hn1 : r11 ≠ r10 := hne10_11.symm
      clear HLB HSZ HSW hB10 hB11 hl10 hl11 hi3 hi7 hi8 hi9
      unfold ExV
      go_upto_region 8 with fail
      clear f60 f61 f62 f63 f70 f71 f72 f73 hne10_11 hn1
      generalize World.setCell (World.setCell (World.setCell (World.setCell _ _ _) _ _) _ _) _ _ = W4 at HS HN HD ⊢
      clear HN HD
      go_upto_region 9 with fail
      refine wp_region_pl (fun w' : World => w'.cell? ⟨rx, 3, none⟩ = some (.float .f64 p1) ∧ w'.cell? ⟨ry, 3, none⟩ = some (.float .f64 q1)) 7 (.take 0 (.take 1 (.take 2 (.take 4 (.take 5 (.take 6 (.run 3 (.nil)))))))) (by kernel_rfl) (by kernel_rfl) ?_
      replace HS := Lib.hid (HS.out.later (drew_below _))
      generalize World.drew _ = W5 at HS ⊢
      repeat (first | (refine wpPl_takeL (v := ?_) rfl rfl (fun _ _ _ h => h) rfl (fun w' hSw => ?_) (HS.out.tail.tail.at2 3) ?_; rotate_left; (focus (go_simp; with_reducible rfl)); simp only [setL]) | (refine wpPl_skipL rfl rfl (fun _ _ _ h => h) rfl (HS.out.tail.tail.at2 3) ?_; simp only [setL]))
      refine wpPl_goL rfl rfl fun K' hK => ?_
      go_simp
      refine (HOp1.out _).mono ?_
      rintro e1 W5v1 ⟨bx, rfl, -, hi1, hb1⟩
      replace HS := Lib.hid (HS.out.later hb1)
      have HN := Lib.hid hi1
      clear hi1
      unfold ExV
      refine hK _ _ (HS.out.tail.tail.at2 3) ?_
      clear hK K' hb1
      try simp only [Act.put, setL]
      repeat (first | (refine wpPl_takeL (v := ?_) rfl rfl (fun _ _ _ h => h) rfl (fun w' hSw => ?_) (HS.out.tail.tail.at2 3) ?_; rotate_left; (focus (go_simp; with_reducible rfl)); simp only [setL]) | (refine wpPl_skipL rfl rfl (fun _ _ _ h => h) rfl (HS.out.tail.tail.at2 3) ?_; simp only [setL]))
      refine wpPl_nil ?_
      simp only [List.drop_succ_cons, List.drop_zero]
      go_wp2_with fail
      refine (HOq1.out _).mono ?_
      rintro e6 w6 ⟨by', rfl, -, hi6, hb6⟩
      replace HS := Lib.hid (HS.out.later hb6)
      replace HN := Lib.hid (HN.out.below hb6)
      have HD := Lib.hid hi6
      clear hi6 hb6
      unfold ExV
      obtain ⟨f60, f61, f62, f63⟩ := (HS.out.get (.head _)).cells2
      obtain ⟨f70, f71, f72, f73⟩ := (HS.out.get (.tail _ (.head _))).cells2
      have hn1 : r10 ≠ r11 := HNE.out.2.1
      have hn2 : r11 ≠ r10 := HNE.out.2.1.symm
      have HB1 := Lib.hid (HS.out.get (.head _))
      have HB2 := Lib.hid (HS.out.get (.tail _ (.head _)))
      replace HS := Lib.hid (HS.out.tail.tail.fill2 HB1.out HB2.out HNE.out.1.1 HNE.out.1.2 HNE.out.2.1 HNE.out.2.2.1 HNE.out.2.2.2 (.pointer (some ⟨bx, 0, none⟩)) (.int .i64 (pE p1)) (.pointer (some ⟨by', 0, none⟩)) (.int .i64 (pE q1)))
      replace HN := Lib.hid (RInt.st22 HN.out HB1.out HB2.out HNE.out.2.1 (.pointer (some ⟨bx, 0, none⟩)) (.int .i64 (pE p1)) (.pointer (some ⟨by', 0, none⟩)) (.int .i64 (pE q1)))
      replace HD := Lib.hid (RInt.st22 HD.out HB1.out HB2.out HNE.out.2.1 (.pointer (some ⟨bx, 0, none⟩)) (.int .i64 (pE p1)) (.pointer (some ⟨by', 0, none⟩)) (.int .i64 (pE q1)))
      clear HB1 HB2
      go_upto_region 10 with fail
      clear f60 f61 f62 f63 f70 f71 f72 f73 hn1 hn2
      generalize World.setCell (World.setCell (World.setCell (World.setCell _ _ _) _ _) _ _) _ _ = W7 at HS HN HD ⊢
      have hcy := (HS.out.tail.tail.at2 3).2
      replace hcy : W7.cell? ⟨ry, 3, none⟩ = some (.float .f64 q1) := hcy
      go_upto_region 11 with fail
      clear hcy
      refine wp_region_pl (fun w' : World => (w'.cell? ⟨r10, 0, none⟩ = some (.pointer (some ⟨bx, 0, none⟩)) ∧ w'.cell? ⟨r10, 1, none⟩ = some (.int .i64 (pE p1))) ∧ w'.cell? ⟨r11, 0, none⟩ = some (.pointer (some ⟨by', 0, none⟩)) ∧ w'.cell? ⟨r11, 1, none⟩ = some (.int .i64 (pE q1))) 3 (.take 0 (.take 2 (.run 1 (.nil)))) (by kernel_rfl) (by kernel_rfl) ?_
      replace HS := Lib.hid (HS.out.later (drew_below _))
      replace HN := Lib.hid (HN.out.below (drew_below _))
      replace HD := Lib.hid (HD.out.below (drew_below _))
      generalize World.drew _ = W8 at HS HN HD ⊢
      repeat (first | (refine wpPl_takeL (v := ?_) rfl rfl (fun _ _ _ h => h) rfl (fun w' hSw => ?_) HS.out.two2 ?_; rotate_left; (focus (go_simp; with_reducible rfl)); simp only [setL]) | (refine wpPl_skipL rfl rfl (fun _ _ _ h => h) rfl HS.out.two2 ?_; simp only [setL]))
      refine wpPl_goL rfl rfl fun K' hK => ?_
      go_simp
      refine (rNegX_any _ _ _ _ HN.out).mono ?_
      rintro e1 W8v1 ⟨nx, rfl, -, hi1, hb1⟩
      replace HS := Lib.hid (HS.out.later hb1)
      replace HN := Lib.hid (HN.out.below hb1)
      replace HD := Lib.hid (HD.out.below hb1)
      replace HN := Lib.hid hi1
      clear hi1
      unfold ExV
      refine hK _ _ HS.out.two2 ?_
      clear hK K' hb1
      try simp only [Act.put, setL]
      repeat (first | (refine wpPl_takeL (v := ?_) rfl rfl (fun _ _ _ h => h) rfl (fun w' hSw => ?_) HS.out.two2 ?_; rotate_left; (focus (go_simp; with_reducible rfl)); simp only [setL]) | (refine wpPl_skipL rfl rfl (fun _ _ _ h => h) rfl HS.out.two2 ?_; simp only [setL]))
      refine wpPl_nil ?_
      simp only [List.drop_succ_cons, List.drop_zero]
      go_wp2_with fail
      refine (rNegX_any _ _ _ _ HD.out).mono ?_
      rintro e9 w9 ⟨ny, rfl, -, hi9, hb9⟩
      replace HS := Lib.hid (HS.out.later hb9)
      replace HN := Lib.hid (HN.out.below hb9)
      replace HD := Lib.hid hi9
      clear hi9 hb9
      unfold ExV
      obtain ⟨f60, f61, f62, f63⟩ := (HS.out.get (.head _)).cells2
      obtain ⟨f70, f71, f72, f73⟩ := (HS.out.get (.tail _ (.head _))).cells2
      have hn1 : r10 ≠ r11 := HNE.out.2.1
      have hn2 : r11 ≠ r10 := HNE.out.2.1.symm
      have HB1 := Lib.hid (HS.out.get (.head _))
      have HB2 := Lib.hid (HS.out.get (.tail _ (.head _)))
      replace HS := Lib.hid (HS.out.tail.tail.fill2 HB1.out HB2.out HNE.out.1.1 HNE.out.1.2 HNE.out.2.1 HNE.out.2.2.1 HNE.out.2.2.2 (.pointer (some ⟨nx, 0, none⟩)) (.int .i64 (pE p1)) (.pointer (some ⟨ny, 0, none⟩)) (.int .i64 (pE q1)))
      replace HN := Lib.hid (RInt.st22 HN.out HB1.out HB2.out HNE.out.2.1 (.pointer (some ⟨nx, 0, none⟩)) (.int .i64 (pE p1)) (.pointer (some ⟨ny, 0, none⟩)) (.int .i64 (pE q1)))
      replace HD := Lib.hid (RInt.st22 HD.out HB1.out HB2.out HNE.out.2.1 (.pointer (some ⟨nx, 0, none⟩)) (.int .i64 (pE p1)) (.pointer (some ⟨ny, 0, none⟩)) (.int .i64 (pE q1)))
      clear HB1 HB2
      go_upto_region 12 with fail
      clear f60 f61 f62 f63 f70 f71 f72 f73 hn1 hn2
      generalize World.setCell (World.setCell (World.setCell (World.setCell _ _ _) _ _) _ _) _ _ = W10 at HS HN HD ⊢
      clear HNE
      cases a
      · have HA2 : Hid (L3 = (L0 || L1 || L2 || L3)) := Lib.hid (by rw [show (L0 || L1 || L2 || L3) = ((L0 || L1 || L2) || L3) from rfl, ← HA.out, Bool.false_or])
        obtain ⟨⟨⟨g0, g1⟩, g2, g3⟩, g4, g5⟩ := HS.out.c125
        go_wp2_with fail
        refine (HL3.out _ _ _ HN.out HD.out).mono ?_
        rintro e41 w41 ⟨rfl, hb41⟩
        replace HS := Lib.hid (HS.out.later hb41)
        replace HN := Lib.hid (HN.out.below hb41)
        replace HD := Lib.hid (HD.out.below hb41)
        clear hb41
        clear g0 g1 g2 g3 g4 g5
        go_upto_region 13 with fail
        cases b
        · have HB2 : Hid (H3 = (H0 || H1 || H2 || H3)) := Lib.hid (by rw [show (H0 || H1 || H2 || H3) = ((H0 || H1 || H2) || H3) from rfl, ← HB.out, Bool.false_or])
          obtain ⟨⟨⟨g0, g1⟩, g2, g3⟩, g4, g5⟩ := HS.out.c125
          go_wp2_with fail
          refine (HH3.out _ _ _ HN.out HD.out).mono ?_
          rintro e42 w42 ⟨rfl, hb42⟩
          replace HS := Lib.hid (HS.out.later hb42)
          replace HN := Lib.hid (HN.out.below hb42)
          replace HD := Lib.hid (HD.out.below hb42)
          clear hb42
          clear g0 g1 g2 g3 g4 g5
          go_wp2
          go_roundw
          case rel => exact ⟨4, L3, H3, by go_num, rfl, rfl, Lib.hid (.inr (.inr (.inr (.inr (⟨rfl, HA2.out, HB2.out⟩))))), Lib.hid (HS.out.sub fun t m => .tail _ (.tail _ m))⟩
          case measure => simp [intOf]
        · have HB2 : Hid (true = (H0 || H1 || H2 || H3)) := Lib.hid (by rw [show (H0 || H1 || H2 || H3) = ((H0 || H1 || H2) || H3) from rfl, ← HB.out, Bool.true_or])
          go_wp2
          go_roundw
          case rel => exact ⟨4, L3, true, by go_num, rfl, rfl, Lib.hid (.inr (.inr (.inr (.inr (⟨rfl, HA2.out, HB2.out⟩))))), Lib.hid (HS.out.sub fun t m => .tail _ (.tail _ m))⟩
          case measure => simp [intOf]
      · have HA2 : Hid (true = (L0 || L1 || L2 || L3)) := Lib.hid (by rw [show (L0 || L1 || L2 || L3) = ((L0 || L1 || L2) || L3) from rfl, ← HA.out, Bool.true_or])
        go_upto_region 13 with fail
        cases b
        · have HB2 : Hid (H3 = (H0 || H1 || H2 || H3)) := Lib.hid (by rw [show (H0 || H1 || H2 || H3) = ((H0 || H1 || H2) || H3) from rfl, ← HB.out, Bool.false_or])
          obtain ⟨⟨⟨g0, g1⟩, g2, g3⟩, g4, g5⟩ := HS.out.c125
          go_wp2_with fail
          refine (HH3.out _ _ _ HN.out HD.out).mono ?_
          rintro e42 w42 ⟨rfl, hb42⟩
          replace HS := Lib.hid (HS.out.later hb42)
          replace HN := Lib.hid (HN.out.below hb42)
          replace HD := Lib.hid (HD.out.below hb42)
          clear hb42
          clear g0 g1 g2 g3 g4 g5
          go_wp2
          go_roundw
          case rel => exact ⟨4, true, H3, by go_num, rfl, rfl, Lib.hid (.inr (.inr (.inr (.inr (⟨rfl, HA2.out, HB2.out⟩))))), Lib.hid (HS.out.sub fun t m => .tail _ (.tail _ m))⟩
          case measure => simp [intOf]
        · have HB2 : Hid (true = (H0 || H1 || H2 || H3)) := Lib.hid (by rw [show (H0 || H1 || H2 || H3) = ((H0 || H1 || H2) || H3) from rfl, ← HB.out, Bool.true_or])
          go_wp2
          go_roundw
          case rel => exact ⟨4, true, true, by go_num, rfl, rfl, Lib.hid (.inr (.inr (.inr (.inr (⟨rfl, HA2.out, HB2.out⟩))))), Lib.hid (HS.out.sub fun t m => .tail _ (.tail _ m))⟩
          case measure => simp [intOf]
    · have ha2 := ha.trans HLT.out
      have hb2 := hb.trans HHT.out
      clear ha hb HJ HLT HHT
      subst ha2 hb2
      go_wp2
      go_ret
      exact ⟨rfl, HS.out.2⟩

end Go.Proofs.YtjokekmbnffpfaaGreatDoor
