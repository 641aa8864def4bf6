/- Walks: the law's words over, holds, rounded. Printed by wip/gen/iv19.py. -/
import Derived.Test.YtloohbkceppocaaGreatDoorIJ
import Derived.Test.YtloohbkceppocaaGreatDoorGX
import Derived.Test.YtloohbkceppocaaGreatDoorZBw1
namespace Go.Proofs.YtloohbkceppocaaGreatDoor
open Go.RowKit
attribute [local go_sem] run_store_f

theorem own_eq {x : Nat} (hx : W64 x) (nx : nanB x = false) : (FloatKind.f64.format.order x x == some Ordering.eq) = true := by
  have := eq_own hx nx
  have h2 := order_self x
  unfold F6 at h2
  rw [h2, nx]; rfl

set_option maxRecDepth 100000 in
set_option maxHeartbeats 12800000 in
theorem over_true (x y b c : Nat) (zn en zd ed : Int) (w : World) (hx : W64 x) (hy : W64 y) (nx : nanB x = false) (ny : nanB y = false) (x1 : x ≠ kInf) (y1 : y ≠ kSign + kInf) (hn : RInt w b zn) (hd : RInt w c zd) (bn : bl zn.natAbs ≤ 60000) (bd : bl zd.natAbs ≤ 60000) (n1 : -60000 ≤ en) (n2 : en ≤ 60000) (d1 : -60000 ≤ ed) (d2 : ed ≤ 60000)
    (h1 : finB x = true → (plZ (valZ x * zd) (pE x + ed) (-zn) en).sign ≤ 0) (h2 : finB y = true → 0 ≤ (plZ (valZ y * zd) (pE y + ed) (-zn) en).sign) :
    Calls Tryz.prog 59 #[.agg #[.float .f64 x, .float .f64 y], ExV b en, ExV c ed] w (Gives (.bool true) w) := by
  have HIX := Lib.hid fun W => linf_any x W hx nx
  have HIY := Lib.hid fun W => linf_any y W hy ny
  have HUP := Lib.hid fun W => isInf_up x W hx
  have HDN := Lib.hid fun W => isInf_down y W hy
  rw [decide_eq_false x1] at HUP
  rw [decide_eq_false y1] at HDN
  have ox := own_eq hx nx
  have oy := own_eq hy ny
  have ox2 : (FloatKind.f64.format.order x x != some Ordering.eq) = false := by rw [bne, ox]; rfl
  have oy2 : (FloatKind.f64.format.order y y != some Ordering.eq) = false := by rw [bne, oy]; rfl
  have HN := Lib.hid hn
  have HD := Lib.hid hd
  cases fx : finB x
  · rw [fx, Bool.not_false] at HIX
    cases fy : finB y
    · rw [fy, Bool.not_false] at HIY
      clear hx hy nx ny x1 y1 hn hd bn bd n1 n2 d1 d2 h1 h2 fx fy
      have HS := Lib.hid (Bks.new3 w 34 27 27 #[.float .f64 x, .float .f64 y] #[.pointer (some ⟨b, 0, none⟩), .int .i64 en] #[.pointer (some ⟨c, 0, none⟩), .int .i64 ed])
      have hb0 := below3 w (.cells #[.float .f64 x, .float .f64 y] 34) (.cells #[.pointer (some ⟨b, 0, none⟩), .int .i64 en] 27) (.cells #[.pointer (some ⟨c, 0, none⟩), .int .i64 ed] 27)
      replace HN := Lib.hid (HN.out.below hb0)
      replace HD := Lib.hid (HD.out.below hb0)
      clear hb0
      unfold ExV
      go_enter Tryz.func59, Tryz.ntmps59
      go_upto_region 1 with fail
      refine wp_region_pl (fun w' : World => ((w'.cell? ⟨w.heap.size, 0, none⟩ = some (.float .f64 x) ∧ w'.cell? ⟨w.heap.size, 1, none⟩ = some (.float .f64 y)) ∧ w'.cell? ⟨w.heap.size + 1, 0, none⟩ = some (.pointer (some ⟨b, 0, none⟩)) ∧ w'.cell? ⟨w.heap.size + 1, 1, none⟩ = some (.int .i64 en)) ∧ w'.cell? ⟨w.heap.size + 1 + 1, 0, none⟩ = some (.pointer (some ⟨c, 0, none⟩)) ∧ w'.cell? ⟨w.heap.size + 1 + 1, 1, none⟩ = some (.int .i64 ed)) 24 (.take 0 (.take 1 (.take 2 (.take 3 (.take 4 (.take 5 (.take 6 (.take 7 (.take 8 (.take 9 (.take 10 (.take 11 (.take 12 (.take 13 (.take 14 (.run 15 (.take 16 (.take 17 (.take 18 (.take 19 (.take 21 (.take 23 (.run 20 (.run 22 (.nil))))))))))))))))))))))))) (by kernel_rfl) (by kernel_rfl) ?_
      replace HS := Lib.hid (HS.out.later (drew_below _))
      replace HN := Lib.hid (HN.out.below (drew_below _))
      replace HD := Lib.hid (HD.out.below (drew_below _))
      generalize World.drew _ = W1 at HS HN HD ⊢
      repeat (first | (refine wpPl_takeL (v := ?_) rfl rfl (fun _ _ _ h => h) rfl (fun w' hSw => ?_) HS.out.tri ?_; rotate_left; (focus (go_simp; with_reducible rfl)); simp only [setL]) | (refine wpPl_skipL rfl rfl (fun _ _ _ h => h) rfl HS.out.tri ?_; simp only [setL]))
      refine wpPl_goL rfl rfl fun K' hK => ?_
      go_simp
      refine (HIX.out _).mono ?_
      rintro e1 W1v1 ⟨rfl, hb1⟩
      replace HS := Lib.hid (HS.out.later hb1)
      replace HN := Lib.hid (HN.out.below hb1)
      replace HD := Lib.hid (HD.out.below hb1)
      refine hK _ _ HS.out.tri ?_
      clear hK K' hb1
      try simp only [Act.put, setL]
      repeat (first | (refine wpPl_takeL (v := ?_) rfl rfl (fun _ _ _ h => h) rfl (fun w' hSw => ?_) HS.out.tri ?_; rotate_left; (focus (go_simp; with_reducible rfl)); simp only [setL]) | (refine wpPl_skipL rfl rfl (fun _ _ _ h => h) rfl HS.out.tri ?_; simp only [setL]))
      refine wpPl_idleL rfl rfl rfl HS.out.tri ?_
      simp only [setL]
      repeat (first | (refine wpPl_takeL (v := ?_) rfl rfl (fun _ _ _ h => h) rfl (fun w' hSw => ?_) HS.out.tri ?_; rotate_left; (focus (go_simp; with_reducible rfl)); simp only [setL]) | (refine wpPl_skipL rfl rfl (fun _ _ _ h => h) rfl HS.out.tri ?_; simp only [setL]))
      refine wpPl_idleL rfl rfl rfl HS.out.tri ?_
      simp only [setL]
      repeat (first | (refine wpPl_takeL (v := ?_) rfl rfl (fun _ _ _ h => h) rfl (fun w' hSw => ?_) HS.out.tri ?_; rotate_left; (focus (go_simp; with_reducible rfl)); simp only [setL]) | (refine wpPl_skipL rfl rfl (fun _ _ _ h => h) rfl HS.out.tri ?_; simp only [setL]))
      refine wpPl_nil ?_
      simp only [List.drop_succ_cons, List.drop_zero]
      obtain ⟨⟨⟨g0, g1⟩, g2, g3⟩, g4, g5⟩ := HS.out.tri
      go_wp2_with fail
      refine (HUP.out _).mono ?_
      rintro e22 w22 ⟨rfl, hb22⟩
      replace HS := Lib.hid (HS.out.later hb22)
      replace HN := Lib.hid (HN.out.below hb22)
      replace HD := Lib.hid (HD.out.below hb22)
      clear hb22
      clear g0 g1 g2 g3 g4 g5
      obtain ⟨⟨⟨g0, g1⟩, g2, g3⟩, g4, g5⟩ := HS.out.tri
      go_upto_region 3 with fail
      clear g0 g1 g2 g3 g4 g5
      refine wp_region_pl (fun w' : World => ((w'.cell? ⟨w.heap.size, 0, none⟩ = some (.float .f64 x) ∧ w'.cell? ⟨w.heap.size, 1, none⟩ = some (.float .f64 y)) ∧ w'.cell? ⟨w.heap.size + 1, 0, none⟩ = some (.pointer (some ⟨b, 0, none⟩)) ∧ w'.cell? ⟨w.heap.size + 1, 1, none⟩ = some (.int .i64 en)) ∧ w'.cell? ⟨w.heap.size + 1 + 1, 0, none⟩ = some (.pointer (some ⟨c, 0, none⟩)) ∧ w'.cell? ⟨w.heap.size + 1 + 1, 1, none⟩ = some (.int .i64 ed)) 15 (.take 0 (.take 1 (.run 2 (.take 3 (.take 4 (.take 5 (.take 6 (.run 7 (.take 8 (.take 9 (.take 10 (.take 12 (.take 14 (.run 11 (.run 13 (.nil)))))))))))))))) (by kernel_rfl) (by kernel_rfl) ?_
      replace HS := Lib.hid (HS.out.later (drew_below _))
      replace HN := Lib.hid (HN.out.below (drew_below _))
      replace HD := Lib.hid (HD.out.below (drew_below _))
      generalize World.drew _ = W3 at HS HN HD ⊢
      repeat (first | (refine wpPl_takeL (v := ?_) rfl rfl (fun _ _ _ h => h) rfl (fun w' hSw => ?_) HS.out.tri ?_; rotate_left; (focus (go_simp; with_reducible rfl)); simp only [setL]) | (refine wpPl_skipL rfl rfl (fun _ _ _ h => h) rfl HS.out.tri ?_; simp only [setL]))
      refine wpPl_goL rfl rfl fun K' hK => ?_
      go_simp
      refine (HDN.out _).mono ?_
      rintro e1 W3v1 ⟨rfl, hb1⟩
      replace HS := Lib.hid (HS.out.later hb1)
      replace HN := Lib.hid (HN.out.below hb1)
      replace HD := Lib.hid (HD.out.below hb1)
      refine hK _ _ HS.out.tri ?_
      clear hK K' hb1
      try simp only [Act.put, setL]
      repeat (first | (refine wpPl_takeL (v := ?_) rfl rfl (fun _ _ _ h => h) rfl (fun w' hSw => ?_) HS.out.tri ?_; rotate_left; (focus (go_simp; with_reducible rfl)); simp only [setL]) | (refine wpPl_skipL rfl rfl (fun _ _ _ h => h) rfl HS.out.tri ?_; simp only [setL]))
      refine wpPl_goL rfl rfl fun K' hK => ?_
      go_simp
      refine (HIY.out _).mono ?_
      rintro e1 W3v2 ⟨rfl, hb1⟩
      replace HS := Lib.hid (HS.out.later hb1)
      replace HN := Lib.hid (HN.out.below hb1)
      replace HD := Lib.hid (HD.out.below hb1)
      refine hK _ _ HS.out.tri ?_
      clear hK K' hb1
      try simp only [Act.put, setL]
      repeat (first | (refine wpPl_takeL (v := ?_) rfl rfl (fun _ _ _ h => h) rfl (fun w' hSw => ?_) HS.out.tri ?_; rotate_left; (focus (go_simp; with_reducible rfl)); simp only [setL]) | (refine wpPl_skipL rfl rfl (fun _ _ _ h => h) rfl HS.out.tri ?_; simp only [setL]))
      refine wpPl_idleL rfl rfl rfl HS.out.tri ?_
      simp only [setL]
      repeat (first | (refine wpPl_takeL (v := ?_) rfl rfl (fun _ _ _ h => h) rfl (fun w' hSw => ?_) HS.out.tri ?_; rotate_left; (focus (go_simp; with_reducible rfl)); simp only [setL]) | (refine wpPl_skipL rfl rfl (fun _ _ _ h => h) rfl HS.out.tri ?_; simp only [setL]))
      refine wpPl_idleL rfl rfl rfl HS.out.tri ?_
      simp only [setL]
      repeat (first | (refine wpPl_takeL (v := ?_) rfl rfl (fun _ _ _ h => h) rfl (fun w' hSw => ?_) HS.out.tri ?_; rotate_left; (focus (go_simp; with_reducible rfl)); simp only [setL]) | (refine wpPl_skipL rfl rfl (fun _ _ _ h => h) rfl HS.out.tri ?_; simp only [setL]))
      refine wpPl_nil ?_
      simp only [List.drop_succ_cons, List.drop_zero]
      obtain ⟨⟨⟨g0, g1⟩, g2, g3⟩, g4, g5⟩ := HS.out.tri
      go_wp2
      go_ret
      exact ⟨rfl, HS.out.2⟩
    · rw [fy, Bool.not_true] at HIY
      have HOY := Lib.hid fun W => rOf_any y W hy fy
      have ey := pE_bd fy
      have vy := val_bl (b := y)
      have my := bl_mul (valZ y).natAbs zd.natAbs
      rw [← Int.natAbs_mul] at my
      have HMY := Lib.hid fun p q W (h1 : RInt W p (valZ y)) (h2 : RInt W q zd) => rMulX_any p q _ (pE y) _ ed W h1 h2 (by omega) (by omega) (by omega) (by omega) (by omega) (by omega)
      have HCY := Lib.hid fun p q W (h1 : RInt W p (valZ y * zd)) (h2 : RInt W q zn) => rCmpX_any p q _ (pE y + ed) _ en W h1 h2 (by omega) (by omega) (by omega) (by omega) (by omega) (by omega)
      have ty := h2 fy
      generalize (plZ (valZ y * zd) (pE y + ed) (-zn) en).sign = SY at *
      have dy : decide (0 ≤ SY) = true := decide_eq_true ty
      clear ty ey vy my
      clear hx hy nx ny x1 y1 hn hd bn bd n1 n2 d1 d2 h1 h2 fx fy
      generalize valZ y = zy at *
      generalize pE y = ey at *
      generalize zy * zd = zyd at *
      generalize ey + ed = eyd at *
      have HS := Lib.hid (Bks.new3 w 34 27 27 #[.float .f64 x, .float .f64 y] #[.pointer (some ⟨b, 0, none⟩), .int .i64 en] #[.pointer (some ⟨c, 0, none⟩), .int .i64 ed])
      have hb0 := below3 w (.cells #[.float .f64 x, .float .f64 y] 34) (.cells #[.pointer (some ⟨b, 0, none⟩), .int .i64 en] 27) (.cells #[.pointer (some ⟨c, 0, none⟩), .int .i64 ed] 27)
      replace HN := Lib.hid (HN.out.below hb0)
      replace HD := Lib.hid (HD.out.below hb0)
      clear hb0
      unfold ExV
      go_enter Tryz.func59, Tryz.ntmps59
      go_upto_region 1 with fail
      refine wp_region_pl (fun w' : World => ((w'.cell? ⟨w.heap.size, 0, none⟩ = some (.float .f64 x) ∧ w'.cell? ⟨w.heap.size, 1, none⟩ = some (.float .f64 y)) ∧ w'.cell? ⟨w.heap.size + 1, 0, none⟩ = some (.pointer (some ⟨b, 0, none⟩)) ∧ w'.cell? ⟨w.heap.size + 1, 1, none⟩ = some (.int .i64 en)) ∧ w'.cell? ⟨w.heap.size + 1 + 1, 0, none⟩ = some (.pointer (some ⟨c, 0, none⟩)) ∧ w'.cell? ⟨w.heap.size + 1 + 1, 1, none⟩ = some (.int .i64 ed)) 24 (.take 0 (.take 1 (.take 2 (.take 3 (.take 4 (.take 5 (.take 6 (.take 7 (.take 8 (.take 9 (.take 10 (.take 11 (.take 12 (.take 13 (.take 14 (.run 15 (.take 16 (.take 17 (.take 18 (.take 19 (.take 21 (.take 23 (.run 20 (.run 22 (.nil))))))))))))))))))))))))) (by kernel_rfl) (by kernel_rfl) ?_
      replace HS := Lib.hid (HS.out.later (drew_below _))
      replace HN := Lib.hid (HN.out.below (drew_below _))
      replace HD := Lib.hid (HD.out.below (drew_below _))
      generalize World.drew _ = W1 at HS HN HD ⊢
      repeat (first | (refine wpPl_takeL (v := ?_) rfl rfl (fun _ _ _ h => h) rfl (fun w' hSw => ?_) HS.out.tri ?_; rotate_left; (focus (go_simp; with_reducible rfl)); simp only [setL]) | (refine wpPl_skipL rfl rfl (fun _ _ _ h => h) rfl HS.out.tri ?_; simp only [setL]))
      refine wpPl_goL rfl rfl fun K' hK => ?_
      go_simp
      refine (HIX.out _).mono ?_
      rintro e1 W1v1 ⟨rfl, hb1⟩
      replace HS := Lib.hid (HS.out.later hb1)
      replace HN := Lib.hid (HN.out.below hb1)
      replace HD := Lib.hid (HD.out.below hb1)
      refine hK _ _ HS.out.tri ?_
      clear hK K' hb1
      try simp only [Act.put, setL]
      repeat (first | (refine wpPl_takeL (v := ?_) rfl rfl (fun _ _ _ h => h) rfl (fun w' hSw => ?_) HS.out.tri ?_; rotate_left; (focus (go_simp; with_reducible rfl)); simp only [setL]) | (refine wpPl_skipL rfl rfl (fun _ _ _ h => h) rfl HS.out.tri ?_; simp only [setL]))
      refine wpPl_idleL rfl rfl rfl HS.out.tri ?_
      simp only [setL]
      repeat (first | (refine wpPl_takeL (v := ?_) rfl rfl (fun _ _ _ h => h) rfl (fun w' hSw => ?_) HS.out.tri ?_; rotate_left; (focus (go_simp; with_reducible rfl)); simp only [setL]) | (refine wpPl_skipL rfl rfl (fun _ _ _ h => h) rfl HS.out.tri ?_; simp only [setL]))
      refine wpPl_idleL rfl rfl rfl HS.out.tri ?_
      simp only [setL]
      repeat (first | (refine wpPl_takeL (v := ?_) rfl rfl (fun _ _ _ h => h) rfl (fun w' hSw => ?_) HS.out.tri ?_; rotate_left; (focus (go_simp; with_reducible rfl)); simp only [setL]) | (refine wpPl_skipL rfl rfl (fun _ _ _ h => h) rfl HS.out.tri ?_; simp only [setL]))
      refine wpPl_nil ?_
      simp only [List.drop_succ_cons, List.drop_zero]
      obtain ⟨⟨⟨g0, g1⟩, g2, g3⟩, g4, g5⟩ := HS.out.tri
      go_wp2_with fail
      refine (HUP.out _).mono ?_
      rintro e22 w22 ⟨rfl, hb22⟩
      replace HS := Lib.hid (HS.out.later hb22)
      replace HN := Lib.hid (HN.out.below hb22)
      replace HD := Lib.hid (HD.out.below hb22)
      clear hb22
      clear g0 g1 g2 g3 g4 g5
      obtain ⟨⟨⟨g0, g1⟩, g2, g3⟩, g4, g5⟩ := HS.out.tri
      go_upto_region 3 with fail
      clear g0 g1 g2 g3 g4 g5
      refine wp_region_pl (fun w' : World => ((w'.cell? ⟨w.heap.size, 0, none⟩ = some (.float .f64 x) ∧ w'.cell? ⟨w.heap.size, 1, none⟩ = some (.float .f64 y)) ∧ w'.cell? ⟨w.heap.size + 1, 0, none⟩ = some (.pointer (some ⟨b, 0, none⟩)) ∧ w'.cell? ⟨w.heap.size + 1, 1, none⟩ = some (.int .i64 en)) ∧ w'.cell? ⟨w.heap.size + 1 + 1, 0, none⟩ = some (.pointer (some ⟨c, 0, none⟩)) ∧ w'.cell? ⟨w.heap.size + 1 + 1, 1, none⟩ = some (.int .i64 ed)) 15 (.take 0 (.take 1 (.run 2 (.take 3 (.take 4 (.take 5 (.take 6 (.run 7 (.take 8 (.take 9 (.take 10 (.take 12 (.take 14 (.run 11 (.run 13 (.nil)))))))))))))))) (by kernel_rfl) (by kernel_rfl) ?_
      replace HS := Lib.hid (HS.out.later (drew_below _))
      replace HN := Lib.hid (HN.out.below (drew_below _))
      replace HD := Lib.hid (HD.out.below (drew_below _))
      generalize World.drew _ = W3 at HS HN HD ⊢
      repeat (first | (refine wpPl_takeL (v := ?_) rfl rfl (fun _ _ _ h => h) rfl (fun w' hSw => ?_) HS.out.tri ?_; rotate_left; (focus (go_simp; with_reducible rfl)); simp only [setL]) | (refine wpPl_skipL rfl rfl (fun _ _ _ h => h) rfl HS.out.tri ?_; simp only [setL]))
      refine wpPl_goL rfl rfl fun K' hK => ?_
      go_simp
      refine (HDN.out _).mono ?_
      rintro e1 W3v1 ⟨rfl, hb1⟩
      replace HS := Lib.hid (HS.out.later hb1)
      replace HN := Lib.hid (HN.out.below hb1)
      replace HD := Lib.hid (HD.out.below hb1)
      refine hK _ _ HS.out.tri ?_
      clear hK K' hb1
      try simp only [Act.put, setL]
      repeat (first | (refine wpPl_takeL (v := ?_) rfl rfl (fun _ _ _ h => h) rfl (fun w' hSw => ?_) HS.out.tri ?_; rotate_left; (focus (go_simp; with_reducible rfl)); simp only [setL]) | (refine wpPl_skipL rfl rfl (fun _ _ _ h => h) rfl HS.out.tri ?_; simp only [setL]))
      refine wpPl_goL rfl rfl fun K' hK => ?_
      go_simp
      refine (HIY.out _).mono ?_
      rintro e1 W3v2 ⟨rfl, hb1⟩
      replace HS := Lib.hid (HS.out.later hb1)
      replace HN := Lib.hid (HN.out.below hb1)
      replace HD := Lib.hid (HD.out.below hb1)
      refine hK _ _ HS.out.tri ?_
      clear hK K' hb1
      try simp only [Act.put, setL]
      repeat (first | (refine wpPl_takeL (v := ?_) rfl rfl (fun _ _ _ h => h) rfl (fun w' hSw => ?_) HS.out.tri ?_; rotate_left; (focus (go_simp; with_reducible rfl)); simp only [setL]) | (refine wpPl_skipL rfl rfl (fun _ _ _ h => h) rfl HS.out.tri ?_; simp only [setL]))
      refine wpPl_goL rfl rfl fun K' hK => ?_
      go_simp
      refine (HOY.out _).mono ?_
      rintro e1 W3v3 ⟨p3, rfl, -, hi1, hb1⟩
      replace HS := Lib.hid (HS.out.later hb1)
      replace HN := Lib.hid (HN.out.below hb1)
      replace HD := Lib.hid (HD.out.below hb1)
      have HZ3 := Lib.hid hi1
      clear hi1
      unfold ExV
      refine hK _ _ HS.out.tri ?_
      clear hK K' hb1
      try simp only [Act.put, setL]
      repeat (first | (refine wpPl_takeL (v := ?_) rfl rfl (fun _ _ _ h => h) rfl (fun w' hSw => ?_) HS.out.tri ?_; rotate_left; (focus (go_simp; with_reducible rfl)); simp only [setL]) | (refine wpPl_skipL rfl rfl (fun _ _ _ h => h) rfl HS.out.tri ?_; simp only [setL]))
      refine wpPl_goL rfl rfl fun K' hK => ?_
      go_simp
      refine (HMY.out _ _ _ HZ3.out HD.out).mono ?_
      rintro e1 W3v4 ⟨p4, rfl, -, hi1, hb1⟩
      replace HS := Lib.hid (HS.out.later hb1)
      replace HN := Lib.hid (HN.out.below hb1)
      replace HD := Lib.hid (HD.out.below hb1)
      clear HZ3
      have HZ4 := Lib.hid hi1
      clear hi1
      unfold ExV
      refine hK _ _ HS.out.tri ?_
      clear hK K' hb1
      try simp only [Act.put, setL]
      repeat (first | (refine wpPl_takeL (v := ?_) rfl rfl (fun _ _ _ h => h) rfl (fun w' hSw => ?_) HS.out.tri ?_; rotate_left; (focus (go_simp; with_reducible rfl)); simp only [setL]) | (refine wpPl_skipL rfl rfl (fun _ _ _ h => h) rfl HS.out.tri ?_; simp only [setL]))
      refine wpPl_nil ?_
      simp only [List.drop_succ_cons, List.drop_zero]
      obtain ⟨⟨⟨g0, g1⟩, g2, g3⟩, g4, g5⟩ := HS.out.tri
      go_wp2_with fail
      refine (HCY.out _ _ _ HZ4.out HN.out).mono ?_
      rintro e31 w31 ⟨rfl, hb31⟩
      replace HS := Lib.hid (HS.out.later hb31)
      replace HN := Lib.hid (HN.out.below hb31)
      replace HD := Lib.hid (HD.out.below hb31)
      clear HZ4
      clear hb31
      clear g0 g1 g2 g3 g4 g5
      obtain ⟨⟨⟨g0, g1⟩, g2, g3⟩, g4, g5⟩ := HS.out.tri
      go_wp2
      go_ret
      exact ⟨rfl, HS.out.2⟩
  · rw [fx, Bool.not_true] at HIX
    cases fy : finB y
    · rw [fy, Bool.not_false] at HIY
      have HOX := Lib.hid fun W => rOf_any x W hx fx
      have ex := pE_bd fx
      have vx := val_bl (b := x)
      have mx := bl_mul (valZ x).natAbs zd.natAbs
      rw [← Int.natAbs_mul] at mx
      have HMX := Lib.hid fun p q W (h1 : RInt W p (valZ x)) (h2 : RInt W q zd) => rMulX_any p q _ (pE x) _ ed W h1 h2 (by omega) (by omega) (by omega) (by omega) (by omega) (by omega)
      have HCX := Lib.hid fun p q W (h1 : RInt W p (valZ x * zd)) (h2 : RInt W q zn) => rCmpX_any p q _ (pE x + ed) _ en W h1 h2 (by omega) (by omega) (by omega) (by omega) (by omega) (by omega)
      have tx := h1 fx
      generalize (plZ (valZ x * zd) (pE x + ed) (-zn) en).sign = SX at *
      have dx : decide (0 < SX) = false := decide_eq_false (by omega)
      clear tx ex vx mx
      clear hx hy nx ny x1 y1 hn hd bn bd n1 n2 d1 d2 h1 h2 fx fy
      generalize valZ x = zx at *
      generalize pE x = ex at *
      generalize zx * zd = zxd at *
      generalize ex + ed = exd at *
      have HS := Lib.hid (Bks.new3 w 34 27 27 #[.float .f64 x, .float .f64 y] #[.pointer (some ⟨b, 0, none⟩), .int .i64 en] #[.pointer (some ⟨c, 0, none⟩), .int .i64 ed])
      have hb0 := below3 w (.cells #[.float .f64 x, .float .f64 y] 34) (.cells #[.pointer (some ⟨b, 0, none⟩), .int .i64 en] 27) (.cells #[.pointer (some ⟨c, 0, none⟩), .int .i64 ed] 27)
      replace HN := Lib.hid (HN.out.below hb0)
      replace HD := Lib.hid (HD.out.below hb0)
      clear hb0
      unfold ExV
      go_enter Tryz.func59, Tryz.ntmps59
      go_upto_region 1 with fail
      refine wp_region_pl (fun w' : World => ((w'.cell? ⟨w.heap.size, 0, none⟩ = some (.float .f64 x) ∧ w'.cell? ⟨w.heap.size, 1, none⟩ = some (.float .f64 y)) ∧ w'.cell? ⟨w.heap.size + 1, 0, none⟩ = some (.pointer (some ⟨b, 0, none⟩)) ∧ w'.cell? ⟨w.heap.size + 1, 1, none⟩ = some (.int .i64 en)) ∧ w'.cell? ⟨w.heap.size + 1 + 1, 0, none⟩ = some (.pointer (some ⟨c, 0, none⟩)) ∧ w'.cell? ⟨w.heap.size + 1 + 1, 1, none⟩ = some (.int .i64 ed)) 24 (.take 0 (.take 1 (.take 2 (.take 3 (.take 4 (.take 5 (.take 6 (.take 7 (.take 8 (.take 9 (.take 10 (.take 11 (.take 12 (.take 13 (.take 14 (.run 15 (.take 16 (.take 17 (.take 18 (.take 19 (.take 21 (.take 23 (.run 20 (.run 22 (.nil))))))))))))))))))))))))) (by kernel_rfl) (by kernel_rfl) ?_
      replace HS := Lib.hid (HS.out.later (drew_below _))
      replace HN := Lib.hid (HN.out.below (drew_below _))
      replace HD := Lib.hid (HD.out.below (drew_below _))
      generalize World.drew _ = W1 at HS HN HD ⊢
      repeat (first | (refine wpPl_takeL (v := ?_) rfl rfl (fun _ _ _ h => h) rfl (fun w' hSw => ?_) HS.out.tri ?_; rotate_left; (focus (go_simp; with_reducible rfl)); simp only [setL]) | (refine wpPl_skipL rfl rfl (fun _ _ _ h => h) rfl HS.out.tri ?_; simp only [setL]))
      refine wpPl_goL rfl rfl fun K' hK => ?_
      go_simp
      refine (HIX.out _).mono ?_
      rintro e1 W1v1 ⟨rfl, hb1⟩
      replace HS := Lib.hid (HS.out.later hb1)
      replace HN := Lib.hid (HN.out.below hb1)
      replace HD := Lib.hid (HD.out.below hb1)
      refine hK _ _ HS.out.tri ?_
      clear hK K' hb1
      try simp only [Act.put, setL]
      repeat (first | (refine wpPl_takeL (v := ?_) rfl rfl (fun _ _ _ h => h) rfl (fun w' hSw => ?_) HS.out.tri ?_; rotate_left; (focus (go_simp; with_reducible rfl)); simp only [setL]) | (refine wpPl_skipL rfl rfl (fun _ _ _ h => h) rfl HS.out.tri ?_; simp only [setL]))
      refine wpPl_goL rfl rfl fun K' hK => ?_
      go_simp
      refine (HOX.out _).mono ?_
      rintro e1 W1v2 ⟨p1, rfl, -, hi1, hb1⟩
      replace HS := Lib.hid (HS.out.later hb1)
      replace HN := Lib.hid (HN.out.below hb1)
      replace HD := Lib.hid (HD.out.below hb1)
      have HZ1 := Lib.hid hi1
      clear hi1
      unfold ExV
      refine hK _ _ HS.out.tri ?_
      clear hK K' hb1
      try simp only [Act.put, setL]
      repeat (first | (refine wpPl_takeL (v := ?_) rfl rfl (fun _ _ _ h => h) rfl (fun w' hSw => ?_) HS.out.tri ?_; rotate_left; (focus (go_simp; with_reducible rfl)); simp only [setL]) | (refine wpPl_skipL rfl rfl (fun _ _ _ h => h) rfl HS.out.tri ?_; simp only [setL]))
      refine wpPl_goL rfl rfl fun K' hK => ?_
      go_simp
      refine (HMX.out _ _ _ HZ1.out HD.out).mono ?_
      rintro e1 W1v3 ⟨p2, rfl, -, hi1, hb1⟩
      replace HS := Lib.hid (HS.out.later hb1)
      replace HN := Lib.hid (HN.out.below hb1)
      replace HD := Lib.hid (HD.out.below hb1)
      clear HZ1
      have HZ2 := Lib.hid hi1
      clear hi1
      unfold ExV
      refine hK _ _ HS.out.tri ?_
      clear hK K' hb1
      try simp only [Act.put, setL]
      repeat (first | (refine wpPl_takeL (v := ?_) rfl rfl (fun _ _ _ h => h) rfl (fun w' hSw => ?_) HS.out.tri ?_; rotate_left; (focus (go_simp; with_reducible rfl)); simp only [setL]) | (refine wpPl_skipL rfl rfl (fun _ _ _ h => h) rfl HS.out.tri ?_; simp only [setL]))
      refine wpPl_nil ?_
      simp only [List.drop_succ_cons, List.drop_zero]
      obtain ⟨⟨⟨g0, g1⟩, g2, g3⟩, g4, g5⟩ := HS.out.tri
      go_wp2_with fail
      refine (HCX.out _ _ _ HZ2.out HN.out).mono ?_
      rintro e21 w21 ⟨rfl, hb21⟩
      replace HS := Lib.hid (HS.out.later hb21)
      replace HN := Lib.hid (HN.out.below hb21)
      replace HD := Lib.hid (HD.out.below hb21)
      clear HZ2
      clear hb21
      clear g0 g1 g2 g3 g4 g5
      obtain ⟨⟨⟨g0, g1⟩, g2, g3⟩, g4, g5⟩ := HS.out.tri
      go_wp2_with fail
      refine (HUP.out _).mono ?_
      rintro e22 w22 ⟨rfl, hb22⟩
      replace HS := Lib.hid (HS.out.later hb22)
      replace HN := Lib.hid (HN.out.below hb22)
      replace HD := Lib.hid (HD.out.below hb22)
      clear hb22
      clear g0 g1 g2 g3 g4 g5
      obtain ⟨⟨⟨g0, g1⟩, g2, g3⟩, g4, g5⟩ := HS.out.tri
      go_upto_region 3 with fail
      clear g0 g1 g2 g3 g4 g5
      refine wp_region_pl (fun w' : World => ((w'.cell? ⟨w.heap.size, 0, none⟩ = some (.float .f64 x) ∧ w'.cell? ⟨w.heap.size, 1, none⟩ = some (.float .f64 y)) ∧ w'.cell? ⟨w.heap.size + 1, 0, none⟩ = some (.pointer (some ⟨b, 0, none⟩)) ∧ w'.cell? ⟨w.heap.size + 1, 1, none⟩ = some (.int .i64 en)) ∧ w'.cell? ⟨w.heap.size + 1 + 1, 0, none⟩ = some (.pointer (some ⟨c, 0, none⟩)) ∧ w'.cell? ⟨w.heap.size + 1 + 1, 1, none⟩ = some (.int .i64 ed)) 15 (.take 0 (.take 1 (.run 2 (.take 3 (.take 4 (.take 5 (.take 6 (.run 7 (.take 8 (.take 9 (.take 10 (.take 12 (.take 14 (.run 11 (.run 13 (.nil)))))))))))))))) (by kernel_rfl) (by kernel_rfl) ?_
      replace HS := Lib.hid (HS.out.later (drew_below _))
      replace HN := Lib.hid (HN.out.below (drew_below _))
      replace HD := Lib.hid (HD.out.below (drew_below _))
      generalize World.drew _ = W3 at HS HN HD ⊢
      repeat (first | (refine wpPl_takeL (v := ?_) rfl rfl (fun _ _ _ h => h) rfl (fun w' hSw => ?_) HS.out.tri ?_; rotate_left; (focus (go_simp; with_reducible rfl)); simp only [setL]) | (refine wpPl_skipL rfl rfl (fun _ _ _ h => h) rfl HS.out.tri ?_; simp only [setL]))
      refine wpPl_goL rfl rfl fun K' hK => ?_
      go_simp
      refine (HDN.out _).mono ?_
      rintro e1 W3v1 ⟨rfl, hb1⟩
      replace HS := Lib.hid (HS.out.later hb1)
      replace HN := Lib.hid (HN.out.below hb1)
      replace HD := Lib.hid (HD.out.below hb1)
      refine hK _ _ HS.out.tri ?_
      clear hK K' hb1
      try simp only [Act.put, setL]
      repeat (first | (refine wpPl_takeL (v := ?_) rfl rfl (fun _ _ _ h => h) rfl (fun w' hSw => ?_) HS.out.tri ?_; rotate_left; (focus (go_simp; with_reducible rfl)); simp only [setL]) | (refine wpPl_skipL rfl rfl (fun _ _ _ h => h) rfl HS.out.tri ?_; simp only [setL]))
      refine wpPl_goL rfl rfl fun K' hK => ?_
      go_simp
      refine (HIY.out _).mono ?_
      rintro e1 W3v2 ⟨rfl, hb1⟩
      replace HS := Lib.hid (HS.out.later hb1)
      replace HN := Lib.hid (HN.out.below hb1)
      replace HD := Lib.hid (HD.out.below hb1)
      refine hK _ _ HS.out.tri ?_
      clear hK K' hb1
      try simp only [Act.put, setL]
      repeat (first | (refine wpPl_takeL (v := ?_) rfl rfl (fun _ _ _ h => h) rfl (fun w' hSw => ?_) HS.out.tri ?_; rotate_left; (focus (go_simp; with_reducible rfl)); simp only [setL]) | (refine wpPl_skipL rfl rfl (fun _ _ _ h => h) rfl HS.out.tri ?_; simp only [setL]))
      refine wpPl_idleL rfl rfl rfl HS.out.tri ?_
      simp only [setL]
      repeat (first | (refine wpPl_takeL (v := ?_) rfl rfl (fun _ _ _ h => h) rfl (fun w' hSw => ?_) HS.out.tri ?_; rotate_left; (focus (go_simp; with_reducible rfl)); simp only [setL]) | (refine wpPl_skipL rfl rfl (fun _ _ _ h => h) rfl HS.out.tri ?_; simp only [setL]))
      refine wpPl_idleL rfl rfl rfl HS.out.tri ?_
      simp only [setL]
      repeat (first | (refine wpPl_takeL (v := ?_) rfl rfl (fun _ _ _ h => h) rfl (fun w' hSw => ?_) HS.out.tri ?_; rotate_left; (focus (go_simp; with_reducible rfl)); simp only [setL]) | (refine wpPl_skipL rfl rfl (fun _ _ _ h => h) rfl HS.out.tri ?_; simp only [setL]))
      refine wpPl_nil ?_
      simp only [List.drop_succ_cons, List.drop_zero]
      obtain ⟨⟨⟨g0, g1⟩, g2, g3⟩, g4, g5⟩ := HS.out.tri
      go_wp2
      go_ret
      exact ⟨rfl, HS.out.2⟩
    · rw [fy, Bool.not_true] at HIY
      have HOX := Lib.hid fun W => rOf_any x W hx fx
      have ex := pE_bd fx
      have vx := val_bl (b := x)
      have mx := bl_mul (valZ x).natAbs zd.natAbs
      rw [← Int.natAbs_mul] at mx
      have HMX := Lib.hid fun p q W (h1 : RInt W p (valZ x)) (h2 : RInt W q zd) => rMulX_any p q _ (pE x) _ ed W h1 h2 (by omega) (by omega) (by omega) (by omega) (by omega) (by omega)
      have HCX := Lib.hid fun p q W (h1 : RInt W p (valZ x * zd)) (h2 : RInt W q zn) => rCmpX_any p q _ (pE x + ed) _ en W h1 h2 (by omega) (by omega) (by omega) (by omega) (by omega) (by omega)
      have tx := h1 fx
      generalize (plZ (valZ x * zd) (pE x + ed) (-zn) en).sign = SX at *
      have dx : decide (0 < SX) = false := decide_eq_false (by omega)
      clear tx ex vx mx
      have HOY := Lib.hid fun W => rOf_any y W hy fy
      have ey := pE_bd fy
      have vy := val_bl (b := y)
      have my := bl_mul (valZ y).natAbs zd.natAbs
      rw [← Int.natAbs_mul] at my
      have HMY := Lib.hid fun p q W (h1 : RInt W p (valZ y)) (h2 : RInt W q zd) => rMulX_any p q _ (pE y) _ ed W h1 h2 (by omega) (by omega) (by omega) (by omega) (by omega) (by omega)
      have HCY := Lib.hid fun p q W (h1 : RInt W p (valZ y * zd)) (h2 : RInt W q zn) => rCmpX_any p q _ (pE y + ed) _ en W h1 h2 (by omega) (by omega) (by omega) (by omega) (by omega) (by omega)
      have ty := h2 fy
      generalize (plZ (valZ y * zd) (pE y + ed) (-zn) en).sign = SY at *
      have dy : decide (0 ≤ SY) = true := decide_eq_true ty
      clear ty ey vy my
      clear hx hy nx ny x1 y1 hn hd bn bd n1 n2 d1 d2 h1 h2 fx fy
      generalize valZ x = zx at *
      generalize pE x = ex at *
      generalize zx * zd = zxd at *
      generalize ex + ed = exd at *
      generalize valZ y = zy at *
      generalize pE y = ey at *
      generalize zy * zd = zyd at *
      generalize ey + ed = eyd at *
      have HS := Lib.hid (Bks.new3 w 34 27 27 #[.float .f64 x, .float .f64 y] #[.pointer (some ⟨b, 0, none⟩), .int .i64 en] #[.pointer (some ⟨c, 0, none⟩), .int .i64 ed])
      have hb0 := below3 w (.cells #[.float .f64 x, .float .f64 y] 34) (.cells #[.pointer (some ⟨b, 0, none⟩), .int .i64 en] 27) (.cells #[.pointer (some ⟨c, 0, none⟩), .int .i64 ed] 27)
      replace HN := Lib.hid (HN.out.below hb0)
      replace HD := Lib.hid (HD.out.below hb0)
      clear hb0
      unfold ExV
      go_enter Tryz.func59, Tryz.ntmps59
      go_upto_region 1 with fail
      refine wp_region_pl (fun w' : World => ((w'.cell? ⟨w.heap.size, 0, none⟩ = some (.float .f64 x) ∧ w'.cell? ⟨w.heap.size, 1, none⟩ = some (.float .f64 y)) ∧ w'.cell? ⟨w.heap.size + 1, 0, none⟩ = some (.pointer (some ⟨b, 0, none⟩)) ∧ w'.cell? ⟨w.heap.size + 1, 1, none⟩ = some (.int .i64 en)) ∧ w'.cell? ⟨w.heap.size + 1 + 1, 0, none⟩ = some (.pointer (some ⟨c, 0, none⟩)) ∧ w'.cell? ⟨w.heap.size + 1 + 1, 1, none⟩ = some (.int .i64 ed)) 24 (.take 0 (.take 1 (.take 2 (.take 3 (.take 4 (.take 5 (.take 6 (.take 7 (.take 8 (.take 9 (.take 10 (.take 11 (.take 12 (.take 13 (.take 14 (.run 15 (.take 16 (.take 17 (.take 18 (.take 19 (.take 21 (.take 23 (.run 20 (.run 22 (.nil))))))))))))))))))))))))) (by kernel_rfl) (by kernel_rfl) ?_
      replace HS := Lib.hid (HS.out.later (drew_below _))
      replace HN := Lib.hid (HN.out.below (drew_below _))
      replace HD := Lib.hid (HD.out.below (drew_below _))
      generalize World.drew _ = W1 at HS HN HD ⊢
      repeat (first | (refine wpPl_takeL (v := ?_) rfl rfl (fun _ _ _ h => h) rfl (fun w' hSw => ?_) HS.out.tri ?_; rotate_left; (focus (go_simp; with_reducible rfl)); simp only [setL]) | (refine wpPl_skipL rfl rfl (fun _ _ _ h => h) rfl HS.out.tri ?_; simp only [setL]))
      refine wpPl_goL rfl rfl fun K' hK => ?_
      go_simp
      refine (HIX.out _).mono ?_
      rintro e1 W1v1 ⟨rfl, hb1⟩
      replace HS := Lib.hid (HS.out.later hb1)
      replace HN := Lib.hid (HN.out.below hb1)
      replace HD := Lib.hid (HD.out.below hb1)
      refine hK _ _ HS.out.tri ?_
      clear hK K' hb1
      try simp only [Act.put, setL]
      repeat (first | (refine wpPl_takeL (v := ?_) rfl rfl (fun _ _ _ h => h) rfl (fun w' hSw => ?_) HS.out.tri ?_; rotate_left; (focus (go_simp; with_reducible rfl)); simp only [setL]) | (refine wpPl_skipL rfl rfl (fun _ _ _ h => h) rfl HS.out.tri ?_; simp only [setL]))
      refine wpPl_goL rfl rfl fun K' hK => ?_
      go_simp
      refine (HOX.out _).mono ?_
      rintro e1 W1v2 ⟨p1, rfl, -, hi1, hb1⟩
      replace HS := Lib.hid (HS.out.later hb1)
      replace HN := Lib.hid (HN.out.below hb1)
      replace HD := Lib.hid (HD.out.below hb1)
      have HZ1 := Lib.hid hi1
      clear hi1
      unfold ExV
      refine hK _ _ HS.out.tri ?_
      clear hK K' hb1
      try simp only [Act.put, setL]
      repeat (first | (refine wpPl_takeL (v := ?_) rfl rfl (fun _ _ _ h => h) rfl (fun w' hSw => ?_) HS.out.tri ?_; rotate_left; (focus (go_simp; with_reducible rfl)); simp only [setL]) | (refine wpPl_skipL rfl rfl (fun _ _ _ h => h) rfl HS.out.tri ?_; simp only [setL]))
      refine wpPl_goL rfl rfl fun K' hK => ?_
      go_simp
      refine (HMX.out _ _ _ HZ1.out HD.out).mono ?_
      rintro e1 W1v3 ⟨p2, rfl, -, hi1, hb1⟩
      replace HS := Lib.hid (HS.out.later hb1)
      replace HN := Lib.hid (HN.out.below hb1)
      replace HD := Lib.hid (HD.out.below hb1)
      clear HZ1
      have HZ2 := Lib.hid hi1
      clear hi1
      unfold ExV
      refine hK _ _ HS.out.tri ?_
      clear hK K' hb1
      try simp only [Act.put, setL]
      repeat (first | (refine wpPl_takeL (v := ?_) rfl rfl (fun _ _ _ h => h) rfl (fun w' hSw => ?_) HS.out.tri ?_; rotate_left; (focus (go_simp; with_reducible rfl)); simp only [setL]) | (refine wpPl_skipL rfl rfl (fun _ _ _ h => h) rfl HS.out.tri ?_; simp only [setL]))
      refine wpPl_nil ?_
      simp only [List.drop_succ_cons, List.drop_zero]
      obtain ⟨⟨⟨g0, g1⟩, g2, g3⟩, g4, g5⟩ := HS.out.tri
      go_wp2_with fail
      refine (HCX.out _ _ _ HZ2.out HN.out).mono ?_
      rintro e21 w21 ⟨rfl, hb21⟩
      replace HS := Lib.hid (HS.out.later hb21)
      replace HN := Lib.hid (HN.out.below hb21)
      replace HD := Lib.hid (HD.out.below hb21)
      clear HZ2
      clear hb21
      clear g0 g1 g2 g3 g4 g5
      obtain ⟨⟨⟨g0, g1⟩, g2, g3⟩, g4, g5⟩ := HS.out.tri
      go_wp2_with fail
      refine (HUP.out _).mono ?_
      rintro e22 w22 ⟨rfl, hb22⟩
      replace HS := Lib.hid (HS.out.later hb22)
      replace HN := Lib.hid (HN.out.below hb22)
      replace HD := Lib.hid (HD.out.below hb22)
      clear hb22
      clear g0 g1 g2 g3 g4 g5
      obtain ⟨⟨⟨g0, g1⟩, g2, g3⟩, g4, g5⟩ := HS.out.tri
      go_upto_region 3 with fail
      clear g0 g1 g2 g3 g4 g5
      refine wp_region_pl (fun w' : World => ((w'.cell? ⟨w.heap.size, 0, none⟩ = some (.float .f64 x) ∧ w'.cell? ⟨w.heap.size, 1, none⟩ = some (.float .f64 y)) ∧ w'.cell? ⟨w.heap.size + 1, 0, none⟩ = some (.pointer (some ⟨b, 0, none⟩)) ∧ w'.cell? ⟨w.heap.size + 1, 1, none⟩ = some (.int .i64 en)) ∧ w'.cell? ⟨w.heap.size + 1 + 1, 0, none⟩ = some (.pointer (some ⟨c, 0, none⟩)) ∧ w'.cell? ⟨w.heap.size + 1 + 1, 1, none⟩ = some (.int .i64 ed)) 15 (.take 0 (.take 1 (.run 2 (.take 3 (.take 4 (.take 5 (.take 6 (.run 7 (.take 8 (.take 9 (.take 10 (.take 12 (.take 14 (.run 11 (.run 13 (.nil)))))))))))))))) (by kernel_rfl) (by kernel_rfl) ?_
      replace HS := Lib.hid (HS.out.later (drew_below _))
      replace HN := Lib.hid (HN.out.below (drew_below _))
      replace HD := Lib.hid (HD.out.below (drew_below _))
      generalize World.drew _ = W3 at HS HN HD ⊢
      repeat (first | (refine wpPl_takeL (v := ?_) rfl rfl (fun _ _ _ h => h) rfl (fun w' hSw => ?_) HS.out.tri ?_; rotate_left; (focus (go_simp; with_reducible rfl)); simp only [setL]) | (refine wpPl_skipL rfl rfl (fun _ _ _ h => h) rfl HS.out.tri ?_; simp only [setL]))
      refine wpPl_goL rfl rfl fun K' hK => ?_
      go_simp
      refine (HDN.out _).mono ?_
      rintro e1 W3v1 ⟨rfl, hb1⟩
      replace HS := Lib.hid (HS.out.later hb1)
      replace HN := Lib.hid (HN.out.below hb1)
      replace HD := Lib.hid (HD.out.below hb1)
      refine hK _ _ HS.out.tri ?_
      clear hK K' hb1
      try simp only [Act.put, setL]
      repeat (first | (refine wpPl_takeL (v := ?_) rfl rfl (fun _ _ _ h => h) rfl (fun w' hSw => ?_) HS.out.tri ?_; rotate_left; (focus (go_simp; with_reducible rfl)); simp only [setL]) | (refine wpPl_skipL rfl rfl (fun _ _ _ h => h) rfl HS.out.tri ?_; simp only [setL]))
      refine wpPl_goL rfl rfl fun K' hK => ?_
      go_simp
      refine (HIY.out _).mono ?_
      rintro e1 W3v2 ⟨rfl, hb1⟩
      replace HS := Lib.hid (HS.out.later hb1)
      replace HN := Lib.hid (HN.out.below hb1)
      replace HD := Lib.hid (HD.out.below hb1)
      refine hK _ _ HS.out.tri ?_
      clear hK K' hb1
      try simp only [Act.put, setL]
      repeat (first | (refine wpPl_takeL (v := ?_) rfl rfl (fun _ _ _ h => h) rfl (fun w' hSw => ?_) HS.out.tri ?_; rotate_left; (focus (go_simp; with_reducible rfl)); simp only [setL]) | (refine wpPl_skipL rfl rfl (fun _ _ _ h => h) rfl HS.out.tri ?_; simp only [setL]))
      refine wpPl_goL rfl rfl fun K' hK => ?_
      go_simp
      refine (HOY.out _).mono ?_
      rintro e1 W3v3 ⟨p3, rfl, -, hi1, hb1⟩
      replace HS := Lib.hid (HS.out.later hb1)
      replace HN := Lib.hid (HN.out.below hb1)
      replace HD := Lib.hid (HD.out.below hb1)
      have HZ3 := Lib.hid hi1
      clear hi1
      unfold ExV
      refine hK _ _ HS.out.tri ?_
      clear hK K' hb1
      try simp only [Act.put, setL]
      repeat (first | (refine wpPl_takeL (v := ?_) rfl rfl (fun _ _ _ h => h) rfl (fun w' hSw => ?_) HS.out.tri ?_; rotate_left; (focus (go_simp; with_reducible rfl)); simp only [setL]) | (refine wpPl_skipL rfl rfl (fun _ _ _ h => h) rfl HS.out.tri ?_; simp only [setL]))
      refine wpPl_goL rfl rfl fun K' hK => ?_
      go_simp
      refine (HMY.out _ _ _ HZ3.out HD.out).mono ?_
      rintro e1 W3v4 ⟨p4, rfl, -, hi1, hb1⟩
      replace HS := Lib.hid (HS.out.later hb1)
      replace HN := Lib.hid (HN.out.below hb1)
      replace HD := Lib.hid (HD.out.below hb1)
      clear HZ3
      have HZ4 := Lib.hid hi1
      clear hi1
      unfold ExV
      refine hK _ _ HS.out.tri ?_
      clear hK K' hb1
      try simp only [Act.put, setL]
      repeat (first | (refine wpPl_takeL (v := ?_) rfl rfl (fun _ _ _ h => h) rfl (fun w' hSw => ?_) HS.out.tri ?_; rotate_left; (focus (go_simp; with_reducible rfl)); simp only [setL]) | (refine wpPl_skipL rfl rfl (fun _ _ _ h => h) rfl HS.out.tri ?_; simp only [setL]))
      refine wpPl_nil ?_
      simp only [List.drop_succ_cons, List.drop_zero]
      obtain ⟨⟨⟨g0, g1⟩, g2, g3⟩, g4, g5⟩ := HS.out.tri
      go_wp2_with fail
      refine (HCY.out _ _ _ HZ4.out HN.out).mono ?_
      rintro e31 w31 ⟨rfl, hb31⟩
      replace HS := Lib.hid (HS.out.later hb31)
      replace HN := Lib.hid (HN.out.below hb31)
      replace HD := Lib.hid (HD.out.below hb31)
      clear HZ4
      clear hb31
      clear g0 g1 g2 g3 g4 g5
      obtain ⟨⟨⟨g0, g1⟩, g2, g3⟩, g4, g5⟩ := HS.out.tri
      go_wp2
      go_ret
      exact ⟨rfl, HS.out.2⟩

set_option maxRecDepth 100000 in
set_option maxHeartbeats 3200000 in
theorem holds_true (x y b : Nat) (zn en : Int) (w : World) (hx : W64 x) (hy : W64 y) (nx : nanB x = false) (ny : nanB y = false) (x1 : x ≠ kInf) (y1 : y ≠ kSign + kInf) (hn : RInt w b zn) (bn : bl zn.natAbs ≤ 60000) (n1 : -60000 ≤ en) (n2 : en ≤ 60000)
    (h1 : finB x = true → (plZ (valZ x * 1) (pE x + 0) (-zn) en).sign ≤ 0) (h2 : finB y = true → 0 ≤ (plZ (valZ y * 1) (pE y + 0) (-zn) en).sign) :
    Calls Tryz.prog 17 #[.agg #[.float .f64 x, .float .f64 y], ExV b en] w (Gives (.bool true) w) := by
  have HWH := Lib.hid fun W => rWhole_any 1 W (by decide) (by decide)
  have HOV := Lib.hid fun p q W (g1 : RInt W p zn) (g2 : RInt W q 1) => over_true x y p q zn en 1 0 W hx hy nx ny x1 y1 g1 g2 bn (by decide) n1 n2 (by decide) (by decide) h1 h2
  have HN := Lib.hid hn
  clear hx hy nx ny x1 y1 hn bn n1 n2 h1 h2
  have HS := Lib.hid (Bks.new2t w 34 27 #[.float .f64 x, .float .f64 y] #[.pointer (some ⟨b, 0, none⟩), .int .i64 en])
  have hb0 := below2 w (.cells #[.float .f64 x, .float .f64 y] 34) (.cells #[.pointer (some ⟨b, 0, none⟩), .int .i64 en] 27)
  replace HN := Lib.hid (HN.out.below hb0)
  clear hb0
  unfold ExV at *
  go_enter Tryz.func17, Tryz.ntmps17
  go_upto_region 1 with fail
  refine wp_region_pl (fun w' : World => (w'.cell? ⟨w.heap.size, 0, none⟩ = some (.float .f64 x) ∧ w'.cell? ⟨w.heap.size, 1, none⟩ = some (.float .f64 y)) ∧ w'.cell? ⟨w.heap.size + 1, 0, none⟩ = some (.pointer (some ⟨b, 0, none⟩)) ∧ w'.cell? ⟨w.heap.size + 1, 1, none⟩ = some (.int .i64 en)) 3 (.take 0 (.take 1 (.run 2 (.nil)))) (by kernel_rfl) (by kernel_rfl) ?_
  replace HS := Lib.hid (HS.out.later (drew_below _))
  replace HN := Lib.hid (HN.out.below (drew_below _))
  generalize World.drew _ = W1 at HS HN ⊢
  repeat (first | (refine wpPl_takeL (v := ?_) rfl rfl (fun _ _ _ h => h) rfl (fun w' hSw => ?_) HS.out.two2 ?_; rotate_left; (focus (go_simp; with_reducible rfl)); simp only [setL]) | (refine wpPl_skipL rfl rfl (fun _ _ _ h => h) rfl HS.out.two2 ?_; simp only [setL]))
  refine wpPl_goL rfl rfl fun K' hK => ?_
  go_simp
  refine (HWH.out _).mono ?_
  rintro e1 W1v1 ⟨p1, rfl, -, hi1, hb1⟩
  replace HS := Lib.hid (HS.out.later hb1)
  replace HN := Lib.hid (HN.out.below hb1)
  have HZ1 := Lib.hid hi1
  clear hi1
  unfold ExV
  refine hK _ _ HS.out.two2 ?_
  clear hK K' hb1
  try simp only [Act.put, setL]
  repeat (first | (refine wpPl_takeL (v := ?_) rfl rfl (fun _ _ _ h => h) rfl (fun w' hSw => ?_) HS.out.two2 ?_; rotate_left; (focus (go_simp; with_reducible rfl)); simp only [setL]) | (refine wpPl_skipL rfl rfl (fun _ _ _ h => h) rfl HS.out.two2 ?_; simp only [setL]))
  refine wpPl_nil ?_
  simp only [List.drop_succ_cons, List.drop_zero]
  obtain ⟨⟨g0, g1⟩, g2, g3⟩ := HS.out.two2
  go_wp2_with fail
  refine (HOV.out _ _ _ HN.out HZ1.out).mono ?_
  rintro e9 w9 ⟨rfl, hb9⟩
  replace HS := Lib.hid (HS.out.later hb9)
  clear hb9
  go_wp2
  go_ret
  exact ⟨rfl, HS.out.2⟩

set_option maxRecDepth 100000 in
set_option maxHeartbeats 3200000 in
theorem rounded_true (x y r : Nat) (w : World) (hx : W64 x) (hy : W64 y) (hr : W64 r) (h : finB r = true → hasK (ivK x y) r = true) :
    Calls Tryz.prog 18 #[.agg #[.float .f64 x, .float .f64 y], .float .f64 r] w (Gives (.bool true) w) := by
  have HW := Lib.hid (IBox.new w x y)
  cases fx : finB r
  · have hs := sub_self_not hr fx
    have hsub : ∀ t w, (binOp .sub t (.float .f64 r) (.float .f64 r)).run Tryz.prog w = .ok (.float .f64 (fV .sub r r w)) (fN .sub r r w) := fun t w => run_float_any .sub (.inr (.inl rfl)) t r r w
    have hz : ∀ w, (FloatKind.f64.format.order (fV .sub r r w) 0 == some Ordering.eq) = false := fun w => by
      have hv : fV .sub r r w = nzB r r w := by
        have : floatBits .sub .f64 r r = none := hs
        unfold fV; rw [this]
      have hnn := order_nan (y := 0) (nz_nan r r w).2
      rw [← hv] at hnn
      unfold F6 at hnn; rw [hnn]; rfl
    have hz2 : ∀ w, (FloatKind.f64.format.order (fV .sub r r w) 0 != some Ordering.eq) = true := fun w => by rw [bne, hz]; rfl
    have HDN := Lib.hid fun w => fN_below .sub r r w
    clear hs fx hx hy hr h
    go_enter Tryz.func18, Tryz.ntmps18
    go_wp2
    go_ret
    exact ⟨rfl, (HW.out.later (HDN.out _)).2⟩
  · have hsub : ∀ t w, (binOp .sub t (.float .f64 r) (.float .f64 r)).run Tryz.prog w = .ok (.float .f64 0) w := fun t w => run_float_arith w .sub t .f64 _ _ _ (sub_self_fin hr fx)
    have hz : (FloatKind.f64.format.order 0 0 == some Ordering.eq) = true := by decide
    have hz2 : (FloatKind.f64.format.order 0 0 != some Ordering.eq) = false := by decide
    have HHA := Lib.hid fun W => has_any x y r W hx hy hr
    rw [h fx] at HHA
    clear fx hx hy hr h
    go_enter Tryz.func18, Tryz.ntmps18
    obtain ⟨g0, g1⟩ := HW.out.cells
    go_wp2_with fail
    refine (HHA.out _).mono ?_
    rintro e1 w1 ⟨rfl, hb1⟩
    replace HW := Lib.hid (HW.out.later hb1)
    go_wp2
    go_ret
    exact ⟨rfl, HW.out.2⟩

end Go.Proofs.YtloohbkceppocaaGreatDoor
