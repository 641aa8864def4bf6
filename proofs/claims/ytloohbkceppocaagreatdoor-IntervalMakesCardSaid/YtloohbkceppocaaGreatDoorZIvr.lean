/- Walks: the references' intervals: what is one, its ends, tests, hull, what is in both. Printed by wip/gen/iv12.py. -/
import Derived.Test.YtloohbkceppocaaGreatDoorIG
import Derived.Test.YtloohbkceppocaaGreatDoorGC
import Derived.Test.YtloohbkceppocaaGreatDoorHB
namespace Go.Proofs.YtloohbkceppocaaGreatDoor
open Go.RowKit
attribute [local go_sem] run_store_f
theorem ky_inf {x : Nat} (hx : W64 x) : (ky x = kInf ↔ x = kInf) ∧ (ky x = -(kInf : Int) ↔ x = kSign + kInf) := by
 have hs : kSign = 9223372036854775808 := rfl
 have hi : kInf = 9218868437227405312 := rfl
 unfold ky
 split <;> omega
theorem rfull_ivK {l h : Nat} (hl : W64 l) (hh : W64 h) : (leB l h && (!decide (l = kInf) && !decide (h = kSign + kInf))) = (ivK l h).isSome := by
 rw [leB_ky hl hh]
 have k1 := (ky_inf hl).1
 have k2 := (ky_inf hh).2
 unfold ivK
 cases nl : nanB l
 ·cases nh : nanB h
  ·have b1 := ky_bd hl (num_of nl)
   have b2 := ky_bd hh (num_of nh)
   simp only [Bool.not_false, Bool.true_and, true_and]
   by_cases c1 : ky l ≤ ky h <;> by_cases c2 : l = kInf <;> by_cases c3 : h = kSign + kInf
   ·rw [if_neg (by omega), decide_eq_true c2]; simp
   ·rw [if_neg (by omega), decide_eq_true c2]; simp
   ·rw [if_neg (by omega), decide_eq_true c3]; simp
   ·rw [if_pos (by omega), decide_eq_true c1, decide_eq_false c2, decide_eq_false c3]; rfl
   ·rw [if_neg (by omega), decide_eq_false c1]; rfl
   ·rw [if_neg (by omega), decide_eq_false c1]; rfl
   ·rw [if_neg (by omega), decide_eq_false c1]; rfl
   ·rw [if_neg (by omega), decide_eq_false c1]; rfl
  ·simp
 ·simp
set_option maxRecDepth 100000 in
set_option maxHeartbeats 1600000 in
theorem rFull_any (l h : Nat) (w : World) (hl : W64 l) (hh : W64 h) :
  Calls Tryz.prog 61 #[.agg #[.float .f64 l, .float .f64 h]] w (Gives (.bool (ivK l h).isSome) w) := by
 obtain ⟨t1, h1⟩ : ∃ b, (FloatKind.f64.format.order l h == some Ordering.lt || FloatKind.f64.format.order l h == some Ordering.eq) = b := ⟨_, rfl⟩
 have HP := Lib.hid fun w => isInf_up l w hl
 have HN := Lib.hid fun w => isInf_down h w hh
 have HR : Hid ((t1 && (!decide (l = kInf) && !decide (h = kSign + kInf))) = (ivK l h).isSome) := Lib.hid (by rw [← rfull_ivK hl hh, ← h1]; rfl)
 have HW := Lib.hid (IBox.new w l h)
 generalize (ivK l h).isSome = R at *
 generalize decide (l = kInf) = t2 at *
 generalize decide (h = kSign + kInf) = t3 at *
 clear hl hh
 cases t1
 ·obtain rfl : false = R := HR.out
  go_enter Tryz.func61, Tryz.ntmps61
  obtain ⟨c0, c1⟩ := HW.out.cells
  go_wp2
  go_ret
  exact ⟨rfl, HW.out.2⟩
 ·cases t2
  ·obtain rfl : (!t3) = R := HR.out
   go_enter Tryz.func61, Tryz.ntmps61
   obtain ⟨c0, c1⟩ := HW.out.cells
   go_wp2_with fail
   refine (HP.out _).mono ?_
   rintro e1 w1 ⟨rfl, hb1⟩
   replace HW := Lib.hid (HW.out.later hb1)
   clear hb1 c0 c1
   obtain ⟨c0, c1⟩ := HW.out.cells
   go_wp2_with fail
   refine (HN.out _).mono ?_
   rintro e2 w2 ⟨rfl, hb2⟩
   replace HW := Lib.hid (HW.out.later hb2)
   clear hb2 c0 c1
   obtain ⟨c0, c1⟩ := HW.out.cells
   go_wp2
   go_ret
   exact ⟨rfl, HW.out.2⟩
  ·obtain rfl : false = R := HR.out
   go_enter Tryz.func61, Tryz.ntmps61
   obtain ⟨c0, c1⟩ := HW.out.cells
   go_wp2_with fail
   refine (HP.out _).mono ?_
   rintro e1 w1 ⟨rfl, hb1⟩
   replace HW := Lib.hid (HW.out.later hb1)
   clear hb1 c0 c1
   obtain ⟨c0, c1⟩ := HW.out.cells
   go_wp2
   go_ret
   exact ⟨rfl, HW.out.2⟩
set_option maxRecDepth 100000 in
set_option maxHeartbeats 800000 in
theorem rMade_any (l h : Nat) (w : World) (hl : W64 l) (hh : W64 h) (nl : nanB l = false) (nh : nanB h = false) :
  Calls Tryz.prog 63 #[.float .f64 l, .float .f64 h] w (Gives (.agg #[.float .f64 (kb (ky l)), .float .f64 (kb (ky h))]) w) := by
 have h1 : ∀ t w, (binOp .add t (.float .f64 l) (.float .f64 0)).run Tryz.prog w = .ok (.float .f64 (kb (ky l))) w := fun t w => run_float_arith w .add t .f64 _ _ _ (add_zero_any hl (num_of nl))
 have h2 : ∀ t w, (binOp .add t (.float .f64 h) (.float .f64 0)).run Tryz.prog w = .ok (.float .f64 (kb (ky h))) w := fun t w => run_float_arith w .add t .f64 _ _ _ (add_zero_any hh (num_of nh))
 generalize kb (ky l) = L at *
 generalize kb (ky h) = H at *
 clear hl hh nl nh
 go_enter Tryz.func63, Tryz.ntmps63
 go_wp2
 refine bodyPost_ret (v := .agg #[.float .f64 L, .float .f64 H]) (by simp [results, Tryz.results63, go_sem]) rfl ⟨rfl, Below.alloc_self _ _⟩
set_option maxRecDepth 100000 in
set_option maxHeartbeats 800000 in
theorem rEmpty_any (w : World) : Calls Tryz.prog 62 #[] w (Gives (.agg #[.float .f64 9218868437227405312, .float .f64 18442240474082181120]) w) := by
 have HP := Lib.hid fun w => inf_any w
 have HN := Lib.hid fun w => infNeg_any w
 have HW := Lib.hid (IBox.new w 0 0)
 go_enter Tryz.func62, Tryz.ntmps62
 go_wp2_with fail
 refine (HP.out _).mono ?_
 rintro e1 w1 ⟨rfl, hb1⟩
 replace HW := Lib.hid (HW.out.later hb1)
 clear hb1
 go_wp2_with fail
 refine (HN.out _).mono ?_
 rintro e2 w2 ⟨rfl, hb2⟩
 replace HW := Lib.hid (HW.out.later hb2)
 clear hb2
 obtain ⟨q0, q1, q2, q3⟩ := HW.out.cells2
 go_wp2
 refine bodyPost_ret (v := .agg #[.float .f64 9218868437227405312, .float .f64 18442240474082181120]) (by simp [results, Tryz.results62, go_sem, q0, q1]) rfl ⟨rfl, HW.out.stored (Nat.le_refl _) _ _⟩
set_option maxRecDepth 100000 in
set_option maxHeartbeats 1600000 in
theorem rMeets_any (l h m k : Nat) (w : World) (hl : W64 l) (hh : W64 h) (hm : W64 m) (hk : W64 k) :
  Calls Tryz.prog 121 #[.agg #[.float .f64 l, .float .f64 h], .agg #[.float .f64 m, .float .f64 k]] w (Gives (.bool (meetsK (ivK l h) (ivK m k))) w) := by
 have HFA := Lib.hid fun w => rFull_any l h w hl hh
 have HFB := Lib.hid fun w => rFull_any m k w hm hk
 have HW := Lib.hid (I2.new w l h m k)
 rcases e1 : ivK l h with _ | p
 ·rw [e1, Option.isSome_none] at HFA
  rw [show meetsK none (ivK m k) = false from rfl]
  clear e1 HFB
  go_enter Tryz.func121, Tryz.ntmps121
  obtain ⟨⟨c0, c1⟩, c2, c3⟩ := HW.out.cells
  go_wp2_with fail
  refine (HFA.out _).mono ?_
  rintro e1 w1 ⟨rfl, hb1⟩
  replace HW := Lib.hid (HW.out.later hb1)
  clear hb1 c0 c1 c2 c3
  obtain ⟨⟨c0, c1⟩, c2, c3⟩ := HW.out.cells
  go_wp2
  go_ret
  exact ⟨rfl, HW.out.2⟩
 rcases e2 : ivK m k with _ | q
 ·rw [e1, Option.isSome_some] at HFA
  rw [e2, Option.isSome_none] at HFB
  rw [show meetsK (some p) none = false from rfl]
  clear e1 e2
  go_enter Tryz.func121, Tryz.ntmps121
  obtain ⟨⟨c0, c1⟩, c2, c3⟩ := HW.out.cells
  go_wp2_with fail
  refine (HFA.out _).mono ?_
  rintro e1 w1 ⟨rfl, hb1⟩
  replace HW := Lib.hid (HW.out.later hb1)
  clear hb1 c0 c1 c2 c3
  obtain ⟨⟨c0, c1⟩, c2, c3⟩ := HW.out.cells
  go_wp2_with fail
  refine (HFB.out _).mono ?_
  rintro e2 w2 ⟨rfl, hb2⟩
  replace HW := Lib.hid (HW.out.later hb2)
  clear hb2 c0 c1 c2 c3
  obtain ⟨⟨c0, c1⟩, c2, c3⟩ := HW.out.cells
  go_wp2
  go_ret
  exact ⟨rfl, HW.out.2⟩
 rw [e1, Option.isSome_some] at HFA
 rw [e2, Option.isSome_some] at HFB
 obtain ⟨nl, nh, rfl⟩ := ivK_some e1
 obtain ⟨nm, nk, rfl⟩ := ivK_some e2
 rw [show meetsK (some (ky l, ky h)) (some (ky m, ky k)) = (decide (ky l ≤ ky k) && decide (ky m ≤ ky h)) from rfl]
 have t1 := le_test hl hk nl nk
 have t2 := le_test hm hh nm nh
 generalize decide (ky l ≤ ky k) = b1 at *
 generalize decide (ky m ≤ ky h) = b2 at *
 clear e1 e2 nl nh nm nk hl hh hm hk
 cases b1
 ·go_enter Tryz.func121, Tryz.ntmps121
  obtain ⟨⟨c0, c1⟩, c2, c3⟩ := HW.out.cells
  go_wp2_with fail
  refine (HFA.out _).mono ?_
  rintro e1 w1 ⟨rfl, hb1⟩
  replace HW := Lib.hid (HW.out.later hb1)
  clear hb1 c0 c1 c2 c3
  obtain ⟨⟨c0, c1⟩, c2, c3⟩ := HW.out.cells
  go_wp2_with fail
  refine (HFB.out _).mono ?_
  rintro e2 w2 ⟨rfl, hb2⟩
  replace HW := Lib.hid (HW.out.later hb2)
  clear hb2 c0 c1 c2 c3
  obtain ⟨⟨c0, c1⟩, c2, c3⟩ := HW.out.cells
  go_wp2
  go_ret
  exact ⟨rfl, HW.out.2⟩
 ·go_enter Tryz.func121, Tryz.ntmps121
  obtain ⟨⟨c0, c1⟩, c2, c3⟩ := HW.out.cells
  go_wp2_with fail
  refine (HFA.out _).mono ?_
  rintro e1 w1 ⟨rfl, hb1⟩
  replace HW := Lib.hid (HW.out.later hb1)
  clear hb1 c0 c1 c2 c3
  obtain ⟨⟨c0, c1⟩, c2, c3⟩ := HW.out.cells
  go_wp2_with fail
  refine (HFB.out _).mono ?_
  rintro e2 w2 ⟨rfl, hb2⟩
  replace HW := Lib.hid (HW.out.later hb2)
  clear hb2 c0 c1 c2 c3
  obtain ⟨⟨c0, c1⟩, c2, c3⟩ := HW.out.cells
  go_wp2
  go_ret
  exact ⟨rfl, HW.out.2⟩
set_option maxRecDepth 100000 in
set_option maxHeartbeats 400000 in
theorem rLeast_any (x y : Nat) (w : World) (hx : W64 x) (hy : W64 y) (nx : nanB x = false) (ny : nanB y = false) : Calls Tryz.prog 72 #[.float .f64 x, .float .f64 y] w (GivesK (min (ky x) (ky y)) w) := by
 have t1 := lt_test hy hx ny nx
 by_cases c : ky y < ky x
 ·rw [decide_eq_true c] at t1
  have HR9 : Hid (W64 y ∧ nanB y = false ∧ ky y = min (ky x) (ky y)) := Lib.hid ⟨hy, ny, by omega⟩
  generalize min (ky x) (ky y) = K at *
  clear hx hy nx ny c
  go_enter Tryz.func72, Tryz.ntmps72
  go_wp2
  go_ret
  exact ⟨_, rfl, HR9.out.1, HR9.out.2.1, HR9.out.2.2, Below.refl _ _⟩
 ·rw [decide_eq_false c] at t1
  have HR9 : Hid (W64 x ∧ nanB x = false ∧ ky x = min (ky x) (ky y)) := Lib.hid ⟨hx, nx, by omega⟩
  generalize min (ky x) (ky y) = K at *
  clear hx hy nx ny c
  go_enter Tryz.func72, Tryz.ntmps72
  go_wp2
  go_ret
  exact ⟨_, rfl, HR9.out.1, HR9.out.2.1, HR9.out.2.2, Below.refl _ _⟩
set_option maxRecDepth 100000 in
set_option maxHeartbeats 400000 in
theorem rMost_any (x y : Nat) (w : World) (hx : W64 x) (hy : W64 y) (nx : nanB x = false) (ny : nanB y = false) : Calls Tryz.prog 64 #[.float .f64 x, .float .f64 y] w (GivesK (max (ky x) (ky y)) w) := by
 have t1 := gt_test hy hx ny nx
 by_cases c : ky x < ky y
 ·rw [decide_eq_true c] at t1
  have HR9 : Hid (W64 y ∧ nanB y = false ∧ ky y = max (ky x) (ky y)) := Lib.hid ⟨hy, ny, by omega⟩
  generalize max (ky x) (ky y) = K at *
  clear hx hy nx ny c
  go_enter Tryz.func64, Tryz.ntmps64
  go_wp2
  go_ret
  exact ⟨_, rfl, HR9.out.1, HR9.out.2.1, HR9.out.2.2, Below.refl _ _⟩
 ·rw [decide_eq_false c] at t1
  have HR9 : Hid (W64 x ∧ nanB x = false ∧ ky x = max (ky x) (ky y)) := Lib.hid ⟨hx, nx, by omega⟩
  generalize max (ky x) (ky y) = K at *
  clear hx hy nx ny c
  go_enter Tryz.func64, Tryz.ntmps64
  go_wp2
  go_ret
  exact ⟨_, rfl, HR9.out.1, HR9.out.2.1, HR9.out.2.2, Below.refl _ _⟩
set_option maxRecDepth 100000 in
set_option maxHeartbeats 1600000 in
theorem rMeet_any (l h m k : Nat) (w : World) (hl : W64 l) (hh : W64 h) (hm : W64 m) (hk : W64 k) :
  Calls Tryz.prog 79 #[.agg #[.float .f64 l, .float .f64 h], .agg #[.float .f64 m, .float .f64 k]] w (Gives (.agg #[.float .f64 (ivL (meetK (ivK l h) (ivK m k))), .float .f64 (ivH (meetK (ivK l h) (ivK m k)))]) w) := by
 have HM := Lib.hid fun w => rMeets_any l h m k w hl hh hm hk
 have HE := Lib.hid fun w => rEmpty_any w
 have HW := Lib.hid (I3.new w l h m k)
 rw [meets_meet] at HM
 rcases e0 : meetK (ivK l h) (ivK m k) with _ | p
 ·rw [e0, Option.isSome_none] at HM
  rw [show ivL none = 9218868437227405312 from rfl, show ivH none = 18442240474082181120 from rfl]
  clear e0
  go_enter Tryz.func79, Tryz.ntmps79
  obtain ⟨⟨⟨c0, c1⟩, c2, c3⟩, q0, q1, q2, q3⟩ := HW.out.cells
  go_wp2_with fail
  refine (HM.out _).mono ?_
  rintro e1 w1 ⟨rfl, hb1⟩
  replace HW := Lib.hid (HW.out.later hb1)
  clear hb1 c0 c1 c2 c3 q0 q1 q2 q3
  obtain ⟨⟨⟨c0, c1⟩, c2, c3⟩, q0, q1, q2, q3⟩ := HW.out.cells
  go_wp2_with fail
  refine (HE.out _).mono ?_
  rintro e2 w2 ⟨rfl, hb2⟩
  replace HW := Lib.hid (HW.out.later hb2)
  clear hb2 c0 c1 c2 c3 q0 q1 q2 q3
  obtain ⟨⟨⟨c0, c1⟩, c2, c3⟩, q0, q1, q2, q3⟩ := HW.out.cells
  go_wp2
  refine bodyPost_ret (v := .agg #[.float .f64 9218868437227405312, .float .f64 18442240474082181120]) (by simp [results, Tryz.results79, go_sem, q0, q1]) rfl ⟨rfl, HW.out.stored _ _⟩
 rw [e0, Option.isSome_some] at HM
 rcases e1 : ivK l h with _ | p1
 ·rw [e1] at e0; cases e0
 rcases e2 : ivK m k with _ | p2
 ·rw [e1, e2] at e0; cases e0
 obtain ⟨nl, nh, rfl⟩ := ivK_some e1
 obtain ⟨nm, nk, rfl⟩ := ivK_some e2
 rw [e1, e2] at e0
 have e3 : (if ky l ≤ ky k ∧ ky m ≤ ky h then some (max (ky l) (ky m), min (ky h) (ky k)) else none) = some p := e0
 split at e3
 ·obtain rfl : (max (ky l) (ky m), min (ky h) (ky k)) = p := Option.some.inj e3
  rw [show ivL (some (max (ky l) (ky m), min (ky h) (ky k))) = kb (max (ky l) (ky m)) from rfl, show ivH (some (max (ky l) (ky m), min (ky h) (ky k))) = kb (min (ky h) (ky k)) from rfl]
  have HS1 := Lib.hid fun W => rMost_any l m W hl hm nl nm
  have HS2 := Lib.hid fun W => rLeast_any h k W hh hk nh nk
  generalize max (ky l) (ky m) = K1 at *
  generalize min (ky h) (ky k) = K2 at *
  clear e0 e1 e2 e3 nl nh nm nk hl hh hm hk HE
  go_enter Tryz.func79, Tryz.ntmps79
  obtain ⟨⟨⟨c0, c1⟩, c2, c3⟩, q0, q1, q2, q3⟩ := HW.out.cells
  go_wp2_with fail
  refine (HM.out _).mono ?_
  rintro e1 w1 ⟨rfl, hb1⟩
  replace HW := Lib.hid (HW.out.later hb1)
  clear hb1 c0 c1 c2 c3 q0 q1 q2 q3
  obtain ⟨⟨⟨c0, c1⟩, c2, c3⟩, q0, q1, q2, q3⟩ := HW.out.cells
  go_wp2
  refine wp_region_pl (fun w' : World => (w'.cell? ⟨w.heap.size, 0, none⟩ = some (.float .f64 l) ∧ w'.cell? ⟨w.heap.size, 1, none⟩ = some (.float .f64 h)) ∧ w'.cell? ⟨w.heap.size + 1, 0, none⟩ = some (.float .f64 m) ∧ w'.cell? ⟨w.heap.size + 1, 1, none⟩ = some (.float .f64 k)) 9 (.take 0 (.take 1 (.take 2 (.take 3 (.take 5 (.take 6 (.take 7 (.take 8 (.run 4 .nil))))))))) (by kernel_rfl) (by kernel_rfl) ?_
  replace HW := Lib.hid (HW.out.later (drew_below _))
  generalize World.drew _ = W0 at HW ⊢
  have hS : (fun w' : World => (w'.cell? ⟨w.heap.size, 0, none⟩ = some (.float .f64 l) ∧ w'.cell? ⟨w.heap.size, 1, none⟩ = some (.float .f64 h)) ∧ w'.cell? ⟨w.heap.size + 1, 0, none⟩ = some (.float .f64 m) ∧ w'.cell? ⟨w.heap.size + 1, 1, none⟩ = some (.float .f64 k)) W0 := HW.out.cells.1
  repeat (first | (refine tkL (v := ?_) rfl rfl rfl (fun w' hSw => ?_) hS ?_; rotate_left; (focus (go_simp; with_reducible rfl)); simp only [setL]) | (refine skL rfl rfl rfl hS ?_; simp only [setL]))
  clear hS
  refine wpPl_goL rfl rfl fun K' hK => ?_
  go_simp
  refine (HS1.out _).mono ?_
  rintro e1 W0v1 ⟨r1, rfl, rl1, rn1, rk1, hb1⟩
  replace HW := Lib.hid (HW.out.later hb1)
  have HR1 := Lib.hid (And.intro rl1 (And.intro rn1 rk1))
  clear rl1 rn1 rk1
  refine hK _ _ HW.out.cells.1 ?_
  clear hK K' hb1
  try simp only [Act.put, setL]
  have hS : (fun w' : World => (w'.cell? ⟨w.heap.size, 0, none⟩ = some (.float .f64 l) ∧ w'.cell? ⟨w.heap.size, 1, none⟩ = some (.float .f64 h)) ∧ w'.cell? ⟨w.heap.size + 1, 0, none⟩ = some (.float .f64 m) ∧ w'.cell? ⟨w.heap.size + 1, 1, none⟩ = some (.float .f64 k)) W0v1 := HW.out.cells.1
  repeat (first | (refine tkL (v := ?_) rfl rfl rfl (fun w' hSw => ?_) hS ?_; rotate_left; (focus (go_simp; with_reducible rfl)); simp only [setL]) | (refine skL rfl rfl rfl hS ?_; simp only [setL]))
  clear hS
  refine wpPl_nil ?_
  simp only [drL]
  clear c0 c1 c2 c3 q0 q1 q2 q3
  obtain ⟨⟨⟨c0, c1⟩, c2, c3⟩, q0, q1, q2, q3⟩ := HW.out.cells
  go_wp2_with fail
  refine (HS2.out _).mono ?_
  rintro e9 w9 ⟨r2, rfl, rl2, rn2, rk2, hb9⟩
  replace HW := Lib.hid (HW.out.later hb9)
  have HMK := Lib.hid fun W => rMade_any r1 r2 W HR1.out.1 rl2 HR1.out.2.1 rn2
  rw [HR1.out.2.2, rk2] at HMK
  generalize kb K1 = L at *
  generalize kb K2 = H at *
  clear hb9 rl2 rn2 rk2 c0 c1 c2 c3 q0 q1 q2 q3
  obtain ⟨⟨⟨c0, c1⟩, c2, c3⟩, q0, q1, q2, q3⟩ := HW.out.cells
  go_wp2_with fail
  refine (HMK.out _).mono ?_
  rintro e10 w10 ⟨rfl, hb10⟩
  replace HW := Lib.hid (HW.out.later hb10)
  clear hb10 c0 c1 c2 c3 q0 q1 q2 q3
  obtain ⟨⟨⟨c0, c1⟩, c2, c3⟩, q0, q1, q2, q3⟩ := HW.out.cells
  go_wp2
  refine bodyPost_ret (v := .agg #[.float .f64 L, .float .f64 H]) (by simp [results, Tryz.results79, go_sem, q0, q1]) rfl ⟨rfl, HW.out.stored _ _⟩
 ·cases e3
set_option maxRecDepth 100000 in
set_option maxHeartbeats 1600000 in
theorem rHull_any (l h m k : Nat) (w : World) (hl : W64 l) (hh : W64 h) (hm : W64 m) (hk : W64 k) :
  Calls Tryz.prog 76 #[.agg #[.float .f64 l, .float .f64 h], .agg #[.float .f64 m, .float .f64 k]] w (Gives (.agg #[.float .f64 (ivL (hullK (ivK l h) (ivK m k))), .float .f64 (ivH (hullK (ivK l h) (ivK m k)))]) w) := by
 have HFA := Lib.hid fun w => rFull_any l h w hl hh
 have HFB := Lib.hid fun w => rFull_any m k w hm hk
 have HE := Lib.hid fun w => rEmpty_any w
 have HW := Lib.hid (I3.new w l h m k)
 rcases e1 : ivK l h with _ | p
 ·rw [e1, Option.isSome_none] at HFA
  rcases e2 : ivK m k with _ | q
  ·rw [e2, Option.isSome_none] at HFB
   rw [show ivL (hullK none none) = 9218868437227405312 from rfl, show ivH (hullK none none) = 18442240474082181120 from rfl]
   clear e1 e2
   go_enter Tryz.func76, Tryz.ntmps76
   obtain ⟨⟨⟨c0, c1⟩, c2, c3⟩, q0, q1, q2, q3⟩ := HW.out.cells
   go_wp2_with fail
   refine (HFA.out _).mono ?_
   rintro e1 w1 ⟨rfl, hb1⟩
   replace HW := Lib.hid (HW.out.later hb1)
   clear hb1 c0 c1 c2 c3 q0 q1 q2 q3
   obtain ⟨⟨⟨c0, c1⟩, c2, c3⟩, q0, q1, q2, q3⟩ := HW.out.cells
   go_wp2_with fail
   refine (HFB.out _).mono ?_
   rintro e2 w2 ⟨rfl, hb2⟩
   replace HW := Lib.hid (HW.out.later hb2)
   clear hb2 c0 c1 c2 c3 q0 q1 q2 q3
   obtain ⟨⟨⟨c0, c1⟩, c2, c3⟩, q0, q1, q2, q3⟩ := HW.out.cells
   go_wp2_with fail
   refine (HE.out _).mono ?_
   rintro e3 w3 ⟨rfl, hb3⟩
   replace HW := Lib.hid (HW.out.later hb3)
   clear hb3 c0 c1 c2 c3 q0 q1 q2 q3
   obtain ⟨⟨⟨c0, c1⟩, c2, c3⟩, q0, q1, q2, q3⟩ := HW.out.cells
   go_wp2
   refine bodyPost_ret (v := .agg #[.float .f64 9218868437227405312, .float .f64 18442240474082181120]) (by simp [results, Tryz.results76, go_sem, q0, q1]) rfl ⟨rfl, HW.out.stored _ _⟩
  ·rw [e2, Option.isSome_some] at HFB
   obtain ⟨nm, nk, rfl⟩ := ivK_some e2
   rw [show ivL (hullK none (some (ky m, ky k))) = kb (ky m) from rfl, show ivH (hullK none (some (ky m, ky k))) = kb (ky k) from rfl]
   have HK := Lib.hid fun w => rMade_any m k w hm hk nm nk
   generalize kb (ky m) = L at *
   generalize kb (ky k) = H at *
   clear e1 e2 nm nk
   go_enter Tryz.func76, Tryz.ntmps76
   obtain ⟨⟨⟨c0, c1⟩, c2, c3⟩, q0, q1, q2, q3⟩ := HW.out.cells
   go_wp2_with fail
   refine (HFA.out _).mono ?_
   rintro e1 w1 ⟨rfl, hb1⟩
   replace HW := Lib.hid (HW.out.later hb1)
   clear hb1 c0 c1 c2 c3 q0 q1 q2 q3
   obtain ⟨⟨⟨c0, c1⟩, c2, c3⟩, q0, q1, q2, q3⟩ := HW.out.cells
   go_wp2_with fail
   refine (HFB.out _).mono ?_
   rintro e2 w2 ⟨rfl, hb2⟩
   replace HW := Lib.hid (HW.out.later hb2)
   clear hb2 c0 c1 c2 c3 q0 q1 q2 q3
   obtain ⟨⟨⟨c0, c1⟩, c2, c3⟩, q0, q1, q2, q3⟩ := HW.out.cells
   go_wp2_with fail
   refine (HFA.out _).mono ?_
   rintro e3 w3 ⟨rfl, hb3⟩
   replace HW := Lib.hid (HW.out.later hb3)
   clear hb3 c0 c1 c2 c3 q0 q1 q2 q3
   obtain ⟨⟨⟨c0, c1⟩, c2, c3⟩, q0, q1, q2, q3⟩ := HW.out.cells
   go_wp2_with fail
   refine (HK.out _).mono ?_
   rintro e4 w4 ⟨rfl, hb4⟩
   replace HW := Lib.hid (HW.out.later hb4)
   clear hb4 c0 c1 c2 c3 q0 q1 q2 q3
   obtain ⟨⟨⟨c0, c1⟩, c2, c3⟩, q0, q1, q2, q3⟩ := HW.out.cells
   go_wp2
   refine bodyPost_ret (v := .agg #[.float .f64 L, .float .f64 H]) (by simp [results, Tryz.results76, go_sem, q0, q1]) rfl ⟨rfl, HW.out.stored _ _⟩
 rw [e1, Option.isSome_some] at HFA
 rcases e2 : ivK m k with _ | q
 ·rw [e2, Option.isSome_none] at HFB
  obtain ⟨nl, nh, rfl⟩ := ivK_some e1
  rw [show ivL (hullK (some (ky l, ky h)) none) = kb (ky l) from rfl, show ivH (hullK (some (ky l, ky h)) none) = kb (ky h) from rfl]
  have HK := Lib.hid fun w => rMade_any l h w hl hh nl nh
  generalize kb (ky l) = L at *
  generalize kb (ky h) = H at *
  clear e1 e2 nl nh
  go_enter Tryz.func76, Tryz.ntmps76
  obtain ⟨⟨⟨c0, c1⟩, c2, c3⟩, q0, q1, q2, q3⟩ := HW.out.cells
  go_wp2_with fail
  refine (HFA.out _).mono ?_
  rintro e1 w1 ⟨rfl, hb1⟩
  replace HW := Lib.hid (HW.out.later hb1)
  clear hb1 c0 c1 c2 c3 q0 q1 q2 q3
  obtain ⟨⟨⟨c0, c1⟩, c2, c3⟩, q0, q1, q2, q3⟩ := HW.out.cells
  go_wp2_with fail
  refine (HFA.out _).mono ?_
  rintro e2 w2 ⟨rfl, hb2⟩
  replace HW := Lib.hid (HW.out.later hb2)
  clear hb2 c0 c1 c2 c3 q0 q1 q2 q3
  obtain ⟨⟨⟨c0, c1⟩, c2, c3⟩, q0, q1, q2, q3⟩ := HW.out.cells
  go_wp2_with fail
  refine (HFB.out _).mono ?_
  rintro e3 w3 ⟨rfl, hb3⟩
  replace HW := Lib.hid (HW.out.later hb3)
  clear hb3 c0 c1 c2 c3 q0 q1 q2 q3
  obtain ⟨⟨⟨c0, c1⟩, c2, c3⟩, q0, q1, q2, q3⟩ := HW.out.cells
  go_wp2_with fail
  refine (HK.out _).mono ?_
  rintro e4 w4 ⟨rfl, hb4⟩
  replace HW := Lib.hid (HW.out.later hb4)
  clear hb4 c0 c1 c2 c3 q0 q1 q2 q3
  obtain ⟨⟨⟨c0, c1⟩, c2, c3⟩, q0, q1, q2, q3⟩ := HW.out.cells
  go_wp2
  refine bodyPost_ret (v := .agg #[.float .f64 L, .float .f64 H]) (by simp [results, Tryz.results76, go_sem, q0, q1]) rfl ⟨rfl, HW.out.stored _ _⟩
 rw [e2, Option.isSome_some] at HFB
 obtain ⟨nl, nh, rfl⟩ := ivK_some e1
 obtain ⟨nm, nk, rfl⟩ := ivK_some e2
 rw [show ivL (hullK (some (ky l, ky h)) (some (ky m, ky k))) = kb (min (ky l) (ky m)) from rfl, show ivH (hullK (some (ky l, ky h)) (some (ky m, ky k))) = kb (max (ky h) (ky k)) from rfl]
 have HS1 := Lib.hid fun W => rLeast_any l m W hl hm nl nm
 have HS2 := Lib.hid fun W => rMost_any h k W hh hk nh nk
 generalize min (ky l) (ky m) = K1 at *
 generalize max (ky h) (ky k) = K2 at *
 clear e1 e2 nl nh nm nk hl hh hm hk HE
 go_enter Tryz.func76, Tryz.ntmps76
 obtain ⟨⟨⟨c0, c1⟩, c2, c3⟩, q0, q1, q2, q3⟩ := HW.out.cells
 go_wp2_with fail
 refine (HFA.out _).mono ?_
 rintro e1 w1 ⟨rfl, hb1⟩
 replace HW := Lib.hid (HW.out.later hb1)
 clear hb1 c0 c1 c2 c3 q0 q1 q2 q3
 obtain ⟨⟨⟨c0, c1⟩, c2, c3⟩, q0, q1, q2, q3⟩ := HW.out.cells
 go_wp2_with fail
 refine (HFA.out _).mono ?_
 rintro e2 w2 ⟨rfl, hb2⟩
 replace HW := Lib.hid (HW.out.later hb2)
 clear hb2 c0 c1 c2 c3 q0 q1 q2 q3
 obtain ⟨⟨⟨c0, c1⟩, c2, c3⟩, q0, q1, q2, q3⟩ := HW.out.cells
 go_wp2_with fail
 refine (HFB.out _).mono ?_
 rintro e3 w3 ⟨rfl, hb3⟩
 replace HW := Lib.hid (HW.out.later hb3)
 clear hb3 c0 c1 c2 c3 q0 q1 q2 q3
 obtain ⟨⟨⟨c0, c1⟩, c2, c3⟩, q0, q1, q2, q3⟩ := HW.out.cells
 go_wp2
 refine wp_region_pl (fun w' : World => (w'.cell? ⟨w.heap.size, 0, none⟩ = some (.float .f64 l) ∧ w'.cell? ⟨w.heap.size, 1, none⟩ = some (.float .f64 h)) ∧ w'.cell? ⟨w.heap.size + 1, 0, none⟩ = some (.float .f64 m) ∧ w'.cell? ⟨w.heap.size + 1, 1, none⟩ = some (.float .f64 k)) 9 (.take 0 (.take 1 (.take 2 (.take 3 (.take 5 (.take 6 (.take 7 (.take 8 (.run 4 .nil))))))))) (by kernel_rfl) (by kernel_rfl) ?_
 replace HW := Lib.hid (HW.out.later (drew_below _))
 generalize World.drew _ = W0 at HW ⊢
 have hS : (fun w' : World => (w'.cell? ⟨w.heap.size, 0, none⟩ = some (.float .f64 l) ∧ w'.cell? ⟨w.heap.size, 1, none⟩ = some (.float .f64 h)) ∧ w'.cell? ⟨w.heap.size + 1, 0, none⟩ = some (.float .f64 m) ∧ w'.cell? ⟨w.heap.size + 1, 1, none⟩ = some (.float .f64 k)) W0 := HW.out.cells.1
 repeat (first | (refine tkL (v := ?_) rfl rfl rfl (fun w' hSw => ?_) hS ?_; rotate_left; (focus (go_simp; with_reducible rfl)); simp only [setL]) | (refine skL rfl rfl rfl hS ?_; simp only [setL]))
 clear hS
 refine wpPl_goL rfl rfl fun K' hK => ?_
 go_simp
 refine (HS1.out _).mono ?_
 rintro e1 W0v1 ⟨r1, rfl, rl1, rn1, rk1, hb1⟩
 replace HW := Lib.hid (HW.out.later hb1)
 have HR1 := Lib.hid (And.intro rl1 (And.intro rn1 rk1))
 clear rl1 rn1 rk1
 refine hK _ _ HW.out.cells.1 ?_
 clear hK K' hb1
 try simp only [Act.put, setL]
 have hS : (fun w' : World => (w'.cell? ⟨w.heap.size, 0, none⟩ = some (.float .f64 l) ∧ w'.cell? ⟨w.heap.size, 1, none⟩ = some (.float .f64 h)) ∧ w'.cell? ⟨w.heap.size + 1, 0, none⟩ = some (.float .f64 m) ∧ w'.cell? ⟨w.heap.size + 1, 1, none⟩ = some (.float .f64 k)) W0v1 := HW.out.cells.1
 repeat (first | (refine tkL (v := ?_) rfl rfl rfl (fun w' hSw => ?_) hS ?_; rotate_left; (focus (go_simp; with_reducible rfl)); simp only [setL]) | (refine skL rfl rfl rfl hS ?_; simp only [setL]))
 clear hS
 refine wpPl_nil ?_
 simp only [drL]
 clear c0 c1 c2 c3 q0 q1 q2 q3
 obtain ⟨⟨⟨c0, c1⟩, c2, c3⟩, q0, q1, q2, q3⟩ := HW.out.cells
 go_wp2_with fail
 refine (HS2.out _).mono ?_
 rintro e9 w9 ⟨r2, rfl, rl2, rn2, rk2, hb9⟩
 replace HW := Lib.hid (HW.out.later hb9)
 have HMK := Lib.hid fun W => rMade_any r1 r2 W HR1.out.1 rl2 HR1.out.2.1 rn2
 rw [HR1.out.2.2, rk2] at HMK
 generalize kb K1 = L at *
 generalize kb K2 = H at *
 clear hb9 rl2 rn2 rk2 c0 c1 c2 c3 q0 q1 q2 q3
 obtain ⟨⟨⟨c0, c1⟩, c2, c3⟩, q0, q1, q2, q3⟩ := HW.out.cells
 go_wp2_with fail
 refine (HMK.out _).mono ?_
 rintro e10 w10 ⟨rfl, hb10⟩
 replace HW := Lib.hid (HW.out.later hb10)
 clear hb10 c0 c1 c2 c3 q0 q1 q2 q3
 obtain ⟨⟨⟨c0, c1⟩, c2, c3⟩, q0, q1, q2, q3⟩ := HW.out.cells
 go_wp2
 refine bodyPost_ret (v := .agg #[.float .f64 L, .float .f64 H]) (by simp [results, Tryz.results76, go_sem, q0, q1]) rfl ⟨rfl, HW.out.stored _ _⟩
end Go.Proofs.YtloohbkceppocaaGreatDoor
