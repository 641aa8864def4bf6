/- Walk: a number's power, rounded. -/
import Derived.Test.YtloohbkceppocaaGreatDoorIG
import Derived.Test.YtloohbkceppocaaGreatDoorGC
import Derived.Test.YtloohbkceppocaaGreatDoorHB
import Derived.Deep.CutRange
namespace Go.Proofs.YtloohbkceppocaaGreatDoor
section
open Go.RowKit
def pwK (x n : Nat) (mode : Int) : Int := ky (rndX (valZ x ^ n) (pE x * (n : Int)) mode)
theorem nrm_own {z e : Int} (h : Nrm z e) : hvZ z = z ∧ nrE z e = e := by
 rcases h with ⟨rfl, rfl⟩ | h
 ·exact ⟨hvZ_zero, by unfold nrE; rw [if_pos rfl]⟩
 ·exact ⟨hvZ_of_odd h, by unfold nrE; rw [if_neg (by omega)]; exact hvE_of_odd h⟩
theorem odd_pow {z : Int} (h : z % 2 = 1) (j : Nat) : z ^ j % 2 = 1 := by
 induction j with
 | zero => rw [Int.pow_zero]; decide
 | succ j ih => rw [Int.pow_succ, Int.mul_emod, ih, h]; decide
theorem bl_powZ (z : Int) {b : Nat} (h : bl z.natAbs ≤ b) (j : Nat) : bl (z ^ j).natAbs ≤ b * j + 1 := by
 induction j with
 | zero =>
  rw [Int.pow_zero]
  have : bl (1 : Int).natAbs = 1 := by decide
  omega
 | succ j ih =>
  have h1 := bl_mul (z ^ j).natAbs z.natAbs
  have hs : (z ^ (j + 1)).natAbs = (z ^ j).natAbs * z.natAbs := by rw [Int.pow_succ, Int.natAbs_mul]
  have h2 : b * (j + 1) = b * j + b := Nat.mul_succ b j
  rw [hs, h2]
  omega
theorem pow_good {x j : Nat} (hx : finB x = true) (h1 : 1 ≤ j) (h2 : j ≤ 16) : GoodD (valZ x ^ j) (pE x * (j : Int)) := by
 have hb := bl_powZ (valZ x) (val_bl (b := x)) j
 have he := pE_bd hx
 refine ⟨?_, by omega, ?_, ?_⟩
 ·rcases (good_of hx).1 with ⟨h3, h4⟩ | h3
  ·refine .inl ⟨?_, ?_⟩
   ·rw [h3]; exact Int.zero_pow (by omega)
   ·rw [h4, Int.zero_mul]
  ·exact .inr (odd_pow h3 j)
 ·have : -1074 * (j : Int) ≤ pE x * (j : Int) := Int.mul_le_mul_of_nonneg_right he.1 (by omega)
  omega
 ·have : pE x * (j : Int) ≤ 1023 * (j : Int) := Int.mul_le_mul_of_nonneg_right he.2 (by omega)
  omega
theorem pow_next (z e : Int) (j : Nat) : z ^ j * z = z ^ (j + 1) ∧ e * (j : Int) + e = e * ((j + 1 : Nat) : Int) :=
 ⟨(Int.pow_succ z j).symm, by rw [Int.natCast_add, Int.mul_add]; simp⟩
def PwR (w0 W : World) (bb cc : Nat) (nd : Bool) (sd : Value) (z e : Int) (np : Bool) (sp : Value) (y f : Int) : Prop :=
 BlkT W bb 98 #[.bool nd, sd, .int .i64 e] ∧ DyAt W (.agg #[.bool nd, sd, .int .i64 e]) z e ∧ BlkT W cc 98 #[.bool np, sp, .int .i64 f] ∧ DyAt W (.agg #[.bool np, sp, .int .i64 f]) y f ∧ Below w0.heap.size w0 W ∧ w0.heap.size ≤ cc ∧ bb ≠ cc
theorem PwR.later {w0 W V : World} {bb cc : Nat} {nd : Bool} {sd : Value} {z e : Int} {np : Bool} {sp : Value} {y f : Int} (h : PwR w0 W bb cc nd sd z e np sp y f) (hb : Below W.heap.size W V) : PwR w0 V bb cc nd sd z e np sp y f :=
 ⟨h.1.below hb, h.2.1.below hb, h.2.2.1.below hb, h.2.2.2.1.below hb, h.2.2.2.2.1.trans (hb.mono h.2.2.2.2.1.size), h.2.2.2.2.2⟩
theorem PwR.put {w0 W : World} {bb cc : Nat} {nd : Bool} {sd : Value} {z e : Int} {np : Bool} {sp : Value} {y f : Int} {n2 : Bool} {s2 : Value} {y2 g : Int} (h : PwR w0 W bb cc nd sd z e np sp y f) (ha : DyAt W (.agg #[.bool n2, s2, .int .i64 g]) y2 g) :
  PwR w0 (((W.setCell ⟨cc, 0, none⟩ (.bool n2)).setCell ⟨cc, 1, none⟩ s2).setCell ⟨cc, 2, none⟩ (.int .i64 g)) bb cc nd sd z e n2 s2 y2 g := by
 obtain ⟨hb, hd, hc, hp, hB, hl, hn⟩ := h
 exact ⟨((hb.setOther hn _).setOther hn _).setOther hn _, hd.set3 hc _ _ _, ((hc.set (i := 0) (.bool n2)).set (i := 1) s2).set (i := 2) (.int .i64 g), ha.set3 hc _ _ _,
  ((hB.setCell (p := ⟨cc, 0, none⟩) hl _).setCell (p := ⟨cc, 1, none⟩) hl _).setCell (p := ⟨cc, 2, none⟩) hl _, hl, hn⟩
theorem PwR.start {w0 W : World} {nd : Bool} {sd : Value} {z e : Int} (h : DyAt W (.agg #[.bool nd, sd, .int .i64 e]) z e) (hb : Below w0.heap.size w0 W) :
  PwR w0 ((W.alloc (.cells #[.bool nd, sd, .int .i64 e] 98)).alloc (.cells #[.bool nd, sd, .int .i64 e] 98)) W.heap.size (W.heap.size + 1) nd sd z e nd sd z e := by
 have h1 := (Below.alloc_self W (.cells #[.bool nd, sd, .int .i64 e] 98)).alloc (Below.alloc_self W (.cells #[.bool nd, sd, .int .i64 e] 98)).size (.cells #[.bool nd, sd, .int .i64 e] 98)
 exact ⟨(BlkT.new W _ _).alloc _, h.below h1, BlkT.new1 W _ _ _, h.below h1, hb.trans (h1.mono hb.size), by have := hb.size; omega, by omega⟩
set_option maxRecDepth 100000 in
set_option maxHeartbeats 3200000 in
theorem iPower_any (x n : Nat) (mode : Int) (w : World) (hx : W64 x) (fx : finB x = true) (h1 : 1 ≤ n) (h2 : n ≤ 16) (hm : mode = 3 ∨ mode = 4) (hT : TabB w) :
  Calls Tryz.prog 143 #[.float .f64 x, .int .i64 (n : Int), .int .i64 mode] w (GivesK (pwK x n mode) w) := by
 have HO := Lib.hid fun W ht => iOf_any x W hx fx ht
 have HMU : Hid (∀ j, 1 ≤ j → j < n → ∀ va vb W, DyAt W va (valZ x ^ j) (pE x * (j : Int)) → DyAt W vb (valZ x) (pE x) → TabB W → Calls Tryz.prog 153 #[va, vb] W (DyNew (valZ x ^ (j + 1)) (pE x * ((j + 1 : Nat) : Int)) W)) := Lib.hid fun j h3 h4 va vb W ha hb ht => by
  obtain ⟨n1, n2⟩ := pow_next (valZ x) (pE x) j
  have hg := pow_good fx (j := j + 1) (by omega) (by omega)
  have hl := lng_of_good hg
  have hn := nrm_own hg.1
  have := dMul_any va vb (valZ x ^ j) (pE x * (j : Int)) (valZ x) (pE x) W ha hb (pow_good fx h3 (by omega)) (good_of fx) ht.1 ht.2 (by rw [n1, n2]; exact hl)
  rw [n1, n2, hn.1, hn.2] at this
  exact this
 have HRO := Lib.hid fun v W h3 ht => iRounded_at v (valZ x ^ n) (pE x * (n : Int)) mode W h3 (pow_good fx h1 h2) (by omega) (by omega) ht
 obtain ⟨R, hR, hR2⟩ := rnd_word (valZ x ^ n) (pE x * (n : Int)) mode
 rw [(nrm_own (pow_good fx h1 h2).1).1, (nrm_own (pow_good fx h1 h2).1).2] at hR
 rw [hR] at HRO
 have HR9 : Hid (W64 R ∧ nanB R = false ∧ ky R = pwK x n mode) := Lib.hid hR2
 have hz1 : valZ x ^ 1 = valZ x := Int.pow_one _
 have he1 : pE x * ((1 : Nat) : Int) = pE x := Int.mul_one _
 have HZ1 := Lib.hid hz1
 have HE1 := Lib.hid he1
 have HT := Lib.hid hT
 generalize pwK x n mode = K at *
 clear hR hR2 hz1 he1 hx fx hT hm
 generalize valZ x = z at *
 generalize pE x = e at *
 go_enter Tryz.func143, Tryz.ntmps143
 go_wp2_with fail
 refine (HO.out _ HT.out).mono ?_
 rintro e1 w1 h3
 obtain ⟨ao, l, cs, ng, rfl, ha, hb⟩ := h3.at
 have HS := Lib.hid (PwR.start ha hb)
 clear h3 ha hb
 go_upto_region 3 with fail
 generalize World.alloc (World.alloc w1 _) _ = W2 at HS ⊢
 generalize w1.heap.size = bb at HS ⊢
 go_wp2
 go_loopw [14] (fun i wr => ∃ (k : Nat) (np : Bool) (ap : Option Addr) (lp cp : Nat), k + 1 ≤ n ∧ i = .int .i64 (k : Int) ∧ Hid (PwR w wr bb (bb + 1) ng (.slice ao l cs) z e np (.slice ap lp cp) (z ^ (k + 1)) (e * ((k + 1 : Nat) : Int)))) (fun i _ => n - (intOf i).toNat)
 case atStart => exact ⟨0, ng, ao, l, cs, h1, rfl, Lib.hid (by rw [HZ1.out, HE1.out]; exact HS.out)⟩
 case round =>
  clear HS HZ1 HE1 W2
  obtain ⟨k, np, ap, lp, cp, hk, rfl, HR⟩ := hrel
  by_cases hlt : k + 1 < n
  ·have t1 : decide ((k : Int) < (n : Int) - 1) = true := decide_eq_true (by omega)
   have HM := Lib.hid (HMU.out (k + 1) (by omega) hlt)
   generalize z ^ (k + 1) = y at *
   generalize e * ((k + 1 : Nat) : Int) = f at *
   obtain ⟨y2, hy2⟩ : ∃ t, z ^ (k + 1 + 1) = t := ⟨_, rfl⟩
   obtain ⟨g, hg⟩ : ∃ t, e * ((k + 1 + 1 : Nat) : Int) = t := ⟨_, rfl⟩
   have HY := Lib.hid (And.intro hy2 hg)
   rw [hy2, hg] at HM
   clear hy2 hg
   obtain ⟨p0, p1, p2, p3, p4, p5⟩ := HR.out.1.cells3
   obtain ⟨q0, q1, q2, q3, q4, q5⟩ := HR.out.2.2.1.cells3
   go_wp2_with fail
   refine (HM.out _ _ _ HR.out.2.2.2.1 HR.out.2.1 (HT.out.below HR.out.2.2.2.2.1)).mono ?_
   rintro e2 w2 h3
   obtain ⟨a2, l2, c2, n2, rfl, ha2, hb2⟩ := h3.got
   replace HR := Lib.hid (HR.out.later hb2)
   have HA := Lib.hid ha2
   clear h3 ha2 hb2 p0 p1 p2 p3 p4 p5 q0 q1 q2 q3 q4 q5
   obtain ⟨q0, q1, q2, q3, q4, q5⟩ := HR.out.2.2.1.cells3
   go_wp2
   go_roundw
   case rel => exact ⟨k + 1, n2, a2, l2, c2, by omega, by go_num, Lib.hid (by rw [HY.out.1, HY.out.2]; exact HR.out.put HA.out)⟩
   case measure => simp [intOf]; omega
  ·obtain rfl : n = k + 1 := by omega
   have t1 : decide ((k : Int) < ((k + 1 : Nat) : Int) - 1) = false := decide_eq_false (by omega)
   generalize z ^ (k + 1) = y at *
   generalize e * ((k + 1 : Nat) : Int) = f at *
   obtain ⟨q0, q1, q2, q3, q4, q5⟩ := HR.out.2.2.1.cells3
   go_wp2_with fail
   refine (HRO.out _ _ HR.out.2.2.2.1 (HT.out.below HR.out.2.2.2.2.1)).mono ?_
   rintro e2 w2 ⟨rfl, hb2⟩
   replace HR := Lib.hid (HR.out.later hb2)
   clear hb2 q0 q1 q2 q3 q4 q5
   go_wp2
   go_ret
   exact ⟨R, rfl, HR9.out.1, HR9.out.2.1, HR9.out.2.2, HR.out.2.2.2.2.1⟩
end
section
open Go.RowKit
attribute [local go_sem] run_store_f
def toK (x n : Nat) (mode : Int) : Int := if finB x = true then pwK x n mode else if n % 2 = 0 then kInf else ky x
set_option maxRecDepth 100000 in
set_option maxHeartbeats 1600000 in
theorem iTo_any (x n : Nat) (mode : Int) (w : World) (hx : W64 x) (nx : nanB x = false) (h1 : 1 ≤ n) (h2 : n ≤ 16) (hm : mode = 3 ∨ mode = 4) (hT : TabB w) :
  Calls Tryz.prog 94 #[.float .f64 x, .int .i64 (n : Int), .int .i64 mode] w (GivesK (toK x n mode) w) := by
 have HFX := Lib.hid fun w => finite_any x w hx
 have HB := Lib.hid (Below.refl w.heap.size w)
 have HT := Lib.hid hT
 unfold toK
 cases fx : finB x
 ·rw [if_neg (by decide)]
  rw [fx] at HFX
  by_cases hp : n % 2 = 0
  ·have t1 : ((n : Int).tmod 2 == 0) = true := by
    have : (n : Int).tmod 2 = 0 := by rw [Int.tmod_eq_emod_of_nonneg (by omega)]; omega
    rw [this]; rfl
   have HI := Lib.hid fun w => inf_any w
   rw [if_pos hp]
   clear fx hT hm
   go_enter Tryz.func94, Tryz.ntmps94
   go_wp2_with fail
   refine (HFX.out _).mono ?_
   rintro e1 w1 ⟨rfl, hb1⟩
   replace HB := Lib.hid (HB.out.trans (hb1.mono HB.out.size))
   clear hb1
   go_wp2_with fail
   refine (HI.out _).mono ?_
   rintro e2 w2 ⟨rfl, hb2⟩
   replace HB := Lib.hid (HB.out.trans (hb2.mono HB.out.size))
   clear hb2
   go_wp2
   go_ret
   exact ⟨_, rfl, by decide, by decide, by decide, HB.out⟩
  ·have t1 : ((n : Int).tmod 2 == 0) = false := by
    have : (n : Int).tmod 2 = 1 := by rw [Int.tmod_eq_emod_of_nonneg (by omega)]; omega
    rw [this]; rfl
   have HX := Lib.hid (And.intro hx nx)
   rw [if_neg hp]
   clear fx hT hm hx nx
   go_enter Tryz.func94, Tryz.ntmps94
   go_wp2_with fail
   refine (HFX.out _).mono ?_
   rintro e1 w1 ⟨rfl, hb1⟩
   replace HB := Lib.hid (HB.out.trans (hb1.mono HB.out.size))
   clear hb1
   go_wp2
   go_ret
   exact ⟨x, rfl, HX.out.1, HX.out.2, rfl, HB.out⟩
 ·rw [if_pos rfl]
  rw [fx] at HFX
  have HP := Lib.hid fun W ht => iPower_any x n mode W hx fx h1 h2 hm ht
  generalize pwK x n mode = K at *
  clear fx hT hm hx nx
  go_enter Tryz.func94, Tryz.ntmps94
  go_wp2_with fail
  refine (HFX.out _).mono ?_
  rintro e1 w1 ⟨rfl, hb1⟩
  replace HB := Lib.hid (HB.out.trans (hb1.mono HB.out.size))
  clear hb1
  go_wp2_with fail
  refine (HP.out _ (HT.out.below HB.out)).mono ?_
  rintro e2 w2 ⟨r, rfl, rl, rn, rk, hb2⟩
  replace HB := Lib.hid (HB.out.trans (hb2.mono HB.out.size))
  have HR := Lib.hid (And.intro rl (And.intro rn rk))
  clear hb2 rl rn rk
  go_wp2
  go_ret
  exact ⟨r, rfl, HR.out.1, HR.out.2.1, HR.out.2.2, HB.out⟩
theorem toK_kb (x n : Nat) (mode : Int) : toK (kb (ky x)) n mode = toK x n mode := by
 rcases kb_ky x with hx | ⟨hx, hx'⟩
 ·rw [hx]
 ·rw [hx', hx]
  unfold toK pwK
  rw [show finB kSign = finB 0 by decide, show ky kSign = ky 0 by decide, show valZ kSign = valZ 0 by decide, show pE kSign = pE 0 by decide]
end
section
open Go.RowKit
attribute [local go_sem] run_store_f
def powK (a : Option (Int × Int)) (n : Nat) : Option (Int × Int) :=
 if n = 0 then a.map fun _ => (ky 4607182418800017408, ky 4607182418800017408) else (if n % 2 = 0 then absK a else a).map fun p => (toK (kb p.1) n 4, toK (kb p.2) n 3)
theorem I1.put {w0 W : World} {l h : Nat} (hx : I1 w0 W l h) (x y : Nat) : I1 w0 ((W.setCell ⟨w0.heap.size, 0, none⟩ (.float .f64 x)).setCell ⟨w0.heap.size, 1, none⟩ (.float .f64 y)) x y :=
 ⟨⟨(hx.1.1.set (i := 0) (.float .f64 x)).set (i := 1) (.float .f64 y), (hx.1.2.setOther (by omega) _).setOther (by omega) _⟩, (hx.2.setCell (p := ⟨w0.heap.size, 0, none⟩) (Nat.le_refl _) _).setCell (p := ⟨w0.heap.size, 1, none⟩) (Nat.le_refl _) _⟩
set_option maxRecDepth 100000 in
set_option maxHeartbeats 3200000 in
theorem pow_iv (l h n : Nat) (w : World) (hl : W64 l) (hh : W64 h) (h2 : n ≤ 16) (hT : TabB w) : Calls Tryz.prog 41 #[.agg #[.float .f64 l, .float .f64 h], .int .i64 (n : Int)] w (Gives (.tuple #[.agg #[.float .f64 (ivL (powK (ivK l h) n)), .float .f64 (ivH (powK (ivK l h) n))], .int .i64 0]) w) := by
 have HFA := Lib.hid fun w => full_any l h w hl hh
 have HT := Lib.hid hT
 have HW := Lib.hid (I1.new w l h)
 rcases e1 : ivK l h with _ | p
 ·have HE := Lib.hid fun w => empty_any w
  rw [e1, Option.isSome_none] at HFA
  rw [show powK none n = none by unfold powK; split <;> (try split) <;> rfl, show ivL none = 9218868437227405312 from rfl, show ivH none = 18442240474082181120 from rfl]
  clear e1 hT
  go_enter Tryz.func41, Tryz.ntmps41
  obtain ⟨⟨c0, c1⟩, q0, q1, q2, q3⟩ := HW.out.cells
  go_wp2_with fail
  refine (HFA.out _).mono ?_
  rintro e1 w1 ⟨rfl, hb1⟩
  replace HW := Lib.hid (HW.out.later hb1)
  clear hb1
  clear c0 c1 q0 q1 q2 q3
  obtain ⟨⟨c0, c1⟩, q0, q1, q2, q3⟩ := HW.out.cells
  go_wp2_with fail
  refine (HE.out _).mono ?_
  rintro e2 w2 ⟨rfl, hb2⟩
  replace HW := Lib.hid (HW.out.later hb2)
  clear hb2
  clear c0 c1 q0 q1 q2 q3
  obtain ⟨⟨c0, c1⟩, q0, q1, q2, q3⟩ := HW.out.cells
  go_wp2
  refine bodyPost_ret (v := .tuple #[.agg #[.float .f64 9218868437227405312, .float .f64 18442240474082181120], .int .i64 0]) (by simp [results, Tryz.results41, go_sem, q0, q1]) rfl ⟨rfl, HW.out.stored _ _⟩
 rw [e1, Option.isSome_some] at HFA
 have hok := e1 ▸ ivK_ok hl hh
 have HAB := Lib.hid fun W => absI_any l h W hl hh
 obtain ⟨nl, nh, hp⟩ := ivK_some e1
 rw [e1] at HAB
 by_cases h0 : n = 0
 ·subst h0
  have HMK := Lib.hid fun W => make1_any 4607182418800017408 4607182418800017408 W (by decide) (by decide) (by decide) (by decide)
  rw [show powK (some p) 0 = some (ky 4607182418800017408, ky 4607182418800017408) from rfl, show ivL (some (ky 4607182418800017408, ky 4607182418800017408)) = kb (ky 4607182418800017408) from rfl, show ivH (some (ky 4607182418800017408, ky 4607182418800017408)) = kb (ky 4607182418800017408) from rfl]
  generalize kb (ky 4607182418800017408) = L at *
  clear e1 hT hok HAB nl nh hp
  go_enter Tryz.func41, Tryz.ntmps41
  obtain ⟨⟨c0, c1⟩, q0, q1, q2, q3⟩ := HW.out.cells
  go_wp2_with fail
  refine (HFA.out _).mono ?_
  rintro e1 w1 ⟨rfl, hb1⟩
  replace HW := Lib.hid (HW.out.later hb1)
  clear hb1
  clear c0 c1 q0 q1 q2 q3
  obtain ⟨⟨c0, c1⟩, q0, q1, q2, q3⟩ := HW.out.cells
  go_wp2_with fail
  refine (HMK.out _).mono ?_
  rintro e2 w2 ⟨rfl, hb2⟩
  replace HW := Lib.hid (HW.out.later hb2)
  clear hb2
  clear c0 c1 q0 q1 q2 q3
  obtain ⟨⟨c0, c1⟩, q0, q1, q2, q3⟩ := HW.out.cells
  go_wp2
  refine bodyPost_ret (v := .tuple #[.agg #[.float .f64 L, .float .f64 L], .int .i64 0]) (by simp [results, Tryz.results41, go_sem, q0, q1]) rfl ⟨rfl, HW.out.stored _ _⟩
 have t0 : ((n : Int) == 0) = false := by rw [beq_eq_false_iff_ne]; omega
 by_cases hp2 : n % 2 = 0
 ·have t1 : ((n : Int).tmod 2 == 0) = true := by
   have : (n : Int).tmod 2 = 0 := by rw [Int.tmod_eq_emod_of_nonneg (by omega)]; omega
   rw [this]; rfl
  have hokA := absK_ok hok
  rw [show powK (some p) n = (absK (some p)).map fun p => (toK (kb p.1) n 4, toK (kb p.2) n 3) by unfold powK; rw [if_neg h0, if_pos hp2]]
  obtain ⟨a1, b1, hA⟩ : ∃ a1 b1, absK (some p) = some (a1, b1) := by
   rcases p with ⟨a, b⟩
   unfold absK; simp only
   split
   ·exact ⟨_, _, rfl⟩
   ·split <;> exact ⟨_, _, rfl⟩
  rw [hA] at HAB hokA ⊢
  have HTL := Lib.hid fun W ht => iTo_any (kb a1) n 4 W (ivL_lt hokA) (ivL_num hokA) (by omega) h2 (.inr rfl) ht
  have HTH := Lib.hid fun W ht => iTo_any (kb b1) n 3 W (ivH_lt hokA) (ivH_num hokA) (by omega) h2 (.inl rfl) ht
  rw [show ivL ((some (a1, b1)).map fun p => (toK (kb p.1) n 4, toK (kb p.2) n 3)) = kb (toK (kb a1) n 4) from rfl, show ivH ((some (a1, b1)).map fun p => (toK (kb p.1) n 4, toK (kb p.2) n 3)) = kb (toK (kb b1) n 3) from rfl]
  rw [show ivL (some (a1, b1)) = kb a1 from rfl, show ivH (some (a1, b1)) = kb b1 from rfl] at HAB
  generalize toK (kb a1) n 4 = K1 at *
  generalize toK (kb b1) n 3 = K2 at *
  generalize kb a1 = l1 at *
  generalize kb b1 = m1 at *
  clear e1 hT hok hokA nl nh hp hA
  go_enter Tryz.func41, Tryz.ntmps41
  obtain ⟨⟨c0, c1⟩, q0, q1, q2, q3⟩ := HW.out.cells
  go_wp2_with fail
  refine (HFA.out _).mono ?_
  rintro e1 w1 ⟨rfl, hb1⟩
  replace HW := Lib.hid (HW.out.later hb1)
  clear hb1
  clear c0 c1 q0 q1 q2 q3
  obtain ⟨⟨c0, c1⟩, q0, q1, q2, q3⟩ := HW.out.cells
  go_wp2_with fail
  refine (HAB.out _).mono ?_
  rintro e2 w2 ⟨rfl, hb2⟩
  replace HW := Lib.hid (HW.out.later hb2)
  clear hb2
  clear c0 c1 q0 q1 q2 q3
  obtain ⟨⟨c0, c1⟩, q0, q1, q2, q3⟩ := HW.out.cells
  obtain ⟨z0, z1, z2, z3⟩ := HW.out.1.1.cells2
  go_upto_region 9 with fail
  replace HW := Lib.hid (HW.out.put l1 m1)
  clear z0 z1 z2 z3
  generalize World.setCell (World.setCell w2 _ _) _ _ = W3 at HW ⊢
  clear c0 c1 q0 q1 q2 q3
  refine wp_region_pl (fun w' : World => w'.cell? ⟨w.heap.size, 0, none⟩ = some (.float .f64 l1) ∧ w'.cell? ⟨w.heap.size, 1, none⟩ = some (.float .f64 m1)) 7 (.take 0 (.take 1 (.take 2 (.take 4 (.take 5 (.take 6 (.run 3 .nil))))))) (by kernel_rfl) (by kernel_rfl) ?_
  replace HW := Lib.hid (HW.out.later (drew_below _))
  generalize World.drew _ = W9 at HW ⊢
  have hS : (fun w' : World => w'.cell? ⟨w.heap.size, 0, none⟩ = some (.float .f64 l1) ∧ w'.cell? ⟨w.heap.size, 1, none⟩ = some (.float .f64 m1)) W9 := HW.out.cells.1
  repeat (first | (refine tkL (v := ?_) rfl rfl rfl (fun w' hSw => ?_) hS ?_; rotate_left; (focus (go_simp; with_reducible rfl)); simp only [setL]) | (refine skL rfl rfl rfl hS ?_; simp only [setL]))
  clear hS
  refine wpPl_goL rfl rfl fun K' hK => ?_
  go_simp
  refine (HTL.out _ (HT.out.below HW.out.2)).mono ?_
  rintro e1 W9v1 ⟨r1, rfl, rl, rn, rk, hb1⟩
  replace HW := Lib.hid (HW.out.later hb1)
  have Hr1 := Lib.hid (And.intro rl (And.intro rn rk))
  clear rl rn rk
  refine hK _ _ HW.out.cells.1 ?_
  clear hK K' hb1
  try simp only [Act.put, setL]
  have hS : (fun w' : World => w'.cell? ⟨w.heap.size, 0, none⟩ = some (.float .f64 l1) ∧ w'.cell? ⟨w.heap.size, 1, none⟩ = some (.float .f64 m1)) W9v1 := HW.out.cells.1
  repeat (first | (refine tkL (v := ?_) rfl rfl rfl (fun w' hSw => ?_) hS ?_; rotate_left; (focus (go_simp; with_reducible rfl)); simp only [setL]) | (refine skL rfl rfl rfl hS ?_; simp only [setL]))
  clear hS
  refine wpPl_nil ?_
  simp only [drL]
  obtain ⟨⟨c0, c1⟩, q0, q1, q2, q3⟩ := HW.out.cells
  go_wp2_with fail
  refine (HTH.out _ (HT.out.below HW.out.2)).mono ?_
  rintro e8 w8 ⟨r2, rfl, rl, rn, rk, hb8⟩
  replace HW := Lib.hid (HW.out.later hb8)
  have Hr2 := Lib.hid (And.intro rl (And.intro rn rk))
  clear hb8 rl rn rk
  clear c0 c1 q0 q1 q2 q3
  obtain ⟨⟨c0, c1⟩, q0, q1, q2, q3⟩ := HW.out.cells
  have HMK := Lib.hid fun W => make1_any r1 r2 W Hr1.out.1 Hr2.out.1 Hr1.out.2.1 Hr2.out.2.1
  rw [Hr1.out.2.2, Hr2.out.2.2] at HMK
  generalize kb K1 = L at *
  generalize kb K2 = H at *
  go_wp2_with fail
  refine (HMK.out _).mono ?_
  rintro e9 w9 ⟨rfl, hb9⟩
  replace HW := Lib.hid (HW.out.later hb9)
  clear hb9
  clear c0 c1 q0 q1 q2 q3
  obtain ⟨⟨c0, c1⟩, q0, q1, q2, q3⟩ := HW.out.cells
  go_wp2
  refine bodyPost_ret (v := .tuple #[.agg #[.float .f64 L, .float .f64 H], .int .i64 0]) (by simp [results, Tryz.results41, go_sem, q0, q1]) rfl ⟨rfl, HW.out.stored _ _⟩
 ·have t1 : ((n : Int).tmod 2 == 0) = false := by
   have : (n : Int).tmod 2 = 1 := by rw [Int.tmod_eq_emod_of_nonneg (by omega)]; omega
   rw [this]; rfl
  rw [show powK (some p) n = some (toK (kb p.1) n 4, toK (kb p.2) n 3) by unfold powK; rw [if_neg h0, if_neg hp2]; rfl]
  rw [show ivL (some (toK (kb p.1) n 4, toK (kb p.2) n 3)) = kb (toK (kb p.1) n 4) from rfl, show ivH (some (toK (kb p.1) n 4, toK (kb p.2) n 3)) = kb (toK (kb p.2) n 3) from rfl]
  subst hp
  rw [show ((ky l, ky h) : Int × Int).1 = ky l from rfl, show ((ky l, ky h) : Int × Int).2 = ky h from rfl, toK_kb, toK_kb]
  have HTL := Lib.hid fun W ht => iTo_any l n 4 W hl nl (by omega) h2 (.inr rfl) ht
  have HTH := Lib.hid fun W ht => iTo_any h n 3 W hh nh (by omega) h2 (.inl rfl) ht
  generalize toK l n 4 = K1 at *
  generalize toK h n 3 = K2 at *
  clear e1 hT hok HAB nl nh
  go_enter Tryz.func41, Tryz.ntmps41
  obtain ⟨⟨c0, c1⟩, q0, q1, q2, q3⟩ := HW.out.cells
  go_wp2_with fail
  refine (HFA.out _).mono ?_
  rintro e1 w1 ⟨rfl, hb1⟩
  replace HW := Lib.hid (HW.out.later hb1)
  clear hb1
  clear c0 c1 q0 q1 q2 q3
  obtain ⟨⟨c0, c1⟩, q0, q1, q2, q3⟩ := HW.out.cells
  go_upto_region 9 with fail
  clear c0 c1 q0 q1 q2 q3
  refine wp_region_pl (fun w' : World => w'.cell? ⟨w.heap.size, 0, none⟩ = some (.float .f64 l) ∧ w'.cell? ⟨w.heap.size, 1, none⟩ = some (.float .f64 h)) 7 (.take 0 (.take 1 (.take 2 (.take 4 (.take 5 (.take 6 (.run 3 .nil))))))) (by kernel_rfl) (by kernel_rfl) ?_
  replace HW := Lib.hid (HW.out.later (drew_below _))
  generalize World.drew _ = W9 at HW ⊢
  have hS : (fun w' : World => w'.cell? ⟨w.heap.size, 0, none⟩ = some (.float .f64 l) ∧ w'.cell? ⟨w.heap.size, 1, none⟩ = some (.float .f64 h)) W9 := HW.out.cells.1
  repeat (first | (refine tkL (v := ?_) rfl rfl rfl (fun w' hSw => ?_) hS ?_; rotate_left; (focus (go_simp; with_reducible rfl)); simp only [setL]) | (refine skL rfl rfl rfl hS ?_; simp only [setL]))
  clear hS
  refine wpPl_goL rfl rfl fun K' hK => ?_
  go_simp
  refine (HTL.out _ (HT.out.below HW.out.2)).mono ?_
  rintro e1 W9v1 ⟨r1, rfl, rl, rn, rk, hb1⟩
  replace HW := Lib.hid (HW.out.later hb1)
  have Hr1 := Lib.hid (And.intro rl (And.intro rn rk))
  clear rl rn rk
  refine hK _ _ HW.out.cells.1 ?_
  clear hK K' hb1
  try simp only [Act.put, setL]
  have hS : (fun w' : World => w'.cell? ⟨w.heap.size, 0, none⟩ = some (.float .f64 l) ∧ w'.cell? ⟨w.heap.size, 1, none⟩ = some (.float .f64 h)) W9v1 := HW.out.cells.1
  repeat (first | (refine tkL (v := ?_) rfl rfl rfl (fun w' hSw => ?_) hS ?_; rotate_left; (focus (go_simp; with_reducible rfl)); simp only [setL]) | (refine skL rfl rfl rfl hS ?_; simp only [setL]))
  clear hS
  refine wpPl_nil ?_
  simp only [drL]
  obtain ⟨⟨c0, c1⟩, q0, q1, q2, q3⟩ := HW.out.cells
  go_wp2_with fail
  refine (HTH.out _ (HT.out.below HW.out.2)).mono ?_
  rintro e8 w8 ⟨r2, rfl, rl, rn, rk, hb8⟩
  replace HW := Lib.hid (HW.out.later hb8)
  have Hr2 := Lib.hid (And.intro rl (And.intro rn rk))
  clear hb8 rl rn rk
  clear c0 c1 q0 q1 q2 q3
  obtain ⟨⟨c0, c1⟩, q0, q1, q2, q3⟩ := HW.out.cells
  have HMK := Lib.hid fun W => make1_any r1 r2 W Hr1.out.1 Hr2.out.1 Hr1.out.2.1 Hr2.out.2.1
  rw [Hr1.out.2.2, Hr2.out.2.2] at HMK
  generalize kb K1 = L at *
  generalize kb K2 = H at *
  go_wp2_with fail
  refine (HMK.out _).mono ?_
  rintro e9 w9 ⟨rfl, hb9⟩
  replace HW := Lib.hid (HW.out.later hb9)
  clear hb9
  clear c0 c1 q0 q1 q2 q3
  obtain ⟨⟨c0, c1⟩, q0, q1, q2, q3⟩ := HW.out.cells
  go_wp2
  refine bodyPost_ret (v := .tuple #[.agg #[.float .f64 L, .float .f64 H], .int .i64 0]) (by simp [results, Tryz.results41, go_sem, q0, q1]) rfl ⟨rfl, HW.out.stored _ _⟩
end
section
open Go.RowKit
def vv (k : Int) : Int := vI 1074 (kb k)
theorem kb_fin {k : Int} (h1 : -(kInf : Int) < k) (h2 : k < kInf) : W64 (kb k) ∧ finB (kb k) = true ∧ nanB (kb k) = false ∧ ky (kb k) = k := by
 obtain ⟨a, b, c⟩ := kb_lt (k := k) (by omega) (by omega)
 exact ⟨a, (fin_ky a b).2 (by omega), num_iff.2 b, c⟩
theorem kb_inf {k : Int} (h1 : -(kInf : Int) ≤ k) (h2 : k ≤ kInf) : finB (kb k) = decide (-(kInf : Int) < k ∧ k < kInf) := by
 obtain ⟨a, b, c⟩ := kb_lt (k := k) (by omega) (by omega)
 have h := fin_ky a b
 rw [c] at h
 cases hf : finB (kb k)
 ·exact (decide_eq_false (fun h3 => by have := h.2 h3; rw [hf] at this; cases this)).symm
 ·exact (decide_eq_true (h.1 hf)).symm
theorem vv_zero : vv 0 = 0 := by unfold vv; rw [kb_zero]; exact vI_zero _
theorem vv_le {k j : Int} (h1 : -(kInf : Int) < k) (h2 : k < kInf) (h3 : -(kInf : Int) < j) (h4 : j < kInf) : k ≤ j ↔ vv k ≤ vv j := by
 obtain ⟨a, b, c, d⟩ := kb_fin h1 h2
 obtain ⟨a', b', c', d'⟩ := kb_fin h3 h4
 have := ky_le_vI a a' b b' (Int.le_refl 1074)
 rw [d, d'] at this
 exact this
theorem vv_pos {k : Int} (h1 : -(kInf : Int) < k) (h2 : k < kInf) : (0 ≤ k ↔ 0 ≤ vv k) ∧ (k ≤ 0 ↔ vv k ≤ 0) := by
 have hk : (0 : Int) < kInf := by decide
 have a := vv_le (k := 0) (j := k) (by omega) hk h1 h2
 have b := vv_le (k := k) (j := 0) h1 h2 (by omega) hk
 rw [vv_zero] at a b
 exact ⟨a, b⟩
theorem ad_rises {x y x' y' : Int} (mode : Int) (hx : -(kInf : Int) < x ∧ x < kInf) (hy : -(kInf : Int) < y ∧ y < kInf) (hx' : -(kInf : Int) < x' ∧ x' < kInf) (hy' : -(kInf : Int) < y' ∧ y' < kInf)
  (h : vv x + vv y ≤ vv x' + vv y') : adK (kb x) (kb y) mode ≤ adK (kb x') (kb y') mode := by
 have e1 := pE_bd (kb_fin hx.1 hx.2).2.1
 have e2 := pE_bd (kb_fin hy.1 hy.2).2.1
 have e3 := pE_bd (kb_fin hx'.1 hx'.2).2.1
 have e4 := pE_bd (kb_fin hy'.1 hy'.2).2.1
 unfold adK
 refine rndX_rises (M := 1074) mode (by omega) (plE_ge (by omega) (by omega)) (plE_ge (by omega) (by omega)) ?_
 rw [sc_pl (by omega) (by omega), sc_pl (by omega) (by omega)]
 exact h
theorem ad_bd (x y : Nat) : adK x y 4 ≤ adK x y 3 ∧ adK x y 4 < kInf ∧ -(kInf : Int) ≤ adK x y 4 ∧ -(kInf : Int) < adK x y 3 ∧ adK x y 3 ≤ kInf := by
 have h := rndX_adj (plZ (valZ x) (pE x) (valZ y) (pE y)) (plE (valZ x) (pE x) (valZ y) (pE y))
 have h2 := rndX_up_low (plZ (valZ x) (pE x) (valZ y) (pE y)) (plE (valZ x) (pE x) (valZ y) (pE y))
 obtain ⟨a, b⟩ := rndX_lt (plZ (valZ x) (pE x) (valZ y) (pE y)) (plE (valZ x) (pE x) (valZ y) (pE y)) 3
 have h3 := ky_bd a b
 unfold adK
 omega
theorem ml_bd (x y : Nat) : mlK x y 4 ≤ mlK x y 3 ∧ mlK x y 4 < kInf ∧ -(kInf : Int) ≤ mlK x y 4 ∧ -(kInf : Int) < mlK x y 3 ∧ mlK x y 3 ≤ kInf := by
 have h := rndX_adj (valZ x * valZ y) (pE x + pE y)
 have h2 := rndX_up_low (valZ x * valZ y) (pE x + pE y)
 obtain ⟨a, b⟩ := rndX_lt (valZ x * valZ y) (pE x + pE y) 3
 have h3 := ky_bd a b
 unfold mlK
 omega
end
section
open Go.RowKit
theorem kInf_pos : (0 : Int) < kInf := by decide
theorem su_form {x y : Int} (hx : -(kInf : Int) ≤ x ∧ x ≤ kInf) (hy : -(kInf : Int) ≤ y ∧ y ≤ kInf) (mode : Int) :
  suK (kb x) (kb y) mode = if -(kInf : Int) < x ∧ x < kInf then (if -(kInf : Int) < y ∧ y < kInf then adK (kb x) (kb y) mode else y) else x := by
 unfold suK
 rw [kb_inf hx.1 hx.2, kb_inf hy.1 hy.2, (kb_lt hx.1 hx.2).2.2, (kb_lt hy.1 hy.2).2.2]
 by_cases h1 : -(kInf : Int) < x ∧ x < kInf
 ·by_cases h2 : -(kInf : Int) < y ∧ y < kInf
  ·rw [decide_eq_true h1, decide_eq_true h2, if_neg (by decide), if_neg (by decide), if_pos h1, if_pos h2]
  ·rw [decide_eq_true h1, decide_eq_false h2, if_neg (by decide), if_pos rfl, if_pos h1, if_neg h2]
 ·rw [decide_eq_false h1, if_pos rfl, if_neg h1]
theorem addK_ok {a b : Option (Int × Int)} (ha : Iok a) (hb : Iok b) : Iok (addK a b) := by
 rcases a with _ | ⟨l, h⟩
 ·exact Iok.none
 rcases b with _ | ⟨m, k⟩
 ·exact Iok.none
 obtain ⟨a1, a2, a3, a4, a5⟩ := ha l h rfl
 obtain ⟨b1, b2, b3, b4, b5⟩ := hb m k rfl
 intro x y e
 have e2 : (suK (kb l) (kb m) 4, suK (kb h) (kb k) 3) = (x, y) := Option.some.inj e
 obtain ⟨rfl, rfl⟩ := Prod.mk.inj e2
 rw [su_form ⟨by omega, by omega⟩ ⟨by omega, by omega⟩, su_form ⟨by omega, by omega⟩ ⟨by omega, by omega⟩]
 have c1 := ad_bd (kb l) (kb m)
 have c2 := ad_bd (kb h) (kb k)
 by_cases f1 : -(kInf : Int) < l ∧ l < kInf <;> by_cases f2 : -(kInf : Int) < m ∧ m < kInf <;> by_cases f3 : -(kInf : Int) < h ∧ h < kInf <;> by_cases f4 : -(kInf : Int) < k ∧ k < kInf <;>
  simp only [f1, f2, f3, f4, and_self, if_true, if_false] <;> try omega
 have := ad_rises 4 f1 f2 f3 f4 (Int.add_le_add ((vv_le f1.1 f1.2 f3.1 f3.2).1 a2) ((vv_le f2.1 f2.2 f4.1 f4.2).1 b2))
 omega
theorem pr_form {x y : Int} (hx : -(kInf : Int) ≤ x ∧ x ≤ kInf) (hy : -(kInf : Int) ≤ y ∧ y ≤ kInf) (mode : Int) :
  prK (kb x) (kb y) mode = if x = 0 ∨ y = 0 then 0 else if (-(kInf : Int) < x ∧ x < kInf) ∧ (-(kInf : Int) < y ∧ y < kInf) then mlK (kb x) (kb y) mode else if (0 < x ↔ 0 < y) then (kInf : Int) else -(kInf : Int) := by
 unfold prK sgK
 rw [kb_inf hx.1 hx.2, kb_inf hy.1 hy.2, (kb_lt hx.1 hx.2).2.2, (kb_lt hy.1 hy.2).2.2]
 by_cases h0 : x = 0 ∨ y = 0
 ·rw [if_pos h0, if_pos h0]
 ·rw [if_neg h0, if_neg h0]
  by_cases h1 : -(kInf : Int) < x ∧ x < kInf <;> by_cases h2 : -(kInf : Int) < y ∧ y < kInf <;> by_cases h3 : 0 < x <;> by_cases h4 : 0 < y <;> simp [h1, h2, h3, h4]
theorem pr_bd {x y : Int} (hx : -(kInf : Int) ≤ x ∧ x ≤ kInf) (hy : -(kInf : Int) ≤ y ∧ y ≤ kInf) :
  prK (kb x) (kb y) 4 ≤ prK (kb x) (kb y) 3 ∧ -(kInf : Int) ≤ prK (kb x) (kb y) 4 ∧ prK (kb x) (kb y) 3 ≤ kInf ∧
  (prK (kb x) (kb y) 4 = kInf → (x = kInf ∨ x = -kInf ∨ y = kInf ∨ y = -kInf) ∧ ((0 < x ∧ 0 < y) ∨ (x < 0 ∧ y < 0))) ∧
  (prK (kb x) (kb y) 3 = -kInf → (x = kInf ∨ x = -kInf ∨ y = kInf ∨ y = -kInf) ∧ ((0 < x ∧ y < 0) ∨ (x < 0 ∧ 0 < y))) := by
 rw [pr_form hx hy, pr_form hx hy]
 have hb := ml_bd (kb x) (kb y)
 have hk := kInf_pos
 by_cases h0 : x = 0 ∨ y = 0
 ·rw [if_pos h0, if_pos h0]; omega
 ·rw [if_neg h0, if_neg h0]
  by_cases h1 : (-(kInf : Int) < x ∧ x < kInf) ∧ (-(kInf : Int) < y ∧ y < kInf)
  ·rw [if_pos h1, if_pos h1]; omega
  ·rw [if_neg h1, if_neg h1]
   by_cases h3 : (0 < x ↔ 0 < y)
   ·rw [if_pos h3]; omega
   ·rw [if_neg h3]; omega
theorem mulK_ok {a b : Option (Int × Int)} (ha : Iok a) (hb : Iok b) : Iok (mulK a b) := by
 rcases a with _ | ⟨l, h⟩
 ·exact Iok.none
 rcases b with _ | ⟨m, k⟩
 ·exact Iok.none
 obtain ⟨a1, a2, a3, a4, a5⟩ := ha l h rfl
 obtain ⟨b1, b2, b3, b4, b5⟩ := hb m k rfl
 intro x y e
 obtain ⟨rfl, rfl⟩ := Prod.mk.inj (Option.some.inj e)
 have c1 := pr_bd (x := l) (y := m) ⟨by omega, by omega⟩ ⟨by omega, by omega⟩
 have c2 := pr_bd (x := l) (y := k) ⟨by omega, by omega⟩ ⟨by omega, by omega⟩
 have c3 := pr_bd (x := h) (y := m) ⟨by omega, by omega⟩ ⟨by omega, by omega⟩
 have c4 := pr_bd (x := h) (y := k) ⟨by omega, by omega⟩ ⟨by omega, by omega⟩
 have hk := kInf_pos
 generalize prK (kb l) (kb m) 4 = p1 at *
 generalize prK (kb l) (kb k) 4 = p2 at *
 generalize prK (kb h) (kb m) 4 = p3 at *
 generalize prK (kb h) (kb k) 4 = p4 at *
 generalize prK (kb l) (kb m) 3 = q1 at *
 generalize prK (kb l) (kb k) 3 = q2 at *
 generalize prK (kb h) (kb m) 3 = q3 at *
 generalize prK (kb h) (kb k) 3 = q4 at *
 clear e
 generalize (kInf : Int) = I at *
 obtain ⟨c11, c12, c13, c14, c15⟩ := c1
 obtain ⟨c21, c22, c23, c24, c25⟩ := c2
 obtain ⟨c31, c32, c33, c34, c35⟩ := c3
 obtain ⟨c41, c42, c43, c44, c45⟩ := c4
 refine ⟨by omega, by omega, by omega, ?_, ?_⟩
 ·have : p1 < I ∨ p2 < I ∨ p3 < I ∨ p4 < I := by
   clear c15 c25 c35 c45
   by_cases g1 : p1 = I
   ·by_cases g2 : p2 = I
    ·by_cases g3 : p3 = I
     ·by_cases g4 : p4 = I
      ·have := c14 g1; have := c24 g2; have := c34 g3; have := c44 g4; omega
      ·omega
     ·omega
    ·omega
   ·omega
  omega
 ·have : -I < q1 ∨ -I < q2 ∨ -I < q3 ∨ -I < q4 := by
   clear c14 c24 c34 c44
   by_cases g1 : q1 = -I
   ·by_cases g2 : q2 = -I
    ·by_cases g3 : q3 = -I
     ·by_cases g4 : q4 = -I
      ·have := c15 g1; have := c25 g2; have := c35 g3; have := c45 g4; omega
      ·omega
     ·omega
    ·omega
   ·omega
  omega
end
section
open Go.RowKit
theorem absK_pos {a : Option (Int × Int)} (ha : Iok a) {x y : Int} (h : absK a = some (x, y)) : 0 ≤ x := by
 rcases a with _ | ⟨l, k⟩
 ·cases h
 ·obtain ⟨a1, a2, a3, a4, a5⟩ := ha l k rfl
  have h2 : (if 0 ≤ l then some (l, k) else if k ≤ 0 then some (-k, -l) else some (0, max (-l) k)) = some (x, y) := h
  split at h2
  ·obtain ⟨rfl, rfl⟩ := Prod.mk.inj (Option.some.inj h2); assumption
  ·split at h2 <;> obtain ⟨rfl, rfl⟩ := Prod.mk.inj (Option.some.inj h2) <;> omega
end
end Go.Proofs.YtloohbkceppocaaGreatDoor
