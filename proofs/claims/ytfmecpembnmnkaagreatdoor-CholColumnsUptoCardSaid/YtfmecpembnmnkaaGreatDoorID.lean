/- Walks: numbers as dyads and back; sums and products rounded outward. Printed by wip/gen/iv3.py. -/
import Derived.Test.YtfmecpembnmnkaaGreatDoorIC
import Derived.Test.YtfmecpembnmnkaaGreatDoorGM
import Derived.Test.YtfmecpembnmnkaaGreatDoorZBd4
import Derived.Test.YtfmecpembnmnkaaGreatDoorIB
import Derived.Test.YtfmecpembnmnkaaGreatDoorHB
namespace Go.Proofs.YtfmecpembnmnkaaGreatDoor
section
open Go.RowKit
theorem fma_eq (a b c r : Nat) (h : F6.fma a b c = some r) (w : World) : (callFunc 154 #[.float .f64 a, .float .f64 b, .float .f64 c]).run Tryz.prog w = .ok (.value (.float .f64 r)) w := by
 rw [run_callFunc_extern Tryz.func154 (by kernel_rfl) (by kernel_rfl) (by kernel_rfl) (e := Extern.MathFMA.fma) (by kernel_rfl)]
 have h2 : FloatKind.f64.format.fma a b c = some r := h
 have h3 : Extern.MathFMA.fma #[.float .f64 a, .float .f64 b, .float .f64 c] = pure (.float .f64 r) := by
  show (match FloatKind.f64.format.fma a b c with | some r => (pure (Value.float .f64 r) : Sem Value) | none => _) = _
  rw [h2]
 rw [h3]; rfl
def DyBox (w0 W : World) (b : Nat) : Prop := BlkT W b 167 #[.bool false, .slice none 0 0, .int .i64 0] ∧ Below w0.heap.size w0 W
theorem DyBox.later {w0 W V : World} {b : Nat} (h : DyBox w0 W b) (hb : Below W.heap.size W V) : DyBox w0 V b := ⟨h.1.below hb, h.2.trans (hb.mono h.2.size)⟩
theorem DyBox.new (w : World) : DyBox w (w.alloc (.cells #[.bool false, .slice none 0 0, .int .i64 0] 167)) w.heap.size := ⟨BlkT.new w _ _, Below.alloc_self w _⟩
def DyGot (z e : Int) (w : World) (en : Ending) (w' : World) : Prop := ∃ sl, en = .returned (DyV (decide (z < 0)) sl e) ∧ Raw .u32 32 w' sl (ln 32 z.natAbs) z.natAbs ∧ Below w.heap.size w w'
def TabB (w : World) : Prop := Tab64 w ∧ 1 < w.heap.size
theorem TabB.below {w w' : World} (h : TabB w) (hb : Below w.heap.size w w') : TabB w' := ⟨h.1.below h.2 hb, Nat.lt_of_lt_of_le h.2 hb.size⟩
set_option maxRecDepth 100000 in
set_option maxHeartbeats 800000 in
theorem iOf_any (b : Nat) (w : World) (h : W64 b) (hf : finB b = true) (hT : TabB w) :
  Calls Tryz.prog 156 #[.float .f64 b] w (DyGot (valZ b) (pE b) w) := by
 have HD := Lib.hid fun w ht hs => dOf_any b w h hf ht hs
 have HW := Lib.hid (DyBox.new w)
 have HT := Lib.hid hT
 clear h hf hT
 generalize valZ b = z at *
 generalize pE b = e at *
 go_enter Tryz.func156, Tryz.ntmps156
 go_wp2_with fail
 refine (HD.out _ (HT.out.below (Below.alloc_self _ _)).1 (HT.out.below (Below.alloc_self _ _)).2).mono ?_
 rintro e1 w1 ⟨sl, rfl, hr, ho, hb1⟩
 replace HW := Lib.hid (HW.out.later hb1)
 have HR := Lib.hid hr
 obtain ⟨ao, cs, hsl, -⟩ := hr
 subst hsl
 have hlt := HW.out.1.lt
 have HF : Hid (∀ x0 x1 x2, Raw .u32 32 ((((w1.setCell ⟨w.heap.size, 0, none⟩ x0).setCell ⟨w.heap.size, 1, none⟩ x1).setCell ⟨w.heap.size, 2, none⟩ x2).alloc (.cells #[.bool (decide (z < 0)), .slice ao (ln 32 z.natAbs) cs, .int .i64 e] 167)) (.slice ao (ln 32 z.natAbs) cs) (ln 32 z.natAbs) z.natAbs ∧
   Below w.heap.size w ((((w1.setCell ⟨w.heap.size, 0, none⟩ x0).setCell ⟨w.heap.size, 1, none⟩ x1).setCell ⟨w.heap.size, 2, none⟩ x2).alloc (.cells #[.bool (decide (z < 0)), .slice ao (ln 32 z.natAbs) cs, .int .i64 e] 167))) := Lib.hid fun x0 x1 x2 => by
  have hA2 : DyAt w1 (DyV (decide (z < 0)) (.slice ao (ln 32 z.natAbs) cs) e) z e := ⟨_, rfl, HR.out⟩
  have h3 := hA2.set3 HW.out.1 x0 x1 x2
  obtain ⟨sl2, e2, h4⟩ := h3
  unfold DyV at e2
  simp only [Value.agg.injEq, Array.mk.injEq, List.cons.injEq, true_and, and_true] at e2
  subst e2
  have hB := ((HW.out.2.setCell (p := ⟨w.heap.size, 0, none⟩) (Nat.le_refl _) x0).setCell (p := ⟨w.heap.size, 1, none⟩) (Nat.le_refl _) x1).setCell (p := ⟨w.heap.size, 2, none⟩) (Nat.le_refl _) x2
  exact ⟨h4.below (Below.alloc_self _ _), hB.trans ((Below.alloc_self _ _).mono hB.size)⟩
 have HN := HW
 have HG : Hid (DyGot z e w (.returned (DyV (decide (z < 0)) (.slice ao (ln 32 z.natAbs) cs) e)) ((((w1.setCell ⟨w.heap.size, 0, none⟩ (.bool (decide (z < 0)))).setCell ⟨w.heap.size, 1, none⟩ (.slice ao (ln 32 z.natAbs) cs)).setCell ⟨w.heap.size, 2, none⟩ (.int .i64 e)).alloc (.cells #[.bool (decide (z < 0)), .slice ao (ln 32 z.natAbs) cs, .int .i64 e] 167))) := Lib.hid ⟨_, rfl, HF.out _ _ _⟩
 clear ho hb1 HD HW HT HR
 obtain ⟨q0, q1, q2, q3, q4, q5⟩ := HN.out.1.cells3
 clear HF
 generalize hP : DyGot z e w = P at *
 clear hP
 unfold DyV at *
 generalize ln 32 z.natAbs = l at *
 generalize decide (z < 0) = ng at *
 go_wp2
 refine bodyPost_ret (v := .agg #[.bool ng, .slice ao l cs, .int .i64 e]) (by simp [results, Tryz.results156, go_sem, q0, q1, q2, hlt]) rfl HG.out
set_option maxRecDepth 100000 in
set_option maxHeartbeats 800000 in
theorem iRounded_any (sl : Value) (z e mode : Int) (w : World) (hr : Raw .u32 32 w sl (ln 32 z.natAbs) z.natAbs) (hg : GoodD z e) (h1 : 0 ≤ mode) (h2 : mode ≤ 4) (hT : TabB w) :
  Calls Tryz.prog 157 #[.agg #[.bool (decide (z < 0)), sl, .int .i64 e], .int .i64 0, .int .i64 mode] w (Gives (.float .f64 (rndB z e mode)) w) := by
 have HD := Lib.hid fun w (ha : DyAt w (DyV (decide (z < 0)) sl e) z e) ht hs => dRound_any _ z e mode w ha hg h1 h2 ht hs
 have HA : Hid (DyAt w (DyV (decide (z < 0)) sl e) z e) := Lib.hid ⟨_, rfl, hr⟩
 have HT := Lib.hid hT
 obtain ⟨ao, cs, rfl, -⟩ := hr
 clear hg h1 h2 hT
 generalize rndB z e mode = R at *
 unfold DyV at *
 generalize ln 32 z.natAbs = l at *
 generalize decide (z < 0) = ng at *
 go_enter Tryz.func157, Tryz.ntmps157
 go_wp2_with fail
 refine (HD.out _ (HA.out.below (Below.alloc_self _ _)) (HT.out.below (Below.alloc_self _ _)).1 (HT.out.below (Below.alloc_self _ _)).2).mono ?_
 rintro e1 w1 ⟨rfl, hb1⟩
 have HB := Lib.hid ((Below.alloc_self w _).trans (hb1.mono (Below.alloc_self w _).size))
 clear hb1
 go_wp2
 go_ret
 exact ⟨rfl, HB.out⟩
end
section
open Go.RowKit
attribute [local go_sem] run_store_f
theorem abs_lt_test {x : Nat} (_hx : W64 x) (nx : nanB x = false) : (FloatKind.f64.format.order (x % kSign) 9110782046170513408 == some Ordering.lt) = decide (x % kSign < 9110782046170513408) := by
 have hk : W64 (x % kSign) := Nat.lt_trans (Nat.mod_lt _ (by decide : 0 < kSign)) (by decide)
 have hn : nanB (x % kSign) = false := by rw [nan_abs]; exact nx
 have hy : ky (x % kSign) = (x % kSign : Nat) := by unfold ky; rw [if_pos (Nat.mod_lt _ (by decide : 0 < kSign))]
 rw [lt_test hk (by decide) hn (by decide), hy, show ky 9110782046170513408 = 9110782046170513408 by decide, decide_eq_decide]
 omega
theorem num_mul {x y : Nat} (hx : finB x = true) (hy : finB y = true) : valZ x * valZ y = 0 ∨ lngB (valZ x * valZ y) (pE x + pE y) = false := by
 have h1 := pE_bd hx
 have h2 := pE_bd hy
 have h3 := bl_mul (valZ x).natAbs (valZ y).natAbs
 rw [← Int.natAbs_mul] at h3
 have h4 := val_bl (b := x)
 have h5 := val_bl (b := y)
 exact .inr (lng_bd (by omega) (by omega) (by omega))
theorem good_add {x y : Nat} (hx : finB x = true) (hy : finB y = true) : GoodD (hvZ (plZ (valZ x) (pE x) (valZ y) (pE y))) (nrE (plZ (valZ x) (pE x) (valZ y) (pE y)) (plE (valZ x) (pE x) (valZ y) (pE y))) := good_of_lng (num_add hx hy)
theorem good_mul {x y : Nat} (hx : finB x = true) (hy : finB y = true) : GoodD (hvZ (valZ x * valZ y)) (nrE (valZ x * valZ y) (pE x + pE y)) := good_of_lng (num_mul hx hy)
theorem rnd_word (z e mode : Int) : ∃ R, rndB (hvZ z) (nrE z e) mode = R ∧ W64 R ∧ nanB R = false ∧ ky R = ky (rndX z e mode) := by
 refine ⟨_, rfl, ?_⟩
 rw [rndX_hv]
 exact ⟨(rndX_lt _ _ _).1, num_iff.2 (rndX_lt _ _ _).2, rfl⟩
theorem DyGot.at {z e : Int} {w : World} {en : Ending} {w' : World} (h : DyGot z e w en w') :
  ∃ (ao : Option Addr) (l cs : Nat) (ng : Bool), en = .returned (.agg #[.bool ng, .slice ao l cs, .int .i64 e]) ∧ DyAt w' (.agg #[.bool ng, .slice ao l cs, .int .i64 e]) z e ∧ Below w.heap.size w w' := by
 obtain ⟨sl, rfl, hr, hb⟩ := h
 have ha : DyAt w' (DyV (decide (z < 0)) sl e) z e := ⟨_, rfl, hr⟩
 obtain ⟨ao, cs, rfl, -⟩ := hr
 exact ⟨ao, _, cs, _, rfl, ha, hb⟩
theorem DyNew.got {z e : Int} {w : World} {en : Ending} {w' : World} (h : DyNew z e w en w') :
  ∃ (ao : Option Addr) (l cs : Nat) (ng : Bool), en = .returned (.tuple #[.agg #[.bool ng, .slice ao l cs, .int .i64 e], .int .i64 0]) ∧ DyAt w' (.agg #[.bool ng, .slice ao l cs, .int .i64 e]) z e ∧ Below w.heap.size w w' := by
 obtain ⟨sl, rfl, hr, -, hb⟩ := h
 have ha : DyAt w' (DyV (decide (z < 0)) sl e) z e := ⟨_, rfl, hr⟩
 obtain ⟨ao, cs, rfl, -⟩ := hr
 exact ⟨ao, _, cs, _, rfl, ha, hb⟩
theorem iRounded_at (v : Value) (z e mode : Int) (w : World) (hr : DyAt w v z e) (hg : GoodD z e) (h1 : 0 ≤ mode) (h2 : mode ≤ 4) (hT : TabB w) :
  Calls Tryz.prog 157 #[v, .int .i64 0, .int .i64 mode] w (Gives (.float .f64 (rndB z e mode)) w) := by
 obtain ⟨sl, rfl, hr⟩ := hr
 exact iRounded_any sl z e mode w hr hg h1 h2 hT
set_option maxRecDepth 100000 in
set_option maxHeartbeats 3200000 in
theorem iAdd_any (a b : Nat) (mode : Int) (w : World) (ha : W64 a) (hb : W64 b) (fa : finB a = true) (fb : finB b = true) (hm : mode = 3 ∨ mode = 4) (hT : TabB w) :
  Calls Tryz.prog 151 #[.float .f64 a, .float .f64 b, .int .i64 mode] w (GivesK (adK a b mode) w) := by
 have HO1 := Lib.hid fun W ht => iOf_any a W ha fa ht
 have HO2 := Lib.hid fun W ht => iOf_any b W hb fb ht
 have HAD := Lib.hid fun va vb W h1 h2 (ht : TabB W) => dAdd_any va vb (valZ a) (pE a) (valZ b) (pE b) W h1 h2 (good_of fa) (good_of fb) ht.1 ht.2 (num_add fa fb)
 have HRO := Lib.hid fun v W h1 ht => iRounded_at v _ _ mode W h1 (good_add fa fb) (by omega) (by omega) ht
 obtain ⟨R, hR, hR2⟩ := rnd_word (plZ (valZ a) (pE a) (valZ b) (pE b)) (plE (valZ a) (pE a) (valZ b) (pE b)) mode
 have HR : Hid (W64 R ∧ nanB R = false ∧ ky R = adK a b mode) := Lib.hid hR2
 rw [hR] at HRO
 have HT := Lib.hid hT
 have HB := Lib.hid (Below.refl w.heap.size w)
 obtain ⟨s, hs, sl, sn, -⟩ := fadd_ky ha hb fa fb
 have hadd : ∀ t w, (binOp .add t (.float .f64 a) (.float .f64 b)).run Tryz.prog w = .ok (.float .f64 s) w := fun t w => run_float_arith w .add t .f64 _ _ _ hs
 have HU := Lib.hid fun W => usual_any s W sl (num_iff.2 sn)
 have HA := Lib.hid fun W => abs_any a W ha
 have HA' := Lib.hid fun W => abs_any b W hb
 have t1 := abs_lt_test ha (nan_fin fa)
 have t2 := abs_lt_test hb (nan_fin fb)
 cases hu : usB s
 ·rw [hu] at HU
  clear hu hR hR2 ha hb fa fb hm hT hs sl sn t1 t2
  generalize adK a b mode = KK at *
  generalize hvZ (plZ (valZ a) (pE a) (valZ b) (pE b)) = zz at *
  generalize nrE (plZ (valZ a) (pE a) (valZ b) (pE b)) (plE (valZ a) (pE a) (valZ b) (pE b)) = ee at *
  generalize valZ a = za at *
  generalize pE a = ea at *
  generalize valZ b = zb at *
  generalize pE b = eb at *
  go_enter Tryz.func151, Tryz.ntmps151
  go_wp2_with fail
  refine (HU.out _).mono ?_
  rintro e1 w1 ⟨rfl, hb1⟩
  replace HB := Lib.hid (HB.out.trans (hb1.mono HB.out.size))
  clear hb1
  go_wp2_with fail
  refine (HO1.out _ (HT.out.below HB.out)).mono ?_
  rintro e5 w5 h5
  obtain ⟨a1, l1, c1, n1, rfl, ha1, hb5⟩ := h5.at
  have HA1 := Lib.hid ha1
  replace HB := Lib.hid (HB.out.trans (hb5.mono HB.out.size))
  clear hb5 h5 ha1
  go_wp2_with fail
  refine (HO2.out _ (HT.out.below HB.out)).mono ?_
  rintro e6 w6 h6
  obtain ⟨a2, l2, c2, n2, rfl, ha2, hb6⟩ := h6.at
  have HA2 := Lib.hid ha2
  replace HA1 := Lib.hid (HA1.out.below hb6)
  replace HB := Lib.hid (HB.out.trans (hb6.mono HB.out.size))
  clear hb6 h6 ha2
  go_wp2_with fail
  refine (HAD.out _ _ _ HA1.out HA2.out (HT.out.below HB.out)).mono ?_
  rintro e7 w7 h7
  obtain ⟨a3, l3, c3, n3, rfl, ha3, hb7⟩ := h7.got
  have HA3 := Lib.hid ha3
  replace HB := Lib.hid (HB.out.trans (hb7.mono HB.out.size))
  clear hb7 h7 ha3 HA1 HA2
  go_wp2_with fail
  refine (HRO.out _ _ (HA3.out.below (Below.alloc_self _ _)) (HT.out.below (HB.out.trans ((Below.alloc_self _ _).mono HB.out.size)))).mono ?_
  rintro e8 w8 ⟨rfl, hb8⟩
  replace HB := Lib.hid (HB.out.trans (((Below.alloc_self _ _).trans (hb8.mono (Below.alloc_self _ _).size)).mono HB.out.size))
  clear hb8
  go_wp2
  go_ret
  exact ⟨_, rfl, HR.out.1, HR.out.2.1, HR.out.2.2, HB.out⟩
 rw [hu] at HU
 by_cases ca : a % kSign < 9110782046170513408
 case neg =>
  rw [decide_eq_false ca] at t1
  clear hu hR hR2 ha hb fa fb hm hT hs sl sn t2 ca
  generalize adK a b mode = KK at *
  generalize hvZ (plZ (valZ a) (pE a) (valZ b) (pE b)) = zz at *
  generalize nrE (plZ (valZ a) (pE a) (valZ b) (pE b)) (plE (valZ a) (pE a) (valZ b) (pE b)) = ee at *
  generalize valZ a = za at *
  generalize pE a = ea at *
  generalize valZ b = zb at *
  generalize pE b = eb at *
  generalize a % kSign = ma at *
  go_enter Tryz.func151, Tryz.ntmps151
  go_wp2_with fail
  refine (HU.out _).mono ?_
  rintro e1 w1 ⟨rfl, hb1⟩
  replace HB := Lib.hid (HB.out.trans (hb1.mono HB.out.size))
  clear hb1
  go_wp2_with fail
  refine (HA.out _).mono ?_
  rintro e2 w2 ⟨rfl, hb2⟩
  replace HB := Lib.hid (HB.out.trans (hb2.mono HB.out.size))
  clear hb2
  go_wp2_with fail
  refine (HO1.out _ (HT.out.below HB.out)).mono ?_
  rintro e5 w5 h5
  obtain ⟨a1, l1, c1, n1, rfl, ha1, hb5⟩ := h5.at
  have HA1 := Lib.hid ha1
  replace HB := Lib.hid (HB.out.trans (hb5.mono HB.out.size))
  clear hb5 h5 ha1
  go_wp2_with fail
  refine (HO2.out _ (HT.out.below HB.out)).mono ?_
  rintro e6 w6 h6
  obtain ⟨a2, l2, c2, n2, rfl, ha2, hb6⟩ := h6.at
  have HA2 := Lib.hid ha2
  replace HA1 := Lib.hid (HA1.out.below hb6)
  replace HB := Lib.hid (HB.out.trans (hb6.mono HB.out.size))
  clear hb6 h6 ha2
  go_wp2_with fail
  refine (HAD.out _ _ _ HA1.out HA2.out (HT.out.below HB.out)).mono ?_
  rintro e7 w7 h7
  obtain ⟨a3, l3, c3, n3, rfl, ha3, hb7⟩ := h7.got
  have HA3 := Lib.hid ha3
  replace HB := Lib.hid (HB.out.trans (hb7.mono HB.out.size))
  clear hb7 h7 ha3 HA1 HA2
  go_wp2_with fail
  refine (HRO.out _ _ (HA3.out.below (Below.alloc_self _ _)) (HT.out.below (HB.out.trans ((Below.alloc_self _ _).mono HB.out.size)))).mono ?_
  rintro e8 w8 ⟨rfl, hb8⟩
  replace HB := Lib.hid (HB.out.trans (((Below.alloc_self _ _).trans (hb8.mono (Below.alloc_self _ _).size)).mono HB.out.size))
  clear hb8
  go_wp2
  go_ret
  exact ⟨_, rfl, HR.out.1, HR.out.2.1, HR.out.2.2, HB.out⟩
 rw [decide_eq_true ca] at t1
 by_cases cb : b % kSign < 9110782046170513408
 case neg =>
  rw [decide_eq_false cb] at t2
  clear hu hR hR2 ha hb fa fb hm hT hs sl sn ca cb
  generalize adK a b mode = KK at *
  generalize hvZ (plZ (valZ a) (pE a) (valZ b) (pE b)) = zz at *
  generalize nrE (plZ (valZ a) (pE a) (valZ b) (pE b)) (plE (valZ a) (pE a) (valZ b) (pE b)) = ee at *
  generalize valZ a = za at *
  generalize pE a = ea at *
  generalize valZ b = zb at *
  generalize pE b = eb at *
  generalize a % kSign = ma at *
  generalize b % kSign = mb at *
  go_enter Tryz.func151, Tryz.ntmps151
  go_wp2_with fail
  refine (HU.out _).mono ?_
  rintro e1 w1 ⟨rfl, hb1⟩
  replace HB := Lib.hid (HB.out.trans (hb1.mono HB.out.size))
  clear hb1
  go_wp2_with fail
  refine (HA.out _).mono ?_
  rintro e2 w2 ⟨rfl, hb2⟩
  replace HB := Lib.hid (HB.out.trans (hb2.mono HB.out.size))
  clear hb2
  go_wp2_with fail
  refine (HA'.out _).mono ?_
  rintro e3 w3 ⟨rfl, hb3⟩
  replace HB := Lib.hid (HB.out.trans (hb3.mono HB.out.size))
  clear hb3
  go_wp2_with fail
  refine (HO1.out _ (HT.out.below HB.out)).mono ?_
  rintro e5 w5 h5
  obtain ⟨a1, l1, c1, n1, rfl, ha1, hb5⟩ := h5.at
  have HA1 := Lib.hid ha1
  replace HB := Lib.hid (HB.out.trans (hb5.mono HB.out.size))
  clear hb5 h5 ha1
  go_wp2_with fail
  refine (HO2.out _ (HT.out.below HB.out)).mono ?_
  rintro e6 w6 h6
  obtain ⟨a2, l2, c2, n2, rfl, ha2, hb6⟩ := h6.at
  have HA2 := Lib.hid ha2
  replace HA1 := Lib.hid (HA1.out.below hb6)
  replace HB := Lib.hid (HB.out.trans (hb6.mono HB.out.size))
  clear hb6 h6 ha2
  go_wp2_with fail
  refine (HAD.out _ _ _ HA1.out HA2.out (HT.out.below HB.out)).mono ?_
  rintro e7 w7 h7
  obtain ⟨a3, l3, c3, n3, rfl, ha3, hb7⟩ := h7.got
  have HA3 := Lib.hid ha3
  replace HB := Lib.hid (HB.out.trans (hb7.mono HB.out.size))
  clear hb7 h7 ha3 HA1 HA2
  go_wp2_with fail
  refine (HRO.out _ _ (HA3.out.below (Below.alloc_self _ _)) (HT.out.below (HB.out.trans ((Below.alloc_self _ _).mono HB.out.size)))).mono ?_
  rintro e8 w8 ⟨rfl, hb8⟩
  replace HB := Lib.hid (HB.out.trans (((Below.alloc_self _ _).trans (hb8.mono (Below.alloc_self _ _).size)).mono HB.out.size))
  clear hb8
  go_wp2
  go_ret
  exact ⟨_, rfl, HR.out.1, HR.out.2.1, HR.out.2.2, HB.out⟩
 rw [decide_eq_true cb] at t2
 obtain ⟨t, p, d, q, r, h1, h2, h3, h4, h5, -, fs, rl, rn, hk⟩ := add_quick (mode := mode) ha hb fa fb ca cb hs hm
 have hsub1 : ∀ t' w, (binOp .sub t' (.float .f64 s) (.float .f64 a)).run Tryz.prog w = .ok (.float .f64 t) w := fun t' w => run_float_arith w .sub t' .f64 _ _ _ h1
 have hsub2 : ∀ t' w, (binOp .sub t' (.float .f64 s) (.float .f64 t)).run Tryz.prog w = .ok (.float .f64 p) w := fun t' w => run_float_arith w .sub t' .f64 _ _ _ h2
 have hsub3 : ∀ t' w, (binOp .sub t' (.float .f64 a) (.float .f64 p)).run Tryz.prog w = .ok (.float .f64 d) w := fun t' w => run_float_arith w .sub t' .f64 _ _ _ h3
 have hsub4 : ∀ t' w, (binOp .sub t' (.float .f64 b) (.float .f64 t)).run Tryz.prog w = .ok (.float .f64 q) w := fun t' w => run_float_arith w .sub t' .f64 _ _ _ h4
 have hadd5 : ∀ t' w, (binOp .add t' (.float .f64 d) (.float .f64 q)).run Tryz.prog w = .ok (.float .f64 r) w := fun t' w => run_float_arith w .add t' .f64 _ _ _ h5
 have HS := Lib.hid fun W => step_any s r mode W sl fs rl rn hm
 have HR9 : Hid (W64 (stB s (ky r) mode) ∧ nanB (stB s (ky r) mode) = false ∧ ky (stB s (ky r) mode) = adK a b mode) := Lib.hid ⟨(st_ky sl fs).2.1, (st_ky sl fs).2.2, hk⟩
 clear hu hR hR2 ha hb fa fb hm hT hs sl sn ca cb HO1 HO2 HAD HRO HR HT h1 h2 h3 h4 h5 rl rn fs hk
 generalize stB s (ky r) mode = RR at *
 generalize adK a b mode = KK at *
 generalize a % kSign = ma at *
 generalize b % kSign = mb at *
 go_enter Tryz.func151, Tryz.ntmps151
 go_wp2_with fail
 refine (HU.out _).mono ?_
 rintro e1 w1 ⟨rfl, hb1⟩
 replace HB := Lib.hid (HB.out.trans (hb1.mono HB.out.size))
 clear hb1
 go_wp2_with fail
 refine (HA.out _).mono ?_
 rintro e2 w2 ⟨rfl, hb2⟩
 replace HB := Lib.hid (HB.out.trans (hb2.mono HB.out.size))
 clear hb2
 go_wp2_with fail
 refine (HA'.out _).mono ?_
 rintro e3 w3 ⟨rfl, hb3⟩
 replace HB := Lib.hid (HB.out.trans (hb3.mono HB.out.size))
 clear hb3
 go_wp2_with fail
 refine (HS.out _).mono ?_
 rintro e4 w4 ⟨rfl, hb4⟩
 replace HB := Lib.hid (HB.out.trans (hb4.mono HB.out.size))
 clear hb4
 go_wp2
 go_ret
 exact ⟨_, rfl, HR9.out.1, HR9.out.2.1, HR9.out.2.2, HB.out⟩
set_option maxRecDepth 100000 in
set_option maxHeartbeats 3200000 in
theorem iMul_any (a b : Nat) (mode : Int) (w : World) (ha : W64 a) (hb : W64 b) (fa : finB a = true) (fb : finB b = true) (hm : mode = 3 ∨ mode = 4) (hT : TabB w) :
  Calls Tryz.prog 134 #[.float .f64 a, .float .f64 b, .int .i64 mode] w (GivesK (mlK a b mode) w) := by
 have HO1 := Lib.hid fun W ht => iOf_any a W ha fa ht
 have HO2 := Lib.hid fun W ht => iOf_any b W hb fb ht
 have HAD := Lib.hid fun va vb W h1 h2 (ht : TabB W) => dMul_any va vb (valZ a) (pE a) (valZ b) (pE b) W h1 h2 (good_of fa) (good_of fb) ht.1 ht.2 (num_mul fa fb)
 have HRO := Lib.hid fun v W h1 ht => iRounded_at v _ _ mode W h1 (good_mul fa fb) (by omega) (by omega) ht
 obtain ⟨R, hR, hR2⟩ := rnd_word (valZ a * valZ b) (pE a + pE b) mode
 have HR : Hid (W64 R ∧ nanB R = false ∧ ky R = mlK a b mode) := Lib.hid hR2
 rw [hR] at HRO
 have HT := Lib.hid hT
 have HB := Lib.hid (Below.refl w.heap.size w)
 obtain ⟨p, hp, sl, sn, -⟩ := fmul_ky ha hb fa fb
 have hmul : ∀ t w, (binOp .mul t (.float .f64 a) (.float .f64 b)).run Tryz.prog w = .ok (.float .f64 p) w := fun t w => run_float_arith w .mul t .f64 _ _ _ hp
 have HU := Lib.hid fun W => usual_any p W sl (num_iff.2 sn)
 cases hu : usB p
 ·rw [hu] at HU
  clear hu hR hR2 ha hb fa fb hm hT hp sl sn
  generalize mlK a b mode = KK at *
  generalize hvZ (valZ a * valZ b) = zz at *
  generalize nrE (valZ a * valZ b) (pE a + pE b) = ee at *
  generalize valZ a = za at *
  generalize pE a = ea at *
  generalize valZ b = zb at *
  generalize pE b = eb at *
  go_enter Tryz.func134, Tryz.ntmps134
  go_wp2_with fail
  refine (HU.out _).mono ?_
  rintro e1 w1 ⟨rfl, hb1⟩
  replace HB := Lib.hid (HB.out.trans (hb1.mono HB.out.size))
  clear hb1
  go_wp2_with fail
  refine (HO1.out _ (HT.out.below HB.out)).mono ?_
  rintro e5 w5 h5
  obtain ⟨a1, l1, c1, n1, rfl, ha1, hb5⟩ := h5.at
  have HA1 := Lib.hid ha1
  replace HB := Lib.hid (HB.out.trans (hb5.mono HB.out.size))
  clear hb5 h5 ha1
  go_wp2_with fail
  refine (HO2.out _ (HT.out.below HB.out)).mono ?_
  rintro e6 w6 h6
  obtain ⟨a2, l2, c2, n2, rfl, ha2, hb6⟩ := h6.at
  have HA2 := Lib.hid ha2
  replace HA1 := Lib.hid (HA1.out.below hb6)
  replace HB := Lib.hid (HB.out.trans (hb6.mono HB.out.size))
  clear hb6 h6 ha2
  go_wp2_with fail
  refine (HAD.out _ _ _ HA1.out HA2.out (HT.out.below HB.out)).mono ?_
  rintro e7 w7 h7
  obtain ⟨a3, l3, c3, n3, rfl, ha3, hb7⟩ := h7.got
  have HA3 := Lib.hid ha3
  replace HB := Lib.hid (HB.out.trans (hb7.mono HB.out.size))
  clear hb7 h7 ha3 HA1 HA2
  go_wp2_with fail
  refine (HRO.out _ _ (HA3.out.below (Below.alloc_self _ _)) (HT.out.below (HB.out.trans ((Below.alloc_self _ _).mono HB.out.size)))).mono ?_
  rintro e8 w8 ⟨rfl, hb8⟩
  replace HB := Lib.hid (HB.out.trans (((Below.alloc_self _ _).trans (hb8.mono (Below.alloc_self _ _).size)).mono HB.out.size))
  clear hb8
  go_wp2
  go_ret
  exact ⟨_, rfl, HR.out.1, HR.out.2.1, HR.out.2.2, HB.out⟩
 rw [hu] at HU
 obtain ⟨r, h1, -, fp, rl, rn, hk⟩ := mul_quick (mode := mode) ha hb fa fb hp hu hm
 have hng : ∀ w, (Op.unary .neg (.float .f64 p)).run Tryz.prog w = .ok (.float .f64 (flipB p)) w := fun w => by rw [← neg_flip sl]; rfl
 have hfm := fma_eq a b (flipB p) r h1
 have HS := Lib.hid fun W => step_any p r mode W sl fp rl rn hm
 have HR9 : Hid (W64 (stB p (ky r) mode) ∧ nanB (stB p (ky r) mode) = false ∧ ky (stB p (ky r) mode) = mlK a b mode) := Lib.hid ⟨(st_ky sl fp).2.1, (st_ky sl fp).2.2, hk⟩
 clear hu hR hR2 ha hb fa fb hm hT hp sl sn HO1 HO2 HAD HRO HR HT h1 rl rn fp hk
 generalize stB p (ky r) mode = RR at *
 generalize mlK a b mode = KK at *
 generalize flipB p = np at *
 go_enter Tryz.func134, Tryz.ntmps134
 go_wp2_with fail
 refine (HU.out _).mono ?_
 rintro e1 w1 ⟨rfl, hb1⟩
 replace HB := Lib.hid (HB.out.trans (hb1.mono HB.out.size))
 clear hb1
 go_wp2_with fail
 refine (HS.out _).mono ?_
 rintro e4 w4 ⟨rfl, hb4⟩
 replace HB := Lib.hid (HB.out.trans (hb4.mono HB.out.size))
 clear hb4
 go_wp2
 go_ret
 exact ⟨_, rfl, HR9.out.1, HR9.out.2.1, HR9.out.2.2, HB.out⟩
end
section
open Go.RowKit
attribute [local go_sem] run_store_f
theorem sqrt_eq (a r : Nat) (h : F6.sqrt a = some r) (w : World) : (callFunc 119 #[.float .f64 a]).run Tryz.prog w = .ok (.value (.float .f64 r)) w := by
 rw [run_callFunc_extern Tryz.func119 (by kernel_rfl) (by kernel_rfl) (by kernel_rfl) (e := Extern.MathSqrt.sqrt) (by kernel_rfl)]
 have h2 : FloatKind.f64.format.sqrt a = some r := h
 have h3 : Extern.MathSqrt.sqrt #[.float .f64 a] = pure (.float .f64 r) := by
  show (match FloatKind.f64.format.sqrt a with | some r => (pure (Value.float .f64 r) : Sem Value) | none => _) = _
  rw [h2]
 rw [h3]; rfl
theorem sqrt_any (a r : Nat) (h : F6.sqrt a = some r) (w : World) : Calls Tryz.prog 62 #[.float .f64 a] w (Gives (.float .f64 r) w) := by
 have h1 := sqrt_eq a r h
 clear h
 go_enter Tryz.func62, Tryz.ntmps62
 go_wp2
 go_ret
 exact ⟨rfl, Below.refl _ _⟩
theorem DyAt.raw {w : World} {v : Value} {z e : Int} (h : DyAt w v z e) (hg : GoodD z e) : DyRaw w v (decide (z < 0)) (ln 32 z.natAbs) z.natAbs e := by
 obtain ⟨sl, rfl, hr⟩ := h
 exact ⟨sl, rfl, hr, Nat.le_trans (ln_le_bl 32 _ (by decide)) (Nat.le_trans hg.2.1 (by decide))⟩
theorem sgZ_own (z : Int) : sgZ (decide (z < 0)) z.natAbs = z := by
 unfold sgZ
 by_cases h : z < 0
 ·rw [decide_eq_true h, if_pos rfl]; omega
 ·rw [decide_eq_false h, if_neg (by decide)]; omega
theorem dCmp_at (va vb : Value) (z e y f : Int) (w : World) (ha : DyAt w va z e) (hb : DyAt w vb y f) (hga : GoodD z e) (hgb : GoodD y f) :
  Calls Tryz.prog 263 #[va, vb] w (Gives (.tuple #[.int .i64 (plZ z e (-y) f).sign, .int .i64 0]) w) := by
 have := cmp_ok va vb _ _ _ _ _ _ e f w (ha.raw hga) (hb.raw hgb) (by rw [may_good hga, may_good hgb]; rfl)
 rw [sgZ_own, sgZ_own] at this
 exact this
theorem iSign_float (s : Int) (h : s = -1 ∨ s = 0 ∨ s = 1) : ∃ r, (∀ w, (convert 3 35 (.int .i64 s)).run Tryz.prog w = .ok (.float .f64 r) w) ∧ W64 r ∧ nanB r = false ∧ ky r = s * 4607182418800017408 := by
 have k1 : floatOfInt .f64 (-1) = 13830554455654793216 := by decide
 have k2 : floatOfInt .f64 0 = 0 := by decide
 have k3 : floatOfInt .f64 1 = 4607182418800017408 := by decide
 rcases h with rfl | rfl | rfl
 ·exact ⟨13830554455654793216, fun w => by rw [← k1]; simp [go_sem], by decide, by decide, by decide⟩
 ·exact ⟨0, fun w => by rw [← k2]; simp [go_sem], by decide, by decide, by decide⟩
 ·exact ⟨4607182418800017408, fun w => by rw [← k3]; simp [go_sem], by decide, by decide, by decide⟩
theorem sign_cases (s : Int) : s.sign = -1 ∨ s.sign = 0 ∨ s.sign = 1 := by
 rcases Int.lt_trichotomy s 0 with h | h | h
 ·exact .inl (Int.sign_eq_neg_one_of_neg h)
 ·exact .inr (.inl (by rw [h]; rfl))
 ·exact .inr (.inr (Int.sign_eq_one_of_pos h))
def DyIn3 (w0 W : World) (b : Nat) (ng : Bool) (ao : Option Addr) (l cs : Nat) (z e : Int) : Prop :=
 (BlkT W b 167 #[.bool ng, .slice ao l cs, .int .i64 e] ∧ DyAt W (.agg #[.bool ng, .slice ao l cs, .int .i64 e]) z e) ∧ Below w0.heap.size w0 W
theorem DyIn3.later {w0 W V : World} {b : Nat} {ng : Bool} {ao : Option Addr} {l cs : Nat} {z e : Int} (h : DyIn3 w0 W b ng ao l cs z e) (hb : Below W.heap.size W V) : DyIn3 w0 V b ng ao l cs z e :=
 ⟨⟨h.1.1.below hb, h.1.2.below hb⟩, h.2.trans (hb.mono h.2.size)⟩
theorem DyIn3.cells {w0 W : World} {b : Nat} {ng : Bool} {ao : Option Addr} {l cs : Nat} {z e : Int} (h : DyIn3 w0 W b ng ao l cs z e) :
  (W.cell? ⟨b, 0, none⟩ = some (.bool ng) ∧ W.cell? ⟨b, 1, none⟩ = some (.slice ao l cs)) ∧ W.cell? ⟨b, 2, none⟩ = some (.int .i64 e) := ⟨⟨h.1.1.cell 0, h.1.1.cell 1⟩, h.1.1.cell 2⟩
def DyIn4 (w0 W : World) (b : Nat) (ng : Bool) (ao : Option Addr) (l cs : Nat) (z e : Int) (v : Value) (y f : Int) : Prop := DyIn3 w0 W b ng ao l cs z e ∧ DyAt W v y f
theorem DyIn4.later {w0 W V : World} {b : Nat} {ng : Bool} {ao : Option Addr} {l cs : Nat} {z e : Int} {v : Value} {y f : Int} (h : DyIn4 w0 W b ng ao l cs z e v y f) (hb : Below W.heap.size W V) : DyIn4 w0 V b ng ao l cs z e v y f :=
 ⟨h.1.later hb, h.2.below hb⟩
def LeftOf (a b c : Nat) (w : World) (e : Ending) (w' : World) : Prop := ∃ r, e = .returned (.float .f64 r) ∧ W64 r ∧ nanB r = false ∧ ((0 < ky r ↔ fI b * fI c < fI a * 2 ^ 1074) ∧ (ky r < 0 ↔ fI a * 2 ^ 1074 < fI b * fI c)) ∧ Below w.heap.size w w'
theorem left_sign {a b c : Nat} (ha : W64 a) (fa : finB a = true) (fb : finB b = true) (fc : finB c = true) :
  (0 < (plZ (valZ a) (pE a) (-hvZ (valZ b * valZ c)) (nrE (valZ b * valZ c) (pE b + pE c))).sign ↔ fI b * fI c < fI a * 2 ^ 1074) ∧
  ((plZ (valZ a) (pE a) (-hvZ (valZ b * valZ c)) (nrE (valZ b * valZ c) (pE b + pE c))).sign < 0 ↔ fI a * 2 ^ 1074 < fI b * fI c) := by
 have h1 := pE_bd fa
 have h2 := pE_bd fb
 have h3 := pE_bd fc
 have hn : 0 ≤ nrE (valZ b * valZ c) (pE b + pE c) + 2148 := nrE_ge (by decide) (by omega)
 have hp := sc_pl (M := 2148) (z := valZ a) (e := pE a) (y := -hvZ (valZ b * valZ c)) (f := nrE (valZ b * valZ c) (pE b + pE c)) (by omega) hn
 rw [sc_neg, sc_nr (by omega), show sc 2148 (valZ b * valZ c) (pE b + pE c) = fI b * fI c from sc_mul (M := 1074) (by omega) (by omega), show sc 2148 (valZ a) (pE a) = fI a * 2 ^ 1074 from vI_scale (M := 2148) ha fa (by decide)] at hp
 have hs := pow_sgn (plZ (valZ a) (pE a) (-hvZ (valZ b * valZ c)) (nrE (valZ b * valZ c) (pE b + pE c))) (plE (valZ a) (pE a) (-hvZ (valZ b * valZ c)) (nrE (valZ b * valZ c) (pE b + pE c)) + 2148).toNat
 unfold sc at hp
 rw [hp] at hs
 generalize plZ (valZ a) (pE a) (-hvZ (valZ b * valZ c)) (nrE (valZ b * valZ c) (pE b + pE c)) = P at *
 generalize fI a * 2 ^ 1074 = S at *
 generalize fI b * fI c = T at *
 rcases Int.lt_trichotomy P 0 with h | h | h
 ·rw [Int.sign_eq_neg_one_of_neg h]; omega
 ·rw [h, show (0 : Int).sign = 0 from rfl]; omega
 ·rw [Int.sign_eq_one_of_pos h]; omega
set_option maxRecDepth 100000 in
set_option maxHeartbeats 3200000 in
theorem iLeft_any (a b c : Nat) (w : World) (ha : W64 a) (hb : W64 b) (hc : W64 c) (fa : finB a = true) (fb : finB b = true) (fc : finB c = true) (hT : TabB w) :
  Calls Tryz.prog 225 #[.float .f64 a, .float .f64 b, .float .f64 c] w (LeftOf a b c w) := by
 have HO1 := Lib.hid fun W ht => iOf_any a W ha fa ht
 have HO2 := Lib.hid fun W ht => iOf_any b W hb fb ht
 have HO3 := Lib.hid fun W ht => iOf_any c W hc fc ht
 have HMU := Lib.hid fun va vb W h1 h2 (ht : TabB W) => dMul_any va vb (valZ b) (pE b) (valZ c) (pE c) W h1 h2 (good_of fb) (good_of fc) ht.1 ht.2 (num_mul fb fc)
 have HCM := Lib.hid fun va vb W h1 h2 => dCmp_at va vb (valZ a) (pE a) (hvZ (valZ b * valZ c)) (nrE (valZ b * valZ c) (pE b + pE c)) W h1 h2 (good_of fa) (good_mul fb fc)
 have hsg := left_sign ha fa fb fc
 obtain ⟨r, hcv, rl, rn, rk⟩ := iSign_float _ (sign_cases (plZ (valZ a) (pE a) (-hvZ (valZ b * valZ c)) (nrE (valZ b * valZ c) (pE b + pE c))))
 have HR : Hid (W64 r ∧ nanB r = false ∧ ((0 < ky r ↔ fI b * fI c < fI a * 2 ^ 1074) ∧ (ky r < 0 ↔ fI a * 2 ^ 1074 < fI b * fI c))) := Lib.hid ⟨rl, rn, by rw [rk]; generalize fI a * 2 ^ 1074 = S at *; omega⟩
 clear hsg rk rl rn ha hb hc fa fb fc
 have HPO : Hid (∀ w', Below w.heap.size w w' → LeftOf a b c w (.returned (.float .f64 r)) w') := Lib.hid fun w' hb => ⟨r, rfl, HR.out.1, HR.out.2.1, HR.out.2.2, hb⟩
 clear HR
 generalize hPP : LeftOf a b c w = PP at *
 clear hPP
 generalize (plZ (valZ a) (pE a) (-hvZ (valZ b * valZ c)) (nrE (valZ b * valZ c) (pE b + pE c))).sign = sg at *
 generalize hvZ (valZ b * valZ c) = pz at *
 generalize nrE (valZ b * valZ c) (pE b + pE c) = pf at *
 generalize valZ a = za at *
 generalize pE a = ea at *
 generalize valZ b = zb at *
 generalize pE b = eb at *
 generalize valZ c = zc at *
 generalize pE c = ec at *
 go_enter Tryz.func225, Tryz.ntmps225
 go_wp2_with fail
 refine (HO2.out _ hT).mono ?_
 rintro e5 w5 h5
 obtain ⟨a1, l1, c1, n1, rfl, ha1, hb5⟩ := h5.at
 have HA1 := Lib.hid ha1
 have HB := Lib.hid hb5
 have HT := Lib.hid hT
 clear hb5 h5 ha1 hT
 go_wp2_with fail
 refine (HO3.out _ (HT.out.below HB.out)).mono ?_
 rintro e6 w6 h6
 obtain ⟨a2, l2, c2, n2, rfl, ha2, hb6⟩ := h6.at
 have HA2 := Lib.hid ha2
 replace HA1 := Lib.hid (HA1.out.below hb6)
 replace HB := Lib.hid (HB.out.trans (hb6.mono HB.out.size))
 clear hb6 h6 ha2
 go_wp2_with fail
 refine (HMU.out _ _ _ HA1.out HA2.out (HT.out.below HB.out)).mono ?_
 rintro e7 w7 h7
 obtain ⟨a3, l3, c3, n3, rfl, ha3, hb7⟩ := h7.got
 replace HB := Lib.hid (HB.out.trans (hb7.mono HB.out.size))
 have HW : Hid (DyIn3 w (w7.alloc (.cells #[.bool n3, .slice a3 l3 c3, .int .i64 pf] 167)) w7.heap.size n3 a3 l3 c3 pz pf) := Lib.hid ⟨⟨BlkT.new w7 _ _, ha3.below (Below.alloc_self _ _)⟩, HB.out.trans ((Below.alloc_self _ _).mono HB.out.size)⟩
 clear hb7 h7 ha3 HA1 HA2 HB
 go_wp2
 generalize w7.heap.size = b0 at HW ⊢
 refine wp_region_pl (fun w' : World => (w'.cell? ⟨b0, 0, none⟩ = some (.bool n3) ∧ w'.cell? ⟨b0, 1, none⟩ = some (.slice a3 l3 c3)) ∧ w'.cell? ⟨b0, 2, none⟩ = some (.int .i64 pf)) 8 (.take 0 (.take 2 (.run 1 (.run 3 (.take 4 (.take 5 (.take 6 (.take 7 .nil)))))))) (by kernel_rfl) (by kernel_rfl) ?_
 replace HW := Lib.hid (HW.out.later (drew_below _))
 generalize World.drew _ = W8 at HW ⊢
 have hS : (fun w' : World => (w'.cell? ⟨b0, 0, none⟩ = some (.bool n3) ∧ w'.cell? ⟨b0, 1, none⟩ = some (.slice a3 l3 c3)) ∧ w'.cell? ⟨b0, 2, none⟩ = some (.int .i64 pf)) W8 := HW.out.cells
 repeat (refine tkL (v := ?_) rfl rfl rfl (fun w' hSw => ?_) hS ?_; rotate_left; (focus (go_simp; with_reducible rfl)); simp only [setL])
 clear hS
 refine wpPl_goL rfl rfl fun K' hK => ?_
 go_simp
 refine (HO1.out _ (HT.out.below HW.out.2)).mono ?_
 rintro e9 W9 h9
 obtain ⟨a4, l4, c4, n4, rfl, ha4, hb9⟩ := h9.at
 have HX : Hid (DyIn4 w W9 b0 n3 a3 l3 c3 pz pf (.agg #[.bool n4, .slice a4 l4 c4, .int .i64 ea]) za ea) := Lib.hid ⟨HW.out.later hb9, ha4⟩
 clear HW h9 ha4 hb9
 refine hK _ _ HX.out.1.cells ?_
 clear hK K'
 try simp only [Act.put, setL]
 refine wpPl_goL rfl rfl fun K' hK => ?_
 go_simp
 refine (HCM.out _ _ _ HX.out.2 HX.out.1.1.2).mono ?_
 rintro e10 W10 ⟨rfl, hb10⟩
 replace HX := Lib.hid (HX.out.later hb10)
 refine hK _ _ HX.out.1.cells ?_
 clear hK K' hb10
 try simp only [Act.put, setL]
 have hS : (fun w' : World => (w'.cell? ⟨b0, 0, none⟩ = some (.bool n3) ∧ w'.cell? ⟨b0, 1, none⟩ = some (.slice a3 l3 c3)) ∧ w'.cell? ⟨b0, 2, none⟩ = some (.int .i64 pf)) W10 := HX.out.1.cells
 repeat (refine tkL (v := ?_) rfl rfl rfl (fun w' hSw => ?_) hS ?_; rotate_left; (focus (go_simp; with_reducible rfl)); simp only [setL])
 clear hS
 refine wpPl_nil ?_
 simp only [drL]
 go_wp2
 exact HPO.out _ HX.out.1.2
theorem fI_zero_iff {b : Nat} (h : W64 b) (hf : finB b = true) : (fI b = 0 ↔ valZ b = 0) ∧ (0 < fI b ↔ 0 < ky b) ∧ (fI b < 0 ↔ ky b < 0) := by
 have a := ky_lt_vI (M := 1074) (by decide : W64 0) h (by decide) hf (by decide)
 have c := ky_lt_vI (M := 1074) h (by decide : W64 0) hf (by decide) (by decide)
 rw [ky_zero, vI_zero, ← fI_vI] at a c
 refine ⟨?_, a.symm, c.symm⟩
 unfold fI
 exact sc_eq_zero
theorem div_step {a b : Nat} {mode k : Int} (ha : W64 a) (hb : W64 b) (fa : finB a = true) (fb : finB b = true) (a0 : valZ a ≠ 0) (b0 : valZ b ≠ 0) (fq : finB (rndX (qZ a b) (qE a b) 0) = true) (hm : mode = 3 ∨ mode = 4)
  (k1 : 0 < k ↔ (0 < fI b ∧ fI (rndX (qZ a b) (qE a b) 0) * fI b < fI a * 2 ^ 1074) ∨ (fI b < 0 ∧ fI a * 2 ^ 1074 < fI (rndX (qZ a b) (qE a b) 0) * fI b))
  (k2 : k < 0 ↔ (0 < fI b ∧ fI a * 2 ^ 1074 < fI (rndX (qZ a b) (qE a b) 0) * fI b) ∨ (fI b < 0 ∧ fI (rndX (qZ a b) (qE a b) 0) * fI b < fI a * 2 ^ 1074)) :
  ky (stB (rndX (qZ a b) (qE a b) 0) k mode) = dvK a b mode := by
 obtain ⟨lq, nq⟩ := rndX_lt (qZ a b) (qE a b) 0
 have ea := expB_bd fa
 have eb := expB_bd fb
 obtain ⟨M, hM⟩ : ∃ M : Int, M = 1074 + (qE a b).natAbs := ⟨_, rfl⟩
 obtain ⟨s1, s2⟩ := q_side (M := M) ha hb lq fa fb fq a0 b0 (by omega) (by omega)
 have hb0 : fI b ≠ 0 := fun h => b0 ((fI_zero_iff hb fb).1.1 h)
 refine st_round (M := M) (by omega) (by omega) lq fq rfl hm ?_ ?_
 ·rw [k1]
  generalize fI a * 2 ^ 1074 = S at *
  rcases Int.lt_or_lt_of_ne hb0 with h | h
  ·have := s2 h; omega
  ·have := s1 h; omega
 ·rw [k2]
  generalize fI a * 2 ^ 1074 = S at *
  rcases Int.lt_or_lt_of_ne hb0 with h | h
  ·have := s2 h; omega
  ·have := s1 h; omega
theorem div_far {z e mode : Int} (hf : finB (rndX z e 0) = false) (hm : mode = 3 ∨ mode = 4) :
  ky (rndX z e mode) = if (decide (0 < ky (rndX z e 0)) == decide (mode = 3)) = true then ky (rndX z e 0) else if 0 < ky (rndX z e 0) then 9218868437227405311 else -9218868437227405311 := by
 obtain ⟨l0, n0⟩ := rndX_lt z e 0
 obtain ⟨l3, n3⟩ := rndX_lt z e 3
 obtain ⟨l4, n4⟩ := rndX_lt z e 4
 have h1 := fin_ky l0 n0
 rw [hf] at h1
 have h2 : ¬ (-(kInf : Int) < ky (rndX z e 0) ∧ ky (rndX z e 0) < kInf) := fun h => by have := h1.2 h; cases this
 have b0 := ky_bd l0 n0
 have b3 := ky_bd l3 n3
 have b4 := ky_bd l4 n4
 obtain ⟨a1, a2, a3, a4⟩ := rndX_adj z e
 have u := rndX_up_low z e
 have r1 := rd_le_rn (M := 1074 + (e.natAbs : Int)) (z := z) (e := e) (by omega) (by omega)
 have r2 := rn_le_ru (M := 1074 + (e.natAbs : Int)) (z := z) (e := e) (by omega) (by omega)
 have hk : (kInf : Int) = 9218868437227405312 := rfl
 rcases hm with rfl | rfl
 ·by_cases h : 0 < ky (rndX z e 0)
  ·rw [decide_eq_true h, if_pos (by decide)]; omega
  ·rw [decide_eq_false h, if_neg (by decide), if_neg h]; omega
 ·by_cases h : 0 < ky (rndX z e 0)
  ·rw [decide_eq_true h, if_neg (by decide), if_pos h]; omega
  ·rw [decide_eq_false h, if_pos (by decide)]; omega
theorem cp_ky (x : Nat) : ky (cpB (sgnB x) 9218868437227405311) = (if sgnB x then -9218868437227405311 else 9218868437227405311) ∧ W64 (cpB (sgnB x) 9218868437227405311) ∧ nanB (cpB (sgnB x) 9218868437227405311) = false := by
 cases sgnB x <;> decide
theorem sgn_ky {x : Nat} (h : W64 x) (h0 : ky x ≠ 0) : sgnB x = decide (ky x < 0) := by
 rw [ky_cases h] at *
 cases hs : sgnB x
 ·rw [if_neg (by decide)]; exact (decide_eq_false (by omega)).symm
 ·rw [hs, if_pos rfl] at h0; rw [if_pos rfl]; exact (decide_eq_true (by omega)).symm
set_option maxRecDepth 100000 in
set_option maxHeartbeats 3200000 in
theorem iDiv_any (a b : Nat) (mode : Int) (w : World) (ha : W64 a) (hb : W64 b) (fa : finB a = true) (fb : finB b = true) (a0 : valZ a ≠ 0) (b0 : valZ b ≠ 0) (hm : mode = 3 ∨ mode = 4) (hT : TabB w) :
  Calls Tryz.prog 189 #[.float .f64 a, .float .f64 b, .int .i64 mode] w (GivesK (dvK a b mode) w) := by
 obtain ⟨hq, -⟩ := fdiv_fin ha hb fa fb a0 b0
 obtain ⟨lq, nq⟩ := rndX_lt (qZ a b) (qE a b) 0
 have hquo : ∀ t w, (binOp .quo t (.float .f64 a) (.float .f64 b)).run Tryz.prog w = .ok (.float .f64 (rndX (qZ a b) (qE a b) 0)) w := fun t w => run_float_arith w .quo t .f64 _ _ _ hq
 have HF := Lib.hid fun W => finite_any (rndX (qZ a b) (qE a b) 0) W lq
 have HB := Lib.hid (Below.refl w.heap.size w)
 cases hf : finB (rndX (qZ a b) (qE a b) 0)
 ·have hfar := div_far hf hm
  rw [hf] at HF
  have t1 := gt_test lq (by decide : W64 0) (num_iff.2 nq) (by decide)
  rw [ky_zero] at t1
  have hk := fin_ky lq nq
  rw [hf] at hk
  have hne : ky (rndX (qZ a b) (qE a b) 0) ≠ 0 := fun h => by
   have h2 : (0 : Int) < kInf := by decide
   have := hk.2 (by rw [h]; omega); cases this
  have HCP := Lib.hid fun W => copysign_any 9218868437227405311 (rndX (qZ a b) (qE a b) 0) W (by decide) lq
  obtain ⟨c1, c2, c3⟩ := cp_ky (rndX (qZ a b) (qE a b) 0)
  rw [sgn_ky lq hne] at c1 c2 c3 HCP
  have hd : dvK a b mode = ky (rndX (qZ a b) (qE a b) mode) := rfl
  rw [hd, hfar]
  by_cases hp : 0 < ky (rndX (qZ a b) (qE a b) 0)
  ·rw [decide_eq_false (show ¬ ky (rndX (qZ a b) (qE a b) 0) < 0 by omega)] at c1 c2 c3 HCP
   rw [decide_eq_true hp] at t1 ⊢
   rcases hm with rfl | rfl
   ·rw [if_pos (by decide)]
    obtain ⟨KK, hKK⟩ : ∃ KK, KK = ky (rndX (qZ a b) (qE a b) 0) := ⟨_, rfl⟩
    rw [← hKK]
    have HR9 : Hid (W64 (rndX (qZ a b) (qE a b) 0) ∧ nanB (rndX (qZ a b) (qE a b) 0) = false ∧ ky (rndX (qZ a b) (qE a b) 0) = KK) := Lib.hid ⟨lq, num_iff.2 nq, hKK.symm⟩
    clear hKK
    generalize rndX (qZ a b) (qE a b) 0 = q at *
    clear ha hb fa fb a0 b0 hT hq lq nq hf hfar hk hne c1 c2 c3 hd hp
    go_enter Tryz.func189, Tryz.ntmps189
    go_wp2_with fail
    refine (HF.out _).mono ?_
    rintro e1 w1 ⟨rfl, hb1⟩
    replace HB := Lib.hid (HB.out.trans (hb1.mono HB.out.size))
    clear hb1
    go_wp2
    go_ret
    exact ⟨_, rfl, HR9.out.1, HR9.out.2.1, HR9.out.2.2, HB.out⟩
   ·rw [if_neg (by decide), if_pos hp]
    have HR9 : Hid (W64 (cpB false 9218868437227405311) ∧ nanB (cpB false 9218868437227405311) = false ∧ ky (cpB false 9218868437227405311) = 9218868437227405311) := Lib.hid ⟨c2, c3, c1⟩
    generalize cpB false 9218868437227405311 = R at *
    generalize rndX (qZ a b) (qE a b) 0 = q at *
    clear ha hb fa fb a0 b0 hT hq lq nq hf hfar hk hne c1 c2 c3 hd hp
    go_enter Tryz.func189, Tryz.ntmps189
    go_wp2_with fail
    refine (HF.out _).mono ?_
    rintro e1 w1 ⟨rfl, hb1⟩
    replace HB := Lib.hid (HB.out.trans (hb1.mono HB.out.size))
    clear hb1
    go_wp2_with fail
    refine (HCP.out _).mono ?_
    rintro e2 w2 ⟨rfl, hb2⟩
    replace HB := Lib.hid (HB.out.trans (hb2.mono HB.out.size))
    clear hb2
    go_wp2
    go_ret
    exact ⟨_, rfl, HR9.out.1, HR9.out.2.1, HR9.out.2.2, HB.out⟩
  ·rw [decide_eq_true (show ky (rndX (qZ a b) (qE a b) 0) < 0 by omega)] at c1 c2 c3 HCP
   rw [decide_eq_false hp] at t1 ⊢
   rcases hm with rfl | rfl
   ·rw [if_neg (by decide), if_neg hp]
    have HR9 : Hid (W64 (cpB true 9218868437227405311) ∧ nanB (cpB true 9218868437227405311) = false ∧ ky (cpB true 9218868437227405311) = -9218868437227405311) := Lib.hid ⟨c2, c3, c1⟩
    generalize cpB true 9218868437227405311 = R at *
    generalize rndX (qZ a b) (qE a b) 0 = q at *
    clear ha hb fa fb a0 b0 hT hq lq nq hf hfar hk hne c1 c2 c3 hd hp
    go_enter Tryz.func189, Tryz.ntmps189
    go_wp2_with fail
    refine (HF.out _).mono ?_
    rintro e1 w1 ⟨rfl, hb1⟩
    replace HB := Lib.hid (HB.out.trans (hb1.mono HB.out.size))
    clear hb1
    go_wp2_with fail
    refine (HCP.out _).mono ?_
    rintro e2 w2 ⟨rfl, hb2⟩
    replace HB := Lib.hid (HB.out.trans (hb2.mono HB.out.size))
    clear hb2
    go_wp2
    go_ret
    exact ⟨_, rfl, HR9.out.1, HR9.out.2.1, HR9.out.2.2, HB.out⟩
   ·rw [if_pos (by decide)]
    obtain ⟨KK, hKK⟩ : ∃ KK, KK = ky (rndX (qZ a b) (qE a b) 0) := ⟨_, rfl⟩
    rw [← hKK]
    have HR9 : Hid (W64 (rndX (qZ a b) (qE a b) 0) ∧ nanB (rndX (qZ a b) (qE a b) 0) = false ∧ ky (rndX (qZ a b) (qE a b) 0) = KK) := Lib.hid ⟨lq, num_iff.2 nq, hKK.symm⟩
    clear hKK
    generalize rndX (qZ a b) (qE a b) 0 = q at *
    clear ha hb fa fb a0 b0 hT hq lq nq hf hfar hk hne c1 c2 c3 hd hp
    go_enter Tryz.func189, Tryz.ntmps189
    go_wp2_with fail
    refine (HF.out _).mono ?_
    rintro e1 w1 ⟨rfl, hb1⟩
    replace HB := Lib.hid (HB.out.trans (hb1.mono HB.out.size))
    clear hb1
    go_wp2
    go_ret
    exact ⟨_, rfl, HR9.out.1, HR9.out.2.1, HR9.out.2.2, HB.out⟩
 ·rw [hf] at HF
  have HL := Lib.hid fun W (ht : TabB W) => iLeft_any a (rndX (qZ a b) (qE a b) 0) b W ha lq hb fa hf fb ht
  have HST := Lib.hid fun r W hr hn => step_any (rndX (qZ a b) (qE a b) 0) r mode W lq hf hr hn hm
  have HK := Lib.hid fun (k : Int) k1 k2 => div_step (k := k) ha hb fa fb a0 b0 hf hm k1 k2
  have HS2 := Lib.hid fun (k : Int) => (st_ky (s := k) (mode := mode) lq hf).2
  have t1 := lt_test hb (by decide : W64 0) (nan_fin fb) (by decide)
  rw [ky_zero] at t1
  have HZ := Lib.hid (fI_zero_iff hb fb).2
  have HT := Lib.hid hT
  have hky : ky b ≠ 0 := fun h => b0 ((fI_zero_iff hb fb).1.1 (by have := (fI_zero_iff hb fb).2; omega))
  generalize rndX (qZ a b) (qE a b) 0 = q at *
  generalize dvK a b mode = KK at *
  by_cases hs : ky b < 0
  ·rw [decide_eq_true hs] at t1
   have HNEG : Hid (fI b < 0) := Lib.hid (HZ.out.2.2 hs)
   clear ha hb fa fb a0 b0 hT hq lq nq hf hky hs HZ
   go_enter Tryz.func189, Tryz.ntmps189
   go_wp2_with fail
   refine (HF.out _).mono ?_
   rintro e1 w1 ⟨rfl, hb1⟩
   replace HB := Lib.hid (HB.out.trans (hb1.mono HB.out.size))
   clear hb1
   go_wp2_with fail
   refine (HL.out _ (HT.out.below HB.out)).mono ?_
   rintro e2 w2 ⟨r, rfl, rl, rn, rk, hb2⟩
   replace HB := Lib.hid (HB.out.trans (hb2.mono HB.out.size))
   clear hb2
   have hng : ∀ w, (Op.unary .neg (.float .f64 r)).run Tryz.prog w = .ok (.float .f64 (flipB r)) w := fun w => by rw [← neg_flip rl]; rfl
   have nf : nanB (flipB r) = false := by rw [num_iff, flip_num rl]; exact num_of rn
   have HR9 : Hid (W64 (stB q (ky (flipB r)) mode) ∧ nanB (stB q (ky (flipB r)) mode) = false ∧ ky (stB q (ky (flipB r)) mode) = KK) := Lib.hid ⟨(HS2.out _).1, (HS2.out _).2, HK.out _ (by rw [flip_ky rl]; have := HNEG.out; generalize fI a * 2 ^ 1074 = S at *; omega) (by rw [flip_ky rl]; have := HNEG.out; generalize fI a * 2 ^ 1074 = S at *; omega)⟩
   have HSX := Lib.hid fun W => HST.out (flipB r) W (flip_lt rl) nf
   clear HST HK HS2 rl rn rk nf HNEG HL HT
   generalize stB q (ky (flipB r)) mode = R at *
   generalize flipB r = nr at *
   go_wp2_with fail
   refine (HSX.out _).mono ?_
   rintro e3 w3 ⟨rfl, hb3⟩
   replace HB := Lib.hid (HB.out.trans (hb3.mono HB.out.size))
   clear hb3
   go_wp2
   go_ret
   exact ⟨_, rfl, HR9.out.1, HR9.out.2.1, HR9.out.2.2, HB.out⟩
  ·rw [decide_eq_false hs] at t1
   have HPOS : Hid (0 < fI b) := Lib.hid (HZ.out.1.2 (by omega))
   clear ha hb fa fb a0 b0 hT hq lq nq hf hky hs HZ
   go_enter Tryz.func189, Tryz.ntmps189
   go_wp2_with fail
   refine (HF.out _).mono ?_
   rintro e1 w1 ⟨rfl, hb1⟩
   replace HB := Lib.hid (HB.out.trans (hb1.mono HB.out.size))
   clear hb1
   go_wp2_with fail
   refine (HL.out _ (HT.out.below HB.out)).mono ?_
   rintro e2 w2 ⟨r, rfl, rl, rn, rk, hb2⟩
   replace HB := Lib.hid (HB.out.trans (hb2.mono HB.out.size))
   clear hb2
   have HR9 : Hid (W64 (stB q (ky r) mode) ∧ nanB (stB q (ky r) mode) = false ∧ ky (stB q (ky r) mode) = KK) := Lib.hid ⟨(HS2.out _).1, (HS2.out _).2, HK.out _ (by have := HPOS.out; generalize fI a * 2 ^ 1074 = S at *; omega) (by have := HPOS.out; generalize fI a * 2 ^ 1074 = S at *; omega)⟩
   have HSX := Lib.hid fun W => HST.out r W rl rn
   clear HST HK HS2 rl rn rk HPOS HL HT
   generalize stB q (ky r) mode = R at *
   go_wp2_with fail
   refine (HSX.out _).mono ?_
   rintro e3 w3 ⟨rfl, hb3⟩
   replace HB := Lib.hid (HB.out.trans (hb3.mono HB.out.size))
   clear hb3
   go_wp2
   go_ret
   exact ⟨_, rfl, HR9.out.1, HR9.out.2.1, HR9.out.2.2, HB.out⟩
end
section
open Go.RowKit
attribute [local go_sem] run_store_f
theorem mul_le_swap {A B C D : Nat} (h1 : A ≤ C) (h2 : B ≤ D) : A * B ≤ C * D := Nat.mul_le_mul h1 h2
theorem pow_le_succ {a k : Nat} (h : a ≤ k + 1) : (2 : Nat) ^ a ≤ 2 ^ k * 2 := by
 rw [← Nat.pow_succ]; exact Nat.pow_le_pow_right (by decide) h
theorem unU_succ {a : Nat} (h : a ≤ unE + 1) : (2 : Nat) ^ a ≤ unU * 2 := by
 unfold unU
 generalize unE = u at *
 exact pow_le_succ h
theorem fI_small {x : Nat} (hx : W64 x) (fx : finB x = true) : (fI x).natAbs ≤ 18014398509481984 * unU := by
 have ha := expB_bd fx
 have e : (fI x).natAbs = mantB x * 2 ^ (expB x + 1074).toNat := by rw [own_amount hx fx]; split <;> omega
 rw [e]
 have h1 : (2 : Nat) ^ (expB x + 1074).toNat ≤ unU * 2 := unU_succ (by unfold unE; omega)
 have h2 := mantB_lt x
 have h3 := mul_le_swap (Nat.le_of_lt h2) h1
 generalize mantB x * 2 ^ (expB x + 1074).toNat = A at *
 generalize unU = U at *
 omega
theorem rt_fin {x : Nat} (hx : W64 x) (fx : finB x = true) (x0 : valZ x ≠ 0) : finB (rndX (rtZ x) (rtE x) 0) = true ∧ 0 ≤ ky (rndX (rtZ x) (rtE x) 0) := by
 obtain ⟨l0, n0⟩ := rndX_lt (rtZ x) (rtE x) 0
 obtain ⟨M, hM⟩ : ∃ M : Int, M = 1074 + (rtE x).natAbs := ⟨_, rfl⟩
 have hc : W64 9110782046170513408 := by decide
 have hcf : finB 9110782046170513408 = true := by decide
 have hcn : (fI 9110782046170513408).natAbs = 1073741824 * unU := by rw [vI_own hc hcf, ← wv_big]; rfl
 have h1 := (rt_amount (M := M) hx hc fx hcf x0 (by omega) (by omega)).2
 rw [hcn] at h1
 have h2 := fI_small hx fx
 have h3 : (2 : Nat) ^ 1074 ≤ unU := pow_mono_le 1074 unE (by decide)
 have hs : 0 ≤ sc M (rtZ x) (rtE x) := Int.mul_nonneg (by omega) (Int.le_of_lt (Int.pow_pos (by decide)))
 have hv : 0 ≤ vI M 9110782046170513408 := by
  have := (ky_le_vI (M := M) (by decide : W64 0) hc (by decide) hcf (by omega)).1 (by decide)
  rwa [vI_zero] at this
 have h4 : (fI x).natAbs * 2 ^ 1074 ≤ 1073741824 * unU * (1073741824 * unU) := by
  refine Nat.le_trans (mul_le_swap h2 h3) ?_
  have e : 1073741824 * unU * (1073741824 * unU) = 1152921504606846976 * (unU * unU) := by
   generalize unU = U
   rw [Nat.mul_assoc, Nat.mul_left_comm U, ← Nat.mul_assoc]
  rw [e, Nat.mul_assoc]
  exact Nat.mul_le_mul_right _ (by decide)
 have h5 := h1.1 h4
 have h6 := rnd_le (c := 9110782046170513408) (M := M) (z := rtZ x) (e := rtE x) 0 (by omega) (by omega) hc hcf (by omega)
 have h7 := le_rnd (c := 0) (M := M) (z := rtZ x) (e := rtE x) 0 (by omega) (by omega) (by decide) (by decide) (by rw [vI_zero]; exact hs)
 rw [ky_zero] at h7
 rw [show ky 9110782046170513408 = 9110782046170513408 by decide] at h6
 have hk : (kInf : Int) = 9218868437227405312 := rfl
 exact ⟨(fin_ky l0 n0).2 (by omega), h7⟩
theorem root_step {x : Nat} {mode k : Int} (hx : W64 x) (fx : finB x = true) (x0 : valZ x ≠ 0) (hm : mode = 3 ∨ mode = 4) (px : 0 ≤ fI x)
  (k1 : 0 < k ↔ fI (rndX (rtZ x) (rtE x) 0) * fI (rndX (rtZ x) (rtE x) 0) < fI x * 2 ^ 1074) (k2 : k < 0 ↔ fI x * 2 ^ 1074 < fI (rndX (rtZ x) (rtE x) 0) * fI (rndX (rtZ x) (rtE x) 0)) :
  ky (stB (rndX (rtZ x) (rtE x) 0) k mode) = rtK x mode := by
 obtain ⟨l0, n0⟩ := rndX_lt (rtZ x) (rtE x) 0
 obtain ⟨fq, pq⟩ := rt_fin hx fx x0
 obtain ⟨M, hM⟩ : ∃ M : Int, M = 1074 + (rtE x).natAbs := ⟨_, rfl⟩
 obtain ⟨h1, h2⟩ := rt_amount (M := M) hx l0 fx fq x0 (by omega) (by omega)
 have hs : 0 ≤ sc M (rtZ x) (rtE x) := Int.mul_nonneg (by omega) (Int.le_of_lt (Int.pow_pos (by decide)))
 have hq : 0 ≤ vI M (rndX (rtZ x) (rtE x) 0) := by
  have := (ky_le_vI (M := M) (by decide : W64 0) l0 (by decide) fq (by omega)).1 (by rw [ky_zero]; exact pq)
  rwa [vI_zero] at this
 have e1 : (fI x).natAbs * 2 ^ 1074 = (fI x * 2 ^ 1074).natAbs := by rw [Int.natAbs_mul, natAbs_two_pow]
 rw [← Int.natAbs_mul, e1] at h1 h2
 have p1 := (pow_sgn (fI x) 1074)
 have p2 : 0 ≤ fI (rndX (rtZ x) (rtE x) 0) * fI (rndX (rtZ x) (rtE x) 0) := by have := mul_sgn (fI (rndX (rtZ x) (rtE x) 0)) (fI (rndX (rtZ x) (rtE x) 0)); omega
 refine st_round (M := M) (by omega) (by omega) l0 fq rfl hm ?_ ?_
 ·rw [k1]
  generalize fI x * 2 ^ 1074 = S at *
  generalize fI (rndX (rtZ x) (rtE x) 0) * fI (rndX (rtZ x) (rtE x) 0) = T at *
  omega
 ·rw [k2]
  generalize fI x * 2 ^ 1074 = S at *
  generalize fI (rndX (rtZ x) (rtE x) 0) * fI (rndX (rtZ x) (rtE x) 0) = T at *
  omega
def roK (x : Nat) (mode : Int) : Int := if ky x = 0 then 0 else rtK x mode
theorem root_all {x : Nat} (hx : W64 x) (fx : finB x = true) (px : 0 ≤ ky x) :
  ∃ q, F6.sqrt x = some q ∧ W64 q ∧ finB q = true ∧ ∀ (k mode : Int), (mode = 3 ∨ mode = 4) → (0 < k ↔ fI q * fI q < fI x * 2 ^ 1074) → (k < 0 ↔ fI x * 2 ^ 1074 < fI q * fI q) → ky (stB q k mode) = roK x mode := by
 obtain ⟨z1, z2, z3⟩ := fI_zero_iff hx fx
 unfold roK
 by_cases h0 : ky x = 0
 ·have hb : x = 0 ∨ x = kSign := by
   have hs : kSign = 9223372036854775808 := rfl
   unfold ky at h0; split at h0 <;> omega
  have hz : ∀ q : Nat, q = 0 ∨ q = kSign → F6.sqrt q = some q ∧ W64 q ∧ finB q = true ∧ fI q = 0 ∧ ky q = 0 := by
   rintro q (rfl | rfl)
   ·exact ⟨by decide, by decide, by decide, fI_zero (.inl rfl), by decide⟩
   ·exact ⟨by decide, by decide, by decide, fI_zero (.inr rfl), by decide⟩
  obtain ⟨a1, a2, a3, a4, a5⟩ := hz x hb
  refine ⟨x, a1, a2, a3, fun k mode hm k1 k2 => ?_⟩
  rw [if_pos h0, (st_ky a2 a3).1, a5]
  rw [a4] at k1 k2
  simp only [Int.zero_mul, Int.mul_zero, Int.lt_irrefl, iff_false] at k1 k2
  rw [if_neg (fun h => k1 h.1), if_neg (fun h => k2 h.1)]; rfl
 ·have x0 : valZ x ≠ 0 := fun h => h0 (by have := z1.2 h; omega)
  have hs : sgnB x = false := by rw [sgn_ky hx h0]; exact decide_eq_false (by omega)
  obtain ⟨l0, n0⟩ := rndX_lt (rtZ x) (rtE x) 0
  obtain ⟨fq, -⟩ := rt_fin hx fx x0
  simp only [if_neg h0]
  exact ⟨_, (fsqrt_fin hx fx x0 hs).1, l0, fq, fun k mode hm k1 k2 => root_step hx fx x0 hm (by omega) k1 k2⟩
def suK (x y : Nat) (mode : Int) : Int := if finB x = false then ky x else if finB y = false then ky y else adK x y mode
def sgK (x y : Nat) : Int := if (decide (0 < ky x) == decide (0 < ky y)) = true then kInf else -(kInf : Int)
def prK (x y : Nat) (mode : Int) : Int := if ky x = 0 ∨ ky y = 0 then 0 else if finB x = false ∨ finB y = false then sgK x y else mlK x y mode
def quK (x y : Nat) (mode : Int) : Int := if ky x = 0 ∨ finB y = false then 0 else if finB x = false then sgK x y else dvK x y mode
def byK (x y : Nat) (mode : Int) : Int := if ky y = 0 ∧ ky x ≠ 0 then (if 0 < ky x then kInf else -(kInf : Int)) else quK x y mode
theorem write_inf (s : Bool) : W64 (F6.write (.infinity s)) ∧ nanB (F6.write (.infinity s)) = false ∧ ky (F6.write (.infinity s)) = if s then -(kInf : Int) else kInf := by
 cases s <;> decide
theorem inf_read {x : Nat} (h : W64 x) (n : nanB x = false) (f : finB x = false) : F6.read x = .infinity (sgnB x) := by
 rcases fin_word (num_of n) with h1 | h1
 ·rw [f] at h1; cases h1.1
 ·exact read_inf h h1.2
theorem mant_ne {x : Nat} (h : W64 x) (f : finB x = true) (h0 : ky x ≠ 0) : valZ x ≠ 0 ∧ mantB x ≠ 0 := by
 have hz := fI_zero_iff h f
 have : valZ x ≠ 0 := fun e => h0 (by have := hz.1.2 e; have := hz.2; omega)
 exact ⟨this, fun e => this (valZ_zero.2 e)⟩
theorem xor_sgK {x y : Nat} (hx : W64 x) (hy : W64 y) (x0 : ky x ≠ 0) (y0 : ky y ≠ 0) : (if (sgnB x ^^ sgnB y) then -(kInf : Int) else kInf) = sgK x y := by
 rw [sgn_ky hx x0, sgn_ky hy y0]
 unfold sgK
 by_cases h1 : 0 < ky x <;> by_cases h2 : 0 < ky y
 ·rw [decide_eq_true h1, decide_eq_true h2, decide_eq_false (by omega : ¬ ky x < 0), decide_eq_false (by omega : ¬ ky y < 0)]; rfl
 ·rw [decide_eq_true h1, decide_eq_false h2, decide_eq_false (by omega : ¬ ky x < 0), decide_eq_true (by omega : ky y < 0)]; rfl
 ·rw [decide_eq_false h1, decide_eq_true h2, decide_eq_true (by omega : ky x < 0), decide_eq_false (by omega : ¬ ky y < 0)]; rfl
 ·rw [decide_eq_false h1, decide_eq_false h2, decide_eq_true (by omega : ky x < 0), decide_eq_true (by omega : ky y < 0)]; rfl
theorem mul_inf {x y : Nat} (hx : W64 x) (hy : W64 y) (nx : nanB x = false) (ny : nanB y = false) (x0 : ky x ≠ 0) (y0 : ky y ≠ 0) (h : finB x = false ∨ finB y = false) :
  ∃ r, F6.mul x y = some r ∧ W64 r ∧ nanB r = false ∧ ky r = sgK x y := by
 obtain ⟨w1, w2, w3⟩ := write_inf (sgnB x ^^ sgnB y)
 refine ⟨F6.write (.infinity (sgnB x ^^ sgnB y)), ?_, w1, w2, by rw [w3]; exact xor_sgK hx hy x0 y0⟩
 unfold Ieee.Format.mul
 cases fx : finB x
 ·rw [inf_read hx nx fx]
  cases fy : finB y
  ·rw [inf_read hy ny fy]; rfl
  ·rw [read_fin hy fy]
   unfold Ieee.Datum.product
   simp only [if_neg (mant_ne hy fy y0).2]; rfl
 ·have fy : finB y = false := by rcases h with h | h; rw [fx] at h; cases h; exact h
  rw [read_fin hx fx, inf_read hy ny fy]
  unfold Ieee.Datum.product
  simp only [if_neg (mant_ne hx fx x0).2, Option.map_some]
  rw [Bool.xor_comm]
theorem div_inf {x y : Nat} (hx : W64 x) (hy : W64 y) (nx : nanB x = false) (fx : finB x = false) (fy : finB y = true) (x0 : ky x ≠ 0) (y0 : ky y ≠ 0) :
  ∃ r, F6.div x y = some r ∧ W64 r ∧ nanB r = false ∧ ky r = sgK x y := by
 obtain ⟨w1, w2, w3⟩ := write_inf (sgnB x ^^ sgnB y)
 refine ⟨F6.write (.infinity (sgnB x ^^ sgnB y)), ?_, w1, w2, by rw [w3]; exact xor_sgK hx hy x0 y0⟩
 unfold Ieee.Format.div
 rw [inf_read hx nx fx, read_fin hy fy]; rfl
set_option maxRecDepth 100000 in
set_option maxHeartbeats 1600000 in
theorem iSum_any (x y : Nat) (mode : Int) (w : World) (hx : W64 x) (hy : W64 y) (nx : nanB x = false) (ny : nanB y = false) (hm : mode = 3 ∨ mode = 4) (hT : TabB w) :
  Calls Tryz.prog 133 #[.float .f64 x, .float .f64 y, .int .i64 mode] w (GivesK (suK x y mode) w) := by
 have HFX := Lib.hid fun W => finite_any x W hx
 have HFY := Lib.hid fun W => finite_any y W hy
 have HB := Lib.hid (Below.refl w.heap.size w)
 have HT := Lib.hid hT
 unfold suK
 cases fx : finB x
 ·rw [fx] at HFX
  rw [if_pos rfl]
  obtain ⟨KK, hKK⟩ : ∃ KK, KK = ky x := ⟨_, rfl⟩
  rw [← hKK]
  have HR9 : Hid (W64 x ∧ nanB x = false ∧ ky x = KK) := Lib.hid ⟨hx, nx, hKK.symm⟩
  clear hx hy nx ny hm hT hKK fx
  go_enter Tryz.func133, Tryz.ntmps133
  go_wp2_with fail
  refine (HFX.out _).mono ?_
  rintro e1 w1 ⟨rfl, hb1⟩
  replace HB := Lib.hid (HB.out.trans (hb1.mono HB.out.size))
  clear hb1
  go_wp2
  go_ret
  exact ⟨_, rfl, HR9.out.1, HR9.out.2.1, HR9.out.2.2, HB.out⟩
 ·rw [fx] at HFX
  rw [if_neg (by decide)]
  cases fy : finB y
  ·rw [fy] at HFY
   rw [if_pos rfl]
   obtain ⟨KK, hKK⟩ : ∃ KK, KK = ky y := ⟨_, rfl⟩
   rw [← hKK]
   have HR9 : Hid (W64 y ∧ nanB y = false ∧ ky y = KK) := Lib.hid ⟨hy, ny, hKK.symm⟩
   clear hx hy nx ny hm hT hKK fx fy
   go_enter Tryz.func133, Tryz.ntmps133
   go_wp2_with fail
   refine (HFX.out _).mono ?_
   rintro e1 w1 ⟨rfl, hb1⟩
   replace HB := Lib.hid (HB.out.trans (hb1.mono HB.out.size))
   clear hb1
   go_wp2_with fail
   refine (HFY.out _).mono ?_
   rintro e2 w2 ⟨rfl, hb2⟩
   replace HB := Lib.hid (HB.out.trans (hb2.mono HB.out.size))
   clear hb2
   go_wp2
   go_ret
   exact ⟨_, rfl, HR9.out.1, HR9.out.2.1, HR9.out.2.2, HB.out⟩
  ·rw [fy] at HFY
   rw [if_neg (by decide)]
   have HA := Lib.hid fun W (ht : TabB W) => iAdd_any x y mode W hx hy fx fy hm ht
   generalize adK x y mode = KK at *
   clear hx hy nx ny hm hT fx fy
   go_enter Tryz.func133, Tryz.ntmps133
   go_wp2_with fail
   refine (HFX.out _).mono ?_
   rintro e1 w1 ⟨rfl, hb1⟩
   replace HB := Lib.hid (HB.out.trans (hb1.mono HB.out.size))
   clear hb1
   go_wp2_with fail
   refine (HFY.out _).mono ?_
   rintro e2 w2 ⟨rfl, hb2⟩
   replace HB := Lib.hid (HB.out.trans (hb2.mono HB.out.size))
   clear hb2
   go_wp2_with fail
   refine (HA.out _ (HT.out.below HB.out)).mono ?_
   rintro e3 w3 ⟨r, rfl, rl, rn, rk, hb3⟩
   replace HB := Lib.hid (HB.out.trans (hb3.mono HB.out.size))
   have HR9 := Lib.hid (And.intro rl (And.intro rn rk))
   clear hb3 rl rn rk
   go_wp2
   go_ret
   exact ⟨_, rfl, HR9.out.1, HR9.out.2.1, HR9.out.2.2, HB.out⟩
set_option maxRecDepth 100000 in
set_option maxHeartbeats 1600000 in
theorem iProduct_any (x y : Nat) (mode : Int) (w : World) (hx : W64 x) (hy : W64 y) (nx : nanB x = false) (ny : nanB y = false) (hm : mode = 3 ∨ mode = 4) (hT : TabB w) :
  Calls Tryz.prog 101 #[.float .f64 x, .float .f64 y, .int .i64 mode] w (GivesK (prK x y mode) w) := by
 have HFX := Lib.hid fun W => finite_any x W hx
 have HFY := Lib.hid fun W => finite_any y W hy
 have HB := Lib.hid (Below.refl w.heap.size w)
 have HT := Lib.hid hT
 have z1 := eq_test hx (by decide : W64 0) nx (by decide)
 rw [ky_zero] at z1
 have z2 := eq_test hy (by decide : W64 0) ny (by decide)
 rw [ky_zero] at z2
 unfold prK
 by_cases x0 : ky x = 0
 ·rw [if_pos (.inl x0)]
  rw [decide_eq_true x0] at z1
  have HR9 : Hid (W64 0 ∧ nanB 0 = false ∧ ky 0 = 0) := Lib.hid ⟨by decide, by decide, by decide⟩
  clear hx hy nx ny hm hT x0
  go_enter Tryz.func101, Tryz.ntmps101
  go_wp2
  go_ret
  exact ⟨_, rfl, HR9.out.1, HR9.out.2.1, HR9.out.2.2, HB.out⟩
 rw [decide_eq_false x0] at z1
 by_cases y0 : ky y = 0
 ·rw [if_pos (.inr y0)]
  rw [decide_eq_true y0] at z2
  have HR9 : Hid (W64 0 ∧ nanB 0 = false ∧ ky 0 = 0) := Lib.hid ⟨by decide, by decide, by decide⟩
  clear hx hy nx ny hm hT x0 y0
  go_enter Tryz.func101, Tryz.ntmps101
  go_wp2
  go_ret
  exact ⟨_, rfl, HR9.out.1, HR9.out.2.1, HR9.out.2.2, HB.out⟩
 rw [decide_eq_false y0] at z2
 rw [if_neg (by omega)]
 cases fx : finB x
 ·rw [fx] at HFX
  rw [if_pos (.inl rfl)]
  obtain ⟨r, hr, rl, rn, rk⟩ := mul_inf hx hy nx ny x0 y0 (.inl fx)
  have hmul : ∀ t w, (binOp .mul t (.float .f64 x) (.float .f64 y)).run Tryz.prog w = .ok (.float .f64 r) w := fun t w => run_float_arith w .mul t .f64 _ _ _ hr
  have HR9 := Lib.hid (And.intro rl (And.intro rn rk))
  generalize sgK x y = KK at *
  clear hx hy nx ny hm hT x0 y0 fx hr rl rn rk
  go_enter Tryz.func101, Tryz.ntmps101
  go_wp2_with fail
  refine (HFX.out _).mono ?_
  rintro e1 w1 ⟨rfl, hb1⟩
  replace HB := Lib.hid (HB.out.trans (hb1.mono HB.out.size))
  clear hb1
  go_wp2
  go_ret
  exact ⟨_, rfl, HR9.out.1, HR9.out.2.1, HR9.out.2.2, HB.out⟩
 cases fy : finB y
 ·rw [fx] at HFX
  rw [fy] at HFY
  rw [if_pos (.inr rfl)]
  obtain ⟨r, hr, rl, rn, rk⟩ := mul_inf hx hy nx ny x0 y0 (.inr fy)
  have hmul : ∀ t w, (binOp .mul t (.float .f64 x) (.float .f64 y)).run Tryz.prog w = .ok (.float .f64 r) w := fun t w => run_float_arith w .mul t .f64 _ _ _ hr
  have HR9 := Lib.hid (And.intro rl (And.intro rn rk))
  generalize sgK x y = KK at *
  clear hx hy nx ny hm hT x0 y0 fx fy hr rl rn rk
  go_enter Tryz.func101, Tryz.ntmps101
  go_wp2_with fail
  refine (HFX.out _).mono ?_
  rintro e1 w1 ⟨rfl, hb1⟩
  replace HB := Lib.hid (HB.out.trans (hb1.mono HB.out.size))
  clear hb1
  go_wp2_with fail
  refine (HFY.out _).mono ?_
  rintro e2 w2 ⟨rfl, hb2⟩
  replace HB := Lib.hid (HB.out.trans (hb2.mono HB.out.size))
  clear hb2
  go_wp2
  go_ret
  exact ⟨_, rfl, HR9.out.1, HR9.out.2.1, HR9.out.2.2, HB.out⟩
 rw [fx] at HFX
 rw [fy] at HFY
 rw [if_neg (by decide)]
 have HA := Lib.hid fun W (ht : TabB W) => iMul_any x y mode W hx hy fx fy hm ht
 generalize mlK x y mode = KK at *
 clear hx hy nx ny hm hT x0 y0 fx fy
 go_enter Tryz.func101, Tryz.ntmps101
 go_wp2_with fail
 refine (HFX.out _).mono ?_
 rintro e1 w1 ⟨rfl, hb1⟩
 replace HB := Lib.hid (HB.out.trans (hb1.mono HB.out.size))
 clear hb1
 go_wp2_with fail
 refine (HFY.out _).mono ?_
 rintro e2 w2 ⟨rfl, hb2⟩
 replace HB := Lib.hid (HB.out.trans (hb2.mono HB.out.size))
 clear hb2
 go_wp2_with fail
 refine (HA.out _ (HT.out.below HB.out)).mono ?_
 rintro e3 w3 ⟨r, rfl, rl, rn, rk, hb3⟩
 replace HB := Lib.hid (HB.out.trans (hb3.mono HB.out.size))
 have HR9 := Lib.hid (And.intro rl (And.intro rn rk))
 clear hb3 rl rn rk
 go_wp2
 go_ret
 exact ⟨_, rfl, HR9.out.1, HR9.out.2.1, HR9.out.2.2, HB.out⟩
theorem not_fin_word {y : Nat} (ny : nanB y = false) : decide (y % kSign = kInf) = !finB y := by
 rcases fin_word (num_of ny) with h | h
 ·rw [h.1, decide_eq_false (by omega)]; rfl
 ·rw [h.1, decide_eq_true h.2]; rfl
set_option maxRecDepth 100000 in
set_option maxHeartbeats 1600000 in
theorem iQuotient_any (x y : Nat) (mode : Int) (w : World) (hx : W64 x) (hy : W64 y) (nx : nanB x = false) (ny : nanB y = false) (hm : mode = 3 ∨ mode = 4) (hT : TabB w) (h0 : ky x = 0 ∨ ky y ≠ 0) :
  Calls Tryz.prog 159 #[.float .f64 x, .float .f64 y, .int .i64 mode] w (GivesK (quK x y mode) w) := by
 have HFX := Lib.hid fun W => finite_any x W hx
 have HFY := Lib.hid fun W => finite_any y W hy
 have HB := Lib.hid (Below.refl w.heap.size w)
 have HT := Lib.hid hT
 have z1 := eq_test hx (by decide : W64 0) nx (by decide)
 rw [ky_zero] at z1
 have HI := Lib.hid fun W => isInf_all y W hy
 rw [not_fin_word ny] at HI
 unfold quK
 by_cases x0 : ky x = 0
 ·rw [if_pos (.inl x0)]
  rw [decide_eq_true x0] at z1
  have HR9 : Hid (W64 0 ∧ nanB 0 = false ∧ ky 0 = 0) := Lib.hid ⟨by decide, by decide, by decide⟩
  clear hx hy nx ny hm hT x0 h0
  go_enter Tryz.func159, Tryz.ntmps159
  go_wp2
  go_ret
  exact ⟨_, rfl, HR9.out.1, HR9.out.2.1, HR9.out.2.2, HB.out⟩
 rw [decide_eq_false x0] at z1
 have y0 : ky y ≠ 0 := by omega
 cases fy : finB y
 ·rw [if_pos (.inr rfl)]
  rw [fy, Bool.not_false] at HI
  have HR9 : Hid (W64 0 ∧ nanB 0 = false ∧ ky 0 = 0) := Lib.hid ⟨by decide, by decide, by decide⟩
  clear hx hy nx ny hm hT x0 y0 h0 fy
  go_enter Tryz.func159, Tryz.ntmps159
  go_wp2_with fail
  refine (HI.out _).mono ?_
  rintro e1 w1 ⟨rfl, hb1⟩
  replace HB := Lib.hid (HB.out.trans (hb1.mono HB.out.size))
  clear hb1
  go_wp2
  go_ret
  exact ⟨_, rfl, HR9.out.1, HR9.out.2.1, HR9.out.2.2, HB.out⟩
 rw [fy, Bool.not_true] at HI
 rw [if_neg (by simp [x0])]
 cases fx : finB x
 ·rw [fx] at HFX
  rw [if_pos rfl]
  obtain ⟨r, hr, rl, rn, rk⟩ := div_inf hx hy nx fx fy x0 y0
  have hquo : ∀ t w, (binOp .quo t (.float .f64 x) (.float .f64 y)).run Tryz.prog w = .ok (.float .f64 r) w := fun t w => run_float_arith w .quo t .f64 _ _ _ hr
  have HR9 := Lib.hid (And.intro rl (And.intro rn rk))
  generalize sgK x y = KK at *
  clear hx hy nx ny hm hT x0 y0 fx fy h0 hr rl rn rk
  go_enter Tryz.func159, Tryz.ntmps159
  go_wp2_with fail
  refine (HI.out _).mono ?_
  rintro e1 w1 ⟨rfl, hb1⟩
  replace HB := Lib.hid (HB.out.trans (hb1.mono HB.out.size))
  clear hb1
  go_wp2_with fail
  refine (HFX.out _).mono ?_
  rintro e2 w2 ⟨rfl, hb2⟩
  replace HB := Lib.hid (HB.out.trans (hb2.mono HB.out.size))
  clear hb2
  go_wp2
  go_ret
  exact ⟨_, rfl, HR9.out.1, HR9.out.2.1, HR9.out.2.2, HB.out⟩
 rw [fx] at HFX
 rw [if_neg (by decide)]
 have HA := Lib.hid fun W (ht : TabB W) => iDiv_any x y mode W hx hy fx fy (mant_ne hx fx x0).1 (mant_ne hy fy y0).1 hm ht
 generalize dvK x y mode = KK at *
 clear hx hy nx ny hm hT x0 y0 h0 fx fy
 go_enter Tryz.func159, Tryz.ntmps159
 go_wp2_with fail
 refine (HI.out _).mono ?_
 rintro e1 w1 ⟨rfl, hb1⟩
 replace HB := Lib.hid (HB.out.trans (hb1.mono HB.out.size))
 clear hb1
 go_wp2_with fail
 refine (HFX.out _).mono ?_
 rintro e2 w2 ⟨rfl, hb2⟩
 replace HB := Lib.hid (HB.out.trans (hb2.mono HB.out.size))
 clear hb2
 go_wp2_with fail
 refine (HA.out _ (HT.out.below HB.out)).mono ?_
 rintro e3 w3 ⟨r, rfl, rl, rn, rk, hb3⟩
 replace HB := Lib.hid (HB.out.trans (hb3.mono HB.out.size))
 have HR9 := Lib.hid (And.intro rl (And.intro rn rk))
 clear hb3 rl rn rk
 go_wp2
 go_ret
 exact ⟨_, rfl, HR9.out.1, HR9.out.2.1, HR9.out.2.2, HB.out⟩
theorem cp_inf (s : Bool) : W64 (cpB s 9218868437227405312) ∧ nanB (cpB s 9218868437227405312) = false ∧ ky (cpB s 9218868437227405312) = if s then -(kInf : Int) else kInf := by
 cases s <;> decide
set_option maxRecDepth 100000 in
set_option maxHeartbeats 1600000 in
theorem iBy_any (x y : Nat) (mode : Int) (w : World) (hx : W64 x) (hy : W64 y) (nx : nanB x = false) (ny : nanB y = false) (hm : mode = 3 ∨ mode = 4) (hT : TabB w) :
  Calls Tryz.prog 135 #[.float .f64 x, .float .f64 y, .int .i64 mode] w (GivesK (byK x y mode) w) := by
 have HB := Lib.hid (Below.refl w.heap.size w)
 have HT := Lib.hid hT
 have HQ := Lib.hid fun W (ht : TabB W) h0 => iQuotient_any x y mode W hx hy nx ny hm ht h0
 have HI := Lib.hid fun W => inf_any W
 have HC := Lib.hid fun W => copysign_any 9218868437227405312 x W (by decide) hx
 have z1 := eq_test hx (by decide : W64 0) nx (by decide)
 rw [ky_zero] at z1
 have z2 := eq_test hy (by decide : W64 0) ny (by decide)
 rw [ky_zero] at z2
 unfold byK
 by_cases y0 : ky y = 0
 ·rw [decide_eq_true y0] at z2
  by_cases x0 : ky x = 0
  ·rw [if_neg (by omega)]
   rw [decide_eq_true x0] at z1
   have z3 : (FloatKind.f64.format.order x 0 != some Ordering.eq) = false := by rw [bne, z1]; rfl
   have H0 : Hid (ky x = 0 ∨ ky y ≠ 0) := Lib.hid (.inl x0)
   generalize quK x y mode = KK at *
   clear hx hy nx ny hm hT x0 y0 HI HC
   go_enter Tryz.func135, Tryz.ntmps135
   go_wp2_with fail
   refine (HQ.out _ (HT.out.below HB.out) H0.out).mono ?_
   rintro e3 w3 ⟨r, rfl, rl, rn, rk, hb3⟩
   replace HB := Lib.hid (HB.out.trans (hb3.mono HB.out.size))
   have HR9 := Lib.hid (And.intro rl (And.intro rn rk))
   clear hb3 rl rn rk
   go_wp2
   go_ret
   exact ⟨_, rfl, HR9.out.1, HR9.out.2.1, HR9.out.2.2, HB.out⟩
  ·rw [if_pos ⟨y0, x0⟩]
   rw [decide_eq_false x0] at z1
   have z3 : (FloatKind.f64.format.order x 0 != some Ordering.eq) = true := by rw [bne, z1]; rfl
   have hcp := cp_inf (sgnB x)
   rw [sgn_ky hx x0] at hcp HC
   have HR9 : Hid (W64 (cpB (decide (ky x < 0)) 9218868437227405312) ∧ nanB (cpB (decide (ky x < 0)) 9218868437227405312) = false ∧ ky (cpB (decide (ky x < 0)) 9218868437227405312) = if 0 < ky x then (kInf : Int) else -(kInf : Int)) := Lib.hid ⟨hcp.1, hcp.2.1, by
    rw [hcp.2.2]
    by_cases hp : 0 < ky x
    ·rw [decide_eq_false (by omega), if_neg (by decide), if_pos hp]
    ·rw [decide_eq_true (by omega), if_pos rfl, if_neg hp]⟩
   generalize cpB (decide (ky x < 0)) 9218868437227405312 = R at *
   generalize (if 0 < ky x then (kInf : Int) else -(kInf : Int)) = KK at *
   clear hx hy nx ny hm hT x0 y0 hcp HQ
   go_enter Tryz.func135, Tryz.ntmps135
   go_wp2_with fail
   refine (HI.out _).mono ?_
   rintro e1 w1 ⟨rfl, hb1⟩
   replace HB := Lib.hid (HB.out.trans (hb1.mono HB.out.size))
   clear hb1
   go_wp2_with fail
   refine (HC.out _).mono ?_
   rintro e2 w2 ⟨rfl, hb2⟩
   replace HB := Lib.hid (HB.out.trans (hb2.mono HB.out.size))
   clear hb2
   go_wp2
   go_ret
   exact ⟨_, rfl, HR9.out.1, HR9.out.2.1, HR9.out.2.2, HB.out⟩
 ·rw [decide_eq_false y0] at z2
  rw [if_neg (by omega)]
  have H0 : Hid (ky x = 0 ∨ ky y ≠ 0) := Lib.hid (.inr y0)
  generalize quK x y mode = KK at *
  clear hx hy nx ny hm hT y0 HI HC z1
  go_enter Tryz.func135, Tryz.ntmps135
  go_wp2_with fail
  refine (HQ.out _ (HT.out.below HB.out) H0.out).mono ?_
  rintro e3 w3 ⟨r, rfl, rl, rn, rk, hb3⟩
  replace HB := Lib.hid (HB.out.trans (hb3.mono HB.out.size))
  have HR9 := Lib.hid (And.intro rl (And.intro rn rk))
  clear hb3 rl rn rk
  go_wp2
  go_ret
  exact ⟨_, rfl, HR9.out.1, HR9.out.2.1, HR9.out.2.2, HB.out⟩
end
end Go.Proofs.YtfmecpembnmnkaaGreatDoor
