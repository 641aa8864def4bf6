/- Walks: the law of intervals: its ends, the same bits, that the package is awake. Printed by wip/gen/iv10.py. -/
import Derived.Test.YtloohbkceppocaaGreatDoorIF
namespace Go.Proofs.YtloohbkceppocaaGreatDoor
open Go.RowKit
attribute [local go_sem] run_store_f
def E1 (w0 W : World) (a b : Nat) : Prop := (BlkT W w0.heap.size 37 #[.int .u64 a, .int .u64 b] ∧ BlkT W (w0.heap.size + 1) 34 #[.float .f64 0, .float .f64 0]) ∧ Below w0.heap.size w0 W
theorem E1.later {w0 W V : World} {a b : Nat} (hx : E1 w0 W a b) (hb : Below W.heap.size W V) : E1 w0 V a b := ⟨⟨hx.1.1.below hb, hx.1.2.below hb⟩, hx.2.trans (hb.mono hx.2.size)⟩
theorem E1.new (w : World) (a b : Nat) : E1 w ((w.alloc (.cells #[.int .u64 a, .int .u64 b] 37)).alloc (.cells #[.float .f64 0, .float .f64 0] 34)) a b :=
 ⟨⟨(BlkT.new w _ _).alloc _, BlkT.new1 w _ _ _⟩, (Below.alloc_self w _).alloc (Below.alloc_self w _).size _⟩
theorem E1.cells {w0 W : World} {a b : Nat} (hx : E1 w0 W a b) : (W.cell? ⟨w0.heap.size, 0, none⟩ = some (.int .u64 a) ∧ W.cell? ⟨w0.heap.size, 1, none⟩ = some (.int .u64 b)) ∧
  W.cell? ⟨w0.heap.size + 1, 0, none⟩ = some (.float .f64 0) ∧ W.cell? ⟨w0.heap.size + 1, 1, none⟩ = some (.float .f64 0) ∧ W.frozen? ⟨w0.heap.size + 1, 0, none⟩ = false ∧ W.frozen? ⟨w0.heap.size + 1, 1, none⟩ = false :=
 ⟨⟨hx.1.1.cell 0, hx.1.1.cell 1⟩, hx.1.2.cells2⟩
theorem E1.stored {w0 W : World} {a b : Nat} (hx : E1 w0 W a b) (x y : Value) : Below w0.heap.size w0 ((W.setCell ⟨w0.heap.size + 1, 0, none⟩ x).setCell ⟨w0.heap.size + 1, 1, none⟩ y) := (hx.2.setCell (show w0.heap.size ≤ w0.heap.size + 1 by omega) _).setCell (show w0.heap.size ≤ w0.heap.size + 1 by omega) _
set_option maxRecDepth 100000 in
set_option maxHeartbeats 400000 in
theorem lf_any (x : Nat) (w : World) : Calls Tryz.prog 9 #[.int .u64 x] w (Gives (.float .f64 x) w) := by
 have h1 := ffrom_eq x
 go_enter Tryz.func9, Tryz.ntmps9
 go_wp2
 go_ret
 exact ⟨rfl, Below.refl _ _⟩
set_option maxRecDepth 100000 in
set_option maxHeartbeats 800000 in
theorem lof_any (a b : Nat) (w : World) : Calls Tryz.prog 11 #[.agg #[.int .u64 a, .int .u64 b]] w (Gives (.agg #[.float .f64 a, .float .f64 b]) w) := by
 have HA := Lib.hid fun w => lf_any a w
 have HB := Lib.hid fun w => lf_any b w
 have HW := Lib.hid (E1.new w a b)
 go_enter Tryz.func11, Tryz.ntmps11
 go_wp2
 refine wp_region_pl (fun w' : World => w'.cell? ⟨w.heap.size, 0, none⟩ = some (.int .u64 a) ∧ w'.cell? ⟨w.heap.size, 1, none⟩ = some (.int .u64 b)) 5 (.take 0 (.take 1 (.take 3 (.take 4 (.run 2 .nil))))) (by kernel_rfl) (by kernel_rfl) ?_
 replace HW := Lib.hid (HW.out.later (drew_below _))
 generalize World.drew _ = W0 at HW ⊢
 repeat (first | (refine tkL (v := ?_) rfl rfl rfl (fun w' hSw => ?_) HW.out.cells.1 ?_; rotate_left; (focus (go_simp; with_reducible rfl)); simp only [setL]) | (refine skL rfl rfl rfl HW.out.cells.1 ?_; simp only [setL]))
 refine wpPl_goL rfl rfl fun K' hK => ?_
 go_simp
 refine (HA.out _).mono ?_
 rintro e1 W0v1 ⟨rfl, hb1⟩
 replace HW := Lib.hid (HW.out.later hb1)
 refine hK _ _ HW.out.cells.1 ?_
 clear hK K' hb1
 try simp only [Act.put, setL]
 repeat (first | (refine tkL (v := ?_) rfl rfl rfl (fun w' hSw => ?_) HW.out.cells.1 ?_; rotate_left; (focus (go_simp; with_reducible rfl)); simp only [setL]) | (refine skL rfl rfl rfl HW.out.cells.1 ?_; simp only [setL]))
 refine wpPl_nil ?_
 simp only [drL]
 go_wp2_with fail
 refine (HB.out _).mono ?_
 rintro e2 w2 ⟨rfl, hb2⟩
 replace HW := Lib.hid (HW.out.later hb2)
 clear hb2
 obtain ⟨⟨c0, c1⟩, q0, q1, q2, q3⟩ := HW.out.cells
 go_wp2
 refine bodyPost_ret (v := .agg #[.float .f64 a, .float .f64 b]) (by simp [results, Tryz.results11, go_sem, q0, q1]) rfl ⟨rfl, HW.out.stored _ _⟩
def nuB (a b : Nat) : Bool := decide (a = canonB b)
set_option maxRecDepth 100000 in
set_option maxHeartbeats 400000 in
theorem lnumber_any (a b : Nat) (w : World) : Calls Tryz.prog 34 #[.float .f64 a, .float .f64 b] w (Gives (.bool (nuB a b)) w) := by
 have h1 := fbits_eq a
 have HB := Lib.hid fun w => rBits_any b w
 have h2 : ((a : Int) == ((canonB b : Nat) : Int)) = nuB a b := by unfold nuB; rw [Bool.eq_iff_iff]; simp; omega
 generalize nuB a b = R at *
 generalize canonB b = c at *
 go_enter Tryz.func34, Tryz.ntmps34
 go_wp2_with fail
 refine (HB.out _).mono ?_
 rintro e1 w1 ⟨rfl, hb1⟩
 have HB1 := Lib.hid hb1
 clear hb1
 go_wp2
 go_ret
 exact ⟨rfl, HB1.out⟩
def saB (a b c d : Nat) : Bool := nuB a c && nuB b d
set_option maxRecDepth 100000 in
set_option maxHeartbeats 800000 in
theorem lsame_any (a b c d : Nat) (w : World) : Calls Tryz.prog 19 #[.agg #[.float .f64 a, .float .f64 b], .agg #[.float .f64 c, .float .f64 d]] w (Gives (.bool (saB a b c d)) w) := by
 have HA := Lib.hid fun w => lnumber_any a c w
 have HB := Lib.hid fun w => lnumber_any b d w
 have HW := Lib.hid (I2.new w a b c d)
 unfold saB
 generalize nuB a c = t1 at *
 generalize nuB b d = t2 at *
 cases t1
 ·go_enter Tryz.func19, Tryz.ntmps19
  obtain ⟨⟨c0, c1⟩, c2, c3⟩ := HW.out.cells
  go_wp2_with fail
  refine (HA.out _).mono ?_
  rintro e1 w1 ⟨rfl, hb1⟩
  replace HW := Lib.hid (HW.out.later hb1)
  clear hb1 c0 c1 c2 c3
  obtain ⟨⟨c0, c1⟩, c2, c3⟩ := HW.out.cells
  go_wp2
  go_ret
  exact ⟨rfl, HW.out.2⟩
 ·go_enter Tryz.func19, Tryz.ntmps19
  obtain ⟨⟨c0, c1⟩, c2, c3⟩ := HW.out.cells
  go_wp2_with fail
  refine (HA.out _).mono ?_
  rintro e1 w1 ⟨rfl, hb1⟩
  replace HW := Lib.hid (HW.out.later hb1)
  clear hb1 c0 c1 c2 c3
  obtain ⟨⟨c0, c1⟩, c2, c3⟩ := HW.out.cells
  go_wp2_with fail
  refine (HB.out _).mono ?_
  rintro e2 w2 ⟨rfl, hb2⟩
  replace HW := Lib.hid (HW.out.later hb2)
  clear hb2 c0 c1 c2 c3
  obtain ⟨⟨c0, c1⟩, c2, c3⟩ := HW.out.cells
  go_wp2
  go_ret
  exact ⟨rfl, HW.out.2⟩
theorem saB_iv {a b : Option (Int × Int)} (ha : Iok a) (hb : Iok b) : saB (ivL a) (ivH a) (ivL b) (ivH b) = decide (a = b) := by
 unfold saB nuB
 rw [canon_num (ivL_num hb), canon_num (ivH_num hb)]
 exact iv_same ha hb
theorem awake_mul : ivL (mulK (ivK 13830554455654793216 4611686018427387904) (ivK 13837309855095848960 4616189618054758400)) = 13841813454723219456 ∧ ivH (mulK (ivK 13830554455654793216 4611686018427387904) (ivK 13837309855095848960 4616189618054758400)) = 4620693217682128896 := by decide +kernel
theorem awake_div : ivL (divK (ivK 4607182418800017408 4611686018427387904) (ivK 0 4607182418800017408)) = 4607182418800017408 ∧ ivH (divK (ivK 4607182418800017408 4611686018427387904) (ivK 0 4607182418800017408)) = 9218868437227405312 := by decide +kernel
theorem awake_sqrt : ivL (sqK (ivK 13839561654909534208 4616189618054758400)) = 0 ∧ ivH (sqK (ivK 13839561654909534208 4616189618054758400)) = 4611686018427387904 := by decide +kernel
theorem awake_new : (ivK 4611686018427387904 4607182418800017408).isSome = false ∧ isB 13841813454723219456 4620693217682128896 = true ∧ hasK (ivK 13841813454723219456 4620693217682128896) 4620693217682128896 = true := by decide +kernel
def Aw (w0 W : World) (b1 b2 b3 : Nat) : Prop := (IBox w0 W b1 13841813454723219456 4620693217682128896 ∧ IBox w0 W b2 4607182418800017408 9218868437227405312) ∧ IBox w0 W b3 0 4611686018427387904
theorem Aw.later {w0 W V : World} {b1 b2 b3 : Nat} (h : Aw w0 W b1 b2 b3) (hb : Below W.heap.size W V) : Aw w0 V b1 b2 b3 := ⟨⟨h.1.1.later hb, h.1.2.later hb⟩, h.2.later hb⟩
theorem Aw.cells {w0 W : World} {b1 b2 b3 : Nat} (h : Aw w0 W b1 b2 b3) : ((W.cell? ⟨b1, 0, none⟩ = some (.float .f64 13841813454723219456) ∧ W.cell? ⟨b1, 1, none⟩ = some (.float .f64 4620693217682128896)) ∧ W.cell? ⟨b2, 0, none⟩ = some (.float .f64 4607182418800017408) ∧ W.cell? ⟨b2, 1, none⟩ = some (.float .f64 9218868437227405312)) ∧
  W.cell? ⟨b3, 0, none⟩ = some (.float .f64 0) ∧ W.cell? ⟨b3, 1, none⟩ = some (.float .f64 4611686018427387904) := ⟨⟨h.1.1.cells, h.1.2.cells⟩, h.2.cells⟩
set_option maxRecDepth 100000 in
set_option maxHeartbeats 3200000 in
theorem awake6_any (w : World) (hT : TabB w) : Calls Tryz.prog 7 #[] w (Gives (.bool true) w) := by
 have HT := Lib.hid hT
 have HM := Lib.hid fun W (ht : TabB W) => mul_iv 13830554455654793216 4611686018427387904 13837309855095848960 4616189618054758400 W (by decide) (by decide) (by decide) (by decide) ht
 rw [awake_mul.1, awake_mul.2] at HM
 have HD := Lib.hid fun W (ht : TabB W) => div_iv 4607182418800017408 4611686018427387904 0 4607182418800017408 W (by decide) (by decide) (by decide) (by decide) ht
 rw [awake_div.1, awake_div.2] at HD
 have HS := Lib.hid fun W (ht : TabB W) => sqrt_iv 13839561654909534208 4616189618054758400 W (by decide) (by decide) ht
 rw [awake_sqrt.1, awake_sqrt.2] at HS
 have HN := Lib.hid fun W => new_iv 4611686018427387904 4607182418800017408 W (by decide) (by decide)
 rw [awake_new.1, show newB false (kb (ky 4611686018427387904)) = 0 from rfl, show newB false (kb (ky 4607182418800017408)) = 0 from rfl, show newE false = 60 from rfl] at HN
 have HI := Lib.hid fun W => isInf_up 9218868437227405312 W (by decide)
 rw [show decide (9218868437227405312 = kInf) = true by decide] at HI
 have HIS := Lib.hid fun W => is_iv 13841813454723219456 4620693217682128896 W (by decide) (by decide)
 rw [awake_new.2.1] at HIS
 have HHA := Lib.hid fun W => has_any 13841813454723219456 4620693217682128896 4620693217682128896 W (by decide) (by decide) (by decide)
 rw [awake_new.2.2] at HHA
 have o1 : (FloatKind.f64.format.order 13841813454723219456 13841813454723219456 == some Ordering.eq) = true := by decide
 have o2 : (FloatKind.f64.format.order 4620693217682128896 4620693217682128896 == some Ordering.eq) = true := by decide
 have o3 : (FloatKind.f64.format.order 4607182418800017408 4607182418800017408 == some Ordering.eq) = true := by decide
 have o4 : (FloatKind.f64.format.order 0 0 == some Ordering.eq) = true := by decide
 have o5 : (FloatKind.f64.format.order 4611686018427387904 4611686018427387904 == some Ordering.eq) = true := by decide
 clear hT
 go_enter Tryz.func7, Tryz.ntmps7
 have HB := Lib.hid (Below.refl w.heap.size w)
 go_wp2_with fail
 refine (HM.out _ (HT.out.below HB.out)).mono ?_
 rintro e1 w1 ⟨rfl, hb1⟩
 have HX1 : Hid (IBox w (w1.alloc (.cells #[.float .f64 13841813454723219456, .float .f64 4620693217682128896] 34)) w1.heap.size 13841813454723219456 4620693217682128896) := Lib.hid ⟨BlkT.new w1 _ _, (HB.out.trans (hb1.mono HB.out.size)).trans ((Below.alloc_self w1 _).mono (HB.out.trans (hb1.mono HB.out.size)).size)⟩
 clear HB hb1
 go_wp2_with fail
 generalize w1.alloc (.cells #[.float .f64 13841813454723219456, .float .f64 4620693217682128896] 34) = V1 at HX1 ⊢
 generalize w1.heap.size = b1 at HX1 ⊢
 refine (HD.out _ (HT.out.below HX1.out.2)).mono ?_
 rintro e2 w2 ⟨rfl, hb2⟩
 replace HX1 := Lib.hid (HX1.out.later hb2)
 have HX2 : Hid (IBox w (w2.alloc (.cells #[.float .f64 4607182418800017408, .float .f64 9218868437227405312] 34)) w2.heap.size 4607182418800017408 9218868437227405312) := Lib.hid ⟨BlkT.new w2 _ _, HX1.out.2.trans ((Below.alloc_self w2 _).mono HX1.out.2.size)⟩
 replace HX1 := Lib.hid (HX1.out.later (Below.alloc_self w2 (.cells #[.float .f64 4607182418800017408, .float .f64 9218868437227405312] 34)))
 clear hb2
 go_wp2_with fail
 generalize w2.alloc (.cells #[.float .f64 4607182418800017408, .float .f64 9218868437227405312] 34) = V2 at HX1 HX2 ⊢
 generalize w2.heap.size = b2 at HX2 ⊢
 refine (HS.out _ (HT.out.below HX1.out.2)).mono ?_
 rintro e3 w3 ⟨rfl, hb3⟩
 replace HX1 := Lib.hid (HX1.out.later hb3)
 replace HX2 := Lib.hid (HX2.out.later hb3)
 have HW : Hid (Aw w (w3.alloc (.cells #[.float .f64 0, .float .f64 4611686018427387904] 34)) b1 b2 w3.heap.size) := Lib.hid ⟨⟨HX1.out.later (Below.alloc_self w3 _), HX2.out.later (Below.alloc_self w3 _)⟩, BlkT.new w3 _ _, HX1.out.2.trans ((Below.alloc_self w3 _).mono HX1.out.2.size)⟩
 clear hb3 HX1 HX2
 go_wp2_with fail
 generalize w3.alloc (.cells #[.float .f64 0, .float .f64 4611686018427387904] 34) = V3 at HW ⊢
 generalize w3.heap.size = b3 at HW ⊢
 refine (HN.out _).mono ?_
 rintro e4 w4 ⟨rfl, hb4⟩
 replace HW := Lib.hid (HW.out.later hb4)
 have HWA := Lib.hid (HW.out.later (Below.alloc_self w4 (.cells #[.float .f64 0, .float .f64 0] 34)))
 clear hb4
 obtain ⟨⟨⟨c0, c1⟩, c2, c3⟩, c4, c5⟩ := HWA.out.cells
 have d0 : b1 < w4.heap.size := HW.out.1.1.1.lt
 have d1 : b2 < w4.heap.size := HW.out.1.2.1.lt
 have d2 : b3 < w4.heap.size := HW.out.2.1.lt
 obtain ⟨⟨⟨x0, x1⟩, x2, x3⟩, x4, x5⟩ := HW.out.cells
 go_wp2_with fail
 refine (HI.out _).mono ?_
 rintro e5 w5 ⟨rfl, hb5⟩
 replace HWA := Lib.hid (HWA.out.later hb5)
 clear hb5 c0 c1 c2 c3 c4 c5 x0 x1 x2 x3 x4 x5 d0 d1 d2 HW
 obtain ⟨⟨⟨c0, c1⟩, c2, c3⟩, c4, c5⟩ := HWA.out.cells
 go_wp2_with fail
 refine (HIS.out _).mono ?_
 rintro e6 w6 ⟨rfl, hb6⟩
 replace HWA := Lib.hid (HWA.out.later hb6)
 clear hb6 c0 c1 c2 c3 c4 c5
 obtain ⟨⟨⟨c0, c1⟩, c2, c3⟩, c4, c5⟩ := HWA.out.cells
 go_wp2_with fail
 refine (HHA.out _).mono ?_
 rintro e7 w7 ⟨rfl, hb7⟩
 replace HWA := Lib.hid (HWA.out.later hb7)
 clear hb7 c0 c1 c2 c3 c4 c5
 go_wp2
 go_ret
 exact ⟨rfl, HWA.out.2.2⟩
end Go.Proofs.YtloohbkceppocaaGreatDoor
