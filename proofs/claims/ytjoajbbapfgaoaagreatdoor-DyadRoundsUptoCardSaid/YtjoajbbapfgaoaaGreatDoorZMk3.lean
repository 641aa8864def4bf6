/- Walk: DyadMakes. Printed by wip/gen/mk3.py. -/
import Derived.Test.YtjoajbbapfgaoaaGreatDoorZMk2
import Derived.Test.YtjoajbbapfgaoaaGreatDoorZRk5
import Derived.Test.YtjoajbbapfgaoaaGreatDoorZSm1
import Derived.Deep.DeepCutAuto
namespace Go.Proofs.YtjoajbbapfgaoaaGreatDoor
open Go.RowKit

theorem dOf_res (b : Nat) (w : World) (h : b < 18446744073709551616) (hT : Tab64 w) (hTs : 1 < w.heap.size) :
    Calls Tryz.prog 15 #[.float .f64 b] w (ResOf (if finB b = true then 0 else 4) (valZ b) (pE b) w) := by
  by_cases hf : finB b = true
  · rw [if_pos hf]
    refine (dOf_any b w h hf hT hTs).mono fun e1 w1 hd => ?_
    have hg := good_of hf
    have h1 : hvZ (valZ b) = valZ b ∧ nrE (valZ b) (pE b) = pE b := by
      rcases hg.1 with ⟨h0, h2⟩ | h2
      · rw [h0, h2]; exact ⟨hvZ_zero, by rw [nrE, if_pos rfl]⟩
      · refine ⟨hvZ_of_odd h2, ?_⟩
        have h0 : valZ b ≠ 0 := by omega
        rw [nrE, if_neg h0, hvE_of_odd h2]
    refine .of_dy (.of_new ?_ (by rw [h1.1, h1.2]; exact hd))
    by_cases h0 : valZ b = 0
    · exact .inl h0
    · right
      have h2 : valZ b % 2 = 1 := hg.1.resolve_left fun h => h0 h.1
      unfold lngB
      rw [hvZ_of_odd h2, hvE_of_odd h2]
      have := hg.2
      simp only [Bool.or_eq_false_iff, decide_eq_false_iff_not]
      omega
  · rw [if_neg hf]
    exact (dOf_bad b w h (by simpa using hf)).mono fun _ _ h => ResOf.of_err (by decide) h

theorem dfield1 (na : Bool) (ao : Option Addr) (n c : Nat) (e : Int) (W : World) : (Instr.field 24 (.agg #[.bool na, .slice ao n c, .int .i64 e]) 1).run Tryz.prog W = .ok (.slice ao n c) W := by
  kernel_rfl

/-- The box of an argument. -/
def ABox (w0 W : World) (na : Bool) (sa : Value) (e : Int) : Prop := BlkT W w0.heap.size 24 #[.bool na, sa, .int .i64 e] ∧ Below w0.heap.size w0 W
theorem ABox.later {w0 W V : World} {na : Bool} {sa : Value} {e : Int} (h : ABox w0 W na sa e) (hb : Below W.heap.size W V) : ABox w0 V na sa e := ⟨h.1.below hb, h.2.trans (hb.mono h.2.size)⟩
theorem ABox.cells {w0 W : World} {na : Bool} {sa : Value} {e : Int} (h : ABox w0 W na sa e) :
    (W.cell? ⟨w0.heap.size, 0, none⟩ = some (.bool na) ∧ W.cell? ⟨w0.heap.size, 1, none⟩ = some sa) ∧ W.cell? ⟨w0.heap.size, 2, none⟩ = some (.int .i64 e) := ⟨⟨h.1.cell 0, h.1.cell 1⟩, h.1.cell 2⟩
theorem ABox.st2 {w0 W : World} {na : Bool} {sa : Value} {e : Int} {r : Nat} (h : ABox w0 W na sa e) (hn : w0.heap.size < r) (x0 x1 : Value) : ABox w0 ((W.setCell ⟨r, 0, none⟩ x0).setCell ⟨r, 1, none⟩ x1) na sa e :=
  ⟨(h.1.setOther (by omega) _).setOther (by omega) _, (h.2.setCell (by show w0.heap.size ≤ r; omega) _).setCell (by show w0.heap.size ≤ r; omega) _⟩
theorem ABox.st3 {w0 W : World} {na : Bool} {sa : Value} {e : Int} {r : Nat} (h : ABox w0 W na sa e) (hn : w0.heap.size < r) (x0 x1 x2 : Value) : ABox w0 (((W.setCell ⟨r, 0, none⟩ x0).setCell ⟨r, 1, none⟩ x1).setCell ⟨r, 2, none⟩ x2) na sa e :=
  ⟨((h.1.setOther (by omega) _).setOther (by omega) _).setOther (by omega) _, ((h.2.setCell (by show w0.heap.size ≤ r; omega) _).setCell (by show w0.heap.size ≤ r; omega) _).setCell (by show w0.heap.size ≤ r; omega) _⟩

/-- One of the references' numbers in its box, against an answer's error. -/
def XBox (W : World) (b q : Nat) (bad z e x : Int) : Prop := BlkT W b 34 #[.pointer (some ⟨q, 0, none⟩), .int .i64 x] ∧ XIs bad z e W q x
theorem XBox.below {W V : World} {b q : Nat} {bad z e x : Int} (h : XBox W b q bad z e x) (hb : Below W.heap.size W V) : XBox V b q bad z e x := ⟨h.1.below hb, h.2.below hb⟩

theorem Ans3.st2 {W : World} {b r : Nat} {k bad z e : Int} {n : Bool} {a : Option Addr} {l c : Nat} {x y : Int} {o : Option Addr} (h : Ans3 W b k bad z e n a l c x) (hr : BlkT W r 34 #[.pointer o, .int .i64 y]) (hn : b < r) (x0 x1 : Value) :
    Ans3 ((W.setCell ⟨r, 0, none⟩ x0).setCell ⟨r, 1, none⟩ x1) b k bad z e n a l c x :=
  ⟨(h.1.setOther (by omega) _).setOther (by omega) _, h.2.st2 hr _ _⟩

/-- The references' number, where there is one, told; else Zero's box. -/
theorem is_two {z e : Int} {w : World} {c d : Value} {k l : Int} (h1 : ResIs 0 z e w c k) (h2 : ResIs 0 z e w d l) : Calls Tryz.prog 23 #[c, d] w (Gives (.bool true) w) := by
  rcases h1 with ⟨-, h1⟩ | ⟨h1, -⟩
  · rcases h2 with ⟨-, h2⟩ | ⟨h2, -⟩
    · exact (same_is h1 h2).2
    · exact absurd rfl h2
  · exact absurd rfl h1

set_option maxRecDepth 100000 in
set_option maxHeartbeats 8000000 in
theorem makes_any (v : Value) (na : Bool) (n N : Nat) (e ex : Int) (x : Nat) (w : World) (ha : DyIn w v na n N e) (hx : x < 18446744073709551616)
    (hT : Tab64 w) (hTs : 1 < w.heap.size) (hT2 : Tab32 w) (hTs2 : 2 < w.heap.size) :
    Calls Tryz.prog 3 #[v, .int .u64 x, .int .i64 ex] w (Gives (.bool true) w) := by
  have HT := Lib.hid (And.intro hT (And.intro hTs (And.intro hT2 hTs2)))
  have HD := Lib.hid ha
  obtain ⟨sa, rfl, hra, hna⟩ := ha
  have HA := Lib.hid (And.intro hra hna)
  obtain ⟨aa, ca, rfl, -⟩ := hra
  have HF := Lib.hid fun W => rFinite_any x W hx
  have HO := Lib.hid fun W => dOf_res x W hx
  have HRO := Lib.hid fun W (h : finB x = true) => rOf_any x W hx h
  have HBD : Hid (finB x = true → bl (valZ x).natAbs ≤ 68719476736 ∧ -1099511627776 ≤ pE x ∧ pE x ≤ 1099511627776) := Lib.hid fun h => by
    have h1 := val_bl (b := x)
    have h2 := pE_bd h
    exact ⟨by omega, by omega, by omega⟩
  have hff := ffrom_eq x
  clear hT hTs hT2 hTs2 hna hx
  generalize valZ x = Z at *
  generalize pE x = E at *
  generalize finB x = fx at *
  obtain ⟨bad, hbad⟩ : ∃ b : Int, (if fx = true then 0 else 4) = b := ⟨_, rfl⟩
  have HBAD := Lib.hid hbad
  rw [hbad] at HO
  clear hbad
  obtain ⟨z, hz⟩ : ∃ z, sgZ na N = z := ⟨_, rfl⟩
  have HZ := Lib.hid hz
  clear hz
  obtain ⟨K, hK⟩ : ∃ k, resK 0 z ex = k := ⟨_, rfl⟩
  have HK := Lib.hid hK
  clear hK
  have HDM := Lib.hid fun sl W (h : Raw .u32 32 W sl n N) => dMake_any na sl n N ex W h HA.out.2
  have HRM := Lib.hid fun sl W (h : RawI W sl n N) => rMake_in na sl n N ex W h HA.out.2
  rw [HZ.out] at HDM HRM
  obtain ⟨mb, hmb⟩ : ∃ b, mayB na n N e = b := ⟨_, rfl⟩
  have HM1 := Lib.hid fun v W (h : DyRaw W v na n N e) => dMay_any v na n N e W h
  have HM2 := Lib.hid fun v W (h : DyIn W v na n N e) => rMay_in v na n N e W h
  rw [hmb] at HM1 HM2
  clear hmb
  unfold DyV at *
  have HW : Hid (ABox w (w.alloc (.cells #[.bool na, .slice aa n ca, .int .i64 e] 24)) na (.slice aa n ca) e) := Lib.hid ⟨BlkT.new w _ _, Below.alloc_self w _⟩
  go_enter Tryz.func3, Tryz.ntmps3
  go_wp2_with fail
  generalize w.alloc (.cells #[.bool na, .slice aa n ca, .int .i64 e] 24) = W0 at HW ⊢
  refine (HO.out _ (HT.out.1.below HT.out.2.1 HW.out.2) (Nat.lt_of_lt_of_le HT.out.2.1 HW.out.2.size)).mono ?_
  rintro e1 w1 ⟨n8, ao8, l8, c8, x8, k8, rfl, hr8, hb⟩
  replace HW := Lib.hid ((HW.out.later hb).later (Below.alloc_self w1 (.cells #[.bool n8, .slice ao8 l8 c8, .int .i64 x8] 24)))
  have HAN8 : Hid (Ans3 (w1.alloc (.cells #[.bool n8, .slice ao8 l8 c8, .int .i64 x8] 24)) w1.heap.size k8 bad Z E n8 ao8 l8 c8 x8) := Lib.hid ⟨BlkT.new w1 _ _, hr8.below (Below.alloc_self w1 _)⟩
  clear hr8 hb hff
  go_wp2_with fail
  generalize w1.alloc (.cells #[.bool n8, .slice ao8 l8 c8, .int .i64 x8] 24) = W1 at HW HAN8 ⊢
  generalize w1.heap.size = b8 at HAN8 ⊢
  refine (HF.out _).mono ?_
  rintro e2 w2 ⟨rfl, hb⟩
  replace HW := Lib.hid (HW.out.later hb)
  replace HAN8 := Lib.hid (HAN8.out.below hb)
  clear hb HF HO
  go_upto_if 25 with fail
  go_cut [10] from 25 to 25 (fun s10 wx => s10 = .int .i64 bad ∧ wx = w2)
  case first =>
    cases fx
    · have HB4 : Hid (bad = 4) := Lib.hid HBAD.out.symm
      go_wp2_with fail
      go_meet
      exact ⟨by rw [HB4.out], rfl⟩
    · have HB4 : Hid (bad = 0) := Lib.hid HBAD.out.symm
      go_wp2_with fail
      go_meet
      exact ⟨by rw [HB4.out], rfl⟩
  case rest =>
  obtain ⟨rfl, rfl⟩ := hcut
  go_wp2_with fail
  refine (rZero_any _).mono ?_
  rintro e3 w3 ⟨q, rfl, -, hi, hb⟩
  have HLT : Hid (w.heap.size < w3.heap.size ∧ b8 < w3.heap.size) := Lib.hid ⟨(HW.out.later hb).1.lt, (HAN8.out.below hb).1.lt⟩
  have HX : Hid (BlkT (w3.alloc (.cells #[.pointer (some ⟨q, 0, none⟩), .int .i64 0] 34)) w3.heap.size 34 #[.pointer (some ⟨q, 0, none⟩), .int .i64 0] ∧ RInt (w3.alloc (.cells #[.pointer (some ⟨q, 0, none⟩), .int .i64 0] 34)) q 0) :=
    Lib.hid ⟨BlkT.new w3 _ _, hi.below (Below.alloc_self w3 _)⟩
  replace HW := Lib.hid (HW.out.later hb)
  replace HAN8 := Lib.hid (HAN8.out.below hb)
  replace HW := Lib.hid (HW.out.later (Below.alloc_self w3 (.cells #[.pointer (some ⟨q, 0, none⟩), .int .i64 0] 34)))
  replace HAN8 := Lib.hid (HAN8.out.below (Below.alloc_self w3 (.cells #[.pointer (some ⟨q, 0, none⟩), .int .i64 0] 34)))
  clear hi hb
  unfold ExV
  go_upto_if 28 with fail
  generalize w3.alloc (.cells #[.pointer (some ⟨q, 0, none⟩), .int .i64 0] 34) = W3 at HW HAN8 HX ⊢
  generalize w3.heap.size = b11 at HX HLT ⊢
  go_cut [] from 28 to 30 (fun wx => ∃ q1 x1, Hid (XBox wx b11 q1 bad Z E x1) ∧ Hid (ABox w wx na (.slice aa n ca) e) ∧ Hid (Ans3 wx b8 k8 bad Z E n8 ao8 l8 c8 x8))
  case first =>
    cases fx
    · have HB4 : Hid (bad = 4) := Lib.hid HBAD.out.symm
      have hb0 : (bad == 0) = false := by rw [HB4.out]; rfl
      have HXX : Hid (XBox W3 b11 q bad Z E 0) := Lib.hid ⟨HX.out.1, XIs.no (by rw [HB4.out]; decide)⟩
      go_wp2_with fail
      go_meet
      exact ⟨q, 0, HXX, HW, HAN8⟩
    · have HB4 : Hid (bad = 0) := Lib.hid HBAD.out.symm
      have hb0 : (bad == 0) = true := by rw [HB4.out]; rfl
      go_wp2_with fail
      refine (HRO.out _ trivial).mono ?_
      rintro e7 w7 ⟨p, rfl, -, hi, hb⟩
      replace HW := Lib.hid (HW.out.later hb)
      replace HAN8 := Lib.hid (HAN8.out.below hb)
      have HX1 := Lib.hid (HX.out.1.below hb)
      have HI := Lib.hid hi
      obtain ⟨t0, t1, t2, t3⟩ := HX1.out.cells2
      have HXX := Lib.hid (And.intro (show XBox ((w7.setCell ⟨b11, 0, none⟩ (.pointer (some ⟨p, 0, none⟩))).setCell ⟨b11, 1, none⟩ (.int .i64 E)) b11 p bad Z E E from ⟨(HX1.out.set (i := 0) _).set (i := 1) _, XIs.of bad ⟨HI.out.st2 HX1.out _ _, rfl, HBD.out trivial⟩⟩)
        (And.intro (HW.out.st2 HLT.out.1 (.pointer (some ⟨p, 0, none⟩)) (.int .i64 E)) (HAN8.out.st2 HX1.out HLT.out.2 (.pointer (some ⟨p, 0, none⟩)) (.int .i64 E))))
      clear hi hb HX1 HI HX HW HAN8
      unfold ExV
      go_wp2_with fail
      go_meet
      exact ⟨p, E, Lib.hid HXX.out.1, Lib.hid HXX.out.2.1, Lib.hid HXX.out.2.2⟩
  case rest =>
  clear HX HW HAN8
  obtain ⟨q1, x1, HX, HW, HAN8⟩ := hcut
  rename_i W4
  obtain ⟨y0, y1, y2, y3, y4, y5⟩ := HAN8.out.1.cells3
  obtain ⟨t0, t1, t2, t3⟩ := HX.out.1.cells2
  go_wp2_with fail
  refine (rIs_all bad Z E _ k8 q1 x1 _ HAN8.out.2 HX.out.2 (HT.out.2.2.1.below HT.out.2.2.2 HW.out.2) (Nat.lt_of_lt_of_le HT.out.2.2.2 HW.out.2.size)).mono ?_
  rintro e8 w8 ⟨rfl, hb⟩
  replace HW := Lib.hid (HW.out.later hb)
  clear hb y0 y1 y2 y3 y4 y5 t0 t1 t2 t3 HX HAN8 HLT HBAD HBD HRO
  go_wp2
  refine wp_region_q (fun w' : World => (w'.cell? ⟨w.heap.size, 0, none⟩ = some (.bool na) ∧ w'.cell? ⟨w.heap.size, 1, none⟩ = some (.slice aa n ca)) ∧ w'.cell? ⟨w.heap.size, 2, none⟩ = some (.int .i64 e)) 12 (.take 0 (.take 1 (.take 2 (.take 5 (.bag [(3, 41, [(4, 42)]), (6, 44, [(7, 37), (8, 45), (9, 46)]), (10, 12, [])] (.run 11 .nil)))))) (by kernel_rfl) (by kernel_rfl) ?_
  replace HW := Lib.hid (HW.out.later (drew_below _))
  generalize World.drew _ = W5 at HW ⊢
  obtain ⟨B0, hB0⟩ : ∃ i, W5.heap.size = i := ⟨_, rfl⟩
  have HSZ : Hid (SzLe W5 B0) := Lib.hid (Nat.le_of_eq hB0.symm)
  have HLB : Hid (w.heap.size < B0) := Lib.hid (by rw [← hB0]; exact HW.out.1.lt)
  clear hB0
  have hS : (fun w' : World => (w'.cell? ⟨w.heap.size, 0, none⟩ = some (.bool na) ∧ w'.cell? ⟨w.heap.size, 1, none⟩ = some (.slice aa n ca)) ∧ w'.cell? ⟨w.heap.size, 2, none⟩ = some (.int .i64 e)) W5 := HW.out.cells
  repeat (refine wpPq_takeL (v := ?_) rfl rfl (fun _ _ _ h => h) rfl (fun w' hSw => ?_) hS ?_; rotate_left; (focus (go_simp; with_reducible rfl)); simp only [List.setIfInBounds_toArray, List.set_cons_zero, List.set_cons_succ])
  clear hS
  refine wpPq_bag (pick [(3, fun v w' => ∃ ao c, v = .agg #[.bool na, .slice ao n c, .int .i64 e] ∧ Raw .u32 32 w' (.slice ao n c) n N), (4, fun v w' => ∃ ao c, v = .slice ao n c ∧ Raw .u32 32 w' (.slice ao n c) n N), (6, fun v w' => ∃ n1 ao l c x, v = .tuple #[.agg #[.bool n1, .slice ao l c, .int .i64 x], .int .i64 K] ∧ ResIs 0 z ex w' (.agg #[.bool n1, .slice ao l c, .int .i64 x]) K), (7, fun v w' => ∃ n1 ao l c x, v = .tuple #[.agg #[.bool n1, .slice ao l c, .int .i64 x], .int .i64 K] ∧ ResIs 0 z ex w' (.agg #[.bool n1, .slice ao l c, .int .i64 x]) K), (8, fun v w' => ∃ n1 ao l c x, v = .agg #[.bool n1, .slice ao l c, .int .i64 x] ∧ ResIs 0 z ex w' (.agg #[.bool n1, .slice ao l c, .int .i64 x]) K), (9, fun v w' => v = .int .i64 K), (10, fun v w' => ∃ r, v = .pointer (some ⟨r, 0, none⟩) ∧ B0 ≤ r ∧ BlkT w' r 24 #[.bool false, .slice none 0 0, .int .i64 0])]) (pick_mono (bag_cons (fun v w1 w2 ⟨ao3, c3, hv3, hr3⟩ hb => ⟨ao3, c3, hv3, hr3.below hb⟩) (bag_cons (fun v w1 w2 ⟨ao4, c4, hv4, hr4⟩ hb => ⟨ao4, c4, hv4, hr4.below hb⟩) (bag_cons (fun v w1 w2 ⟨n6, ao6, l6, c6, x6, hv6, hr6⟩ hb => ⟨n6, ao6, l6, c6, x6, hv6, hr6.below hb⟩) (bag_cons (fun v w1 w2 ⟨n7, ao7, l7, c7, x7, hv7, hr7⟩ hb => ⟨n7, ao7, l7, c7, x7, hv7, hr7.below hb⟩) (bag_cons (fun v w1 w2 ⟨n12, ao12, l12, c12, x12, hv8, hr8⟩ hb => ⟨n12, ao12, l12, c12, x12, hv8, hr8.below hb⟩) (bag_cons (fun v w1 w2 hv9 hb => hv9) (bag_cons (fun v w1 w2 ⟨b12, hv10, hl10, hB10⟩ hb => ⟨b12, hv10, hl10, hB10.below hb⟩) bag_nil)))))))) (fun w' hb => (HW.out.later hb).cells) (by simp [prE]) (fun _ _ _ _ _ h => h) (bag_cons (bag_one rfl ?_) (bag_cons (bag_one rfl ?_) (bag_cons (bag_one rfl ?_) bag_nil))) (bag_cons (read_one rfl ?_) (bag_cons (read_one rfl ?_) (bag_cons (read_one rfl ?_) (bag_cons (read_one rfl ?_) bag_nil)))) ?_
  · intro a' V hdf hin hdep hb1 K hK
    have i40 : a'.tmps[40]?.getD undef = .agg #[.bool na, .slice aa n ca, .int .i64 e] := evT (hin 40 (by decide))
    clear hin hdep hdf
    have HW := Lib.hid (HW.out.later hb1)
    have HSZ := Lib.hid (HSZ.out.below hb1)
    go_simp
    refine (twin_in na e _ n N _ (HA.out.1.below HW.out.2) HA.out.2).mono ?_
    rintro e1 V2 ⟨sl, rfl, hr, -, hb2⟩
    obtain ⟨ao, c, rfl, -⟩ := id hr
    exact hK _ _ ⟨ao, c, rfl, hr⟩ hb2
  · intro a' V hdf hin hdep hb1 K hK
    have i39 : a'.tmps[39]?.getD undef = .bool na := evT (hin 39 (by decide))
    have i43 : a'.tmps[43]?.getD undef = .int .i64 ex := evT (hin 43 (by decide))
    obtain ⟨ao4, c4, hv4, hr4⟩ : (fun (v : Value) (w' : World) => ∃ ao c, v = .slice ao n c ∧ Raw .u32 32 w' (.slice ao n c) n N) (a'.tmps.getD 42 undef) V := hdep ⟨4, .data⟩ (by simp) rfl 42 (by decide)
    replace hv4 := evT hv4
    clear hin hdep hdf
    have HW := Lib.hid (HW.out.later hb1)
    have HSZ := Lib.hid (HSZ.out.below hb1)
    go_simp
    refine (HDM.out _ _ hr4 (HT.out.1.below HT.out.2.1 HW.out.2) (Nat.lt_of_lt_of_le HT.out.2.1 HW.out.2.size)).mono ?_
    rintro e1 V2 ⟨n1, ao, l, c, x, k, rfl, hr, hb2⟩
    have hk := hr.k_eq
    rw [HK.out] at hk
    subst hk
    exact hK _ _ ⟨_, _, _, _, _, rfl, hr⟩ hb2
  · intro a' V hdf hin hdep hb1 K hK
    clear hin hdep hdf
    have HW := Lib.hid (HW.out.later hb1)
    have HSZ := Lib.hid (HSZ.out.below hb1)
    go_simp
    exact hK _ _ ⟨_, rfl, HSZ.out, BlkT.new V _ _⟩ (Below.alloc_self _ _)
  · intro a' V hdf hin hdep hb1
    obtain ⟨ao3, c3, hv3, hr3⟩ : (fun (v : Value) (w' : World) => ∃ ao c, v = .agg #[.bool na, .slice ao n c, .int .i64 e] ∧ Raw .u32 32 w' (.slice ao n c) n N) (a'.tmps.getD 41 undef) V := hdep ⟨3, .data⟩ (by simp) rfl 41 (by decide)
    replace hv3 := evT hv3
    clear hin hdep hdf
    have HW := Lib.hid (HW.out.later hb1)
    have HSZ := Lib.hid (HSZ.out.below hb1)
    have hfd := dfield1 na ao3 n c3 e
    refine ⟨.slice ao3 n c3, fun W hSw => ?_, ⟨_, _, rfl, hr3⟩⟩
    go_simp
  · intro a' V hdf hin hdep hb1
    obtain ⟨n6, ao6, l6, c6, x6, hv6, hr6⟩ : (fun (v : Value) (w' : World) => ∃ n1 ao l c x, v = .tuple #[.agg #[.bool n1, .slice ao l c, .int .i64 x], .int .i64 K] ∧ ResIs 0 z ex w' (.agg #[.bool n1, .slice ao l c, .int .i64 x]) K) (a'.tmps.getD 44 undef) V := hdep ⟨6, .data⟩ (by simp) rfl 44 (by decide)
    replace hv6 := evT hv6
    clear hin hdep hdf
    have HW := Lib.hid (HW.out.later hb1)
    have HSZ := Lib.hid (HSZ.out.below hb1)
    refine ⟨.tuple #[.agg #[.bool n6, .slice ao6 l6 c6, .int .i64 x6], .int .i64 K], fun W hSw => ?_, ⟨_, _, _, _, _, rfl, hr6⟩⟩
    go_simp
  · intro a' V hdf hin hdep hb1
    obtain ⟨n7, ao7, l7, c7, x7, hv7, hr7⟩ : (fun (v : Value) (w' : World) => ∃ n1 ao l c x, v = .tuple #[.agg #[.bool n1, .slice ao l c, .int .i64 x], .int .i64 K] ∧ ResIs 0 z ex w' (.agg #[.bool n1, .slice ao l c, .int .i64 x]) K) (a'.tmps.getD 37 undef) V := hdep ⟨7, .data⟩ (by simp) rfl 37 (by decide)
    replace hv7 := evT hv7
    clear hin hdep hdf
    have HW := Lib.hid (HW.out.later hb1)
    have HSZ := Lib.hid (HSZ.out.below hb1)
    refine ⟨.agg #[.bool n7, .slice ao7 l7 c7, .int .i64 x7], fun W hSw => ?_, ⟨_, _, _, _, _, rfl, hr7⟩⟩
    go_simp
  · intro a' V hdf hin hdep hb1
    obtain ⟨n7, ao7, l7, c7, x7, hv7, hr7⟩ : (fun (v : Value) (w' : World) => ∃ n1 ao l c x, v = .tuple #[.agg #[.bool n1, .slice ao l c, .int .i64 x], .int .i64 K] ∧ ResIs 0 z ex w' (.agg #[.bool n1, .slice ao l c, .int .i64 x]) K) (a'.tmps.getD 37 undef) V := hdep ⟨7, .data⟩ (by simp) rfl 37 (by decide)
    replace hv7 := evT hv7
    clear hin hdep hdf
    have HW := Lib.hid (HW.out.later hb1)
    have HSZ := Lib.hid (HSZ.out.below hb1)
    refine ⟨.int .i64 K, fun W hSw => ?_, rfl⟩
    go_simp
  intro vals B1 hb1 hR
  replace HW := Lib.hid (HW.out.later hb1)
  replace HSZ := Lib.hid (HSZ.out.below hb1)
  obtain ⟨ao3, c3, hv3, hr3⟩ : (fun (v : Value) (w' : World) => ∃ ao c, v = .agg #[.bool na, .slice ao n c, .int .i64 e] ∧ Raw .u32 32 w' (.slice ao n c) n N) (vals 3) B1 := hR (3, 41) (by decide)
  obtain ⟨ao4, c4, hv4, hr4⟩ : (fun (v : Value) (w' : World) => ∃ ao c, v = .slice ao n c ∧ Raw .u32 32 w' (.slice ao n c) n N) (vals 4) B1 := hR (4, 42) (by decide)
  obtain ⟨n6, ao6, l6, c6, x6, hv6, hr6⟩ : (fun (v : Value) (w' : World) => ∃ n1 ao l c x, v = .tuple #[.agg #[.bool n1, .slice ao l c, .int .i64 x], .int .i64 K] ∧ ResIs 0 z ex w' (.agg #[.bool n1, .slice ao l c, .int .i64 x]) K) (vals 6) B1 := hR (6, 44) (by decide)
  obtain ⟨n7, ao7, l7, c7, x7, hv7, hr7⟩ : (fun (v : Value) (w' : World) => ∃ n1 ao l c x, v = .tuple #[.agg #[.bool n1, .slice ao l c, .int .i64 x], .int .i64 K] ∧ ResIs 0 z ex w' (.agg #[.bool n1, .slice ao l c, .int .i64 x]) K) (vals 7) B1 := hR (7, 37) (by decide)
  obtain ⟨n12, ao12, l12, c12, x12, hv8, hr8⟩ : (fun (v : Value) (w' : World) => ∃ n1 ao l c x, v = .agg #[.bool n1, .slice ao l c, .int .i64 x] ∧ ResIs 0 z ex w' (.agg #[.bool n1, .slice ao l c, .int .i64 x]) K) (vals 8) B1 := hR (8, 45) (by decide)
  obtain hv9 : (fun (v : Value) (w' : World) => v = .int .i64 K) (vals 9) B1 := hR (9, 46) (by decide)
  dsimp only at hv9
  obtain ⟨b12, hv10, hl10, hB10⟩ : (fun (v : Value) (w' : World) => ∃ r, v = .pointer (some ⟨r, 0, none⟩) ∧ B0 ≤ r ∧ BlkT w' r 24 #[.bool false, .slice none 0 0, .int .i64 0]) (vals 10) B1 := hR (10, 12) (by decide)
  obtain ⟨y0, y1, y2, y3, y4, y5⟩ := hB10.cells3
  clear hb1 hR
  simp only [prE, List.flatMap_cons, List.flatMap_nil, List.cons_append, List.nil_append, List.append_nil, setD, List.setIfInBounds_toArray, List.set_cons_zero, List.set_cons_succ, hv3, hv4, hv6, hv7, hv8, hv9, hv10]
  clear vals hv3 hv4 hv6 hv7 hv8 hv9 hv10
  refine wpPq_goL rfl rfl fun K' hK => ?_
  go_simp
  have HAN12 := Lib.hid (Ans3.make hB10 hr8)
  have hlt := HLB.out
  replace HW := Lib.hid (HW.out.st3 (r := b12) (by omega) (.bool n12) (.slice ao12 l12 c12) (.int .i64 x12))
  generalize (((B1.setCell ⟨b12, 0, none⟩ (.bool n12)).setCell ⟨b12, 1, none⟩ (.slice ao12 l12 c12)).setCell ⟨b12, 2, none⟩ (.int .i64 x12)) = V2 at HW HAN12 ⊢
  clear hlt hl10 hB10 y0 y1 y2 y3 y4 y5 HSZ HLB hr3 hr4 hr6 hr7 hr8
  have hm1 := True.intro
  refine hK _ _ HW.out.cells ?_
  clear hK K' hm1
  refine wpPq_nil ?_
  simp only [List.drop_succ_cons, List.drop_zero]
  try clear B1
  skip
  obtain ⟨⟨x0, x2⟩, x4⟩ := HW.out.cells
  go_wp2_with fail
  refine (HRM.out _ _ (HA.out.1.below HW.out.2) (HT.out.2.2.1.below HT.out.2.2.2 HW.out.2) (Nat.lt_of_lt_of_le HT.out.2.2.2 HW.out.2.size)).mono ?_
  rintro e9 w9 ⟨n14, ao14, l14, c14, x14, k14, rfl, hr, hb⟩
  obtain rfl := hr.k_eq.trans HK.out
  replace HW := Lib.hid (HW.out.later hb)
  replace HAN12 := Lib.hid (HAN12.out.below hb)
  replace HW := Lib.hid (HW.out.later (Below.alloc_self w9 (.cells #[.bool n14, .slice ao14 l14 c14, .int .i64 x14] 24)))
  replace HAN12 := Lib.hid (HAN12.out.below (Below.alloc_self w9 (.cells #[.bool n14, .slice ao14 l14 c14, .int .i64 x14] 24)))
  have HAN14 : Hid (Ans3 (w9.alloc (.cells #[.bool n14, .slice ao14 l14 c14, .int .i64 x14] 24)) w9.heap.size k14 0 z ex n14 ao14 l14 c14 x14) := Lib.hid ⟨BlkT.new w9 _ _, hr.below (Below.alloc_self w9 _)⟩
  clear hr hb x0 x2 x4 HRM HDM HK
  go_wp2
  generalize w9.heap.size = b14 at *
  refine wp_region_pl (fun w' : World => (((((((w'.cell? ⟨w.heap.size, 0, none⟩ = some (.bool na) ∧ w'.cell? ⟨w.heap.size, 1, none⟩ = some (.slice aa n ca)) ∧ w'.cell? ⟨w.heap.size, 2, none⟩ = some (.int .i64 e)) ∧ w'.cell? ⟨b12, 0, none⟩ = some (.bool n12)) ∧ w'.cell? ⟨b12, 1, none⟩ = some (.slice ao12 l12 c12)) ∧ w'.cell? ⟨b12, 2, none⟩ = some (.int .i64 x12)) ∧ w'.cell? ⟨b14, 0, none⟩ = some (.bool n14)) ∧ w'.cell? ⟨b14, 1, none⟩ = some (.slice ao14 l14 c14)) ∧ w'.cell? ⟨b14, 2, none⟩ = some (.int .i64 x14)) 13 (.take 0 (.take 1 (.run 2 (.take 3 (.take 4 (.take 5 (.take 6 (.take 7 (.take 8 (.take 9 (.take 12 (.run 10 (.run 11 .nil))))))))))))) (by kernel_rfl) (by kernel_rfl) ?_
  replace HW := Lib.hid (HW.out.later (drew_below _))
  replace HAN12 := Lib.hid (HAN12.out.below (drew_below _))
  replace HAN14 := Lib.hid (HAN14.out.below (drew_below _))
  generalize World.drew _ = W6 at HW HAN12 HAN14 ⊢
  have hkk : (k14 == k14) = true := by simp
  have hS : (fun w' : World => (((((((w'.cell? ⟨w.heap.size, 0, none⟩ = some (.bool na) ∧ w'.cell? ⟨w.heap.size, 1, none⟩ = some (.slice aa n ca)) ∧ w'.cell? ⟨w.heap.size, 2, none⟩ = some (.int .i64 e)) ∧ w'.cell? ⟨b12, 0, none⟩ = some (.bool n12)) ∧ w'.cell? ⟨b12, 1, none⟩ = some (.slice ao12 l12 c12)) ∧ w'.cell? ⟨b12, 2, none⟩ = some (.int .i64 x12)) ∧ w'.cell? ⟨b14, 0, none⟩ = some (.bool n14)) ∧ w'.cell? ⟨b14, 1, none⟩ = some (.slice ao14 l14 c14)) ∧ w'.cell? ⟨b14, 2, none⟩ = some (.int .i64 x14)) W6 := ⟨⟨⟨⟨⟨⟨⟨⟨HW.out.1.cell 0, HW.out.1.cell 1⟩, HW.out.1.cell 2⟩, HAN12.out.1.cell 0⟩, HAN12.out.1.cell 1⟩, HAN12.out.1.cell 2⟩, HAN14.out.1.cell 0⟩, HAN14.out.1.cell 1⟩, HAN14.out.1.cell 2⟩
  repeat (refine wpPl_takeL (v := ?_) rfl rfl (fun _ _ _ h => h) rfl (fun w' hSw => ?_) hS ?_; rotate_left; (focus (go_simp; with_reducible rfl)); simp only [List.setIfInBounds_toArray, List.set_cons_zero, List.set_cons_succ])
  clear hS
  refine wpPl_goL rfl rfl fun K' hK => ?_
  go_simp
  refine (is_two HAN12.out.2 HAN14.out.2).mono ?_
  rintro e1 V1 ⟨rfl, hb1⟩
  replace HW := Lib.hid (HW.out.later hb1)
  replace HAN12 := Lib.hid (HAN12.out.below hb1)
  replace HAN14 := Lib.hid (HAN14.out.below hb1)
  refine hK _ _ ⟨⟨⟨⟨⟨⟨⟨⟨HW.out.1.cell 0, HW.out.1.cell 1⟩, HW.out.1.cell 2⟩, HAN12.out.1.cell 0⟩, HAN12.out.1.cell 1⟩, HAN12.out.1.cell 2⟩, HAN14.out.1.cell 0⟩, HAN14.out.1.cell 1⟩, HAN14.out.1.cell 2⟩ ?_
  clear hK K' hb1
  have hS : (fun w' : World => (((((((w'.cell? ⟨w.heap.size, 0, none⟩ = some (.bool na) ∧ w'.cell? ⟨w.heap.size, 1, none⟩ = some (.slice aa n ca)) ∧ w'.cell? ⟨w.heap.size, 2, none⟩ = some (.int .i64 e)) ∧ w'.cell? ⟨b12, 0, none⟩ = some (.bool n12)) ∧ w'.cell? ⟨b12, 1, none⟩ = some (.slice ao12 l12 c12)) ∧ w'.cell? ⟨b12, 2, none⟩ = some (.int .i64 x12)) ∧ w'.cell? ⟨b14, 0, none⟩ = some (.bool n14)) ∧ w'.cell? ⟨b14, 1, none⟩ = some (.slice ao14 l14 c14)) ∧ w'.cell? ⟨b14, 2, none⟩ = some (.int .i64 x14)) V1 := ⟨⟨⟨⟨⟨⟨⟨⟨HW.out.1.cell 0, HW.out.1.cell 1⟩, HW.out.1.cell 2⟩, HAN12.out.1.cell 0⟩, HAN12.out.1.cell 1⟩, HAN12.out.1.cell 2⟩, HAN14.out.1.cell 0⟩, HAN14.out.1.cell 1⟩, HAN14.out.1.cell 2⟩
  repeat (refine wpPl_takeL (v := ?_) rfl rfl (fun _ _ _ h => h) rfl (fun w' hSw => ?_) hS ?_; rotate_left; (focus (go_simp; with_reducible rfl)); simp only [List.setIfInBounds_toArray, List.set_cons_zero, List.set_cons_succ])
  clear hS
  refine wpPl_goL rfl rfl fun K' hK => ?_
  go_simp
  refine (twin_in na e _ n N _ (HA.out.1.below HW.out.2) HA.out.2).mono ?_
  rintro e1 V2 ⟨sl, rfl, hr, -, hb1⟩
  obtain ⟨ao, c, rfl, -⟩ := id hr
  have HTW := Lib.hid hr
  clear hr
  unfold DyV
  replace HW := Lib.hid (HW.out.later hb1)
  replace HAN12 := Lib.hid (HAN12.out.below hb1)
  replace HAN14 := Lib.hid (HAN14.out.below hb1)
  refine hK _ _ ⟨⟨⟨⟨⟨⟨⟨⟨HW.out.1.cell 0, HW.out.1.cell 1⟩, HW.out.1.cell 2⟩, HAN12.out.1.cell 0⟩, HAN12.out.1.cell 1⟩, HAN12.out.1.cell 2⟩, HAN14.out.1.cell 0⟩, HAN14.out.1.cell 1⟩, HAN14.out.1.cell 2⟩ ?_
  clear hK K' hb1
  refine wpPl_goL rfl rfl fun K' hK => ?_
  go_simp
  refine (HM1.out _ _ ⟨_, rfl, HTW.out, HA.out.2⟩).mono ?_
  rintro e1 V3 ⟨rfl, hb1⟩
  replace HW := Lib.hid (HW.out.later hb1)
  replace HAN12 := Lib.hid (HAN12.out.below hb1)
  replace HAN14 := Lib.hid (HAN14.out.below hb1)
  replace HTW := Lib.hid (HTW.out.below hb1)
  refine hK _ _ ⟨⟨⟨⟨⟨⟨⟨⟨HW.out.1.cell 0, HW.out.1.cell 1⟩, HW.out.1.cell 2⟩, HAN12.out.1.cell 0⟩, HAN12.out.1.cell 1⟩, HAN12.out.1.cell 2⟩, HAN14.out.1.cell 0⟩, HAN14.out.1.cell 1⟩, HAN14.out.1.cell 2⟩ ?_
  clear hK K' hb1
  refine wpPl_nil ?_
  simp only [List.drop_succ_cons, List.drop_zero]
  clear HTW HAN12 HAN14
  go_wp2_with fail
  refine (HM2.out _ _ (HD.out.below HW.out.2)).mono ?_
  rintro e10 w10 ⟨rfl, hb⟩
  replace HW := Lib.hid (HW.out.later hb)
  have hmm : (mb == mb) = true := by simp
  clear hb
  go_wp2_with fail
  refine (awake_any _ (HT.out.1.below HT.out.2.1 HW.out.2) (Nat.lt_of_lt_of_le HT.out.2.1 HW.out.2.size)).mono ?_
  rintro e11 w11 ⟨rfl, hb⟩
  have HBE := Lib.hid (HW.out.later hb).2
  clear hb
  go_wp2
  go_ret
  exact ⟨rfl, HBE.out⟩

end Go.Proofs.YtjoajbbapfgaoaaGreatDoor
