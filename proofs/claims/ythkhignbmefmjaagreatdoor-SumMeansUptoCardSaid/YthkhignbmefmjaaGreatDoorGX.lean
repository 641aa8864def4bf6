/- Walks: math.Ldexp(1, 100); that the package of sums is awake. -/
import Derived.Test.YthkhignbmefmjaaGreatDoorGW
import Derived.Test.YthkhignbmefmjaaGreatDoorGR
namespace Go.Proofs.YthkhignbmefmjaaGreatDoor
section
open Go.RowKit
set_option maxRecDepth 100000 in
set_option maxHeartbeats 400000 in
theorem isNaN_any (x : Nat) (w : World) : Calls Tryz.prog 117 #[.float .f64 x] w (Gives (.bool (nanB x)) w) := by
 have hnt := nan_test x
 generalize nanB x = R at *
 go_enter Tryz.func117, Tryz.ntmps117
 go_wp2
 go_ret
 exact ⟨rfl, Below.refl _ _⟩
set_option maxRecDepth 100000 in
set_option maxHeartbeats 400000 in
theorem normalize_one (w : World) : Calls Tryz.prog 119 #[.float .f64 4607182418800017408] w (Gives (.tuple #[.float .f64 4607182418800017408, .int .i64 0]) w) := by
 have HA := Lib.hid fun w => abs_any 4607182418800017408 w (by decide)
 rw [show 4607182418800017408 % kSign = 4607182418800017408 by decide] at HA
 have hlt : (F6.order 4607182418800017408 4503599627370496 == some Ordering.lt) = false := by decide
 go_enter Tryz.func119, Tryz.ntmps119
 go_wp2_with fail
 refine (HA.out _).mono ?_
 rintro e1 w1 ⟨rfl, hb⟩
 have HB := Lib.hid hb
 clear hb
 go_wp2
 go_ret2
 exact ⟨rfl, HB.out⟩
set_option maxRecDepth 100000 in
set_option maxHeartbeats 800000 in
theorem ldexp_one (w : World) : Calls Tryz.prog 75 #[.float .f64 4607182418800017408, .int .i64 100] w (Gives (.float .f64 5057542381537067008) w) := by
 have h0 : (F6.order 4607182418800017408 0 == some Ordering.eq) = false := by decide
 have HI := Lib.hid fun w => isInf_all 4607182418800017408 w (by decide)
 rw [show decide (4607182418800017408 % kSign = kInf) = false by decide] at HI
 have HN := Lib.hid fun w => isNaN_any 4607182418800017408 w
 rw [show nanB 4607182418800017408 = false by decide] at HN
 have HZ := Lib.hid fun w => normalize_one w
 have h1 := fbits_eq 4607182418800017408
 have h2 : bits .and .i64 1023 2047 = 1023 := by decide
 have h7 : wrap64 100 = 100 := by unfold wrap64; decide
 have h8 : wrap64 0 = 0 := by unfold wrap64; decide
 have h3 : bits .andNot .u64 4607182418800017408 9218868437227405312 = 0 := by decide
 have h4 : bits .or .u64 0 5057542381537067008 = 5057542381537067008 := by decide
 have h5 : ∀ w, (callFunc 11 #[.int .u64 5057542381537067008]).run Tryz.prog w = .ok (.value (.float .f64 5057542381537067008)) w := ffrom_eq 5057542381537067008
 have h6 : ∀ t w, (binOp .mul t (.float .f64 4607182418800017408) (.float .f64 5057542381537067008)).run Tryz.prog w = .ok (.float .f64 5057542381537067008) w := fun t w => run_float_arith w .mul t .f64 _ _ _ (by decide)
 go_enter Tryz.func75, Tryz.ntmps75
 go_wp2_with fail
 refine (HI.out _).mono ?_
 rintro e1 w1 ⟨rfl, hb1⟩
 have HB1 := Lib.hid hb1
 clear hb1
 go_wp2_with fail
 refine (HN.out _).mono ?_
 rintro e2 w2 ⟨rfl, hb2⟩
 have HB2 := Lib.hid (HB1.out.trans (hb2.mono HB1.out.size))
 clear hb2
 go_wp2_with fail
 refine (HZ.out _).mono ?_
 rintro e3 w3 ⟨rfl, hb3⟩
 have HB3 := Lib.hid (HB2.out.trans (hb3.mono HB2.out.size))
 clear hb3
 go_wp2
 go_ret
 exact ⟨rfl, HB3.out⟩
set_option maxRecDepth 100000 in
set_option maxHeartbeats 400000 in
theorem Ldexp_one (w : World) : Calls Tryz.prog 25 #[.float .f64 4607182418800017408, .int .i64 100] w (Gives (.float .f64 5057542381537067008) w) := by
 have HL := Lib.hid fun w => ldexp_one w
 go_enter Tryz.func25, Tryz.ntmps25
 go_wp2_with fail
 refine (HL.out _).mono ?_
 rintro e1 w1 ⟨rfl, hb1⟩
 have HB1 := Lib.hid hb1
 clear hb1
 go_wp2
 go_ret
 exact ⟨rfl, HB1.out⟩
theorem ex_awake : exB [4607182418800017408, 5057542381537067008, 4607182418800017408, 14280914418391842816] = 4611686018427387904 := by decide +kernel
theorem left_awake : cO (leftO [4607182418800017408, 4611686018427387904]) = 4613937818241073152 := by decide +kernel
theorem neu_awake : cO (oA .add (neuF [4607182418800017408, 5057542381537067008, 4607182418800017408, 14280914418391842816]).1 (neuF [4607182418800017408, 5057542381537067008, 4607182418800017408, 14280914418391842816]).2) = 4611686018427387904 := by decide +kernel
theorem FSl.made {W : World} {b : Nat} {l : List Nat} (h : BlkT W b 25 (l.map (fun x => Value.float .f64 x)).toArray) (hl : l.length ≤ 1099511627776) (hx : ∀ x ∈ l, x < 18446744073709551616) : FSl W (.slice (some ⟨b, 0, none⟩) l.length l.length) l := by
 refine ⟨_, _, rfl, Nat.le_refl _, hl, hx, fun _ => ⟨b, 0, rfl, h.lt, fun i hi => ?_⟩⟩
 rw [Nat.zero_add, h.cell i]
 simp [hi]
set_option maxRecDepth 100000 in
set_option maxHeartbeats 1600000 in
theorem awake5_any (w : World) (hT : Tab64 w) (hTs : 1 < w.heap.size) :
  Calls Tryz.prog 10 #[] w (Gives (.bool true) w) := by
 have HT := Lib.hid (And.intro hT hTs)
 have HLD := Lib.hid fun w => Ldexp_one w
 have HEX := Lib.hid fun v W h ht hts => exact_ok v [4607182418800017408, 5057542381537067008, 4607182418800017408, 14280914418391842816] W h (by decide) ht hts
 have HLF := Lib.hid fun v W h => sumLeft_any v [4607182418800017408, 4611686018427387904] W h
 have HNE := Lib.hid fun v W h => neumaier_any v [4607182418800017408, 5057542381537067008, 4607182418800017408, 14280914418391842816] W h
 rw [ex_awake] at HEX
 rw [left_awake] at HLF
 rw [neu_awake] at HNE
 have hng : Op.negFloat .f64 5057542381537067008 = 14280914418391842816 := by decide
 have H1 : ∀ w, (Op.unary .neg (.float .f64 5057542381537067008)).run Tryz.prog w = .ok (.float .f64 14280914418391842816) w := fun w => by rw [← hng]; rfl
 clear hng
 have ho1 : (F6.order 4611686018427387904 4611686018427387904 == some Ordering.eq) = true := by decide
 have ho2 : (F6.order 4613937818241073152 4613937818241073152 == some Ordering.eq) = true := by decide
 clear hT hTs
 go_enter Tryz.func10, Tryz.ntmps10
 go_wp2_with fail
 refine (HLD.out _).mono ?_
 rintro e1 w1 ⟨rfl, hb1⟩
 have HB1 := Lib.hid hb1
 clear hb1
 go_wp2_with fail
 refine (HEX.out _ _ (FSl.made (l := [4607182418800017408, 5057542381537067008, 4607182418800017408, 14280914418391842816]) (BlkT.new w1 _ _) (by decide) (by decide)) (HT.out.1.below HT.out.2 (HB1.out.alloc HB1.out.size _)) (Nat.lt_of_lt_of_le HT.out.2 (HB1.out.alloc HB1.out.size (.cells #[.float .f64 4607182418800017408, .float .f64 5057542381537067008, .float .f64 4607182418800017408, .float .f64 14280914418391842816] 25)).size)).mono ?_
 rintro e2 w2 ⟨rfl, hb2⟩
 have HB2 := Lib.hid ((HB1.out.alloc HB1.out.size _).trans (hb2.mono (HB1.out.alloc HB1.out.size _).size))
 clear hb2
 go_wp2_with fail
 refine (HLF.out _ _ (FSl.made (l := [4607182418800017408, 4611686018427387904]) (BlkT.new w2 _ _) (by decide) (by decide))).mono ?_
 rintro e3 w3 ⟨rfl, hb3⟩
 have HB3 := Lib.hid ((HB2.out.alloc HB2.out.size _).trans (hb3.mono (HB2.out.alloc HB2.out.size _).size))
 clear hb3
 go_wp2_with fail
 refine (HNE.out _ _ (FSl.made (l := [4607182418800017408, 5057542381537067008, 4607182418800017408, 14280914418391842816]) (BlkT.new w3 _ _) (by decide) (by decide))).mono ?_
 rintro e4 w4 ⟨rfl, hb4⟩
 have HB4 := Lib.hid ((HB3.out.alloc HB3.out.size _).trans (hb4.mono (HB3.out.alloc HB3.out.size _).size))
 clear hb4
 go_wp2
 go_ret
 exact ⟨rfl, HB4.out⟩
end
section
open Go.RowKit
set_option maxRecDepth 100000 in
set_option maxHeartbeats 1600000 in
theorem rMinus_any (v : Value) (l : List Nat) (w : World) (hl : FSl w v l) :
  Calls Tryz.prog 19 #[v] w (Gives (.bool (ngtB l)) w) := by
 obtain ⟨ao, cap, rfl, hcap, hn, hx, hc⟩ := hl
 have HC := Lib.hid hc
 have HX := Lib.hid hx
 have HSB := Lib.hid fun x w h => signbit_any x w h
 clear hc hx
 go_enter Tryz.func19, Tryz.ntmps19
 go_wp2
 go_loopw [7] (fun i wr => ∃ (k : Nat), k ≤ l.length ∧ i = .int .i64 k ∧ Hid ((l.take k).all (fun x => decide (x = kSign)) = true) ∧ Hid (Below w.heap.size w wr)) (fun i _ => l.length - (intOf i).toNat)
 case atStart => exact ⟨0, Nat.zero_le _, rfl, Lib.hid rfl, Lib.hid (Below.refl _ _)⟩
 case round =>
  obtain ⟨k, hk, rfl, HR, HB⟩ := hrel
  by_cases hlt : k < l.length
  ·obtain ⟨b, off, rfl, hb, hcc⟩ := HC.out (by omega)
   have hck := (HB.out.cell (p := ⟨b, off + k, none⟩) hb).trans (hcc k hlt)
   have HXK := Lib.hid (HX.out _ (List.getElem_mem hlt))
   have HNO : Hid (l[k] ≠ kSign → ngtB l = false) := Lib.hid fun h => by
    unfold ngtB
    rw [show l.all (fun x => decide (x = kSign)) = false from by
     rw [List.all_eq_false]; exact ⟨_, List.getElem_mem hlt, by simpa using h⟩, Bool.false_and]
   have HYES : Hid (l[k] = kSign → (l.take (k + 1)).all (fun x => decide (x = kSign)) = true) := Lib.hid fun h => by
    rw [List.take_succ_eq_append_getElem hlt, List.all_append, HR.out, h]; simp
   clear hcc
   generalize l[k] = x at *
   have HT := Lib.hid (ngt_test HXK.out)
   cases ho : (F6.order x 0 != some Ordering.eq)
   ·have h2 := HT.out.2 ho
    go_wp2_with fail
    refine (HSB.out x _ HXK.out).mono ?_
    rintro e1 w1 ⟨rfl, hb1⟩
    have HB1 := Lib.hid (HB.out.trans (hb1.mono HB.out.size))
    clear hb1
    by_cases hxk : x = kSign
    ·have h3 : (!sgnB x) = false := by rw [h2, decide_eq_true hxk]; rfl
     have HA := Lib.hid (HYES.out hxk)
     clear h2 hxk HT HNO HYES
     go_wp2
     go_roundw
     case rel => exact ⟨k + 1, by omega, by go_num, HA, HB1⟩
     case measure => simp [intOf]; omega
    ·have h3 : (!sgnB x) = true := by rw [h2, decide_eq_false hxk]; rfl
     have HA := Lib.hid (HNO.out hxk)
     clear h2 hxk HT HNO HYES
     go_wp2
     go_ret
     exact ⟨by rw [HA.out]; rfl, HB1.out⟩
   ·have HA := Lib.hid (HNO.out (HT.out.1 ho))
    clear HT HNO HYES
    go_wp2
    go_ret
    exact ⟨by rw [HA.out]; rfl, HB.out⟩
  ·obtain rfl : k = l.length := by omega
   rw [List.take_length] at HR
   have HA : Hid (ngtB l = decide (0 < l.length)) := Lib.hid (by unfold ngtB; rw [HR.out, Bool.true_and])
   go_wp2
   go_ret
   exact ⟨by rw [HA.out]; rfl, HB.out⟩
end
end Go.Proofs.YthkhignbmefmjaaGreatDoor
