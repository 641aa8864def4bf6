/- Walks: the references' format of binary64 (binnacleref02): its words. -/
import Derived.Test.YtloohbkceppocaaGreatDoorKC
import Derived.Deep.CutRange
import Derived.Deep.CutBlock
import Derived.Test.YtloohbkceppocaaGreatDoorGK
import Derived.Test.YtloohbkceppocaaGreatDoorGT
import Derived.Test.YtloohbkceppocaaGreatDoorGM
namespace Go.Proofs.YtloohbkceppocaaGreatDoor
section
open Go.RowKit
def fmtV : Value := .agg #[.int .i64 53, .int .i64 (-1022), .int .i64 1023, .int .i64 11]
set_option maxRecDepth 100000 in
theorem cDouble_any (w : World) : Calls Tryz.prog 66 #[] w (Gives fmtV w) := by
 unfold fmtV
 go_enter Tryz.func66, Tryz.ntmps66
 go_wp2
 exact bodyPost_ret (v := .agg #[.int .i64 53, .int .i64 (-1022), .int .i64 1023, .int .i64 11]) (by simp [results, Tryz.results66, go_sem]) rfl ⟨rfl, Below.alloc_self _ _⟩
def CBox (w0 W : World) (b : Nat) : Prop := BlkT W b 81 #[.int .i64 53, .int .i64 (-1022), .int .i64 1023, .int .i64 11] ∧ Below w0.heap.size w0 W
theorem CBox.new (w : World) : CBox w (w.alloc (.cells #[.int .i64 53, .int .i64 (-1022), .int .i64 1023, .int .i64 11] 81)) w.heap.size := ⟨BlkT.new w _ _, Below.alloc_self w _⟩
theorem CBox.later {w0 W V : World} {b : Nat} (h : CBox w0 W b) (hb : Below W.heap.size W V) : CBox w0 V b := ⟨h.1.below hb, h.2.trans (hb.mono h.2.size)⟩
theorem CBox.cells {w0 W : World} {b : Nat} (h : CBox w0 W b) : W.cell? ⟨b, 0, none⟩ = some (.int .i64 53) ∧ W.cell? ⟨b, 1, none⟩ = some (.int .i64 (-1022)) ∧ W.cell? ⟨b, 2, none⟩ = some (.int .i64 1023) ∧ W.cell? ⟨b, 3, none⟩ = some (.int .i64 11) :=
 ⟨h.1.cell 0, h.1.cell 1, h.1.cell 2, h.1.cell 3⟩
set_option maxRecDepth 100000 in
set_option maxHeartbeats 800000 in
theorem cput_any (neg : Bool) (e f : Nat) (w : World) (he : e < 2048) (hf : f < kHid) :
  Calls Tryz.prog 140 #[fmtV, .bool neg, .int .i64 e, .int .u64 f] w (Gives (.int .u64 (joinB neg e f : Nat)) w) := by
 have HO : Hid (bits .or .u64 ((e : Int) * 4503599627370496) (f : Int) = ((e * kHid + f : Nat) : Int)) := Lib.hid (by have := join_or he hf; rw [Int.natCast_mul] at this; exact this)
 have HJ : Hid ((neg = false → joinB neg e f = e * kHid + f) ∧ (neg = true → joinB neg e f = kSign + (e * kHid + f))) := Lib.hid ⟨fun h => by unfold joinB; rw [h]; simp, fun h => by unfold joinB; rw [h]; simp [Nat.add_assoc]⟩
 have HJS := Lib.hid (join_sign (show e * kHid + f < kSign by unfold kHid kSign at *; omega))
 have HW := Lib.hid (CBox.new w)
 have hw1 : IntKind.u64.wrap ((e : Int) * 4503599627370496) = (e : Int) * 4503599627370496 := by rw [IntKind.wrap_u64]; omega
 have ho := HO.out
 obtain ⟨c0, c1, c2, c3⟩ := HW.out.cells
 unfold fmtV
 obtain ⟨M, hM⟩ : ∃ M, e * kHid + f = M := ⟨_, rfl⟩
 rw [hM] at ho HJ HJS
 obtain ⟨J, hJ⟩ : ∃ J, joinB neg e f = J := ⟨_, rfl⟩
 rw [hJ] at HJ ⊢
 clear hM hJ HO hf
 cases neg
 ·have hMJ := Lib.hid (HJ.out.1 rfl)
  go_enter Tryz.func140, Tryz.ntmps140
  go_wp2
  go_ret
  exact ⟨by rw [hMJ.out]; rfl, HW.out.2⟩
 ·have hMJ := Lib.hid (HJ.out.2 rfl)
  go_enter Tryz.func140, Tryz.ntmps140
  go_wp2
  go_ret
  refine ⟨?_, HW.out.2⟩
  show Ending.returned (Value.int .u64 (bits .or .u64 (M : Int) 9223372036854775808)) = _
  rw [show (9223372036854775808 : Int) = (kSign : Int) from rfl, HJS.out, hMJ.out]
set_option maxRecDepth 100000 in
set_option maxHeartbeats 800000 in
theorem cNought_any (neg : Bool) (w : World) : Calls Tryz.prog 122 #[fmtV, .bool neg] w (Gives (.int .u64 (joinB neg 0 0 : Nat)) w) := by
 have HW := Lib.hid (CBox.new w)
 have HP := Lib.hid fun W => cput_any neg 0 0 W (by decide) (by decide)
 obtain ⟨c0, c1, c2, c3⟩ := HW.out.cells
 unfold fmtV at *
 go_enter Tryz.func122, Tryz.ntmps122
 go_wp2_with fail
 refine (HP.out _).mono ?_
 rintro e1 w1 ⟨rfl, hb1⟩
 have HB := Lib.hid (HW.out.2.trans (hb1.mono HW.out.2.size))
 clear hb1
 go_wp2
 go_ret
 exact ⟨rfl, HB.out⟩
set_option maxRecDepth 100000 in
set_option maxHeartbeats 800000 in
theorem cInfinity_any (neg : Bool) (w : World) : Calls Tryz.prog 108 #[fmtV, .bool neg] w (Gives (.int .u64 (joinB neg 2047 0 : Nat)) w) := by
 have HW := Lib.hid (CBox.new w)
 have HP := Lib.hid fun W => cput_any neg 2047 0 W (by decide) (by decide)
 obtain ⟨c0, c1, c2, c3⟩ := HW.out.cells
 unfold fmtV at *
 go_enter Tryz.func108, Tryz.ntmps108
 go_wp2_with fail
 refine (HP.out _).mono ?_
 rintro e1 w1 ⟨rfl, hb1⟩
 have HB := Lib.hid (HW.out.2.trans (hb1.mono HW.out.2.size))
 clear hb1
 go_wp2
 go_ret
 exact ⟨rfl, HB.out⟩
set_option maxRecDepth 100000 in
set_option maxHeartbeats 800000 in
theorem cGreatest_any (neg : Bool) (w : World) : Calls Tryz.prog 186 #[fmtV, .bool neg] w (Gives (.int .u64 (joinB neg 2046 4503599627370495 : Nat)) w) := by
 have HW := Lib.hid (CBox.new w)
 have HP := Lib.hid fun W => cput_any neg 2046 4503599627370495 W (by decide) (by decide)
 obtain ⟨c0, c1, c2, c3⟩ := HW.out.cells
 unfold fmtV at *
 go_enter Tryz.func186, Tryz.ntmps186
 go_wp2_with fail
 refine (HP.out _).mono ?_
 rintro e1 w1 ⟨rfl, hb1⟩
 have HB := Lib.hid (HW.out.2.trans (hb1.mono HW.out.2.size))
 clear hb1
 go_wp2
 go_ret
 exact ⟨rfl, HB.out⟩
def ovB (neg : Bool) (mode : Int) : Nat := if mode = 2 ∨ mode = 3 ∧ neg = true ∨ mode = 4 ∧ neg = false then joinB neg 2046 4503599627370495 else joinB neg 2047 0
set_option maxRecDepth 100000 in
set_option maxHeartbeats 1600000 in
theorem cover_any (neg : Bool) (mode : Int) (w : World) (hm : mode = 0 ∨ mode = 3 ∨ mode = 4) : Calls Tryz.prog 139 #[fmtV, .bool neg, .int .i64 mode] w (Gives (.int .u64 (ovB neg mode : Nat)) w) := by
 have HW := Lib.hid (CBox.new w)
 have HG := Lib.hid fun W => cGreatest_any neg W
 have HI := Lib.hid fun W => cInfinity_any neg W
 obtain ⟨c0, c1, c2, c3⟩ := HW.out.cells
 unfold fmtV ovB at *
 rcases hm with rfl | rfl | rfl
 ·cases neg
  ·rw [if_neg (by simp)]
   go_enter Tryz.func139, Tryz.ntmps139
   go_wp2_with fail
   refine (HI.out _).mono ?_
   rintro e1 w1 ⟨rfl, hb1⟩
   have HB := Lib.hid (HW.out.2.trans (hb1.mono HW.out.2.size))
   clear hb1
   go_wp2
   go_ret
   exact ⟨rfl, HB.out⟩
  ·rw [if_neg (by simp)]
   go_enter Tryz.func139, Tryz.ntmps139
   go_wp2_with fail
   refine (HI.out _).mono ?_
   rintro e1 w1 ⟨rfl, hb1⟩
   have HB := Lib.hid (HW.out.2.trans (hb1.mono HW.out.2.size))
   clear hb1
   go_wp2
   go_ret
   exact ⟨rfl, HB.out⟩
 ·cases neg
  ·rw [if_neg (by simp)]
   go_enter Tryz.func139, Tryz.ntmps139
   go_wp2_with fail
   refine (HI.out _).mono ?_
   rintro e1 w1 ⟨rfl, hb1⟩
   have HB := Lib.hid (HW.out.2.trans (hb1.mono HW.out.2.size))
   clear hb1
   go_wp2
   go_ret
   exact ⟨rfl, HB.out⟩
  ·rw [if_pos (by simp)]
   go_enter Tryz.func139, Tryz.ntmps139
   go_wp2_with fail
   refine (HG.out _).mono ?_
   rintro e1 w1 ⟨rfl, hb1⟩
   have HB := Lib.hid (HW.out.2.trans (hb1.mono HW.out.2.size))
   clear hb1
   go_wp2
   go_ret
   exact ⟨rfl, HB.out⟩
 ·cases neg
  ·rw [if_pos (by simp)]
   go_enter Tryz.func139, Tryz.ntmps139
   go_wp2_with fail
   refine (HG.out _).mono ?_
   rintro e1 w1 ⟨rfl, hb1⟩
   have HB := Lib.hid (HW.out.2.trans (hb1.mono HW.out.2.size))
   clear hb1
   go_wp2
   go_ret
   exact ⟨rfl, HB.out⟩
  ·rw [if_neg (by simp)]
   go_enter Tryz.func139, Tryz.ntmps139
   go_wp2_with fail
   refine (HI.out _).mono ?_
   rintro e1 w1 ⟨rfl, hb1⟩
   have HB := Lib.hid (HW.out.2.trans (hb1.mono HW.out.2.size))
   clear hb1
   go_wp2
   go_ret
   exact ⟨rfl, HB.out⟩
end
section
open Go.RowKit
def Its (w0 W : World) (l : List (Nat × Int)) : Prop := (∀ t ∈ l, RInt W t.1 t.2) ∧ Below w0.heap.size w0 W
theorem Its.nil (w : World) : Its w w [] := ⟨fun _ h => (by cases h), Below.refl _ _⟩
theorem Its.later {w0 W V : World} {l : List (Nat × Int)} (h : Its w0 W l) (hb : Below W.heap.size W V) : Its w0 V l := ⟨fun t m => (h.1 t m).below hb, h.2.trans (hb.mono h.2.size)⟩
theorem Its.get {w0 W : World} {l : List (Nat × Int)} (h : Its w0 W l) {b : Nat} {z : Int} (m : (b, z) ∈ l) : RInt W b z := h.1 _ m
theorem Its.lt {w0 W : World} {l : List (Nat × Int)} (h : Its w0 W l) : ∀ t ∈ l, t.1 < W.heap.size := fun t m => (h.1 t m).1.1
theorem Its.sub {w0 W : World} {l l' : List (Nat × Int)} (h : Its w0 W l) (hs : ∀ t ∈ l', t ∈ l) : Its w0 W l' := ⟨fun t m => h.1 t (hs t m), h.2⟩
theorem Its.cons {w0 W : World} {l : List (Nat × Int)} (h : Its w0 W l) {b : Nat} {z : Int} (hb : RInt W b z) : Its w0 W ((b, z) :: l) :=
 ⟨fun t m => by rcases List.mem_cons.1 m with rfl | m; exact hb; exact h.1 t m, h.2⟩
theorem Its.alloc {w0 W : World} {l : List (Nat × Int)} (h : Its w0 W l) : Its w0 (W.alloc (.cells #[.bool false, .slice none 0 0] 67)) ((W.heap.size, 0) :: l) :=
 (h.later (Below.alloc_self W _)).cons (IntK.zero (k := .u32) (s := 32) W _ objT_rint)
theorem Its.puts {w0 W V : World} {l : List (Nat × Int)} {b : Nat} {z y : Int} (h : Its w0 W ((b, z) :: l)) (hb : w0.heap.size ≤ b) (hn : ∀ t ∈ l, t.1 ≠ b) (hm : Mod b 0 W V) (hi : RInt V b y) : Its w0 V ((b, y) :: l) := by
 have h0 := (h.get (.head _)).1
 refine ⟨fun t m => ?_, Mod.below h.2 hm hb h.2.size⟩
 rcases List.mem_cons.1 m with rfl | m
 ·exact hi
 ·exact (h.1 t (.tail _ m)).mod hm (.inl (hn t m)) h0.2.1
def cutC (N s : Nat) (more : Bool) : Int :=
 if N % 2 ^ s = 0 ∧ more = false then -2 else if cmpZ (N % 2 ^ s : Nat) (2 ^ (s - 1) : Nat) = 0 ∧ more = true then 1 else cmpZ (N % 2 ^ s : Nat) (2 ^ (s - 1) : Nat)
def CutAns (N s : Nat) (more : Bool) (w : World) (e : Ending) (w' : World) : Prop :=
 ∃ q, e = .returned (.tuple #[.pointer (some ⟨q, 0, none⟩), .int .i64 (cutC N s more)]) ∧ w.heap.size ≤ q ∧ RInt w' q (N / 2 ^ s : Nat) ∧ Below w.heap.size w w'
theorem cut_ints (N s : Nat) : (N : Int) / 2 ^ s = ((N / 2 ^ s : Nat) : Int) ∧ (N : Int) - ((N / 2 ^ s : Nat) : Int) * 2 ^ s = ((N % 2 ^ s : Nat) : Int) := by
 have h := Nat.div_add_mod N (2 ^ s)
 refine ⟨by simp, ?_⟩
 have e : ((2 ^ s : Nat) : Int) = (2 : Int) ^ s := by simp
 rw [← e, ← Int.natCast_mul]
 rw [Nat.mul_comm] at h
 omega
set_option maxRecDepth 100000 in
set_option maxHeartbeats 1600000 in
theorem cCut_any (p N s : Nat) (more : Bool) (w : World) (hm : RInt w p (N : Int)) (hs : 1 ≤ s) (hs2 : s ≤ 33554432) (hl : ln 32 N ≤ 1048576) :
  Calls Tryz.prog 136 #[.pointer (some ⟨p, 0, none⟩), .int .i64 s, .bool more] w (CutAns N s more w) := by
 obtain ⟨i1, i2⟩ := cut_ints N s
 have HM := Lib.hid hm
 have HI := Lib.hid (And.intro i1 i2)
 have HL := Lib.hid hl
 have HRS := Lib.hid fun b W h1 h2 => rRsh_any b 0 p 0 s (N : Int) W h1 h2 (by rw [Int.natAbs_natCast]; omega) (by omega)
 rw [i1] at HRS
 have hlq : ln 32 (N / 2 ^ s) ≤ 1048576 := Nat.le_trans (ln_mono (by decide) (Nat.div_le_self _ _)) hl
 have HLS := Lib.hid fun b c W h1 h2 => rLsh_any b 0 c 0 s ((N / 2 ^ s : Nat) : Int) W h1 h2 (by rw [Int.natAbs_natCast]; omega) (by omega)
 have hlm : ln 32 (N / 2 ^ s * 2 ^ s) ≤ 1048576 := Nat.le_trans (ln_mono (by decide) (Nat.div_mul_le_self _ _)) hl
 have HSB := Lib.hid fun b d W h1 h2 h3 => rSub_any b 0 p 0 d 0 (N : Int) (((N / 2 ^ s : Nat) : Int) * 2 ^ s) W h1 h2 h3 (by rw [Int.natAbs_natCast]; omega) (by
  rw [show ((N / 2 ^ s : Nat) : Int) * 2 ^ s = ((N / 2 ^ s * 2 ^ s : Nat) : Int) by simp, Int.natAbs_natCast]; omega)
 rw [i2] at HSB
 generalize ((N / 2 ^ s : Nat) : Int) * 2 ^ s = T at *
 unfold CutAns
 obtain ⟨R, hR⟩ : ∃ r, N % 2 ^ s = r := ⟨_, rfl⟩
 obtain ⟨s1, hs1⟩ : ∃ k, s - 1 = k := ⟨_, rfl⟩
 obtain ⟨H, hH⟩ : ∃ h, 2 ^ s1 = h := ⟨_, rfl⟩
 have hsi : (s : Int) - 1 = (s1 : Int) := by omega
 have HCC : Hid (cutC N s more = if R = 0 ∧ more = false then -2 else if cmpZ (R : Int) (H : Int) = 0 ∧ more = true then 1 else cmpZ (R : Int) (H : Int)) := Lib.hid (by unfold cutC; rw [hR, hs1, hH])
 have HL1 := Lib.hid fun b c W h1 h2 => rLsh_any b 0 c 0 s1 1 W h1 h2 (by decide) (by omega)
 rw [show (1 : Int) * 2 ^ s1 = (H : Int) by rw [← hH]; simp] at HL1
 rw [hR] at HSB
 clear hm i1 i2 hl hlq hlm HI HL hR hs1 hH
 have hs0 : ((s : Int) == 0) = false := by simp; omega
 generalize N / 2 ^ s = Q at *
 go_enter Tryz.func136, Tryz.ntmps136
 go_wp2_with fail
 refine (HRS.out _ _ (IntK.zero (k := .u32) (s := 32) w _ objT_rint).1 (HM.out.below (Below.alloc_self w _))).mono ?_
 rintro e1 w1 ⟨rfl, hi1, hm1⟩
 have HJ := Lib.hid (((Its.nil w).alloc).puts (Nat.le_refl _) (fun t m => by cases m) hm1 hi1)
 have HS1 : Hid (w.heap.size < w1.heap.size) := Lib.hid (HJ.out.lt _ (.head _))
 clear hi1 hm1 HRS
 go_wp2_with fail
 have HJ2 := Lib.hid (HJ.out.alloc).alloc
 have hsz : (w1.alloc (.cells #[.bool false, .slice none 0 0] 67)).heap.size = w1.heap.size + 1 := by simp
 rw [hsz] at HJ2
 refine (HLS.out _ _ _ (HJ2.out.get (.head _)).1 (HJ2.out.get (.tail _ (.tail _ (.head _))))).mono ?_
 rintro e2 w2 ⟨rfl, hi2, hm2⟩
 replace HJ2 := Lib.hid (HJ2.out.puts (by have := HS1.out; omega) (fun t m => by have := HS1.out; simp only [List.mem_cons, List.not_mem_nil, or_false] at m; rcases m with rfl | rfl <;> simp <;> omega) hm2 hi2)
 clear hi2 hm2 HLS hsz
 go_wp2_with fail
 refine (HSB.out _ _ _ (HJ2.out.get (.tail _ (.head _))).1 (HM.out.below HJ2.out.2) (HJ2.out.get (.head _))).mono ?_
 rintro e3 w3 ⟨rfl, hi3, hm3⟩
 have HJ3 := Lib.hid ((HJ2.out.sub (l' := [(w1.heap.size, 0), (w.heap.size, (Q : Int))]) (fun t m => .tail _ m)).puts (by have := HS1.out; omega) (fun t m => by have := HS1.out; simp only [List.mem_cons, List.not_mem_nil, or_false] at m; rcases m with rfl; simp; omega) hm3 hi3)
 clear hi3 hm3 HJ2 HJ HSB
 generalize w1.heap.size = b1 at *
 go_wp2_with fail
 have HSG := Lib.hid fun W h => rSign_any b1 0 (R : Int) W h
 refine (HSG.out _ (HJ3.out.get (.head _))).mono ?_
 rintro e4 w4 ⟨rfl, rfl⟩
 rcases Nat.eq_zero_or_pos R with hr | hr
 ·have HRZ := Lib.hid hr
  have hsg : ((R : Int).sign == 0) = true := by rw [hr]; rfl
  generalize (R : Int).sign = sg at *
  clear hr
  cases more
  ·have HJ := Lib.hid (HJ3.out.sub (l' := [(w.heap.size, (Q : Int))]) (fun t m => .tail _ m))
   have HCC2 : Hid (cutC N s false = -2) := Lib.hid (by rw [HCC.out, if_pos ⟨HRZ.out, rfl⟩])
   replace HCC := HCC2
   clear HCC2
   go_wp2
   exact bodyPost_ret (v := .tuple #[.pointer (some ⟨w.heap.size, 0, none⟩), .int .i64 (-2)]) (by simp [results, Tryz.results136, go_sem]) rfl ⟨w.heap.size, by rw [HCC.out], Nat.le_refl _, HJ.out.get (by simp), HJ.out.2⟩
  ·go_wp2_with fail
   have HJ4 := Lib.hid HJ3.out.alloc
   have HS3 : Hid (w.heap.size < w3.heap.size ∧ b1 < w3.heap.size) := Lib.hid ⟨HJ3.out.lt _ (.tail _ (.head _)), HJ3.out.lt _ (.head _)⟩
   refine (rNewInt_any 1 _ (by decide) (by decide)).mono ?_
   rintro e5 w5 ⟨c, rfl, hc, hi5, hb5⟩
   have HC5 : Hid (w3.heap.size < c) := Lib.hid (by simp at hc; omega)
   have HJ5 := Lib.hid (((HJ4.out.later hb5).cons hi5).sub (l' := [(w3.heap.size, 0), (c, 1), (b1, (R : Int)), (w.heap.size, (Q : Int))]) (by intro t m; simp only [List.mem_cons, List.not_mem_nil, or_false] at m ⊢; rcases m with rfl | rfl | rfl | rfl <;> simp))
   clear hc hi5 hb5 HJ4
   go_wp2_with fail
   refine (HL1.out _ _ _ (HJ5.out.get (.head _)).1 (HJ5.out.get (.tail _ (.head _)))).mono ?_
   rintro e6 w6 ⟨rfl, hi6, hm6⟩
   replace HJ5 := Lib.hid (HJ5.out.puts (by have := HS3.out; omega) (fun t m => by have := HS3.out; have := HC5.out; simp only [List.mem_cons, List.not_mem_nil, or_false] at m; rcases m with rfl | rfl | rfl <;> simp <;> omega) hm6 hi6)
   clear hi6 hm6
   go_wp2_with fail
   refine (rCmp_any b1 0 w3.heap.size 0 R H _ (HJ5.out.get (.tail _ (.tail _ (.head _)))) (HJ5.out.get (.head _))).mono ?_
   rintro e7 w7 ⟨rfl, nd, rfl⟩
   have HJ := Lib.hid ((HJ5.out.later (show Below w6.heap.size w6 (w6.drewN nd) from ⟨rfl, rfl, rfl, Nat.le_refl _, fun _ _ => rfl⟩)).sub (l' := [(w.heap.size, (Q : Int))]) (by intro t m; simp only [List.mem_cons, List.not_mem_nil, or_false] at m ⊢; subst m; simp))
   clear HJ5
   generalize w6.drewN nd = w8 at HJ ⊢
   generalize cmpZ (R : Int) (H : Int) = cz at *
   by_cases hcz : cz = 0
   ·have HCC2 : Hid (cutC N s true = 1) := Lib.hid (by rw [HCC.out, if_neg (fun t => by cases t.2), if_pos ⟨hcz, by simp⟩])
    replace HCC := HCC2
    clear HCC2
    have hcb : (cz == 0) = true := by simp [hcz]
    clear hcz
    go_wp2
    exact bodyPost_ret (v := .tuple #[.pointer (some ⟨w.heap.size, 0, none⟩), .int .i64 1]) (by simp [results, Tryz.results136, go_sem]) rfl ⟨w.heap.size, by rw [HCC.out], Nat.le_refl _, HJ.out.get (by simp), HJ.out.2⟩
   ·have HCC2 : Hid (cutC N s true = cz) := Lib.hid (by rw [HCC.out, if_neg (fun t => by cases t.2), if_neg (fun t => hcz t.1)])
    replace HCC := HCC2
    clear HCC2
    have hcb : (cz == 0) = false := by simp [hcz]
    clear hcz
    go_wp2
    exact bodyPost_ret (v := .tuple #[.pointer (some ⟨w.heap.size, 0, none⟩), .int .i64 cz]) (by simp [results, Tryz.results136, go_sem]) rfl ⟨w.heap.size, by rw [HCC.out], Nat.le_refl _, HJ.out.get (by simp), HJ.out.2⟩
 ·have HRN : Hid (R ≠ 0) := Lib.hid (by omega)
  have hsg : ((R : Int).sign == 0) = false := by rw [beq_eq_false_iff_ne]; intro e; have := Int.sign_eq_zero_iff_zero.1 e; omega
  generalize (R : Int).sign = sg at *
  clear hr
  cases more
  ·go_wp2_with fail
   have HJ4 := Lib.hid HJ3.out.alloc
   have HS3 : Hid (w.heap.size < w3.heap.size ∧ b1 < w3.heap.size) := Lib.hid ⟨HJ3.out.lt _ (.tail _ (.head _)), HJ3.out.lt _ (.head _)⟩
   refine (rNewInt_any 1 _ (by decide) (by decide)).mono ?_
   rintro e5 w5 ⟨c, rfl, hc, hi5, hb5⟩
   have HC5 : Hid (w3.heap.size < c) := Lib.hid (by simp at hc; omega)
   have HJ5 := Lib.hid (((HJ4.out.later hb5).cons hi5).sub (l' := [(w3.heap.size, 0), (c, 1), (b1, (R : Int)), (w.heap.size, (Q : Int))]) (by intro t m; simp only [List.mem_cons, List.not_mem_nil, or_false] at m ⊢; rcases m with rfl | rfl | rfl | rfl <;> simp))
   clear hc hi5 hb5 HJ4
   go_wp2_with fail
   refine (HL1.out _ _ _ (HJ5.out.get (.head _)).1 (HJ5.out.get (.tail _ (.head _)))).mono ?_
   rintro e6 w6 ⟨rfl, hi6, hm6⟩
   replace HJ5 := Lib.hid (HJ5.out.puts (by have := HS3.out; omega) (fun t m => by have := HS3.out; have := HC5.out; simp only [List.mem_cons, List.not_mem_nil, or_false] at m; rcases m with rfl | rfl | rfl <;> simp <;> omega) hm6 hi6)
   clear hi6 hm6
   go_wp2_with fail
   refine (rCmp_any b1 0 w3.heap.size 0 R H _ (HJ5.out.get (.tail _ (.tail _ (.head _)))) (HJ5.out.get (.head _))).mono ?_
   rintro e7 w7 ⟨rfl, nd, rfl⟩
   have HJ := Lib.hid ((HJ5.out.later (show Below w6.heap.size w6 (w6.drewN nd) from ⟨rfl, rfl, rfl, Nat.le_refl _, fun _ _ => rfl⟩)).sub (l' := [(w.heap.size, (Q : Int))]) (by intro t m; simp only [List.mem_cons, List.not_mem_nil, or_false] at m ⊢; subst m; simp))
   clear HJ5
   generalize w6.drewN nd = w8 at HJ ⊢
   generalize cmpZ (R : Int) (H : Int) = cz at *
   have HCC2 : Hid (cutC N s false = cz) := Lib.hid (by rw [HCC.out, if_neg (fun t => HRN.out t.1), if_neg (fun t => by cases t.2)])
   replace HCC := HCC2
   clear HCC2
   obtain ⟨cb, hcb⟩ : ∃ b, (cz == 0) = b := ⟨_, rfl⟩
   cases cb
   ·go_wp2
    exact bodyPost_ret (v := .tuple #[.pointer (some ⟨w.heap.size, 0, none⟩), .int .i64 cz]) (by simp [results, Tryz.results136, go_sem]) rfl ⟨w.heap.size, by rw [HCC.out], Nat.le_refl _, HJ.out.get (by simp), HJ.out.2⟩
   ·go_wp2
    exact bodyPost_ret (v := .tuple #[.pointer (some ⟨w.heap.size, 0, none⟩), .int .i64 cz]) (by simp [results, Tryz.results136, go_sem]) rfl ⟨w.heap.size, by rw [HCC.out], Nat.le_refl _, HJ.out.get (by simp), HJ.out.2⟩
  ·go_wp2_with fail
   have HJ4 := Lib.hid HJ3.out.alloc
   have HS3 : Hid (w.heap.size < w3.heap.size ∧ b1 < w3.heap.size) := Lib.hid ⟨HJ3.out.lt _ (.tail _ (.head _)), HJ3.out.lt _ (.head _)⟩
   refine (rNewInt_any 1 _ (by decide) (by decide)).mono ?_
   rintro e5 w5 ⟨c, rfl, hc, hi5, hb5⟩
   have HC5 : Hid (w3.heap.size < c) := Lib.hid (by simp at hc; omega)
   have HJ5 := Lib.hid (((HJ4.out.later hb5).cons hi5).sub (l' := [(w3.heap.size, 0), (c, 1), (b1, (R : Int)), (w.heap.size, (Q : Int))]) (by intro t m; simp only [List.mem_cons, List.not_mem_nil, or_false] at m ⊢; rcases m with rfl | rfl | rfl | rfl <;> simp))
   clear hc hi5 hb5 HJ4
   go_wp2_with fail
   refine (HL1.out _ _ _ (HJ5.out.get (.head _)).1 (HJ5.out.get (.tail _ (.head _)))).mono ?_
   rintro e6 w6 ⟨rfl, hi6, hm6⟩
   replace HJ5 := Lib.hid (HJ5.out.puts (by have := HS3.out; omega) (fun t m => by have := HS3.out; have := HC5.out; simp only [List.mem_cons, List.not_mem_nil, or_false] at m; rcases m with rfl | rfl | rfl <;> simp <;> omega) hm6 hi6)
   clear hi6 hm6
   go_wp2_with fail
   refine (rCmp_any b1 0 w3.heap.size 0 R H _ (HJ5.out.get (.tail _ (.tail _ (.head _)))) (HJ5.out.get (.head _))).mono ?_
   rintro e7 w7 ⟨rfl, nd, rfl⟩
   have HJ := Lib.hid ((HJ5.out.later (show Below w6.heap.size w6 (w6.drewN nd) from ⟨rfl, rfl, rfl, Nat.le_refl _, fun _ _ => rfl⟩)).sub (l' := [(w.heap.size, (Q : Int))]) (by intro t m; simp only [List.mem_cons, List.not_mem_nil, or_false] at m ⊢; subst m; simp))
   clear HJ5
   generalize w6.drewN nd = w8 at HJ ⊢
   generalize cmpZ (R : Int) (H : Int) = cz at *
   by_cases hcz : cz = 0
   ·have HCC2 : Hid (cutC N s true = 1) := Lib.hid (by rw [HCC.out, if_neg (fun t => by cases t.2), if_pos ⟨hcz, by simp⟩])
    replace HCC := HCC2
    clear HCC2
    have hcb : (cz == 0) = true := by simp [hcz]
    clear hcz
    go_wp2
    exact bodyPost_ret (v := .tuple #[.pointer (some ⟨w.heap.size, 0, none⟩), .int .i64 1]) (by simp [results, Tryz.results136, go_sem]) rfl ⟨w.heap.size, by rw [HCC.out], Nat.le_refl _, HJ.out.get (by simp), HJ.out.2⟩
   ·have HCC2 : Hid (cutC N s true = cz) := Lib.hid (by rw [HCC.out, if_neg (fun t => by cases t.2), if_neg (fun t => hcz t.1)])
    replace HCC := HCC2
    clear HCC2
    have hcb : (cz == 0) = false := by simp [hcz]
    clear hcz
    go_wp2
    exact bodyPost_ret (v := .tuple #[.pointer (some ⟨w.heap.size, 0, none⟩), .int .i64 cz]) (by simp [results, Tryz.results136, go_sem]) rfl ⟨w.heap.size, by rw [HCC.out], Nat.le_refl _, HJ.out.get (by simp), HJ.out.2⟩
end
section
open Go.RowKit
def gU (neg : Bool) (Q : Nat) (c mode : Int) : Bool :=
 if mode = 0 then decide (0 < c) || (decide (c = 0) && decide (Q % 2 = 1)) else if mode = 3 then !neg && decide (-2 < c) else neg && decide (-2 < c)
set_option maxRecDepth 100000 in
set_option maxHeartbeats 3200000 in
theorem cGoesUp_any (neg : Bool) (q Q : Nat) (c mode : Int) (w : World) (hq : RInt w q (Q : Int)) (hl : ln 32 Q ≤ 1048576) (hc : c = -2 ∨ c = -1 ∨ c = 0 ∨ c = 1) (hm : mode = 0 ∨ mode = 3 ∨ mode = 4) :
  Calls Tryz.prog 137 #[.bool neg, .pointer (some ⟨q, 0, none⟩), .int .i64 c, .int .i64 mode] w (Gives (.bool (gU neg Q c mode)) w) := by
 have HBT := Lib.hid (rBit_any q 0 (Q : Int) w hq (by rw [Int.natAbs_natCast]; omega))
 clear hq hl
 rcases hm with rfl | rfl | rfl
 ·rcases hc with rfl | rfl | rfl | rfl
  ·rw [show gU neg Q (-2) 0 = false from rfl]
   go_enter Tryz.func137, Tryz.ntmps137
   go_wp2
   go_ret
   exact ⟨rfl, Below.refl _ _⟩
  ·rw [show gU neg Q (-1) 0 = false from rfl]
   go_enter Tryz.func137, Tryz.ntmps137
   go_wp2
   go_ret
   exact ⟨rfl, Below.refl _ _⟩
  ·obtain ⟨b, hb⟩ : ∃ b, decide (Q % 2 = 1) = b := ⟨_, rfl⟩
   have HG : Hid (gU neg Q 0 0 = b) := Lib.hid (by rw [← hb]; unfold gU; simp)
   have HI : Hid ((((Q : Int) % 2) == 1) = b) := Lib.hid (by rw [← hb]; by_cases h : Q % 2 = 1 <;> simp [h] <;> omega)
   have hi := HI.out
   generalize (Q : Int) % 2 = q2 at *
   clear hb HI
   go_enter Tryz.func137, Tryz.ntmps137
   go_wp2_with fail
   refine HBT.out.mono ?_
   rintro e1 w1 ⟨rfl, hb1⟩
   have HB := Lib.hid hb1
   clear hb1
   go_wp2
   go_ret
   exact ⟨by rw [HG.out]; rfl, HB.out⟩
  ·rw [show gU neg Q 1 0 = true from rfl]
   go_enter Tryz.func137, Tryz.ntmps137
   go_wp2
   go_ret
   exact ⟨rfl, Below.refl _ _⟩
 ·cases neg
  ·rcases hc with rfl | rfl | rfl | rfl
   ·rw [show gU false Q (-2) 3 = false from rfl]
    go_enter Tryz.func137, Tryz.ntmps137
    go_wp2
    go_ret
    exact ⟨rfl, Below.refl _ _⟩
   ·rw [show gU false Q (-1) 3 = true from rfl]
    go_enter Tryz.func137, Tryz.ntmps137
    go_wp2
    go_ret
    exact ⟨rfl, Below.refl _ _⟩
   ·rw [show gU false Q (0) 3 = true from rfl]
    go_enter Tryz.func137, Tryz.ntmps137
    go_wp2
    go_ret
    exact ⟨rfl, Below.refl _ _⟩
   ·rw [show gU false Q (1) 3 = true from rfl]
    go_enter Tryz.func137, Tryz.ntmps137
    go_wp2
    go_ret
    exact ⟨rfl, Below.refl _ _⟩
  ·rcases hc with rfl | rfl | rfl | rfl
   ·rw [show gU true Q (-2) 3 = false from rfl]
    go_enter Tryz.func137, Tryz.ntmps137
    go_wp2
    go_ret
    exact ⟨rfl, Below.refl _ _⟩
   ·rw [show gU true Q (-1) 3 = false from rfl]
    go_enter Tryz.func137, Tryz.ntmps137
    go_wp2
    go_ret
    exact ⟨rfl, Below.refl _ _⟩
   ·rw [show gU true Q (0) 3 = false from rfl]
    go_enter Tryz.func137, Tryz.ntmps137
    go_wp2
    go_ret
    exact ⟨rfl, Below.refl _ _⟩
   ·rw [show gU true Q (1) 3 = false from rfl]
    go_enter Tryz.func137, Tryz.ntmps137
    go_wp2
    go_ret
    exact ⟨rfl, Below.refl _ _⟩
 ·cases neg
  ·rcases hc with rfl | rfl | rfl | rfl
   ·rw [show gU false Q (-2) 4 = false from rfl]
    go_enter Tryz.func137, Tryz.ntmps137
    go_wp2
    go_ret
    exact ⟨rfl, Below.refl _ _⟩
   ·rw [show gU false Q (-1) 4 = false from rfl]
    go_enter Tryz.func137, Tryz.ntmps137
    go_wp2
    go_ret
    exact ⟨rfl, Below.refl _ _⟩
   ·rw [show gU false Q (0) 4 = false from rfl]
    go_enter Tryz.func137, Tryz.ntmps137
    go_wp2
    go_ret
    exact ⟨rfl, Below.refl _ _⟩
   ·rw [show gU false Q (1) 4 = false from rfl]
    go_enter Tryz.func137, Tryz.ntmps137
    go_wp2
    go_ret
    exact ⟨rfl, Below.refl _ _⟩
  ·rcases hc with rfl | rfl | rfl | rfl
   ·rw [show gU true Q (-2) 4 = false from rfl]
    go_enter Tryz.func137, Tryz.ntmps137
    go_wp2
    go_ret
    exact ⟨rfl, Below.refl _ _⟩
   ·rw [show gU true Q (-1) 4 = true from rfl]
    go_enter Tryz.func137, Tryz.ntmps137
    go_wp2
    go_ret
    exact ⟨rfl, Below.refl _ _⟩
   ·rw [show gU true Q (0) 4 = true from rfl]
    go_enter Tryz.func137, Tryz.ntmps137
    go_wp2
    go_ret
    exact ⟨rfl, Below.refl _ _⟩
   ·rw [show gU true Q (1) 4 = true from rfl]
    go_enter Tryz.func137, Tryz.ntmps137
    go_wp2
    go_ret
    exact ⟨rfl, Below.refl _ _⟩
theorem cmp_three (a b : Int) : cmpZ a b = -1 ∨ cmpZ a b = 0 ∨ cmpZ a b = 1 := by
 unfold cmpZ
 split
 ·exact .inl rfl
 ·split
  ·exact .inr (.inr rfl)
  ·exact .inr (.inl rfl)
theorem cmp_iff (a b : Nat) : (0 < cmpZ a b ↔ b < a) ∧ (cmpZ a b = 0 ↔ a = b) ∧ -2 < cmpZ a b := by
 unfold cmpZ
 split
 ·omega
 ·split <;> omega
theorem cut_cases (N s : Nat) (more : Bool) : cutC N s more = -2 ∨ cutC N s more = -1 ∨ cutC N s more = 0 ∨ cutC N s more = 1 := by
 unfold cutC
 have h := cmp_three (N % 2 ^ s : Nat) (2 ^ (s - 1) : Nat)
 generalize cmpZ (N % 2 ^ s : Nat) (2 ^ (s - 1) : Nat) = z at *
 split
 ·exact .inl rfl
 ·split
  ·exact .inr (.inr (.inr rfl))
  ·exact .inr h
theorem gU_up {N s : Nat} {neg : Bool} {mode : Int} (hm : mode = 0 ∨ mode = 3 ∨ mode = 4) : gU neg (N / 2 ^ s) (cutC N s false) mode = upB N s neg mode := by
 by_cases h0 : N % 2 ^ s = 0
 ·rw [up_z h0, show cutC N s false = -2 from if_pos ⟨h0, rfl⟩]
  rcases hm with rfl | rfl | rfl
  ·rfl
  ·cases neg <;> rfl
  ·cases neg <;> rfl
 ·have hc : cutC N s false = cmpZ (N % 2 ^ s : Nat) (2 ^ (s - 1) : Nat) := by
   unfold cutC
   rw [if_neg (fun t => h0 t.1), if_neg (fun t => by cases t.2)]
  rw [hc]
  obtain ⟨c1, c2, c3⟩ := cmp_iff (N % 2 ^ s) (2 ^ (s - 1))
  generalize cmpZ (N % 2 ^ s : Nat) (2 ^ (s - 1) : Nat) = z at *
  rcases hm with rfl | rfl | rfl
  ·rw [up_0 h0]
   show (decide (0 < z) || (decide (z = 0) && _)) = _
   rw [decide_eq_decide.2 c1, decide_eq_decide.2 c2]
  ·rw [up_3 h0]
   show (!neg && decide (-2 < z)) = _
   rw [decide_eq_true c3, Bool.and_true]
  ·rw [up_4 h0]
   show (neg && decide (-2 < z)) = _
   rw [decide_eq_true c3, Bool.and_true]
theorem gU_more {N s : Nat} (hs : 1 ≤ s) {neg : Bool} {mode : Int} (hm : mode = 0 ∨ mode = 3 ∨ mode = 4) :
  (2 * N + 1) / 2 ^ (s + 1) = N / 2 ^ s ∧ gU neg (N / 2 ^ s) (cutC N s true) mode = upB (2 * N + 1) (s + 1) neg mode := by
 have e1 : 2 ^ (s + 1) = 2 * 2 ^ s := by rw [Nat.pow_succ, Nat.mul_comm]
 have e2 : 2 ^ s = 2 * 2 ^ (s - 1) := by rw [← Nat.pow_succ', Nat.succ_eq_add_one, Nat.sub_add_cancel hs]
 have hd : (2 * N + 1) / 2 ^ (s + 1) = N / 2 ^ s := by
  rw [e1, ← Nat.div_div_eq_div_mul, show (2 * N + 1) / 2 = N by omega]
 have hr : (2 * N + 1) % 2 ^ (s + 1) = 2 * (N % 2 ^ s) + 1 := by
  have h1 := Nat.div_add_mod (2 * N + 1) (2 ^ (s + 1))
  have h2 := Nat.div_add_mod N (2 ^ s)
  rw [hd, e1, Nat.mul_assoc] at h1
  rw [e1]
  omega
 have h0 : ¬ (2 * N + 1) % 2 ^ (s + 1) = 0 := by omega
 refine ⟨hd, ?_⟩
 have hc : cutC N s true = if cmpZ (N % 2 ^ s : Nat) (2 ^ (s - 1) : Nat) = 0 then 1 else cmpZ (N % 2 ^ s : Nat) (2 ^ (s - 1) : Nat) := by
  unfold cutC
  rw [if_neg (fun t => by cases t.2)]
  simp
 rw [hc]
 obtain ⟨c1, c2, c3⟩ := cmp_iff (N % 2 ^ s) (2 ^ (s - 1))
 generalize cmpZ (N % 2 ^ s : Nat) (2 ^ (s - 1) : Nat) = z at *
 have d1 : (0 < if z = 0 then 1 else z) ↔ 2 ^ (s + 1 - 1) < (2 * N + 1) % 2 ^ (s + 1) := by
  rw [hr, Nat.add_sub_cancel]
  split <;> omega
 have d2 : ((if z = 0 then 1 else z) = 0) ↔ (2 * N + 1) % 2 ^ (s + 1) = 2 ^ (s + 1 - 1) := by
  rw [hr, Nat.add_sub_cancel]
  split <;> omega
 have d3 : (-2 : Int) < if z = 0 then 1 else z := by split <;> omega
 generalize (if z = 0 then 1 else z) = y at *
 rcases hm with rfl | rfl | rfl
 ·rw [up_0 h0, hd]
  show (decide (0 < y) || (decide (y = 0) && _)) = _
  rw [decide_eq_decide.2 d1, decide_eq_decide.2 d2]
 ·rw [up_3 h0]
  show (!neg && decide (-2 < y)) = _
  rw [decide_eq_true d3, Bool.and_true]
 ·rw [up_4 h0]
  show (neg && decide (-2 < y)) = _
  rw [decide_eq_true d3, Bool.and_true]
def packB (neg : Bool) (q : Nat) (L mode : Int) : Nat :=
 if 53 < bl q then (if 1023 < L + 1 + bl (q / 2) - 1 then ovB neg mode else if bl (q / 2) < 53 then joinB neg 0 (q / 2) else joinB neg (L + 1 + 1075).toNat (q / 2 % kHid))
 else (if 1023 < L + bl q - 1 then ovB neg mode else if bl q < 53 then joinB neg 0 q else joinB neg (L + 1075).toNat (q % kHid))
theorem ov_bey (neg : Bool) (mode : Int) : ovB neg mode = (if neg then kSign else 0) + (if beyB neg mode then kInf - 1 else kInf) := by
 have e : (mode = 2 ∨ mode = 3 ∧ neg = true ∨ mode = 4 ∧ neg = false) ↔ beyB neg mode = true := by
  unfold beyB
  cases neg <;> simp
 unfold ovB
 by_cases h : beyB neg mode = true
 ·rw [if_pos (e.2 h), if_pos h]; cases neg <;> decide
 ·rw [if_neg (fun t => h (e.1 t)), if_neg h]; cases neg <;> decide
theorem pack_rnd {z e mode : Int} (hz : z ≠ 0) : packB (decide (z < 0)) (roundZ z e 53 (-1074) mode) (lastE z e 53 (-1074)) mode = rndB z e mode := by
 have h1 := roundZ_le z e 53 (-1074) mode 53 rfl
 have h2 : -1074 ≤ lastE z e 53 (-1074) := by unfold lastE; omega
 have h3 := roundZ_low (e := e) (mode := mode) hz
 unfold rndB
 generalize roundZ z e 53 (-1074) mode = m at *
 generalize lastE z e 53 (-1074) = L at *
 generalize decide (z < 0) = neg
 rw [mkB_word h1 h2 h3]
 unfold packB joinB
 rw [ov_bey]
 have k1 : kHid = 2 ^ 52 := by decide
 rcases Nat.lt_or_ge m (2 ^ 53) with h | h
 ·have hb : bl m ≤ 53 := bl_le_of_lt h
  rw [if_neg (by omega)]
  by_cases ho : L + (bl m : Int) ≤ 1024
  ·rw [if_neg (by omega), if_pos ho]
   by_cases hb2 : bl m < 53
   ·rw [if_pos hb2]
    have hm : m < 2 ^ 52 := bl_le_iff.1 (by omega)
    have hL : L = -1074 := by rcases h3 with h3 | h3; exact h3; omega
    subst hL
    rw [show ((-1074 : Int) + 1074).toNat = 0 by decide]
    omega
   ·rw [if_neg hb2]
    have hm : 2 ^ 52 ≤ m := by
     rcases Nat.lt_or_ge m (2 ^ 52) with h5 | h5
     ·have := bl_le_of_lt h5; omega
     ·exact h5
    have hmod : m % kHid = m - kHid := by rw [k1, Nat.mod_eq_sub_mod hm, Nat.mod_eq_of_lt (by omega)]
    have hsplit : (L + 1075).toNat = (L + 1074).toNat + 1 := by omega
    rw [hmod, hsplit, Nat.add_mul, Nat.one_mul]
    omega
  ·rw [if_pos (by omega), if_neg ho]
 ·have hm : m = 2 ^ 53 := by omega
  subst hm
  have hb : bl (2 ^ 53) = 54 := by decide
  have hb2 : bl (2 ^ 53 / 2) = 53 := by decide
  rw [hb, hb2, if_pos (by decide)]
  by_cases ho : L + ((54 : Nat) : Int) ≤ 1024
  ·rw [if_neg (by omega), if_pos ho, if_neg (by decide)]
   have hsplit : (L + 1 + 1075).toNat = (L + 1074).toNat + 2 := by omega
   rw [hsplit, Nat.add_mul, show 2 ^ 53 / 2 % kHid = 0 by decide, show 2 * kHid = 2 ^ 53 by decide]
   omega
  ·rw [if_pos (by omega), if_neg ho]
end
end Go.Proofs.YtloohbkceppocaaGreatDoor
