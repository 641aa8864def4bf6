/- Walks: the references' mean. Printed by wip/gen/nm7.py. -/
import Derived.Test.YthkhignbmefmjaaGreatDoorZNm6
import Derived.Test.YthkhignbmefmjaaGreatDoorKD
import Derived.Test.YthkhignbmefmjaaGreatDoorKC
import Derived.Test.YthkhignbmefmjaaGreatDoorGX
namespace Go.Proofs.YthkhignbmefmjaaGreatDoor
open Go.RowKit
theorem NB.mod {w0 W V : World} {b p r : Nat} {z e : Int} (h : NB w0 W b p z e) (hm : Mod r 0 W V) (hb : b < r) (hp : p < r) (h0 : w0.heap.size ≤ r) (sp : ∃ t, Elem W r t ∧ ObjT t) : NB w0 V b p z e :=
 ⟨h.box.mod hm (by omega), h.num.mod hm (.inl (by omega)) sp, Mod.below h.below hm h0 h.below.size⟩
theorem stQ_bl {N k c : Nat} : bl (stQ N k c) ≤ bl N + k + 2 := by
 refine bl_le_of_lt ?_
 have h1 : N * 2 ^ k / c ≤ N * 2 ^ k := Nat.div_le_self _ _
 have h2 : N * 2 ^ k < 2 ^ (bl N + k) := mul_pow_lt N k
 have h3 : 2 ^ (bl N + k + 2) = 2 ^ (bl N + k) * 4 := by rw [Nat.pow_add _ _ 2]
 unfold stQ
 rw [h3]
 generalize N * 2 ^ k / c = q at *
 generalize 2 ^ (bl N + k) = P at *
 generalize N * 2 ^ k = A at *
 split <;> omega
theorem ln_small {A k : Nat} (h : bl A ≤ k) : ln 32 A ≤ k := Nat.le_trans (ln_le_bl 32 A (by decide)) h
theorem sgI_true (N : Nat) : sgI true N = -(N : Int) := rfl
theorem sgI_false (N : Nat) : sgI false N = (N : Int) := rfl
theorem nat_tdiv2 (a b : Nat) : (a : Int).tdiv (b : Int) = ((a / b : Nat) : Int) := rfl
theorem nat_tmod2 (a b : Nat) : (a : Int).tmod (b : Int) = ((a % b : Nat) : Int) := rfl
set_option maxRecDepth 100000 in
set_option maxHeartbeats 3200000 in
theorem rQuotient_any (xb : Nat) (z e : Int) (c : Nat) (w : World) (hx : RInt w xb z) (hc : 0 < c) (hc2 : c ≤ 4096) (hb : bl z.natAbs ≤ 2139) (he1 : -1074 ≤ e) (he2 : e ≤ 1023) (hT : Tab32 w) (hTs : 2 < w.heap.size) :
  Calls Tryz.prog 20 #[ExV xb e, .int .i64 c] w (Gives (.float .f64 (quoB z e c)) w) := by
 have HX : Hid (NB w (w.alloc (.cells #[.pointer (some ⟨xb, 0, none⟩), .int .i64 e] 48)) w.heap.size xb z e) := Lib.hid (NB.new hx (Below.refl _ _))
 have hxb : xb < w.heap.size := hx.1.1
 have HTB : Hid (∀ W, Below w.heap.size w W → Tab32 W ∧ 2 < W.heap.size) := Lib.hid fun W hb => ⟨hT.below hTs hb, Nat.lt_of_lt_of_le hTs hb.size⟩
 clear hx hT hTs
 unfold ExV
 obtain ⟨B0, hB0⟩ : ∃ b, w.heap.size = b := ⟨_, rfl⟩
 have hB1 : w.heap.size ≤ B0 := by omega
 rw [hB0] at HX hxb
 by_cases hz : z = 0
 ·subst hz
  rw [quoB_zero]
  go_enter Tryz.func20, Tryz.ntmps20
  obtain ⟨q0, q1, q2, q3⟩ := HX.out.box.cells2
  go_wp2_with fail
  refine (rSign_any xb 0 0 _ HX.out.num).mono ?_
  rintro e1 w1 ⟨rfl, rfl⟩
  rw [show (0 : Int).sign = 0 from rfl]
  go_wp2
  go_ret
  exact ⟨rfl, HX.out.below⟩
 obtain ⟨A, hA⟩ : ∃ A, z.natAbs * 2 ^ 200 = A := ⟨_, rfl⟩
 have hbA : bl A ≤ 2339 := by rw [← hA]; exact Nat.le_trans (bl_mul_two_pow _ _) (by omega)
 have HL1 : Hid (ln 32 ((z.natAbs : Nat) : Int).natAbs ≤ 68719476736) := Lib.hid (by rw [Int.natAbs_natCast]; exact Nat.le_trans (ln_small hb) (by decide))
 have hbq : bl (A / c) ≤ 2339 := Nat.le_trans (bl_mono (Nat.div_le_self _ _)) hbA
 have HL2 : Hid (ln 32 ((A / c : Nat) : Int).natAbs ≤ 68719476736) := Lib.hid (by rw [Int.natAbs_natCast]; exact Nat.le_trans (ln_small hbq) (by decide))
 have HL3 : Hid (ln 32 (A / c * 2 ^ 1) ≤ 68719476736) := Lib.hid (Nat.le_trans (ln_small (Nat.le_trans (bl_mul_two_pow _ _) (Nat.add_le_add_right hbq 1))) (by decide))
 have HQ : Hid (stQ z.natAbs 200 c = A / c * 2 ^ 1 + (if A % c = 0 then 0 else 1)) := Lib.hid (by unfold stQ; rw [hA])
 have HQR := Lib.hid fun b c' d f W h1 h2 h3 h4 h5 => rQuoRem_any b 0 c' 0 d 0 f 0 (A : Nat) (c : Nat) W h1 h2 h3 h4 h5 (by omega) (by rw [Int.natAbs_natCast]; exact Nat.le_trans (ln_small hbA) (by decide))
 have hsl := stQ_bl (N := z.natAbs) (k := 200) (c := c)
 have hw1 : IntKind.i64.wrap (e - 200) = e - 200 := IntWalk.i64_in _ (by omega)
 have hw2 : IntKind.i64.wrap (e - 200 - 1) = e - 201 := by rw [show e - 200 - 1 = e - 201 by omega]; exact IntWalk.i64_in _ (by omega)
 unfold quoB
 by_cases hneg : z < 0
 ·rw [decide_eq_true hneg, sgI_true]
  have HRD := Lib.hid fun b W (h : RInt W b (-((stQ z.natAbs 200 c : Nat) : Int))) h1 h2 => rRound_any b (-((stQ z.natAbs 200 c : Nat) : Int)) (e - 201) 0 W h (by rw [Int.natAbs_neg, Int.natAbs_natCast]; exact Nat.le_trans hsl (by omega)) (by omega) (by omega) (by decide) (by decide) h1 h2
  obtain ⟨sg, HSG, hsg0, hsg1⟩ : ∃ sg, Hid (z.sign = sg) ∧ (sg == 0) = false ∧ decide (sg < 0) = true := ⟨_, Lib.hid rfl, by rw [Int.sign_eq_neg_one_of_neg hneg]; rfl, by rw [Int.sign_eq_neg_one_of_neg hneg]; rfl⟩
  have HA := Lib.hid hA
  clear hbA hbq hsl hneg hz hb he1 he2 hA
  go_enter Tryz.func20, Tryz.ntmps20
  obtain ⟨q0, q1, q2, q3⟩ := HX.out.box.cells2
  go_wp2_with fail
  refine (rSign_any xb 0 z _ HX.out.num).mono ?_
  rintro e1 w1 ⟨rfl, rfl⟩
  rw [HSG.out]
  clear q0 q1 q2 q3
  generalize World.alloc w _ = w1 at HX ⊢
  have HJ : Hid (Its w w1 []) := Lib.hid ⟨fun t m => (by cases m), HX.out.below⟩
  obtain ⟨q0, q1, q2, q3⟩ := (HX.out.later (Below.alloc_self w1 (.cells #[.bool false, .slice none 0 0] 92))).box.cells2
  go_wp2_with fail
  clear q0 q1 q2 q3
  have HJ1 := Lib.hid HJ.out.alloc
  have HX1 := Lib.hid (HX.out.later (Below.alloc_self w1 (.cells #[.bool false, .slice none 0 0] 92)))
  have hb1 : B0 < w1.heap.size := HX.out.box.lt
  generalize World.alloc w1 _ = W1 at HJ1 HX1 ⊢
  generalize w1.heap.size = r1 at *
  clear HJ HX
  refine (rAbs_any r1 0 xb 0 z _ (HJ1.out.get (.head _)).1 HX1.out.num).mono ?_
  rintro e2 w2 ⟨rfl, hi1, hm1⟩
  have HJ := Lib.hid (HJ1.out.puts (by omega) (fun t m => by cases m) hm1 hi1)
  have HX := Lib.hid (HX1.out.mod hm1 (by omega) (by omega) (by omega) (HJ1.out.get (.head _)).1.2.1)
  clear hm1 hi1 HJ1 HX1
  go_wp2_with fail
  refine (rLsh_any r1 0 r1 0 200 _ _ (HJ.out.get (.head _)).1 (HJ.out.get (.head _)) HL1.out (by omega)).mono ?_
  rintro e3 w3 ⟨rfl, hi1, hm1⟩
  rw [shl_cast, HA.out] at hi1
  have HJ1 := HJ
  have HX1 := HX
  clear HJ HX
  have HJ := Lib.hid (HJ1.out.puts (by omega) (fun t m => by cases m) hm1 hi1)
  have HX := Lib.hid (HX1.out.mod hm1 (by omega) (by omega) (by omega) (HJ1.out.get (.head _)).1.2.1)
  clear hm1 hi1 HJ1 HX1
  go_wp2_with fail
  have HJ1 := Lib.hid HJ.out.alloc
  have HX1 := Lib.hid (HX.out.later (Below.alloc_self w3 (.cells #[.bool false, .slice none 0 0] 92)))
  have hb2 : B0 < w3.heap.size := HX.out.box.lt
  have hl1_2 : r1 < w3.heap.size := HJ.out.lt _ (.head _)
  generalize World.alloc w3 _ = W2 at HJ1 HX1 ⊢
  generalize w3.heap.size = r2 at *
  clear HJ HX
  refine (rNewInt_any c _ (by omega) (by omega)).mono ?_
  rintro e4 w4 ⟨r3, rfl, hq, hi, hb⟩
  have hl2_3 : r2 < r3 := Nat.lt_of_lt_of_le (HJ1.out.lt _ (.head _)) hq
  have HJ := Lib.hid ((HJ1.out.later hb).cons hi)
  have HX := Lib.hid (HX1.out.later hb)
  clear hq hi hb HJ1 HX1
  go_wp2_with fail
  have HJ1 := Lib.hid HJ.out.alloc
  have HX1 := Lib.hid (HX.out.later (Below.alloc_self w4 (.cells #[.bool false, .slice none 0 0] 92)))
  have hb4 : B0 < w4.heap.size := HX.out.box.lt
  have hl3_4 : r3 < w4.heap.size := HJ.out.lt _ (.head _)
  have hl2_4 : r2 < w4.heap.size := HJ.out.lt _ (.tail _ (.head _))
  generalize World.alloc w4 _ = W4 at HJ1 HX1 ⊢
  generalize w4.heap.size = r4 at *
  clear HJ HX
  refine (HQR.out r2 r1 r3 r4 _ (HJ1.out.get (.tail _ (.tail _ (.head _)))).1 (HJ1.out.get (.tail _ (.tail _ (.tail _ (.head _))))) (HJ1.out.get (.tail _ (.head _))) (HJ1.out.get (.head _)).1 (by omega)).mono ?_
  rintro e5 w5 ⟨V, rfl, hiq, hir, hmr, hmq⟩
  rw [nat_tdiv2] at hiq
  rw [nat_tmod2] at hir
  have sp4 := (HJ1.out.get (.head _)).1
  have sp2 := (HJ1.out.get (.tail _ (.tail _ (.head _)))).1
  have HX := Lib.hid ((HX1.out.mod hmr (by omega) (by omega) (by omega) sp4.2.1).mod hmq (by omega) (by omega) (by omega) (let ⟨t, h1, h2⟩ := sp2.2.1; ⟨t, Elem.mod hmr sp2.1 h1, h2⟩))
  have HJ : Hid (Its w w5 [(r2, ((A / c : Nat) : Int)), (r4, ((A % c : Nat) : Int))]) := Lib.hid ⟨fun t m => by simp only [List.mem_cons, List.not_mem_nil, or_false] at m; rcases m with rfl | rfl; exact hiq; exact hir, HX.out.below⟩
  clear hiq hir hmr hmq sp4 sp2 HJ1 HX1 HQR
  go_wp2_with fail
  refine (rLsh_any r2 0 r2 0 1 _ _ (HJ.out.get (.head _)).1 (HJ.out.get (.head _)) HL2.out (by omega)).mono ?_
  rintro e6 w6 ⟨rfl, hi1, hm1⟩
  rw [shl_cast] at hi1
  have HJ1 := HJ
  have HX1 := HX
  clear HJ HX
  have HJ := Lib.hid (HJ1.out.puts (by omega) (fun t m => by simp only [List.mem_cons, List.not_mem_nil, or_false] at m; rcases m with rfl; show r4 ≠ r2; omega) hm1 hi1)
  have HX := Lib.hid (HX1.out.mod hm1 (by omega) (by omega) (by omega) (HJ1.out.get (.head _)).1.2.1)
  clear hm1 hi1 HJ1 HX1
  go_wp2_with fail
  refine (rSign_any r4 0 _ _ (HJ.out.get (.tail _ (.head _)))).mono ?_
  rintro e7 w7 ⟨rfl, rfl⟩
  by_cases hr0 : A % c = 0
  ·have HV0 : Hid (((A / c * 2 ^ 1 : Nat) : Int) = ((stQ z.natAbs 200 c : Nat) : Int)) := Lib.hid (by rw [HQ.out, if_pos hr0, Nat.add_zero])
   rw [HV0.out] at HJ
   rw [hr0, show ((0 : Nat) : Int).sign = 0 from rfl]
   clear hr0 HV0
   obtain ⟨q0, q1, q2, q3⟩ := HX.out.box.cells2
   go_wp2_with fail
   refine (rSign_any xb 0 z _ HX.out.num).mono ?_
   rintro e9 w9 ⟨rfl, rfl⟩
   rw [HSG.out]
   clear q0 q1 q2 q3
   go_wp2_with fail
   refine (rNeg_any r2 0 r2 0 _ _ (HJ.out.get (.head _)).1 (HJ.out.get (.head _))).mono ?_
   rintro e10 w10 ⟨rfl, hi1, hm1⟩
   replace HX := Lib.hid (HX.out.mod hm1 (by omega) (by omega) (by omega) (HJ.out.get (.head _)).1.2.1)
   have HI := Lib.hid hi1
   clear hi1 hm1 HJ
   obtain ⟨q0, q1, q2, q3⟩ := HX.out.box.cells2
   have HRR := Lib.hid (HRD.out r2 _ HI.out (HTB.out _ HX.out.below).1 (HTB.out _ HX.out.below).2)
   unfold ExV at HRR
   go_wp2_with fail
   refine (HRR.out).mono ?_
   rintro e11 w11 ⟨rfl, hb⟩
   have HB := Lib.hid (HX.out.below.trans (hb.mono HX.out.below.size))
   clear hb HX HI HRR HRD HTB
   clear q0 q1 q2 q3
   go_wp2
   go_ret
   exact ⟨rfl, HB.out⟩
  ·obtain ⟨sg2, HS2, hsg2⟩ : ∃ sg, Hid (((A % c : Nat) : Int).sign = sg) ∧ (sg != 0) = true := ⟨_, Lib.hid rfl, sign_ne (by omega)⟩
   rw [HS2.out]
   have HV0 : Hid (((A / c * 2 ^ 1 : Nat) : Int) + 1 = ((stQ z.natAbs 200 c : Nat) : Int)) := Lib.hid (by rw [HQ.out, if_neg hr0, Int.natCast_add]; rfl)
   clear hr0
   have HN1 : Hid (ln 32 ((A / c * 2 ^ 1 : Nat) : Int).natAbs ≤ 68719476736) := Lib.hid (by rw [Int.natAbs_natCast]; exact HL3.out)
   go_wp2_with fail
   refine (rNewInt_any 1 _ (by omega) (by omega)).mono ?_
   rintro e8 w8 ⟨r5, rfl, hq, hi, hb⟩
   have HI5 := Lib.hid hi
   replace HJ := Lib.hid (HJ.out.later hb)
   replace HX := Lib.hid (HX.out.later hb)
   clear hq hi hb
   go_wp2_with fail
   refine (rAdd_any r2 0 r2 0 r5 0 _ _ _ (HJ.out.get (.head _)).1 (HJ.out.get (.head _)) HI5.out HN1.out (by decide)).mono ?_
   rintro e9 w9 ⟨rfl, hi1, hm1⟩
   rw [HV0.out] at hi1
   have HJ1 := HJ
   have HX1 := HX
   clear HJ HX HI5 HN1
   have HJ := Lib.hid (HJ1.out.puts (by omega) (fun t m => by simp only [List.mem_cons, List.not_mem_nil, or_false] at m; rcases m with rfl; show r4 ≠ r2; omega) hm1 hi1)
   have HX := Lib.hid (HX1.out.mod hm1 (by omega) (by omega) (by omega) (HJ1.out.get (.head _)).1.2.1)
   clear hm1 hi1 HJ1 HX1
   clear HV0
   obtain ⟨q0, q1, q2, q3⟩ := HX.out.box.cells2
   go_wp2_with fail
   refine (rSign_any xb 0 z _ HX.out.num).mono ?_
   rintro e9 w9 ⟨rfl, rfl⟩
   rw [HSG.out]
   clear q0 q1 q2 q3
   go_wp2_with fail
   refine (rNeg_any r2 0 r2 0 _ _ (HJ.out.get (.head _)).1 (HJ.out.get (.head _))).mono ?_
   rintro e10 w10 ⟨rfl, hi1, hm1⟩
   replace HX := Lib.hid (HX.out.mod hm1 (by omega) (by omega) (by omega) (HJ.out.get (.head _)).1.2.1)
   have HI := Lib.hid hi1
   clear hi1 hm1 HJ
   obtain ⟨q0, q1, q2, q3⟩ := HX.out.box.cells2
   have HRR := Lib.hid (HRD.out r2 _ HI.out (HTB.out _ HX.out.below).1 (HTB.out _ HX.out.below).2)
   unfold ExV at HRR
   go_wp2_with fail
   refine (HRR.out).mono ?_
   rintro e11 w11 ⟨rfl, hb⟩
   have HB := Lib.hid (HX.out.below.trans (hb.mono HX.out.below.size))
   clear hb HX HI HRR HRD HTB
   clear q0 q1 q2 q3
   go_wp2
   go_ret
   exact ⟨rfl, HB.out⟩
 ·rw [decide_eq_false hneg, sgI_false]
  have HRD := Lib.hid fun b W (h : RInt W b ((stQ z.natAbs 200 c : Nat) : Int)) h1 h2 => rRound_any b ((stQ z.natAbs 200 c : Nat) : Int) (e - 201) 0 W h (by rw [Int.natAbs_natCast]; exact Nat.le_trans hsl (by omega)) (by omega) (by omega) (by decide) (by decide) h1 h2
  obtain ⟨sg, HSG, hsg0, hsg1⟩ : ∃ sg, Hid (z.sign = sg) ∧ (sg == 0) = false ∧ decide (sg < 0) = false := ⟨_, Lib.hid rfl, by rw [Int.sign_eq_one_of_pos (by omega)]; rfl, by rw [Int.sign_eq_one_of_pos (by omega)]; rfl⟩
  have HA := Lib.hid hA
  clear hbA hbq hsl hneg hz hb he1 he2 hA
  go_enter Tryz.func20, Tryz.ntmps20
  obtain ⟨q0, q1, q2, q3⟩ := HX.out.box.cells2
  go_wp2_with fail
  refine (rSign_any xb 0 z _ HX.out.num).mono ?_
  rintro e1 w1 ⟨rfl, rfl⟩
  rw [HSG.out]
  clear q0 q1 q2 q3
  generalize World.alloc w _ = w1 at HX ⊢
  have HJ : Hid (Its w w1 []) := Lib.hid ⟨fun t m => (by cases m), HX.out.below⟩
  obtain ⟨q0, q1, q2, q3⟩ := (HX.out.later (Below.alloc_self w1 (.cells #[.bool false, .slice none 0 0] 92))).box.cells2
  go_wp2_with fail
  clear q0 q1 q2 q3
  have HJ1 := Lib.hid HJ.out.alloc
  have HX1 := Lib.hid (HX.out.later (Below.alloc_self w1 (.cells #[.bool false, .slice none 0 0] 92)))
  have hb1 : B0 < w1.heap.size := HX.out.box.lt
  generalize World.alloc w1 _ = W1 at HJ1 HX1 ⊢
  generalize w1.heap.size = r1 at *
  clear HJ HX
  refine (rAbs_any r1 0 xb 0 z _ (HJ1.out.get (.head _)).1 HX1.out.num).mono ?_
  rintro e2 w2 ⟨rfl, hi1, hm1⟩
  have HJ := Lib.hid (HJ1.out.puts (by omega) (fun t m => by cases m) hm1 hi1)
  have HX := Lib.hid (HX1.out.mod hm1 (by omega) (by omega) (by omega) (HJ1.out.get (.head _)).1.2.1)
  clear hm1 hi1 HJ1 HX1
  go_wp2_with fail
  refine (rLsh_any r1 0 r1 0 200 _ _ (HJ.out.get (.head _)).1 (HJ.out.get (.head _)) HL1.out (by omega)).mono ?_
  rintro e3 w3 ⟨rfl, hi1, hm1⟩
  rw [shl_cast, HA.out] at hi1
  have HJ1 := HJ
  have HX1 := HX
  clear HJ HX
  have HJ := Lib.hid (HJ1.out.puts (by omega) (fun t m => by cases m) hm1 hi1)
  have HX := Lib.hid (HX1.out.mod hm1 (by omega) (by omega) (by omega) (HJ1.out.get (.head _)).1.2.1)
  clear hm1 hi1 HJ1 HX1
  go_wp2_with fail
  have HJ1 := Lib.hid HJ.out.alloc
  have HX1 := Lib.hid (HX.out.later (Below.alloc_self w3 (.cells #[.bool false, .slice none 0 0] 92)))
  have hb2 : B0 < w3.heap.size := HX.out.box.lt
  have hl1_2 : r1 < w3.heap.size := HJ.out.lt _ (.head _)
  generalize World.alloc w3 _ = W2 at HJ1 HX1 ⊢
  generalize w3.heap.size = r2 at *
  clear HJ HX
  refine (rNewInt_any c _ (by omega) (by omega)).mono ?_
  rintro e4 w4 ⟨r3, rfl, hq, hi, hb⟩
  have hl2_3 : r2 < r3 := Nat.lt_of_lt_of_le (HJ1.out.lt _ (.head _)) hq
  have HJ := Lib.hid ((HJ1.out.later hb).cons hi)
  have HX := Lib.hid (HX1.out.later hb)
  clear hq hi hb HJ1 HX1
  go_wp2_with fail
  have HJ1 := Lib.hid HJ.out.alloc
  have HX1 := Lib.hid (HX.out.later (Below.alloc_self w4 (.cells #[.bool false, .slice none 0 0] 92)))
  have hb4 : B0 < w4.heap.size := HX.out.box.lt
  have hl3_4 : r3 < w4.heap.size := HJ.out.lt _ (.head _)
  have hl2_4 : r2 < w4.heap.size := HJ.out.lt _ (.tail _ (.head _))
  generalize World.alloc w4 _ = W4 at HJ1 HX1 ⊢
  generalize w4.heap.size = r4 at *
  clear HJ HX
  refine (HQR.out r2 r1 r3 r4 _ (HJ1.out.get (.tail _ (.tail _ (.head _)))).1 (HJ1.out.get (.tail _ (.tail _ (.tail _ (.head _))))) (HJ1.out.get (.tail _ (.head _))) (HJ1.out.get (.head _)).1 (by omega)).mono ?_
  rintro e5 w5 ⟨V, rfl, hiq, hir, hmr, hmq⟩
  rw [nat_tdiv2] at hiq
  rw [nat_tmod2] at hir
  have sp4 := (HJ1.out.get (.head _)).1
  have sp2 := (HJ1.out.get (.tail _ (.tail _ (.head _)))).1
  have HX := Lib.hid ((HX1.out.mod hmr (by omega) (by omega) (by omega) sp4.2.1).mod hmq (by omega) (by omega) (by omega) (let ⟨t, h1, h2⟩ := sp2.2.1; ⟨t, Elem.mod hmr sp2.1 h1, h2⟩))
  have HJ : Hid (Its w w5 [(r2, ((A / c : Nat) : Int)), (r4, ((A % c : Nat) : Int))]) := Lib.hid ⟨fun t m => by simp only [List.mem_cons, List.not_mem_nil, or_false] at m; rcases m with rfl | rfl; exact hiq; exact hir, HX.out.below⟩
  clear hiq hir hmr hmq sp4 sp2 HJ1 HX1 HQR
  go_wp2_with fail
  refine (rLsh_any r2 0 r2 0 1 _ _ (HJ.out.get (.head _)).1 (HJ.out.get (.head _)) HL2.out (by omega)).mono ?_
  rintro e6 w6 ⟨rfl, hi1, hm1⟩
  rw [shl_cast] at hi1
  have HJ1 := HJ
  have HX1 := HX
  clear HJ HX
  have HJ := Lib.hid (HJ1.out.puts (by omega) (fun t m => by simp only [List.mem_cons, List.not_mem_nil, or_false] at m; rcases m with rfl; show r4 ≠ r2; omega) hm1 hi1)
  have HX := Lib.hid (HX1.out.mod hm1 (by omega) (by omega) (by omega) (HJ1.out.get (.head _)).1.2.1)
  clear hm1 hi1 HJ1 HX1
  go_wp2_with fail
  refine (rSign_any r4 0 _ _ (HJ.out.get (.tail _ (.head _)))).mono ?_
  rintro e7 w7 ⟨rfl, rfl⟩
  by_cases hr0 : A % c = 0
  ·have HV0 : Hid (((A / c * 2 ^ 1 : Nat) : Int) = ((stQ z.natAbs 200 c : Nat) : Int)) := Lib.hid (by rw [HQ.out, if_pos hr0, Nat.add_zero])
   rw [HV0.out] at HJ
   rw [hr0, show ((0 : Nat) : Int).sign = 0 from rfl]
   clear hr0 HV0
   obtain ⟨q0, q1, q2, q3⟩ := HX.out.box.cells2
   go_wp2_with fail
   refine (rSign_any xb 0 z _ HX.out.num).mono ?_
   rintro e9 w9 ⟨rfl, rfl⟩
   rw [HSG.out]
   clear q0 q1 q2 q3
   have HI := Lib.hid (HJ.out.get (.head _))
   clear HJ
   obtain ⟨q0, q1, q2, q3⟩ := HX.out.box.cells2
   have HRR := Lib.hid (HRD.out r2 _ HI.out (HTB.out _ HX.out.below).1 (HTB.out _ HX.out.below).2)
   unfold ExV at HRR
   go_wp2_with fail
   refine (HRR.out).mono ?_
   rintro e11 w11 ⟨rfl, hb⟩
   have HB := Lib.hid (HX.out.below.trans (hb.mono HX.out.below.size))
   clear hb HX HI HRR HRD HTB
   clear q0 q1 q2 q3
   go_wp2
   go_ret
   exact ⟨rfl, HB.out⟩
  ·obtain ⟨sg2, HS2, hsg2⟩ : ∃ sg, Hid (((A % c : Nat) : Int).sign = sg) ∧ (sg != 0) = true := ⟨_, Lib.hid rfl, sign_ne (by omega)⟩
   rw [HS2.out]
   have HV0 : Hid (((A / c * 2 ^ 1 : Nat) : Int) + 1 = ((stQ z.natAbs 200 c : Nat) : Int)) := Lib.hid (by rw [HQ.out, if_neg hr0, Int.natCast_add]; rfl)
   clear hr0
   have HN1 : Hid (ln 32 ((A / c * 2 ^ 1 : Nat) : Int).natAbs ≤ 68719476736) := Lib.hid (by rw [Int.natAbs_natCast]; exact HL3.out)
   go_wp2_with fail
   refine (rNewInt_any 1 _ (by omega) (by omega)).mono ?_
   rintro e8 w8 ⟨r5, rfl, hq, hi, hb⟩
   have HI5 := Lib.hid hi
   replace HJ := Lib.hid (HJ.out.later hb)
   replace HX := Lib.hid (HX.out.later hb)
   clear hq hi hb
   go_wp2_with fail
   refine (rAdd_any r2 0 r2 0 r5 0 _ _ _ (HJ.out.get (.head _)).1 (HJ.out.get (.head _)) HI5.out HN1.out (by decide)).mono ?_
   rintro e9 w9 ⟨rfl, hi1, hm1⟩
   rw [HV0.out] at hi1
   have HJ1 := HJ
   have HX1 := HX
   clear HJ HX HI5 HN1
   have HJ := Lib.hid (HJ1.out.puts (by omega) (fun t m => by simp only [List.mem_cons, List.not_mem_nil, or_false] at m; rcases m with rfl; show r4 ≠ r2; omega) hm1 hi1)
   have HX := Lib.hid (HX1.out.mod hm1 (by omega) (by omega) (by omega) (HJ1.out.get (.head _)).1.2.1)
   clear hm1 hi1 HJ1 HX1
   clear HV0
   obtain ⟨q0, q1, q2, q3⟩ := HX.out.box.cells2
   go_wp2_with fail
   refine (rSign_any xb 0 z _ HX.out.num).mono ?_
   rintro e9 w9 ⟨rfl, rfl⟩
   rw [HSG.out]
   clear q0 q1 q2 q3
   have HI := Lib.hid (HJ.out.get (.head _))
   clear HJ
   obtain ⟨q0, q1, q2, q3⟩ := HX.out.box.cells2
   have HRR := Lib.hid (HRD.out r2 _ HI.out (HTB.out _ HX.out.below).1 (HTB.out _ HX.out.below).2)
   unfold ExV at HRR
   go_wp2_with fail
   refine (HRR.out).mono ?_
   rintro e11 w11 ⟨rfl, hb⟩
   have HB := Lib.hid (HX.out.below.trans (hb.mono HX.out.below.size))
   clear hb HX HI HRR HRD HTB
   clear q0 q1 q2 q3
   go_wp2
   go_ret
   exact ⟨rfl, HB.out⟩
set_option maxRecDepth 100000 in
set_option maxHeartbeats 3200000 in
theorem rMean_any (v : Value) (l : List Nat) (w : World) (hl : FSl w v l) (hT : Tab32 w) (hTs : 2 < w.heap.size) :
  Calls Tryz.prog 6 #[v] w (Gives (.tuple #[.float .f64 (meanB l).1, .int .i64 (meanB l).2]) w) := by
 have HL := Lib.hid hl
 have HTB : Hid (∀ W, Below w.heap.size w W → Tab32 W ∧ 2 < W.heap.size) := Lib.hid fun W hb => ⟨hT.below hTs hb, Nat.lt_of_lt_of_le hTs hb.size⟩
 clear hT hTs
 have HFI := Lib.hid fun W (h : FSl W v l) => rAllFinite_any v l W h
 have HNG := Lib.hid fun W (h : FSl W v l) => rMinus_any v l W h
 have HSM := Lib.hid fun (hf : l.all finB = true) W (h : FSl W v l) => rSum_any v l W h hf
 have HQU : Hid (l.length ≠ 0 → l.length ≤ 4096 → l.all finB = true → ∀ xb W, RInt W xb (foldS (prs l)).1 → Tab32 W → 2 < W.heap.size → Calls Tryz.prog 20 #[ExV xb (foldS (prs l)).2, .int .i64 l.length] W (Gives (.float .f64 (mnQ (hvZ (foldS (prs l)).1) (nrE (foldS (prs l)).1 (foldS (prs l)).2) l.length)) W)) := Lib.hid fun h0 h1 h2 xb W hx ht hts => by
  have hs := prs_small (l := l) (by omega) h2 l.length (Nat.le_refl _)
  rw [show (prs l).take l.length = prs l from List.take_of_length_le (by unfold prs; simp)] at hs
  rw [mean_refs h0 h1 h2]
  exact rQuotient_any xb _ _ _ W hx (by omega) h1 hs.2.2 hs.1 hs.2.1 ht hts
 have HE : Hid (meanB l = if l.length = 0 then (0, 51) else if 4096 < l.length then (0, 2) else if l.all finB = false then (0, 4) else if ngtB l then (kSign, 0) else
  (mnQ (hvZ (foldS (prs l)).1) (nrE (foldS (prs l)).1 (foldS (prs l)).2) l.length, 0)) := Lib.hid rfl
 obtain ⟨ao, cap, rfl, -⟩ := hl
 generalize mnQ (hvZ (foldS (prs l)).1) (nrE (foldS (prs l)).1 (foldS (prs l)).2) l.length = Q at *
 generalize foldS (prs l) = S at *
 generalize meanB l = R at *
 generalize l.all finB = fi at *
 generalize ngtB l = ng at *
 generalize hnn : l.length = n at *
 have HLN := Lib.hid hnn
 clear hnn
 by_cases h0 : n = 0
 ·obtain rfl : R = (0, 51) := by rw [HE.out, if_pos h0]
  subst h0
  go_enter Tryz.func6, Tryz.ntmps6
  go_wp2
  go_ret2
  exact ⟨rfl, Below.refl _ _⟩
 have hc0 : ((n : Int) == 0) = false := by simp; omega
 have hc00 : (n == 0) = false := by simp; omega
 by_cases h1 : 4096 < n
 ·obtain rfl : R = (0, 2) := by rw [HE.out, if_neg h0, if_pos h1]
  have hci : decide ((4096 : Int) < (n : Int)) = true := by simp; omega
  go_enter Tryz.func6, Tryz.ntmps6
  go_wp2
  go_ret2
  exact ⟨rfl, Below.refl _ _⟩
 have hci : decide ((4096 : Int) < (n : Int)) = false := by simp; omega
 rw [if_neg h0, if_neg h1] at HE
 have hn4 : n ≤ 4096 := by omega
 replace HQU := Lib.hid (HQU.out h0 hn4)
 clear h1
 go_enter Tryz.func6, Tryz.ntmps6
 go_wp2_with fail
 refine (HFI.out _ HL.out).mono ?_
 rintro e1 w1 ⟨rfl, hb1⟩
 have HB := Lib.hid hb1
 clear hb1
 cases fi
 ·obtain rfl : R = (0, 4) := by rw [HE.out]; rfl
  go_wp2
  go_ret2
  exact ⟨rfl, HB.out⟩
 go_wp2_with fail
 refine (HNG.out _ (HL.out.below HB.out)).mono ?_
 rintro e2 w2 ⟨rfl, hb2⟩
 replace HB := Lib.hid (HB.out.trans (hb2.mono HB.out.size))
 clear hb2
 cases ng
 ·obtain rfl : R = (Q, 0) := by rw [HE.out]; rfl
  go_wp2_with fail
  refine (HSM.out (by simp) _ (HL.out.below HB.out)).mono ?_
  rintro e3 w3 ⟨xb, rfl, hi3, hb3⟩
  replace HB := Lib.hid (HB.out.trans (hb3.mono HB.out.size))
  have HI := Lib.hid hi3
  clear hi3 hb3
  have HQ2 := Lib.hid (HQU.out (by simp) xb _ HI.out (HTB.out _ HB.out).1 (HTB.out _ HB.out).2)
  unfold ExV at HQ2 ⊢
  go_wp2_with fail
  refine (HQ2.out).mono ?_
  rintro e4 w4 ⟨rfl, hb4⟩
  replace HB := Lib.hid (HB.out.trans (hb4.mono HB.out.size))
  clear hb4
  go_wp2
  go_ret2
  exact ⟨rfl, HB.out⟩
 ·obtain rfl : R = (kSign, 0) := by rw [HE.out]; rfl
  have HCP : Hid (cpB (sgnB 13830554455654793216) 0 = kSign) := Lib.hid (by decide)
  go_wp2_with fail
  refine (copysign_any 0 13830554455654793216 _ (by decide) (by decide)).mono ?_
  rintro e3 w3 ⟨rfl, hb3⟩
  rw [HCP.out]
  replace HB := Lib.hid (HB.out.trans (hb3.mono HB.out.size))
  clear hb3
  go_wp2
  go_ret2
  exact ⟨rfl, HB.out⟩
end Go.Proofs.YthkhignbmefmjaaGreatDoor
