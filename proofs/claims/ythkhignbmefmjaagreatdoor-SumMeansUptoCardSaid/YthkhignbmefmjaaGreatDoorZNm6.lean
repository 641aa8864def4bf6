/- Walks: the length of a list. Printed by wip/gen/nm6.py. -/
import Derived.Test.YthkhignbmefmjaaGreatDoorZNm4
import Derived.Test.YthkhignbmefmjaaGreatDoorZNm5
import Derived.Test.YthkhignbmefmjaaGreatDoorID
import Derived.Test.YthkhignbmefmjaaGreatDoorZNe3
import Derived.Test.YthkhignbmefmjaaGreatDoorGR
namespace Go.Proofs.YthkhignbmefmjaaGreatDoor
open Go.RowKit
theorem FSl.two (w : World) (a b t : Nat) (ha : a < 18446744073709551616) (hb : b < 18446744073709551616) : FSl (w.alloc (.cells #[.float .f64 a, .float .f64 b] t)) (.slice (some ⟨w.heap.size, 0, none⟩) 2 2) [a, b] := by
 refine ⟨_, 2, rfl, Nat.le_refl _, by simp, fun x hx => ?_, fun _ => ⟨w.heap.size, 0, rfl, by simp, fun i hi => ?_⟩⟩
 ·simp only [List.mem_cons, List.not_mem_nil, or_false] at hx
  rcases hx with rfl | rfl
  ·exact ha
  ·exact hb
 ·rw [Nat.zero_add, World.cell?_alloc_new]
  have : i = 0 ∨ i = 1 := by simp at hi; omega
  rcases this with rfl | rfl <;> rfl
def NrmK (l : List Nat) (s : Nat) : Prop := ∀ k (h : k < l.length), ∃ y p, F6.div l[k] s = some y ∧ F6.mul y y = some p ∧ F6.add (nrT s l k) p = some (nrT s l (k + 1))
theorem nrmK_of {s : Nat} {l : List Nat} (hs : W64 s) (fs : finB s = true) (s0 : valZ s ≠ 0) (hl : ∀ x ∈ l, W64 x) (hf : l.all finB = true) : NrmK l s := fun k h => by
 obtain ⟨a, b, c⟩ := nrT_ok hs fs s0 hl hf k (by omega)
 have hm : l[k] ∈ l := List.getElem_mem _
 obtain ⟨y, p, h1, h2, h3, -⟩ := st_ok (hl _ hm) hs (List.all_eq_true.1 hf _ hm) fs s0 a b c
 exact ⟨y, p, h1, h2, by rw [nrT_succ h]; exact h3⟩
theorem FSl.words {w : World} {v : Value} {l : List Nat} (h : FSl w v l) : ∀ x ∈ l, W64 x := by
 obtain ⟨_, _, _, _, _, h, _⟩ := h; exact h
structure NB (w0 W : World) (b p : Nat) (z e : Int) : Prop where
 box : BlkT W b 48 #[.pointer (some ⟨p, 0, none⟩), .int .i64 e]
 num : RInt W p z
 below : Below w0.heap.size w0 W
theorem NB.later {w0 W V : World} {b p : Nat} {z e : Int} (h : NB w0 W b p z e) (hb : Below W.heap.size W V) : NB w0 V b p z e :=
 ⟨h.box.below hb, h.num.below hb, h.below.trans (hb.mono h.below.size)⟩
theorem NB.new {w0 W : World} {p : Nat} {z e : Int} (h : RInt W p z) (hb : Below w0.heap.size w0 W) : NB w0 (W.alloc (.cells #[.pointer (some ⟨p, 0, none⟩), .int .i64 e] 48)) W.heap.size p z e :=
 ⟨BlkT.new W _ _, h.below (below1 _ _), hb.trans ((below1 _ _).mono hb.size)⟩
set_option maxRecDepth 100000 in
set_option maxHeartbeats 3200000 in
theorem sNorm_any (v : Value) (l : List Nat) (w : World) (hl : FSl w v l) :
  Calls Tryz.prog 7 #[v] w (Gives (.tuple #[.float .f64 (nrmB l).1, .int .i64 (nrmB l).2]) w) := by
 have HL := Lib.hid hl
 have HFI := Lib.hid fun W (h : FSl W v l) => Finite_any v l W h
 have HAB := Lib.hid fun x W (h : W64 x) => abs_any x W h
 have HMX := Lib.hid fun x y W (h1 : x < kInf) (h2 : y < kInf) => Max_pos W h1 h2 (x := x) (y := y)
 have HXS := Lib.hid fun (hf : l.all finB = true) k (h : k < l.length) => And.intro (nrX_lt hf k (Nat.le_of_lt h)) (And.intro (fin_amount (List.all_eq_true.1 hf _ (List.getElem_mem h))) (nrX_succ h))
 have HXL := Lib.hid fun (hf : l.all finB = true) => nrX_lt hf l.length (Nat.le_refl _)
 have HE : Hid (nrmB l = if 4096 < l.length then (0, 2) else if l.all finB = false then (0, 4) else if nrX l l.length = 0 then (0, 0) else if finB (nrmR l) then (nrmR l, 0) else (0, 5)) := Lib.hid rfl
 have HER : Hid (nrmR l = nrR (rndX 1 (topE (nrX l l.length)) 0) (nrT (rndX 1 (topE (nrX l l.length)) 0) l l.length)) := Lib.hid rfl
 have HW := Lib.hid hl.words
 have hl2 := hl
 obtain ⟨ao, cap, rfl, hcap, hn, hx, hc⟩ := hl2
 have HC := Lib.hid hc
 clear hx hc hl
 generalize nrmB l = R at *
 generalize nrmR l = RR at *
 by_cases h1 : 4096 < l.length
 ·obtain rfl : R = (0, 2) := by rw [HE.out, if_pos h1]
  have hci : decide ((4096 : Int) < (l.length : Int)) = true := by simp; omega
  go_enter Tryz.func7, Tryz.ntmps7
  go_wp2
  go_ret2
  exact ⟨rfl, Below.refl _ _⟩
 have hci : decide ((4096 : Int) < (l.length : Int)) = false := by simp; omega
 rw [if_neg h1] at HE
 clear h1
 go_enter Tryz.func7, Tryz.ntmps7
 go_wp2_with fail
 refine (HFI.out _ HL.out).mono ?_
 rintro e1 w1 ⟨rfl, hb1⟩
 have HB := Lib.hid hb1
 clear hb1 HFI
 cases hf : l.all finB
 ·obtain rfl : R = (0, 4) := by rw [HE.out, if_pos hf]
  go_wp2
  go_ret2
  exact ⟨rfl, HB.out⟩
 rw [if_neg (by rw [hf]; decide)] at HE
 have HF := Lib.hid hf
 replace HXS := Lib.hid fun k h => HXS.out hf k h
 replace HXL := Lib.hid (HXL.out hf)
 clear hf
 go_wp2
 go_loopw [4, 25] (fun m i wr => ∃ k : Nat, k ≤ l.length ∧ i = .int .i64 k ∧ m = .float .f64 (nrX l k) ∧ Hid (Below w.heap.size w wr)) (fun _ i _ => l.length - (intOf i).toNat)
 case atStart => exact ⟨0, Nat.zero_le _, rfl, rfl, HB⟩
 case round =>
  clear HB
  obtain ⟨k, hk, rfl, rfl, HB⟩ := hrel
  by_cases hlt : k < l.length
  ·obtain ⟨b, off, rfl, hb, hcc⟩ := HC.out (by omega)
   have hck := (HB.out.cell (p := ⟨b, off + k, none⟩) hb).trans (hcc k hlt)
   have HXK := Lib.hid (HW.out _ (List.getElem_mem hlt))
   have HNK := Lib.hid (HXS.out k hlt)
   clear hcc
   generalize l[k] = x at *
   generalize hm2 : nrX l (k + 1) = m2 at *
   have HM2 := Lib.hid hm2
   clear hm2
   generalize nrX l k = m at *
   go_wp2_with fail
   refine (HAB.out x _ HXK.out).mono ?_
   rintro e2 w2 ⟨rfl, hb2⟩
   replace HB := Lib.hid (HB.out.trans (hb2.mono HB.out.size))
   clear hb2
   go_wp2_with fail
   refine (HMX.out m (x % kSign) _ HNK.out.1 HNK.out.2.1).mono ?_
   rintro e3 w3 ⟨rfl, hb3⟩
   replace HB := Lib.hid (HB.out.trans (hb3.mono HB.out.size))
   clear hb3
   rw [← HNK.out.2.2]
   go_wp2
   go_roundw
   case rel => exact ⟨k + 1, by omega, by go_num, by rw [HM2.out], HB⟩
   case measure => simp [intOf]; omega
  obtain rfl : k = l.length := by omega
  have hm : nrX l l.length < kInf := HXL.out
  obtain ⟨p1, p2, p3, p4, p5⟩ := pos_of hm
  have t1 := eq_test p1 (by decide : W64 0) p3 (by decide)
  rw [p4, show ky 0 = 0 by decide] at t1
  by_cases h0 : nrX l l.length = 0
  ·obtain rfl : R = (0, 0) := by rw [HE.out, if_pos h0]
   rw [decide_eq_true (by omega)] at t1
   go_wp2
   go_ret2
   exact ⟨rfl, HB.out⟩
  rw [decide_eq_false (by omega)] at t1
  rw [if_neg h0, HER.out] at HE
  obtain ⟨c1, c2⟩ := topE_bd h0 hm
  obtain ⟨ws, fs, sp⟩ := pow_fl c1 c2
  have hv : valZ (rndX 1 (topE (nrX l l.length)) 0) ≠ 0 := (mant_ne ws fs (by omega)).1
  have HK := Lib.hid (nrmK_of ws fs hv HW.out HF.out)
  obtain ⟨n1, n2, n3⟩ := nrT_ok ws fs hv HW.out HF.out l.length (Nat.le_refl _)
  obtain ⟨q, r1, r2, r3, r4, r5⟩ := nrR_ok ws fs sp n1 n2 n3
  have HFR := Lib.hid fun W => Frexp_pos (m := nrX l l.length) W h0 hm
  have HLD := Lib.hid fun W => Ldexp_pow (k := topE (nrX l l.length)) W c1 c2
  have hw1 : IntKind.i64.wrap (topE (nrX l l.length)) = topE (nrX l l.length) := IntWalk.i64_in _ (by omega)
  have hw2 : wrap64 (topE (nrX l l.length)) = topE (nrX l l.length) := IntWalk.wrap64_in _ ⟨by omega, by omega⟩
  generalize nrX l l.length = mx at *
  generalize topE mx = T at *
  generalize rndX 1 T 0 = s at *
  have HN := Lib.hid (And.intro n1 r3)
  have HR5 := Lib.hid r5
  have HSQ := Lib.hid fun W => sqrt_any _ q r1 W
  have HR2 := Lib.hid r2
  clear p1 p2 p3 p4 p5 hm h0 ws fs sp hv n1 n2 n3 r1 r2 r3 r4 r5 c1 c2 HF HXS HXL HMX HAB HER
  generalize nrR s (nrT s l l.length) = r at *
  go_wp2_with fail
  refine (HFR.out _).mono ?_
  rintro e4 w4 ⟨fr, rfl, hb4⟩
  replace HB := Lib.hid (HB.out.trans (hb4.mono HB.out.size))
  clear hb4
  go_wp2_with fail
  refine (HLD.out _).mono ?_
  rintro e5 w5 ⟨rfl, hb5⟩
  replace HB := Lib.hid (HB.out.trans (hb5.mono HB.out.size))
  clear hb5
  go_wp2
  go_loopw [10, 46] (fun t i wr => ∃ k : Nat, k ≤ l.length ∧ i = .int .i64 k ∧ t = .float .f64 (nrT s l k) ∧ Hid (Below w.heap.size w wr)) (fun _ i _ => l.length - (intOf i).toNat)
  case atStart => exact ⟨0, Nat.zero_le _, rfl, rfl, HB⟩
  case round =>
   clear HB
   obtain ⟨k, hk, rfl, rfl, HB⟩ := hrel
   by_cases hlt : k < l.length
   ·obtain ⟨b, off, rfl, hb, hcc⟩ := HC.out (by omega)
    have hck := (HB.out.cell (p := ⟨b, off + k, none⟩) hb).trans (hcc k hlt)
    obtain ⟨y, p, d1, d2, d3⟩ := HK.out k hlt
    clear hcc
    generalize l[k] = x at *
    generalize ht2 : nrT s l (k + 1) = t2 at *
    have HT2 := Lib.hid ht2
    clear ht2
    generalize nrT s l k = t at *
    have hd : ∀ t w, (binOp .quo t (.float .f64 x) (.float .f64 s)).run Tryz.prog w = .ok (.float .f64 y) w := fun t w => run_float_arith w .quo t .f64 _ _ _ d1
    have hm : ∀ t w, (binOp .mul t (.float .f64 y) (.float .f64 y)).run Tryz.prog w = .ok (.float .f64 p) w := fun t w => run_float_arith w .mul t .f64 _ _ _ d2
    have ha : ∀ v w, (binOp .add v (.float .f64 t) (.float .f64 p)).run Tryz.prog w = .ok (.float .f64 t2) w := fun v w => run_float_arith w .add v .f64 _ _ _ d3
    clear d1 d2 d3
    go_wp2
    go_roundw
    case rel => exact ⟨k + 1, by omega, by go_num, by rw [HT2.out], HB⟩
    case measure => simp [intOf]; omega
   obtain rfl : k = l.length := by omega
   have hmm : ∀ t w, (binOp .mul t (.float .f64 q) (.float .f64 s)).run Tryz.prog w = .ok (.float .f64 r) w := fun t w => run_float_arith w .mul t .f64 _ _ _ HR2.out
   generalize nrT s l l.length = t at *
   go_wp2_with fail
   refine (HSQ.out _).mono ?_
   rintro e7 w7 ⟨rfl, hb7⟩
   replace HB := Lib.hid (HB.out.trans (hb7.mono HB.out.size))
   clear hb7
   have HS2 := Lib.hid (FSl.two w7 t r 25 HN.out.1 HN.out.2)
   replace HB := Lib.hid (HB.out.trans ((Below.alloc_self w7 (.cells #[.float .f64 t, .float .f64 r] 25)).mono HB.out.size))
   go_wp2_with fail
   refine (Finite_any _ _ _ HS2.out).mono ?_
   rintro e8 w8 ⟨rfl, hb8⟩
   replace HB := Lib.hid (HB.out.trans (hb8.mono HB.out.size))
   clear hb8 HS2
   rw [show [t, r].all finB = (finB t && finB r) by simp, HR5.out]
   cases hfr : finB r
   ·obtain rfl : R = (0, 5) := by rw [HE.out, if_neg (by rw [hfr]; decide)]
    go_wp2
    go_ret2
    exact ⟨rfl, HB.out⟩
   ·obtain rfl : R = (r, 0) := by rw [HE.out, if_pos hfr]
    go_wp2
    go_ret2
    exact ⟨rfl, HB.out⟩
set_option maxRecDepth 100000 in
set_option maxHeartbeats 3200000 in
theorem rNorm_any (v : Value) (l : List Nat) (w : World) (hl : FSl w v l) (hT : Tab32 w) (hTs : 2 < w.heap.size) :
  Calls Tryz.prog 8 #[v] w (Gives (.tuple #[.float .f64 (nrmB l).1, .int .i64 (nrmB l).2]) w) := by
 have HL := Lib.hid hl
 have HTB : Hid (∀ W, Below w.heap.size w W → Tab32 W ∧ 2 < W.heap.size) := Lib.hid fun W hb => ⟨hT.below hTs hb, Nat.lt_of_lt_of_le hTs hb.size⟩
 clear hT hTs
 have HFI := Lib.hid fun W (h : FSl W v l) => rAllFinite_any v l W h
 have HAB := Lib.hid fun x W (h : W64 x) => abs_any x W h
 have HMX := Lib.hid fun x y W (h1 : x < kInf) (h2 : y < kInf) => Max_pos W h1 h2 (x := x) (y := y)
 have HXS := Lib.hid fun (hf : l.all finB = true) k (h : k < l.length) => And.intro (nrX_lt hf k (Nat.le_of_lt h)) (And.intro (fin_amount (List.all_eq_true.1 hf _ (List.getElem_mem h))) (nrX_succ h))
 have HXL := Lib.hid fun (hf : l.all finB = true) => nrX_lt hf l.length (Nat.le_refl _)
 have HE : Hid (nrmB l = if 4096 < l.length then (0, 2) else if l.all finB = false then (0, 4) else if nrX l l.length = 0 then (0, 0) else if finB (nrmR l) then (nrmR l, 0) else (0, 5)) := Lib.hid rfl
 have HER : Hid (nrmR l = nrR (rndX 1 (topE (nrX l l.length)) 0) (nrT (rndX 1 (topE (nrX l l.length)) 0) l l.length)) := Lib.hid rfl
 have HW := Lib.hid hl.words
 have hl2 := hl
 obtain ⟨ao, cap, rfl, hcap, hn, hx, hc⟩ := hl2
 have HC := Lib.hid hc
 clear hx hc hl
 generalize nrmB l = R at *
 generalize nrmR l = RR at *
 by_cases h1 : 4096 < l.length
 ·obtain rfl : R = (0, 2) := by rw [HE.out, if_pos h1]
  have hci : decide ((4096 : Int) < (l.length : Int)) = true := by simp; omega
  go_enter Tryz.func8, Tryz.ntmps8
  go_wp2
  go_ret2
  exact ⟨rfl, Below.refl _ _⟩
 have hci : decide ((4096 : Int) < (l.length : Int)) = false := by simp; omega
 rw [if_neg h1] at HE
 clear h1
 go_enter Tryz.func8, Tryz.ntmps8
 go_wp2_with fail
 refine (HFI.out _ HL.out).mono ?_
 rintro e1 w1 ⟨rfl, hb1⟩
 have HB := Lib.hid hb1
 clear hb1 HFI
 cases hf : l.all finB
 ·obtain rfl : R = (0, 4) := by rw [HE.out, if_pos hf]
  go_wp2
  go_ret2
  exact ⟨rfl, HB.out⟩
 rw [if_neg (by rw [hf]; decide)] at HE
 have HF := Lib.hid hf
 replace HXS := Lib.hid fun k h => HXS.out hf k h
 replace HXL := Lib.hid (HXL.out hf)
 clear hf
 go_wp2
 go_loopw [4, 22] (fun m i wr => ∃ k : Nat, k ≤ l.length ∧ i = .int .i64 k ∧ m = .float .f64 (nrX l k) ∧ Hid (Below w.heap.size w wr)) (fun _ i _ => l.length - (intOf i).toNat)
 case atStart => exact ⟨0, Nat.zero_le _, rfl, rfl, HB⟩
 case round =>
  clear HB
  obtain ⟨k, hk, rfl, rfl, HB⟩ := hrel
  by_cases hlt : k < l.length
  ·obtain ⟨b, off, rfl, hb, hcc⟩ := HC.out (by omega)
   have hck := (HB.out.cell (p := ⟨b, off + k, none⟩) hb).trans (hcc k hlt)
   have HXK := Lib.hid (HW.out _ (List.getElem_mem hlt))
   have HNK := Lib.hid (HXS.out k hlt)
   clear hcc
   generalize l[k] = x at *
   generalize hm2 : nrX l (k + 1) = m2 at *
   have HM2 := Lib.hid hm2
   clear hm2
   generalize nrX l k = m at *
   go_wp2_with fail
   refine (HAB.out x _ HXK.out).mono ?_
   rintro e2 w2 ⟨rfl, hb2⟩
   replace HB := Lib.hid (HB.out.trans (hb2.mono HB.out.size))
   clear hb2
   go_wp2_with fail
   refine (HMX.out m (x % kSign) _ HNK.out.1 HNK.out.2.1).mono ?_
   rintro e3 w3 ⟨rfl, hb3⟩
   replace HB := Lib.hid (HB.out.trans (hb3.mono HB.out.size))
   clear hb3
   rw [← HNK.out.2.2]
   go_wp2
   go_roundw
   case rel => exact ⟨k + 1, by omega, by go_num, by rw [HM2.out], HB⟩
   case measure => simp [intOf]; omega
  obtain rfl : k = l.length := by omega
  have hm : nrX l l.length < kInf := HXL.out
  obtain ⟨p1, p2, p3, p4, p5⟩ := pos_of hm
  have t1 := eq_test p1 (by decide : W64 0) p3 (by decide)
  rw [p4, show ky 0 = 0 by decide] at t1
  by_cases h0 : nrX l l.length = 0
  ·obtain rfl : R = (0, 0) := by rw [HE.out, if_pos h0]
   rw [decide_eq_true (by omega)] at t1
   go_wp2
   go_ret2
   exact ⟨rfl, HB.out⟩
  rw [decide_eq_false (by omega)] at t1
  rw [if_neg h0, HER.out] at HE
  obtain ⟨c1, c2⟩ := topE_bd h0 hm
  obtain ⟨ws, fs, sp⟩ := pow_fl c1 c2
  have hv : valZ (rndX 1 (topE (nrX l l.length)) 0) ≠ 0 := (mant_ne ws fs (by omega)).1
  have HK := Lib.hid (nrmK_of ws fs hv HW.out HF.out)
  obtain ⟨n1, n2, n3⟩ := nrT_ok ws fs hv HW.out HF.out l.length (Nat.le_refl _)
  obtain ⟨q, r1, r2, r3, r4, r5⟩ := nrR_ok ws fs sp n1 n2 n3
  have HOF := Lib.hid fun W => rOf_any (nrX l l.length) W p1 (fin_of_lt hm)
  have hp := top_parts h0 hm
  have hpe := pE_bd (fin_of_lt hm)
  have hvb : bl (valZ (nrX l l.length)).natAbs ≤ 53 := val_bl
  have HRD := Lib.hid fun b W (h : RInt W b 1) (h1 : Tab32 W) (h2 : 2 < W.heap.size) => rRound_any b 1 (topE (nrX l l.length)) 0 W h (by decide) (by omega) (by omega) (by decide) (by decide) h1 h2
  obtain ⟨P, hP⟩ : ∃ P, pE (nrX l l.length) = P := ⟨_, rfl⟩
  rw [hP] at hp hpe HOF
  obtain ⟨Z, hZ⟩ : ∃ Z, valZ (nrX l l.length) = Z := ⟨_, rfl⟩
  rw [hZ] at hp hvb HOF
  have hw1 : IntKind.i64.wrap (P + (bl Z.natAbs : Int)) = P + (bl Z.natAbs : Int) := IntWalk.i64_in _ (by omega)
  have hw2 : IntKind.i64.wrap (P + (bl Z.natAbs : Int) - 1) = topE (nrX l l.length) := by rw [← hp]; exact IntWalk.i64_in _ (by omega)
  clear hP hZ hp hpe hvb
  generalize nrX l l.length = mx at *
  generalize topE mx = T at *
  generalize rndX 1 T 0 = s at *
  have HN := Lib.hid (And.intro n1 r3)
  have HR5 := Lib.hid r5
  have HSQ := Lib.hid fun W => sqrt_any _ q r1 W
  have HR2 := Lib.hid r2
  clear p1 p2 p3 p4 p5 hm h0 ws fs sp hv n1 n2 n3 r1 r2 r3 r4 r5 c1 c2 HF HXS HXL HMX HAB HER
  generalize nrR s (nrT s l l.length) = r at *
  go_wp2_with fail
  refine (HOF.out _).mono ?_
  rintro e4 w4 ⟨pb, rfl, hpb, hi4, hb4⟩
  replace HB := Lib.hid (HB.out.trans (hb4.mono HB.out.size))
  have HX := Lib.hid (NB.new (e := P) hi4 HB.out)
  clear hpb hi4 hb4 HB t1 hci
  unfold ExV
  obtain ⟨B0, hB0⟩ : ∃ i, w4.heap.size = i := ⟨_, rfl⟩
  go_upto_region 14 with fail
  rw [hB0] at HX
  try rw [hB0]
  generalize w4.alloc _ = W4 at HX ⊢
  clear hB0
  refine wp_region_pl (fun w' : World => w'.cell? ⟨B0, 0, none⟩ = some (.pointer (some ⟨pb, 0, none⟩)) ∧ w'.cell? ⟨B0, 1, none⟩ = some (.int .i64 P)) 8 (.take 0 (.take 1 (.take 2 (.take 3 (.run 4 (.take 5 (.take 6 (.run 7 .nil)))))))) (by kernel_rfl) (by kernel_rfl) ?_
  replace HX := Lib.hid (HX.out.later (drew_below _))
  generalize World.drew _ = W5 at HX ⊢
  repeat (first | (refine tkL (v := ?_) rfl rfl rfl (fun w' hSw => ?_) (And.intro (HX.out.box.cell 0) (HX.out.box.cell 1)) ?_; rotate_left; (focus (go_simp; with_reducible rfl)); simp only [setL]) | (refine skL rfl rfl rfl (And.intro (HX.out.box.cell 0) (HX.out.box.cell 1)) ?_; simp only [setL]))
  refine wpPl_goL rfl rfl fun K' hK => ?_
  go_simp
  refine (rBitLen_any pb 0 Z _ HX.out.num).mono ?_
  rintro e1 W5v1 ⟨rfl, hb1⟩
  replace HX := Lib.hid (HX.out.later hb1)
  try rw [hw1]
  try rw [hw2]
  refine hK _ _ (And.intro (HX.out.box.cell 0) (HX.out.box.cell 1)) ?_
  clear hK K' hb1
  try simp only [Act.put, setL]
  repeat (first | (refine tkL (v := ?_) rfl rfl rfl (fun w' hSw => ?_) (And.intro (HX.out.box.cell 0) (HX.out.box.cell 1)) ?_; rotate_left; (focus (go_simp; with_reducible rfl)); simp only [setL]) | (refine skL rfl rfl rfl (And.intro (HX.out.box.cell 0) (HX.out.box.cell 1)) ?_; simp only [setL]))
  refine wpPl_goL rfl rfl fun K' hK => ?_
  go_simp
  refine (rPower_any T _).mono ?_
  rintro e1 W5v2 ⟨b2, rfl, hq2, hi2, hb1⟩
  replace HX := Lib.hid (HX.out.later hb1)
  have HI2 := Lib.hid hi2
  clear hi2 hq2
  refine hK _ _ (And.intro (HX.out.box.cell 0) (HX.out.box.cell 1)) ?_
  clear hK K' hb1
  try simp only [Act.put, setL]
  repeat (first | (refine tkL (v := ?_) rfl rfl rfl (fun w' hSw => ?_) (And.intro (HX.out.box.cell 0) (HX.out.box.cell 1)) ?_; rotate_left; (focus (go_simp; with_reducible rfl)); simp only [setL]) | (refine skL rfl rfl rfl (And.intro (HX.out.box.cell 0) (HX.out.box.cell 1)) ?_; simp only [setL]))
  refine wpPl_nil ?_
  simp only [drL]
  have HB := Lib.hid HX.out.below
  clear HX
  unfold ExV
  have HRD2 := Lib.hid (HRD.out b2 _ HI2.out (HTB.out _ HB.out).1 (HTB.out _ HB.out).2)
  unfold ExV at HRD2
  go_wp2_with fail
  refine (HRD2.out).mono ?_
  rintro e6 w6 ⟨rfl, hb6⟩
  replace HB := Lib.hid (HB.out.trans (hb6.mono HB.out.size))
  clear hb6
  clear HRD2 HI2 HRD HTB HOF
  go_wp2
  go_loopw [9, 46] (fun t i wr => ∃ k : Nat, k ≤ l.length ∧ i = .int .i64 k ∧ t = .float .f64 (nrT s l k) ∧ Hid (Below w.heap.size w wr)) (fun _ i _ => l.length - (intOf i).toNat)
  case atStart => exact ⟨0, Nat.zero_le _, rfl, rfl, HB⟩
  case round =>
   clear HB
   obtain ⟨k, hk, rfl, rfl, HB⟩ := hrel
   by_cases hlt : k < l.length
   ·obtain ⟨b, off, rfl, hb, hcc⟩ := HC.out (by omega)
    have hck := (HB.out.cell (p := ⟨b, off + k, none⟩) hb).trans (hcc k hlt)
    obtain ⟨y, p, d1, d2, d3⟩ := HK.out k hlt
    clear hcc
    generalize l[k] = x at *
    generalize ht2 : nrT s l (k + 1) = t2 at *
    have HT2 := Lib.hid ht2
    clear ht2
    generalize nrT s l k = t at *
    have hd : ∀ t w, (binOp .quo t (.float .f64 x) (.float .f64 s)).run Tryz.prog w = .ok (.float .f64 y) w := fun t w => run_float_arith w .quo t .f64 _ _ _ d1
    have hm : ∀ t w, (binOp .mul t (.float .f64 y) (.float .f64 y)).run Tryz.prog w = .ok (.float .f64 p) w := fun t w => run_float_arith w .mul t .f64 _ _ _ d2
    have ha : ∀ v w, (binOp .add v (.float .f64 t) (.float .f64 p)).run Tryz.prog w = .ok (.float .f64 t2) w := fun v w => run_float_arith w .add v .f64 _ _ _ d3
    clear d1 d2 d3
    go_wp2
    go_roundw
    case rel => exact ⟨k + 1, by omega, by go_num, by rw [HT2.out], HB⟩
    case measure => simp [intOf]; omega
   obtain rfl : k = l.length := by omega
   have hmm : ∀ t w, (binOp .mul t (.float .f64 q) (.float .f64 s)).run Tryz.prog w = .ok (.float .f64 r) w := fun t w => run_float_arith w .mul t .f64 _ _ _ HR2.out
   generalize nrT s l l.length = t at *
   go_wp2_with fail
   refine (HSQ.out _).mono ?_
   rintro e7 w7 ⟨rfl, hb7⟩
   replace HB := Lib.hid (HB.out.trans (hb7.mono HB.out.size))
   clear hb7
   go_wp2_with fail
   refine (rFinite_any r _ HN.out.2).mono ?_
   rintro e8 w8 ⟨rfl, hb8⟩
   replace HB := Lib.hid (HB.out.trans (hb8.mono HB.out.size))
   clear hb8
   cases hfr : finB r
   ·obtain rfl : R = (0, 5) := by rw [HE.out, if_neg (by rw [hfr]; decide)]
    go_wp2
    go_ret2
    exact ⟨rfl, HB.out⟩
   ·obtain rfl : R = (r, 0) := by rw [HE.out, if_pos hfr]
    go_wp2
    go_ret2
    exact ⟨rfl, HB.out⟩
end Go.Proofs.YthkhignbmefmjaaGreatDoor
