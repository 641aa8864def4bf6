/- Walks: dyads that may be; what is done with two of them. -/
import Derived.Test.YthkhignbmefmjaaGreatDoorGI
import Derived.Test.YthkhignbmefmjaaGreatDoorGG
namespace Go.Proofs.YthkhignbmefmjaaGreatDoor
section
open Go.RowKit
theorem put_any (b : Nat) (z e : Int) (w : World) (hx : IntAt w b 0 z) (hl : bl z.natAbs ≤ 68719476736) (h1 : -4611686018427387904 ≤ e) (h2 : e ≤ 1099511627776) (hT : Tab64 w) (hTs : 1 < w.heap.size) (hg : z = 0 ∨ lngB z e = false) :
  Calls Tryz.prog 41 #[ExV b e] w (DyNew (hvZ z) (nrE z e) w) := by
 by_cases h0 : z = 0
 ·have := put_zero b z e w hx hl h1 h2 hT hTs h0
  subst h0
  rw [hvZ_zero, show nrE 0 e = 0 from rfl]; exact this
 ·have hn : nrE z e = hvE z e := by unfold nrE; rw [if_neg h0]
  rw [hn]
  refine put_ok b z e w hx hl h1 h2 hT hTs (Lib.hid (hvZ_ne h0)) (Lib.hid ?_)
  have := hg.resolve_left h0
  unfold lngB at this
  simp only [Bool.or_eq_false_iff, decide_eq_false_iff_not] at this
  omega
def GoodD (z e : Int) : Prop := Nrm z e ∧ bl z.natAbs ≤ 65536 ∧ -100000 ≤ e ∧ e ≤ 100000
def DyAt (w : World) (v : Value) (z e : Int) : Prop := ∃ sl, v = DyV (decide (z < 0)) sl e ∧ Raw .u32 32 w sl (ln 32 z.natAbs) z.natAbs
theorem DyAt.below {w w' : World} {v : Value} {z e : Int} (h : DyAt w v z e) (hb : Below w.heap.size w w') : DyAt w' v z e := by
 obtain ⟨sl, h1, h2⟩ := h; exact ⟨sl, h1, h2.below hb⟩
theorem DyAt.zero (w : World) : DyAt w (DyV false (.slice none 0 0) 0) 0 0 := ⟨_, rfl, by rw [show (0 : Int).natAbs = 0 from rfl, ln_zero]; exact Raw.nil _ _ _⟩
theorem dg_zero_mod (N : Nat) : dg 32 N 0 % 2 = N % 2 := by unfold dg; simp
set_option maxRecDepth 100000 in
set_option maxHeartbeats 800000 in
theorem may_true (v : Value) (z e : Int) (w : World) (hv : DyAt w v z e) (hg : GoodD z e) :
  Calls Tryz.prog 52 #[v] w (Gives (.bool true) w) := by
 obtain ⟨sl, rfl, hr⟩ := hv
 obtain ⟨hn, hbl, he1, he2⟩ := hg
 obtain ⟨ao, cap, rfl, hcap, hN, -, hc⟩ := hr
 unfold DyV
 rcases hn with ⟨rfl, rfl⟩ | hodd
 ·have e0 : ln 32 (0 : Int).natAbs = 0 := ln_zero 32
  have e1 : decide ((0 : Int) < 0) = false := rfl
  rw [e0, e1]
  clear hcap hN hc hbl e0 e1
  go_enter Tryz.func52, Tryz.ntmps52
  go_wp2
  go_ret
  exact ⟨rfl, Below.alloc_self _ _⟩
 ·have hl0 : 0 < ln 32 z.natAbs := (ln_pos_iff (by decide)).2 (by omega)
  have hl1 : ln 32 z.natAbs ≤ 2048 := by
   unfold ln; omega
  obtain ⟨b, off, rfl, hb, -, hcc⟩ := hc hl0
  have c1 := hcc (ln 32 z.natAbs - 1) (by omega)
  have c0 := hcc 0 hl0
  rw [Nat.add_zero] at c0
  clear hcc
  have ht := dg_top (s := 32) (N := z.natAbs) (by decide) (by omega)
  have hz := dg_zero_mod z.natAbs
  generalize dg 32 z.natAbs (ln 32 z.natAbs - 1) = dt at *
  generalize dg 32 z.natAbs 0 = d0 at *
  generalize ln 32 z.natAbs = n at *
  have hdt : ((dt : Int) != 0) = true := by simp; omega
  have hd0 : ((d0 : Int) % 2 == 1) = true := by simp; omega
  have hn0 : ((n : Int) == 0) = false := by simp; omega
  generalize decide (z < 0) = neg at *
  clear hc hN hodd hbl ht hz
  go_enter Tryz.func52, Tryz.ntmps52
  go_wp2
  go_ret
  exact ⟨rfl, Below.alloc_self _ _⟩
theorem OwnS.setOther {w : World} {B t r i : Nat} {v : Value} (h : OwnS w B t v) (hr : r < B) (x : Value) : OwnS (w.setCell ⟨r, i, none⟩ x) B t v := by
 obtain ⟨ao, n, cap, h1, h2⟩ := h
 refine ⟨ao, n, cap, h1, fun a ha => ?_⟩
 obtain ⟨b, cs, h3, h4, h5⟩ := h2 a ha
 exact ⟨b, cs, h3, h4, (Below.heap_setCell _ _ _ _ (show b ≠ r by omega)).trans h5⟩
theorem OwnS.mono {w : World} {B C t : Nat} {v : Value} (h : OwnS w B t v) (hc : C ≤ B) : OwnS w C t v := by
 obtain ⟨ao, n, cap, h1, h2⟩ := h
 refine ⟨ao, n, cap, h1, fun a ha => ?_⟩
 obtain ⟨b, cs, h3, h4, h5⟩ := h2 a ha
 exact ⟨b, cs, h3, by omega, h5⟩
theorem dy_store {w W w' : World} {r n N t : Nat} {cs : Array Value} {sl : Value} (hw : Below w.heap.size w W) (hr : Raw .u32 32 w' sl n N) (ho : OwnS w' W.heap.size 76 sl) (hb : Below W.heap.size W w')
  (hres : BlkT w' r t cs) (hT : ObjT t) (hlt : r < W.heap.size) (hge : w.heap.size ≤ r) (x0 x1 x2 : Value) :
  Raw .u32 32 (((w'.setCell ⟨r, 0, none⟩ x0).setCell ⟨r, 1, none⟩ x1).setCell ⟨r, 2, none⟩ x2) sl n N ∧
   OwnS (((w'.setCell ⟨r, 0, none⟩ x0).setCell ⟨r, 1, none⟩ x1).setCell ⟨r, 2, none⟩ x2) w.heap.size 76 sl ∧
   Below w.heap.size w (((w'.setCell ⟨r, 0, none⟩ x0).setCell ⟨r, 1, none⟩ x1).setCell ⟨r, 2, none⟩ x2) :=
 ⟨((hr.setOther hres hT _).setOther (hres.set _) hT _).setOther ((hres.set _).set _) hT _,
  (((ho.setOther hlt _).setOther hlt _).setOther hlt _).mono hw.size,
  (((hw.trans (hb.mono hw.size)).setCell hge _).setCell hge _).setCell hge _⟩
end
section
open Go.RowKit
theorem good_zero : GoodD 0 0 := ⟨.inl ⟨rfl, rfl⟩, by decide, by decide, by decide⟩
end
section
open Go.RowKit
theorem fbits_eq (n : Nat) (w : World) : (callFunc 38 #[.float .f64 n]).run Tryz.prog w = .ok (.value (.int .u64 n)) w := by
 rw [run_callFunc_extern Tryz.func38 (by kernel_rfl) (by kernel_rfl) (by kernel_rfl) (e := Extern.MathFloatBits.float64bits) (by kernel_rfl)]
 rfl
theorem ffrom_eq (n : Nat) (w : World) : (callFunc 11 #[.int .u64 n]).run Tryz.prog w = .ok (.value (.float .f64 n)) w := by
 rw [run_callFunc_extern Tryz.func11 (by kernel_rfl) (by kernel_rfl) (by kernel_rfl) (e := Extern.MathFloatBits.float64frombits) (by kernel_rfl)]
 rfl
set_option maxRecDepth 100000 in
set_option maxHeartbeats 400000 in
theorem Class_any (b : Nat) (w : World) (h : b < 18446744073709551616) :
  Calls Tryz.prog 36 #[.float .f64 b] w (Gives (.int .i64 (clsB b)) w) := by
 have hf := fbits_eq b
 have HC := Lib.hid fun w => class_any b w h
 have HO := Lib.hid fun w => of_any w
 unfold F64 at HC HO
 clear h
 go_enter Tryz.func36, Tryz.ntmps36
 go_wp2_with fail
 refine (HO.out _).mono ?_
 rintro e1 w1 ⟨rfl, hb1⟩
 have HB1 := Lib.hid hb1
 clear hb1
 go_wp2_with fail
 refine (HC.out _).mono ?_
 rintro e2 w2 ⟨rfl, hb2⟩
 have HB2 := Lib.hid (HB1.out.trans (hb2.mono HB1.out.size))
 clear hb2
 go_wp2
 go_ret
 exact ⟨rfl, HB2.out⟩
def finB (b : Nat) : Bool := decide (expF b ≠ 2047)
theorem cls_fin (b : Nat) : (finB b = true → (clsB b == 1) = false ∧ (clsB b == 2) = false) ∧ (finB b = false → (clsB b == 1) = true ∨ ((clsB b == 1) = false ∧ (clsB b == 2) = true)) := by
 have key : expF (canonB b) = 2047 ↔ expF b = 2047 := by
  constructor
  ·intro h; apply Classical.byContradiction; intro h2
   rw [canonB_fin h2] at h; exact h2 h
  ·intro h; apply Classical.byContradiction; intro h2
   exact fin_of_canonB h2 h
 unfold finB
 simp only [decide_eq_true_eq, decide_eq_false_iff_not, Decidable.not_not, beq_eq_false_iff_ne, beq_iff_eq]
 have hh := (clsOf_cases (expF (canonB b)) (fracF (canonB b))).2.2.2.2
 unfold clsB
 rw [key] at hh
 constructor
 ·intro h
  exact ⟨fun e => h (hh.2 (.inl e)), fun e => h (hh.2 (.inr e))⟩
 ·intro h
  rcases hh.1 h with e | e
  ·exact .inl e
  ·exact .inr ⟨by rw [e]; decide, e⟩
def FSl (w : World) (v : Value) (l : List Nat) : Prop :=
 ∃ ao cap, v = .slice ao l.length cap ∧ l.length ≤ cap ∧ l.length ≤ 1099511627776 ∧ (∀ x ∈ l, x < 18446744073709551616) ∧
  (0 < l.length → ∃ b off, ao = some ⟨b, off, none⟩ ∧ b < w.heap.size ∧ ∀ i (h : i < l.length), w.cell? ⟨b, off + i, none⟩ = some (.float .f64 l[i]))
theorem FSl.below {w w' : World} {v : Value} {l : List Nat} (h : FSl w v l) (hb : Below w.heap.size w w') : FSl w' v l := by
 obtain ⟨ao, cap, h1, h2, h3, h4, h5⟩ := h
 refine ⟨ao, cap, h1, h2, h3, h4, fun h0 => ?_⟩
 obtain ⟨b, off, e, hlt, hc⟩ := h5 h0
 exact ⟨b, off, e, Nat.lt_of_lt_of_le hlt hb.size, fun i hi => (hb.cell (p := ⟨b, off + i, none⟩) hlt).trans (hc i hi)⟩
theorem all_take_succ {l : List Nat} {k : Nat} (h : k < l.length) (h1 : (l.take k).all finB = true) (h2 : finB l[k] = true) : (l.take (k + 1)).all finB = true := by
 rw [List.take_succ_eq_append_getElem h, List.all_append, h1]; simp [h2]
set_option maxRecDepth 100000 in
set_option maxHeartbeats 800000 in
theorem Finite_any (v : Value) (l : List Nat) (w : World) (hl : FSl w v l) :
  Calls Tryz.prog 12 #[v] w (Gives (.bool (l.all finB)) w) := by
 obtain ⟨ao, cap, rfl, hcap, hn, hx, hc⟩ := hl
 have HC := Lib.hid hc
 have HX := Lib.hid hx
 generalize hv : l.all finB = r
 have HV := Lib.hid hv
 clear hc hx hv
 go_enter Tryz.func12, Tryz.ntmps12
 go_wp2
 go_loopw [8] (fun i wr => ∃ k : Nat, k ≤ l.length ∧ i = .int .i64 k ∧ Hid ((l.take k).all finB = true) ∧ Hid (Below w.heap.size w wr)) (fun i _ => l.length - (intOf i).toNat)
 case atStart => exact ⟨0, Nat.zero_le _, rfl, Lib.hid (by simp), Lib.hid (Below.refl _ _)⟩
 case round =>
  obtain ⟨k, hk, rfl, HA, HB⟩ := hrel
  by_cases hlt : k < l.length
  ·obtain ⟨b, off, rfl, hb, hcc⟩ := HC.out (by omega)
   have hck := (HB.out.cell (p := ⟨b, off + k, none⟩) hb).trans (hcc k hlt)
   have HXk : Hid (l[k] < 18446744073709551616) := Lib.hid (HX.out _ (List.getElem_mem _))
   have HN : Hid (finB l[k] = true → (l.take (k + 1)).all finB = true) := Lib.hid (all_take_succ hlt HA.out)
   have HM : Hid (finB l[k] = false → r = false) := by
    refine Lib.hid fun h => ?_
    rw [← HV.out, List.all_eq_false]
    exact ⟨l[k], List.getElem_mem _, by rw [h]; simp⟩
   clear hcc
   generalize l[k] = x at *
   obtain ⟨f1, f2⟩ := cls_fin x
   generalize hcx : clsB x = cx at *
   have HCX := Lib.hid hcx
   clear hcx
   by_cases hf : finB x = true
   ·obtain ⟨g1, g2⟩ := f1 hf
    have HF := Lib.hid hf
    clear f1 f2 hf
    go_wp2_with fail
    refine (Class_any x _ HXk.out).mono ?_
    rintro e1 w1 ⟨rfl, hb1⟩
    rw [HCX.out]
    have HB1 := Lib.hid (HB.out.trans (hb1.mono HB.out.size))
    clear hb1
    go_wp2
    go_roundw
    case rel => exact ⟨k + 1, by omega, by go_num, Lib.hid (HN.out HF.out), HB1⟩
    case measure => simp [intOf]; omega
   ·have hf2 : finB x = false := by simpa using hf
    have HR := Lib.hid (HM.out hf2)
    have ff := f2 hf2
    clear f1 f2 hf hf2
    rcases ff with g1 | ⟨g1, g2⟩
    ·go_wp2_with fail
     refine (Class_any x _ HXk.out).mono ?_
     rintro e1 w1 ⟨rfl, hb1⟩
     rw [HCX.out]
     have HB1 := Lib.hid (HB.out.trans (hb1.mono HB.out.size))
     clear hb1
     go_wp2
     go_ret
     exact ⟨by rw [HR.out]; rfl, HB1.out⟩
    ·go_wp2_with fail
     refine (Class_any x _ HXk.out).mono ?_
     rintro e1 w1 ⟨rfl, hb1⟩
     rw [HCX.out]
     have HB1 := Lib.hid (HB.out.trans (hb1.mono HB.out.size))
     clear hb1
     go_wp2
     go_ret
     exact ⟨by rw [HR.out]; rfl, HB1.out⟩
  ·obtain rfl : k = l.length := by omega
   have HR : Hid (r = true) := by
    refine Lib.hid ?_
    have := HA.out
    rw [List.take_length] at this
    rw [← HV.out]; exact this
   go_wp2
   go_ret
   exact ⟨by rw [HR.out]; rfl, HB.out⟩
theorem mantB_lt (b : Nat) : mantB b < 9007199254740992 := by
 have : fracF b < kHid := Nat.mod_lt _ (by decide)
 unfold mantB kHid at *; split <;> omega
theorem pM_spec (b : Nat) : (mantB b = 0 ∧ pM b = 0 ∧ pE b = 0) ∨ (mantB b ≠ 0 ∧ pM b % 2 = 1 ∧ mantB b = pM b * 2 ^ Lib.ctz 64 (mantB b) ∧ pE b = expB b + Lib.ctz 64 (mantB b)) := by
 unfold pM pE
 by_cases h : mantB b = 0
 ·refine .inl ⟨h, ?_, ?_⟩
  ·rw [h]; simp
  ·rw [if_pos h]
 ·refine .inr ⟨h, ?_, ?_, by rw [if_neg h]⟩
  all_goals
   have hlt := mantB_lt b
   generalize mantB b = m at *
   obtain ⟨k, h1, h2⟩ := Lib.ctzFrom_spec 64 m (by omega) (by omega)
   have h3 : Lib.ctz 64 m = Lib.ctzFrom 64 m := by unfold Lib.ctz; rw [if_neg h]
   rw [h3]
   generalize Lib.ctzFrom 64 m = t at *
   rw [h1, Nat.mul_div_cancel_left _ (Nat.two_pow_pos t)]
  ·omega
  ·exact Nat.mul_comm _ _
def valZ (b : Nat) : Int := if sgnB b then -(pM b : Int) else pM b
theorem pM_le (b : Nat) : pM b ≤ mantB b := Nat.div_le_self _ _
theorem expB_bd {b : Nat} (h : finB b = true) : -1074 ≤ expB b ∧ expB b ≤ 971 := by
 unfold finB at h
 have h1 : expF b < 2048 := Nat.mod_lt _ (by decide)
 have h2 : expF b ≠ 2047 := of_decide_eq_true h
 unfold expB; split <;> omega
theorem ctz_lt {m : Nat} (h0 : m ≠ 0) (h : m < 9007199254740992) : Lib.ctz 64 m < 53 := by
 obtain ⟨k, h1, h2⟩ := Lib.ctzFrom_spec 64 m (by omega) (by omega)
 have h3 : Lib.ctz 64 m = Lib.ctzFrom 64 m := by unfold Lib.ctz; rw [if_neg h0]
 rw [h3]
 generalize Lib.ctzFrom 64 m = t at *
 have h4 : 2 ^ t ≤ m := by rw [h1]; exact Nat.le_mul_of_pos_right _ (by omega)
 have h5 : 2 ^ t < 2 ^ 53 := Nat.lt_of_le_of_lt h4 h
 exact (Nat.pow_lt_pow_iff_right (by decide)).1 h5
theorem pE_bd {b : Nat} (h : finB b = true) : -1074 ≤ pE b ∧ pE b ≤ 1023 := by
 have h1 := expB_bd h
 rcases pM_spec b with ⟨-, -, h2⟩ | ⟨h0, -, -, h2⟩
 ·rw [h2]; decide
 ·have := ctz_lt h0 (mantB_lt b)
  omega
theorem valZ_natAbs (b : Nat) : (valZ b).natAbs = pM b := by unfold valZ; split <;> omega
theorem canon_fin {b : Nat} (h : finB b = true) : canonB b = b := canonB_fin (of_decide_eq_true h)
theorem parts_fin (b : Nat) (w : World) (h : b < 18446744073709551616) (hf : finB b = true) (hT : Tab64 w) (hTs : 1 < w.heap.size) :
  Calls Tryz.prog 131 #[.int .u64 b, F64] w (Gives (PartsV b) w) := by
 have hc := canon_fin hf
 have h2 : expF b ≠ 2047 := of_decide_eq_true hf
 unfold PartsV pM pE mantB expB
 by_cases he : expF b = 0
 ·by_cases h0 : fracF b = 0
  ·have hcl : clsB b = 3 := by unfold clsB clsOf; rw [hc, if_neg (by omega), if_pos he, if_pos h0]
   have := parts_zero b w h hcl
   rw [hc] at this
   rw [if_pos he, if_pos h0, h0]
   simpa using this
  ·have hcl : clsB b = 4 := by unfold clsB clsOf; rw [hc, if_neg (by omega), if_pos he, if_neg h0]
   have := parts_sub b w h hcl hT hTs
   rw [hc] at this
   rw [if_pos he, if_neg h0, if_pos he]
   exact this
 ·have hcl : clsB b = 5 := by unfold clsB clsOf; rw [hc, if_neg h2, if_neg he]
  have := parts_norm b w h hcl hT hTs
  rw [hc] at this
  rw [if_neg he, if_neg (by unfold kHid; omega), if_neg he]
  exact this
set_option maxRecDepth 100000 in
set_option maxHeartbeats 400000 in
theorem Parts_any (b : Nat) (w : World) (h : b < 18446744073709551616) (hf : finB b = true) (hT : Tab64 w) (hTs : 1 < w.heap.size) :
  Calls Tryz.prog 91 #[.float .f64 b] w (Gives (PartsV b) w) := by
 have hfb := fbits_eq b
 have HC := Lib.hid fun W hW => parts_fin b W h hf hW
 have HO := Lib.hid fun w => of_any w
 unfold F64 PartsV at *
 have HT := Lib.hid (And.intro hT hTs)
 clear h hf hT hTs
 generalize sgnB b = s at *
 generalize pM b = m at *
 generalize pE b = pe at *
 have HW0 := Lib.hid (BlkT.new w #[.bool false, .int .u64 0, .int .i64 0] 90)
 go_enter Tryz.func91, Tryz.ntmps91
 go_wp2_with fail
 refine (HO.out _).mono ?_
 rintro e1 w1 ⟨rfl, hb1⟩
 have HB1 := Lib.hid ((below1 w _).trans (hb1.mono (by simp)))
 have HW1 := Lib.hid (HW0.out.below hb1)
 clear hb1
 go_wp2_with fail
 refine (HC.out _ (HT.out.1.below HT.out.2 HB1.out) (Nat.lt_of_lt_of_le HT.out.2 HB1.out.size)).mono ?_
 rintro e2 w2 ⟨rfl, hb2⟩
 have HB2 := Lib.hid (HB1.out.trans (hb2.mono HB1.out.size))
 have HW2 := Lib.hid (HW1.out.below hb2)
 obtain ⟨q0, q1, q2, q3, q4, q5⟩ := HW2.out.cells3
 clear hb2
 go_wp2
 refine bodyPost_ret (v := .tuple #[.agg #[.bool s, .int .u64 m, .int .i64 pe], .int .i64 0]) (by simp [results, Tryz.results91, go_sem, q0, q1, q2]) rfl ⟨rfl, ?_⟩
 exact ((HB2.out.setCell (Nat.le_refl _) _).setCell (Nat.le_refl _) _).setCell (Nat.le_refl _) _
end
section
open Go.RowKit
set_option maxRecDepth 100000 in
set_option maxHeartbeats 800000 in
theorem dof_any (b : Nat) (w : World) (h : b < 18446744073709551616) (hf : finB b = true) (hT : Tab64 w) (hTs : 1 < w.heap.size) :
  Calls Tryz.prog 40 #[.float .f64 b] w (ExNew (valZ b) (pE b) w) := by
 have HC := Lib.hid fun W hW => Parts_any b W h hf hW
 have HT := Lib.hid (And.intro hT hTs)
 have HM : Hid (pM b < 18446744073709551616 ∧ pM b < 2 ^ 53) := Lib.hid (by have := pM_le b; have := mantB_lt b; omega)
 unfold PartsV at HC
 unfold valZ
 clear h hf hT hTs
 generalize sgnB b = s at *
 generalize pM b = m at *
 generalize pE b = pe at *
 have HV : Hid ((if s then -(m : Int) else m) = if s then -(m : Int) else m) := Lib.hid rfl
 have HW0 := Lib.hid (BlkT.new w #[.pointer none, .int .i64 0] 68)
 have HL : Hid (ln 64 ((m : Int)).natAbs ≤ 68719476736) := Lib.hid (by rw [Int.natAbs_natCast]; exact ln_of_bl (Nat.le_trans (bl_le_of_lt HM.out.2) (by decide)))
 obtain ⟨z, hz⟩ : ∃ z, (if s then -(m : Int) else m) = z := ⟨_, rfl⟩
 rw [hz]
 have HZ := Lib.hid hz
 clear hz HV
 go_enter Tryz.func40, Tryz.ntmps40
 go_wp2_with fail
 refine (HC.out _ (HT.out.1.below HT.out.2 (below1 _ _)) (Nat.lt_of_lt_of_le HT.out.2 (below1 _ _).size)).mono ?_
 rintro e1 w1 ⟨rfl, hb1⟩
 have HB1 := Lib.hid ((below1 w _).trans (hb1.mono (by simp)))
 have HW1 := Lib.hid (HW0.out.below hb1)
 have hlt1 := HW1.out.lt
 clear hb1
 go_wp2_with fail
 have HZ0 := Lib.hid (IntK.zero1 (k := .u64) (s := 64) w1 (.cells #[.bool s, .int .u64 m, .int .i64 pe] 90) _ objT_int)
 refine (SetUint64_any _ 0 m _ HZ0.out.1 HM.out.1).mono ?_
 rintro e2 w2 ⟨rfl, hi2, hm2⟩
 have HB2 : Hid (Below w1.heap.size w1 w2) := Lib.hid (hm2.below (below2 _ _ _) (by omega) (below2 _ _ _).size)
 have HO2 : Hid (Own2 w w2 w.heap.size 68 #[.pointer none, .int .i64 0] (w1.heap.size + 1) (m : Nat)) :=
  Lib.hid ⟨hi2, HW1.out.below HB2.out, objT_exact, HB1.out.trans (HB2.out.mono HB1.out.size), by omega, Nat.le_refl _, by omega⟩
 have HP2 : Hid (BlkT w2 w1.heap.size 90 #[.bool s, .int .u64 m, .int .i64 pe]) := Lib.hid (((BlkT.new w1 _ _).alloc _).mod hm2 (by omega))
 obtain ⟨p0, p1, p2, p3, p4, p5⟩ := HP2.out.cells3
 clear hi2 hm2
 generalize w1.heap.size + 1 = ib at *
 cases s
 ·obtain ⟨r0, r1, r2, r3⟩ := HO2.out.res.cells2
  go_wp2
  refine bodyPost_ret (v := ExV ib pe) (by simp [results, Tryz.results40, go_sem, r0, r1, ExV]) rfl ⟨ib, rfl, HO2.out.ige, ?_, (HO2.out.store2 _ _).2⟩
  have e := HZ.out
  subst e
  exact (HO2.out.store2 _ _).1
 ·have HNe : Hid (ib ≠ w1.heap.size) := Lib.hid (by have h1 := HP2.out.elem; have h2 := HO2.out.int.2.1; intro e; subst e; rw [p0] at h2; simp at h2; omega)
  go_wp2_with fail
  refine (Neg_any ib 0 ib 0 _ _ HO2.out.int.1 HO2.out.int HL.out).mono ?_
  rintro e2 w3 ⟨rfl, hi3, hm3⟩
  have HO3 := Lib.hid (HO2.out.puts hi3 hm3)
  have HP3 := Lib.hid (HP2.out.mod hm3 HNe.out.symm)
  clear p0 p1 p2 p3 p4 p5 hi3 hm3
  obtain ⟨p0, p1, p2, p3, p4, p5⟩ := HP3.out.cells3
  obtain ⟨r0, r1, r2, r3⟩ := HO3.out.res.cells2
  go_wp2
  refine bodyPost_ret (v := ExV ib pe) (by simp [results, Tryz.results40, go_sem, r0, r1, ExV]) rfl ⟨ib, rfl, HO3.out.ige, ?_, (HO3.out.store2 _ _).2⟩
  have e := HZ.out
  subst e
  exact (HO3.out.store2 _ _).1
end
section
open Go.RowKit
theorem wp_append_run {P : Program} {w : World} {o : Oper} {a : Act} {K : Act → World → Prop} {Q : Exit → Act → World → Prop} (s x : Operand) (t : TypeId)
  (ho : o.op = .call { callee := .builtin .append, args := #[s, x], argTypes := #[t, t] }) (v y v' : Value) (w' : World) (hs : a.eval s = v) (hx : a.eval x = y)
  (hrun : (Builtin.append_ #[t, t] o.type #[v, y]).run P w = .ok v' w') (h : K (a.put o.dst v') w') : o.wp P a w K Q := by
 unfold Oper.wp
 simp [execOp, ho, resolve, invoke, builtin, hs, hx, hrun, Result.andThen]
 exact h
end
end Go.Proofs.YthkhignbmefmjaaGreatDoor
