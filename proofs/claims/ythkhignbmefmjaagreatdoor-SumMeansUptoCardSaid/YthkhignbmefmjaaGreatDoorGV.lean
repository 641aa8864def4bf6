/- Floats that may be NaNs: a number, or 'no number' whatever its bits; what an operation does to the world. -/
import Derived.Test.YthkhignbmefmjaaGreatDoorGM
import Derived.Test.YthkhignbmefmjaaGreatDoorGT
import Derived.Test.YthkhignbmefmjaaGreatDoorGR
namespace Go.Proofs.YthkhignbmefmjaaGreatDoor
section
open Go.RowKit
def Rep (o : Option Nat) (v : Nat) : Prop := v < 18446744073709551616 ∧ match o with | some x => v = x | none => nanB v = true
def oA (op : BinOp) (a b : Option Nat) : Option Nat := match a, b with | some x, some y => floatBits op .f64 x y | _, _ => none
def cO (o : Option Nat) : Nat := match o with | some x => canonB x | none => 9221120237041090561
def nzB (u v : Nat) (w : World) : Nat := (Question.nanBits .f64 u v).cut (w.tape w.drawn (Question.nanBits .f64 u v))
def fV (op : BinOp) (u v : Nat) (w : World) : Nat := match floatBits op .f64 u v with | some r => r | none => nzB u v w
def fN (op : BinOp) (u v : Nat) (w : World) : World := match floatBits op .f64 u v with | some _ => w | none => w.drew
theorem fN_below (op : BinOp) (u v : Nat) (w : World) : Below w.heap.size w (fN op u v w) := by
 unfold fN; split
 ·exact Below.refl _ _
 ·exact drew_below w
theorem run_float_any (op : BinOp) (hop : op = .add ∨ op = .sub ∨ op = .mul ∨ op = .quo) (t : TypeId) (u v : Nat) (w : World) :
  (binOp op t (.float .f64 u) (.float .f64 v)).run Tryz.prog w = .ok (.float .f64 (fV op u v w)) (fN op u v w) := by
 cases h : floatBits op .f64 u v with
 | some r =>
  have h1 : fV op u v w = r := by unfold fV; rw [h]
  have h2 : fN op u v w = w := by unfold fN; rw [h]
  rw [h1, h2]; exact run_float_arith w op t .f64 u v r h
 | none =>
  have h1 : fV op u v w = nzB u v w := by unfold fV; rw [h]
  have h2 : fN op u v w = w.drew := by unfold fN; rw [h]
  rw [h1, h2]
  unfold floatBits at h
  rcases hop with rfl | rfl | rfl | rfl <;> simp only at h <;> simp [binOp, Op.floatArith, h] <;> rfl
theorem nz_nan (u v : Nat) (w : World) : nzB u v w < 18446744073709551616 ∧ nanB (nzB u v w) = true := by
 unfold nzB Question.cut
 simp only
 generalize w.tape w.drawn (Question.nanBits .f64 u v) = t
 have h1 : t / 2 % (2 ^ 52 - 1) < 2 ^ 52 - 1 := Nat.mod_lt _ (by decide)
 generalize t / 2 % (2 ^ 52 - 1) = s at *
 have h2 : t % 2 < 2 := Nat.mod_lt _ (by decide)
 generalize t % 2 = p at *
 have h3 : p * 2 ^ 63 + 9218868437227405312 + 1 + s < 18446744073709551616 := by omega
 refine ⟨h3, ?_⟩
 unfold nanB
 rw [decide_eq_true_iff]
 have h4 : (p * 2 ^ 63 + 9218868437227405312 + 1 + s) % kSign = 9218868437227405312 + 1 + s := by
  rw [show p * 2 ^ 63 + 9218868437227405312 + 1 + s = (9218868437227405312 + 1 + s) + 2 ^ 63 * p by omega, show kSign = 2 ^ 63 from rfl, Nat.add_mul_mod_self_left]
  exact Nat.mod_eq_of_lt (by omega)
 show kInf < (p * 2 ^ 63 + 9218868437227405312 + 1 + s) % kSign
 rw [h4, show kInf = 9218868437227405312 from rfl]
 omega
theorem sum_nan_l {x : Ieee.Datum} {y : Ieee.Datum} (h : x.isNaN = true) : x.sum y = none := by
 cases x <;> cases y <;> first | rfl | (simp [Ieee.Datum.isNaN] at h)
theorem sum_nan_r {x : Ieee.Datum} {y : Ieee.Datum} (h : y.isNaN = true) : x.sum y = none := by
 cases x <;> cases y <;> first | rfl | (simp [Ieee.Datum.isNaN] at h)
theorem opp_nan {x : Ieee.Datum} (h : x.isNaN = true) : x.opposite.isNaN = true := by
 cases x <;> first | rfl | (simp [Ieee.Datum.isNaN] at h)
theorem product_nan_l {x : Ieee.Datum} {y : Ieee.Datum} (h : x.isNaN = true) : x.product y = none := by
 cases x <;> cases y <;> first | rfl | (simp [Ieee.Datum.isNaN] at h)
theorem product_nan_r {x : Ieee.Datum} {y : Ieee.Datum} (h : y.isNaN = true) : x.product y = none := by
 cases x <;> cases y <;> first | rfl | (simp [Ieee.Datum.isNaN] at h)
theorem quo_nan_l {k : Nat} {x : Ieee.Datum} {y : Ieee.Datum} (h : x.isNaN = true) : x.quotient k y = none := by
 cases x <;> cases y <;> first | rfl | (simp [Ieee.Datum.isNaN] at h)
theorem quo_nan_r {k : Nat} {x : Ieee.Datum} {y : Ieee.Datum} (h : y.isNaN = true) : x.quotient k y = none := by
 cases x <;> cases y <;> first | rfl | (simp [Ieee.Datum.isNaN] at h)
theorem bits_nan {op : BinOp} {u v : Nat} (h : nanB u = true ∨ nanB v = true) : floatBits op .f64 u v = none := by
 rw [← read_nan, ← read_nan] at h
 unfold floatBits
 split
 ·show ((F6.read u).sum (F6.read v)).map _ = none
  rcases h with h | h
  ·rw [sum_nan_l h]; rfl
  ·rw [sum_nan_r h]; rfl
 ·show ((F6.read u).sum (F6.read v).opposite).map _ = none
  rcases h with h | h
  ·rw [sum_nan_l h]; rfl
  ·rw [sum_nan_r (opp_nan h)]; rfl
 ·show ((F6.read u).product (F6.read v)).map _ = none
  rcases h with h | h
  ·rw [product_nan_l h]; rfl
  ·rw [product_nan_r h]; rfl
 ·show ((F6.read u).quotient _ (F6.read v)).map _ = none
  rcases h with h | h
  ·rw [quo_nan_l h]; rfl
  ·rw [quo_nan_r h]; rfl
 ·rfl
theorem bits_lt {op : BinOp} {u v r : Nat} (h : floatBits op .f64 u v = some r) : r < 18446744073709551616 := by
 have h1 := floatBits_wf h
 simpa [Lit.wf] using h1
theorem Rep.op {op : BinOp} {a b : Option Nat} {u v : Nat} (ha : Rep a u) (hb : Rep b v) (w : World) : Rep (oA op a b) (fV op u v w) := by
 have hn : ∀ o : Option Nat, o = none → floatBits op .f64 u v = none → Rep o (fV op u v w) := fun o ho hf => by
  subst ho
  unfold fV; rw [hf]; exact nz_nan u v w
 cases a with
 | none => exact hn _ rfl (bits_nan (.inl ha.2))
 | some x =>
  cases b with
  | none => exact hn _ rfl (bits_nan (.inr hb.2))
  | some y =>
   obtain rfl : u = x := ha.2
   obtain rfl : v = y := hb.2
   show Rep (floatBits op .f64 u v) (fV op u v w)
   cases h : floatBits op .f64 u v with
   | none => exact hn _ rfl h
   | some r =>
    have h1 : fV op u v w = r := by unfold fV; rw [h]
    rw [h1]
    exact ⟨bits_lt h, rfl⟩
theorem Rep.canon {o : Option Nat} {v : Nat} (h : Rep o v) : canonB v = cO o := by
 cases o with
 | none => unfold canonB; rw [if_pos h.2]; rfl
 | some x => rw [show v = x from h.2]; rfl
theorem Rep.of {x : Nat} (h : x < 18446744073709551616) : Rep (some x) x := ⟨h, rfl⟩
end
section
open Go.RowKit
set_option maxRecDepth 100000 in
set_option maxHeartbeats 400000 in
theorem aCanon_any (b : Nat) (w : World) (h : b < 18446744073709551616) :
  Calls Tryz.prog 87 #[.float .f64 b] w (Gives (.float .f64 (canonB b)) w) := by
 have HC := Lib.hid fun w => canon_any b w h
 have HO := Lib.hid fun w => of_any w
 have h0 := fbits_eq b
 have h1 := ffrom_eq (canonB b)
 generalize canonB b = R at *
 clear h
 unfold F64 at *
 go_enter Tryz.func87, Tryz.ntmps87
 go_wp2_with fail
 refine (HO.out _).mono ?_
 rintro e1 w1 ⟨rfl, hb1⟩
 have HB1 := Lib.hid hb1
 clear hb1
 go_wp2_with fail
 refine (HC.out _).mono ?_
 rintro e2 w2 ⟨rfl, hb2⟩
 have HB2 := Lib.hid (HB1.out.trans (hb2.mono HB1.out.size))
 clear hb2
 go_wp2
 go_ret
 exact ⟨rfl, HB2.out⟩
theorem order_nan {x y : Nat} (h : nanB x = true) : F6.order x y = none := by
 rw [← read_nan] at h
 unfold Ieee.Format.order
 revert h
 cases F6.read x <;> cases F6.read y <;> first | (intro _; rfl) | (intro h; simp [Ieee.Datum.isNaN] at h)
theorem nan_abs (x : Nat) : nanB (x % kSign) = nanB x := by unfold nanB; rw [Nat.mod_mod]
theorem inf_test_all (x : Nat) : (F6.order (x % kSign) 9218868437227405311 == some Ordering.gt) = decide (x % kSign = kInf) := by
 by_cases h : x % kSign ≤ kInf
 ·exact inf_test h
 ·rw [order_nan (by rw [nan_abs]; unfold nanB; rw [decide_eq_true_iff]; omega), decide_eq_false (by omega)]; rfl
set_option maxRecDepth 100000 in
set_option maxHeartbeats 400000 in
theorem isInf_all (x : Nat) (w : World) (hx : x < 18446744073709551616) :
  Calls Tryz.prog 116 #[.float .f64 x, .int .i64 0] w (Gives (.bool (decide (x % kSign = kInf))) w) := by
 have HA := Lib.hid fun w => abs_any x w hx
 have hT := inf_test_all x
 generalize decide (x % kSign = kInf) = R at *
 generalize x % kSign = m at *
 clear hx
 go_enter Tryz.func116, Tryz.ntmps116
 go_wp2_with fail
 refine (HA.out _).mono ?_
 rintro e1 w1 ⟨rfl, hb⟩
 have HB := Lib.hid hb
 clear hb
 go_wp2
 go_ret
 exact ⟨rfl, HB.out⟩
set_option maxRecDepth 100000 in
set_option maxHeartbeats 400000 in
theorem signbit_any (x : Nat) (w : World) (hx : x < 18446744073709551616) :
  Calls Tryz.prog 37 #[.float .f64 x] w (Gives (.bool (sgnB x)) w) := by
 have h0 := fbits_eq x
 have h1 : decide (wrap64 (x : Int) < 0) = sgnB x := by
  unfold sgnB wrap64
  rw [decide_eq_decide, show kSign = 9223372036854775808 from rfl]; omega
 generalize sgnB x = R at *
 clear hx
 go_enter Tryz.func37, Tryz.ntmps37
 go_wp2
 go_ret
 exact ⟨rfl, Below.refl _ _⟩
def leftO (l : List Nat) : Option Nat := l.foldl (fun s x => oA .add s (some x)) (some 0)
theorem leftO_take {l : List Nat} {k : Nat} (h : k < l.length) : leftO (l.take (k + 1)) = oA .add (leftO (l.take k)) (some l[k]) := by
 unfold leftO
 rw [List.take_succ_eq_append_getElem h, List.foldl_append]; rfl
end
section
open Go.RowKit
def geB (x y : Nat) : Bool := F6.order x y == some Ordering.gt || F6.order x y == some Ordering.eq
def geO (a b : Option Nat) : Bool := match a, b with | some x, some y => geB (x % kSign) (y % kSign) | _, _ => false
def neuS (sc : Option Nat × Option Nat) (x : Nat) : Option Nat × Option Nat :=
 let t := oA .add sc.1 (some x)
 (t, oA .add sc.2 (if geO sc.1 (some x) then oA .add (oA .sub sc.1 t) (some x) else oA .add (oA .sub (some x) t) sc.1))
def neuF (l : List Nat) : Option Nat × Option Nat := l.foldl neuS (some 0, some 0)
theorem neuF_take {l : List Nat} {k : Nat} (h : k < l.length) : neuF (l.take (k + 1)) = neuS (neuF (l.take k)) l[k] := by
 unfold neuF
 rw [List.take_succ_eq_append_getElem h, List.foldl_append]; rfl
theorem Rep.ge {a : Option Nat} {u x : Nat} (h : Rep a u) : geB (u % kSign) (x % kSign) = geO a (some x) := by
 cases a with
 | none =>
  show geB _ _ = false
  unfold geB
  rw [order_nan (by rw [nan_abs]; exact h.2)]; rfl
 | some y => rw [show u = y from h.2]; rfl
set_option maxRecDepth 100000 in
set_option maxHeartbeats 1600000 in
theorem neumaier_any (v : Value) (l : List Nat) (w : World) (hl : FSl w v l) :
  Calls Tryz.prog 35 #[v] w (Gives (.float .f64 (cO (oA .add (neuF l).1 (neuF l).2))) w) := by
 obtain ⟨ao, cap, rfl, hcap, hn, hx, hc⟩ := hl
 have HC := Lib.hid hc
 have HX := Lib.hid hx
 have hadd : ∀ t u v w, (binOp .add t (.float .f64 u) (.float .f64 v)).run Tryz.prog w = .ok (.float .f64 (fV .add u v w)) (fN .add u v w) := fun t u v w => run_float_any .add (.inl rfl) t u v w
 have hsub : ∀ t u v w, (binOp .sub t (.float .f64 u) (.float .f64 v)).run Tryz.prog w = .ok (.float .f64 (fV .sub u v w)) (fN .sub u v w) := fun t u v w => run_float_any .sub (.inr (.inl rfl)) t u v w
 have HAB := Lib.hid fun x w h => abs_any x w h
 clear hc hx
 go_enter Tryz.func35, Tryz.ntmps35
 go_wp2
 go_loopw [3, 4, 10] (fun s c i wr => ∃ (k u v : Nat), k ≤ l.length ∧ i = .int .i64 k ∧ s = .float .f64 u ∧ c = .float .f64 v ∧ Hid (Rep (neuF (l.take k)).1 u ∧ Rep (neuF (l.take k)).2 v) ∧ Hid (Below w.heap.size w wr)) (fun _ _ i _ => l.length - (intOf i).toNat)
 case atStart => exact ⟨0, 0, 0, Nat.zero_le _, rfl, rfl, rfl, Lib.hid ⟨⟨by decide, rfl⟩, ⟨by decide, rfl⟩⟩, Lib.hid (Below.refl _ _)⟩
 case round =>
  obtain ⟨k, u, v, hk, rfl, rfl, rfl, HR, HB⟩ := hrel
  by_cases hlt : k < l.length
  ·obtain ⟨b, off, rfl, hb, hcc⟩ := HC.out (by omega)
   have hck := (HB.out.cell (p := ⟨b, off + k, none⟩) hb).trans (hcc k hlt)
   have HXK := Lib.hid (HX.out _ (List.getElem_mem hlt))
   have HNK := Lib.hid (neuF_take hlt)
   clear hcc
   generalize l[k] = x at *
   generalize hS1 : neuF (l.take (k + 1)) = S1 at *
   have HS1 := Lib.hid hS1
   clear hS1
   generalize neuF (l.take k) = S0 at *
   obtain ⟨t1, c1⟩ := S1
   obtain ⟨s0, c0⟩ := S0
   go_wp2_with fail
   refine (HAB.out u _ HR.out.1.1).mono ?_
   rintro e1 w1 ⟨rfl, hb1⟩
   have HB1 := Lib.hid (HB.out.trans (((fN_below .add u x wr).mono HB.out.size).trans (hb1.mono (by have := HB.out.size; have := (fN_below .add u x wr).size; omega))))
   clear hb1
   go_wp2_with fail
   refine (HAB.out x _ HXK.out).mono ?_
   rintro e2 w2 ⟨rfl, hb2⟩
   have HB2 := Lib.hid (HB1.out.trans (hb2.mono HB1.out.size))
   clear hb2
   have HT := Lib.hid (HR.out.1.op (op := .add) (Rep.of HXK.out) wr)
   have HGE := Lib.hid (Rep.ge (x := x) HR.out.1)
   have HN1 : Hid (t1 = oA .add s0 (some x)) := Lib.hid (by have := HNK.out; unfold neuS at this; simp only [Prod.mk.injEq] at this; exact this.1)
   have HN2 : Hid (c1 = oA .add c0 (if geO s0 (some x) then oA .add (oA .sub s0 t1) (some x) else oA .add (oA .sub (some x) t1) s0)) := Lib.hid (by have := HNK.out; unfold neuS at this; simp only [Prod.mk.injEq] at this; rw [this.2, this.1])
   rw [← HN1.out] at HT
   cases hge : geB (u % kSign) (x % kSign)
   ·have HG2 := Lib.hid (HGE.out.symm.trans hge)
    have HC2 : Hid (c1 = oA .add c0 (oA .add (oA .sub (some x) t1) s0)) := Lib.hid (by rw [HN2.out, HG2.out]; rfl)
    have hge2 : (F6.order (u % kSign) (x % kSign) == some Ordering.gt || F6.order (u % kSign) (x % kSign) == some Ordering.eq) = false := hge
    clear hge HGE HN1 HN2 HNK
    go_wp2
    go_roundw
    case rel =>
     refine ⟨k + 1, _, _, by omega, by go_num, rfl, rfl, Lib.hid ?_, Lib.hid ?_⟩
     ·rw [HS1.out]
      refine ⟨HT.out, ?_⟩
      show Rep c1 _
      rw [HC2.out]
      exact HR.out.2.op (((Rep.of HXK.out).op HT.out _).op HR.out.1 _) _
     ·exact HB2.out.trans (((fN_below _ _ _ _).trans ((fN_below _ _ _ _).mono (fN_below _ _ _ _).size)).trans ((fN_below _ _ _ _).mono (Nat.le_trans (fN_below _ _ _ _).size (fN_below _ _ _ _).size)) |>.mono HB2.out.size)
    case measure => simp [intOf]; omega
   ·have HG2 := Lib.hid (HGE.out.symm.trans hge)
    have HC2 : Hid (c1 = oA .add c0 (oA .add (oA .sub s0 t1) (some x))) := Lib.hid (by rw [HN2.out, HG2.out]; rfl)
    have hge2 : (F6.order (u % kSign) (x % kSign) == some Ordering.gt || F6.order (u % kSign) (x % kSign) == some Ordering.eq) = true := hge
    clear hge HGE HN1 HN2 HNK
    go_wp2
    go_roundw
    case rel =>
     refine ⟨k + 1, _, _, by omega, by go_num, rfl, rfl, Lib.hid ?_, Lib.hid ?_⟩
     ·rw [HS1.out]
      refine ⟨HT.out, ?_⟩
      show Rep c1 _
      rw [HC2.out]
      exact HR.out.2.op ((HR.out.1.op HT.out _).op (Rep.of HXK.out) _) _
     ·exact HB2.out.trans (((fN_below _ _ _ _).trans ((fN_below _ _ _ _).mono (fN_below _ _ _ _).size)).trans ((fN_below _ _ _ _).mono (Nat.le_trans (fN_below _ _ _ _).size (fN_below _ _ _ _).size)) |>.mono HB2.out.size)
    case measure => simp [intOf]; omega
  ·obtain rfl : k = l.length := by omega
   rw [List.take_length] at HR
   have HRC := Lib.hid fun w => (HR.out.1.op (op := .add) HR.out.2 w)
   have HCN := Lib.hid fun w => (HRC.out w).canon
   go_wp2_with fail
   refine (aCanon_any _ _ (HRC.out _).1).mono ?_
   rintro e1 w1 ⟨rfl, hb⟩
   rw [HCN.out]
   have HB2 := Lib.hid (HB.out.trans (((fN_below .add u v wr).trans (hb.mono (fN_below .add u v wr).size)).mono HB.out.size))
   clear hb
   go_wp2
   go_ret
   exact ⟨rfl, HB2.out⟩
end
end Go.Proofs.YthkhignbmefmjaaGreatDoor
