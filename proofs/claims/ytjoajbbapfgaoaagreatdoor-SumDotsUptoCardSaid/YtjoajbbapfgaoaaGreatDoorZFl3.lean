/- Walk: Neumaier's sum. -/
import Derived.Test.YtjoajbbapfgaoaaGreatDoorZFl2
namespace Go.Proofs.YtjoajbbapfgaoaaGreatDoor
open Go.RowKit

/-- The test 'no less than'. -/
def geB (x y : Nat) : Bool := F6.order x y == some Ordering.gt || F6.order x y == some Ordering.eq
def geO (a b : Option Nat) : Bool := match a, b with | some x, some y => geB (x % kSign) (y % kSign) | _, _ => false

/-- One number more, by Neumaier. -/
def neuS (sc : Option Nat × Option Nat) (x : Nat) : Option Nat × Option Nat :=
  let t := oA .add sc.1 (some x)
  (t, oA .add sc.2 (if geO sc.1 (some x) then oA .add (oA .sub sc.1 t) (some x) else oA .add (oA .sub (some x) t) sc.1))
def neuF (l : List Nat) : Option Nat × Option Nat := l.foldl neuS (some 0, some 0)

theorem neuF_take {l : List Nat} {k : Nat} (h : k < l.length) : neuF (l.take (k + 1)) = neuS (neuF (l.take k)) l[k] := by
  unfold neuF
  rw [List.take_succ_eq_append_getElem h, List.foldl_append]; rfl

theorem Rep.ge {a : Option Nat} {u x : Nat} (h : Rep a u) : geB (u % kSign) (x % kSign) = geO a (some x) := by
  cases a with
  | none =>
    show geB _ _ = false
    unfold geB
    rw [order_nan (by rw [nan_abs]; exact h.2)]; rfl
  | some y => rw [show u = y from h.2]; rfl

set_option maxRecDepth 100000 in
set_option maxHeartbeats 1600000 in
theorem neumaier_any (v : Value) (l : List Nat) (w : World) (hl : FSl w v l) :
    Calls Tryz.prog 67 #[v] w (Gives (.float .f64 (cO (oA .add (neuF l).1 (neuF l).2))) w) := by
  obtain ⟨ao, cap, rfl, hcap, hn, hx, hc⟩ := hl
  have HC := Lib.hid hc
  have HX := Lib.hid hx
  have hadd : ∀ t u v w, (binOp .add t (.float .f64 u) (.float .f64 v)).run Tryz.prog w = .ok (.float .f64 (fV .add u v w)) (fN .add u v w) := fun t u v w => run_float_any .add (.inl rfl) t u v w
  have hsub : ∀ t u v w, (binOp .sub t (.float .f64 u) (.float .f64 v)).run Tryz.prog w = .ok (.float .f64 (fV .sub u v w)) (fN .sub u v w) := fun t u v w => run_float_any .sub (.inr (.inl rfl)) t u v w
  have HAB := Lib.hid fun x w h => abs_any x w h
  clear hc hx
  go_enter Tryz.func67, Tryz.ntmps67
  go_wp2
  go_loopw [3, 4, 10] (fun s c i wr => ∃ (k u v : Nat), k ≤ l.length ∧ i = .int .i64 k ∧ s = .float .f64 u ∧ c = .float .f64 v ∧ Hid (Rep (neuF (l.take k)).1 u ∧ Rep (neuF (l.take k)).2 v) ∧ Hid (Below w.heap.size w wr)) (fun _ _ i _ => l.length - (intOf i).toNat)
  case atStart => exact ⟨0, 0, 0, Nat.zero_le _, rfl, rfl, rfl, Lib.hid ⟨⟨by decide, rfl⟩, ⟨by decide, rfl⟩⟩, Lib.hid (Below.refl _ _)⟩
  case round =>
    obtain ⟨k, u, v, hk, rfl, rfl, rfl, HR, HB⟩ := hrel
    by_cases hlt : k < l.length
    · obtain ⟨b, off, rfl, hb, hcc⟩ := HC.out (by omega)
      have hck := (HB.out.cell (p := ⟨b, off + k, none⟩) hb).trans (hcc k hlt)
      have HXK := Lib.hid (HX.out _ (List.getElem_mem hlt))
      have HNK := Lib.hid (neuF_take hlt)
      clear hcc
      generalize l[k] = x at *
      generalize hS1 : neuF (l.take (k + 1)) = S1 at *
      have HS1 := Lib.hid hS1
      clear hS1
      generalize neuF (l.take k) = S0 at *
      obtain ⟨t1, c1⟩ := S1
      obtain ⟨s0, c0⟩ := S0
      go_wp2_with fail
      refine (HAB.out u _ HR.out.1.1).mono ?_
      rintro e1 w1 ⟨rfl, hb1⟩
      have HB1 := Lib.hid (HB.out.trans (((fN_below .add u x wr).mono HB.out.size).trans (hb1.mono (by have := HB.out.size; have := (fN_below .add u x wr).size; omega))))
      clear hb1
      go_wp2_with fail
      refine (HAB.out x _ HXK.out).mono ?_
      rintro e2 w2 ⟨rfl, hb2⟩
      have HB2 := Lib.hid (HB1.out.trans (hb2.mono HB1.out.size))
      clear hb2
      have HT := Lib.hid (HR.out.1.op (op := .add) (Rep.of HXK.out) wr)
      have HGE := Lib.hid (Rep.ge (x := x) HR.out.1)
      have HN1 : Hid (t1 = oA .add s0 (some x)) := Lib.hid (by have := HNK.out; unfold neuS at this; simp only [Prod.mk.injEq] at this; exact this.1)
      have HN2 : Hid (c1 = oA .add c0 (if geO s0 (some x) then oA .add (oA .sub s0 t1) (some x) else oA .add (oA .sub (some x) t1) s0)) := Lib.hid (by have := HNK.out; unfold neuS at this; simp only [Prod.mk.injEq] at this; rw [this.2, this.1])
      rw [← HN1.out] at HT
      cases hge : geB (u % kSign) (x % kSign)
      · have HG2 := Lib.hid (HGE.out.symm.trans hge)
        have HC2 : Hid (c1 = oA .add c0 (oA .add (oA .sub (some x) t1) s0)) := Lib.hid (by rw [HN2.out, HG2.out]; rfl)
        have hge2 : (F6.order (u % kSign) (x % kSign) == some Ordering.gt || F6.order (u % kSign) (x % kSign) == some Ordering.eq) = false := hge
        clear hge HGE HN1 HN2 HNK
        go_wp2
        go_roundw
        case rel =>
          refine ⟨k + 1, _, _, by omega, by go_num, rfl, rfl, Lib.hid ?_, Lib.hid ?_⟩
          · rw [HS1.out]
            refine ⟨HT.out, ?_⟩
            show Rep c1 _
            rw [HC2.out]
            exact HR.out.2.op (((Rep.of HXK.out).op HT.out _).op HR.out.1 _) _
          · exact HB2.out.trans (((fN_below _ _ _ _).trans ((fN_below _ _ _ _).mono (fN_below _ _ _ _).size)).trans ((fN_below _ _ _ _).mono (Nat.le_trans (fN_below _ _ _ _).size (fN_below _ _ _ _).size)) |>.mono HB2.out.size)
        case measure => simp [intOf]; omega
      · have HG2 := Lib.hid (HGE.out.symm.trans hge)
        have HC2 : Hid (c1 = oA .add c0 (oA .add (oA .sub s0 t1) (some x))) := Lib.hid (by rw [HN2.out, HG2.out]; rfl)
        have hge2 : (F6.order (u % kSign) (x % kSign) == some Ordering.gt || F6.order (u % kSign) (x % kSign) == some Ordering.eq) = true := hge
        clear hge HGE HN1 HN2 HNK
        go_wp2
        go_roundw
        case rel =>
          refine ⟨k + 1, _, _, by omega, by go_num, rfl, rfl, Lib.hid ?_, Lib.hid ?_⟩
          · rw [HS1.out]
            refine ⟨HT.out, ?_⟩
            show Rep c1 _
            rw [HC2.out]
            exact HR.out.2.op ((HR.out.1.op HT.out _).op (Rep.of HXK.out) _) _
          · exact HB2.out.trans (((fN_below _ _ _ _).trans ((fN_below _ _ _ _).mono (fN_below _ _ _ _).size)).trans ((fN_below _ _ _ _).mono (Nat.le_trans (fN_below _ _ _ _).size (fN_below _ _ _ _).size)) |>.mono HB2.out.size)
        case measure => simp [intOf]; omega
    · obtain rfl : k = l.length := by omega
      rw [List.take_length] at HR
      have HRC := Lib.hid fun w => (HR.out.1.op (op := .add) HR.out.2 w)
      have HCN := Lib.hid fun w => (HRC.out w).canon
      go_wp2_with fail
      refine (aCanon_any _ _ (HRC.out _).1).mono ?_
      rintro e1 w1 ⟨rfl, hb⟩
      rw [HCN.out]
      have HB2 := Lib.hid (HB.out.trans (((fN_below .add u v wr).trans (hb.mono (fN_below .add u v wr).size)).mono HB.out.size))
      clear hb
      go_wp2
      go_ret
      exact ⟨rfl, HB2.out⟩

end Go.Proofs.YtjoajbbapfgaoaaGreatDoor
