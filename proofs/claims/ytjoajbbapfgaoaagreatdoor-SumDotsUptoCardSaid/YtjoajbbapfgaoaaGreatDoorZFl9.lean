/- Walks: Kahan's sum, the references' Kahan and Neumaier. Printed by wip/gen/kah.py. -/
import Derived.Test.YtjoajbbapfgaoaaGreatDoorZFl3
namespace Go.Proofs.YtjoajbbapfgaoaaGreatDoor
open Go.RowKit

/-- One number more, by Kahan. -/
def kahS (sc : Option Nat × Option Nat) (x : Nat) : Option Nat × Option Nat :=
  (oA .add sc.1 (oA .sub (some x) sc.2), oA .sub (oA .sub (oA .add sc.1 (oA .sub (some x) sc.2)) sc.1) (oA .sub (some x) sc.2))
def kahF (l : List Nat) : Option Nat × Option Nat := l.foldl kahS (some 0, some 0)

theorem kahF_take {l : List Nat} {k : Nat} (h : k < l.length) : kahF (l.take (k + 1)) = kahS (kahF (l.take k)) l[k] := by
  unfold kahF
  rw [List.take_succ_eq_append_getElem h, List.foldl_append]; rfl

set_option maxRecDepth 100000 in
set_option maxHeartbeats 1600000 in
theorem rNeumaier_any (v : Value) (l : List Nat) (w : World) (hl : FSl w v l) :
    Calls Tryz.prog 68 #[v] w (Gives (.float .f64 (cO (oA .add (neuF l).1 (neuF l).2))) w) := by
  obtain ⟨ao, cap, rfl, hcap, hn, hx, hc⟩ := hl
  have HC := Lib.hid hc
  have HX := Lib.hid hx
  have hadd : ∀ t u v w, (binOp .add t (.float .f64 u) (.float .f64 v)).run Tryz.prog w = .ok (.float .f64 (fV .add u v w)) (fN .add u v w) := fun t u v w => run_float_any .add (.inl rfl) t u v w
  have hsub : ∀ t u v w, (binOp .sub t (.float .f64 u) (.float .f64 v)).run Tryz.prog w = .ok (.float .f64 (fV .sub u v w)) (fN .sub u v w) := fun t u v w => run_float_any .sub (.inr (.inl rfl)) t u v w
  have HAB := Lib.hid fun x w h => abs_any x w h
  clear hc hx
  go_enter Tryz.func68, Tryz.ntmps68
  go_wp2
  go_loopw [3, 4, 10] (fun s c i wr => ∃ (k u v : Nat), k ≤ l.length ∧ i = .int .i64 k ∧ s = .float .f64 u ∧ c = .float .f64 v ∧ Hid (Rep (neuF (l.take k)).1 u ∧ Rep (neuF (l.take k)).2 v) ∧ Hid (Below w.heap.size w wr)) (fun _ _ i _ => l.length - (intOf i).toNat)
  case atStart => exact ⟨0, 0, 0, Nat.zero_le _, rfl, rfl, rfl, Lib.hid ⟨⟨by decide, rfl⟩, ⟨by decide, rfl⟩⟩, Lib.hid (Below.refl _ _)⟩
  case round =>
    obtain ⟨k, u, v, hk, rfl, rfl, rfl, HR, HB⟩ := hrel
    by_cases hlt : k < l.length
    · obtain ⟨b, off, rfl, hb, hcc⟩ := HC.out (by omega)
      have hck := (HB.out.cell (p := ⟨b, off + k, none⟩) hb).trans (hcc k hlt)
      have HXK := Lib.hid (HX.out _ (List.getElem_mem hlt))
      have HNK := Lib.hid (neuF_take hlt)
      clear hcc
      generalize l[k] = x at *
      generalize hS1 : neuF (l.take (k + 1)) = S1 at *
      have HS1 := Lib.hid hS1
      clear hS1
      generalize neuF (l.take k) = S0 at *
      obtain ⟨t1, c1⟩ := S1
      obtain ⟨s0, c0⟩ := S0
      go_wp2_with fail
      refine (HAB.out u _ HR.out.1.1).mono ?_
      rintro e1 w1 ⟨rfl, hb1⟩
      have HB1 := Lib.hid (HB.out.trans (((fN_below .add u x wr).mono HB.out.size).trans (hb1.mono (by have := HB.out.size; have := (fN_below .add u x wr).size; omega))))
      clear hb1
      go_wp2_with fail
      refine (HAB.out x _ HXK.out).mono ?_
      rintro e2 w2 ⟨rfl, hb2⟩
      have HB2 := Lib.hid (HB1.out.trans (hb2.mono HB1.out.size))
      clear hb2
      have HT := Lib.hid (HR.out.1.op (op := .add) (Rep.of HXK.out) wr)
      have HGE := Lib.hid (Rep.ge (x := x) HR.out.1)
      have HN1 : Hid (t1 = oA .add s0 (some x)) := Lib.hid (by have := HNK.out; unfold neuS at this; simp only [Prod.mk.injEq] at this; exact this.1)
      have HN2 : Hid (c1 = oA .add c0 (if geO s0 (some x) then oA .add (oA .sub s0 t1) (some x) else oA .add (oA .sub (some x) t1) s0)) := Lib.hid (by have := HNK.out; unfold neuS at this; simp only [Prod.mk.injEq] at this; rw [this.2, this.1])
      rw [← HN1.out] at HT
      cases hge : geB (u % kSign) (x % kSign)
      · have HG2 := Lib.hid (HGE.out.symm.trans hge)
        have HC2 : Hid (c1 = oA .add c0 (oA .add (oA .sub (some x) t1) s0)) := Lib.hid (by rw [HN2.out, HG2.out]; rfl)
        have hge2 : (F6.order (u % kSign) (x % kSign) == some Ordering.gt || F6.order (u % kSign) (x % kSign) == some Ordering.eq) = false := hge
        clear hge HGE HN1 HN2 HNK
        go_wp2
        go_roundw
        case rel =>
          refine ⟨k + 1, _, _, by omega, by go_num, rfl, rfl, Lib.hid ?_, Lib.hid ?_⟩
          · rw [HS1.out]
            refine ⟨HT.out, ?_⟩
            show Rep c1 _
            rw [HC2.out]
            exact HR.out.2.op (((Rep.of HXK.out).op HT.out _).op HR.out.1 _) _
          · exact HB2.out.trans (((fN_below _ _ _ _).trans ((fN_below _ _ _ _).mono (fN_below _ _ _ _).size)).trans ((fN_below _ _ _ _).mono (Nat.le_trans (fN_below _ _ _ _).size (fN_below _ _ _ _).size)) |>.mono HB2.out.size)
        case measure => simp [intOf]; omega
      · have HG2 := Lib.hid (HGE.out.symm.trans hge)
        have HC2 : Hid (c1 = oA .add c0 (oA .add (oA .sub s0 t1) (some x))) := Lib.hid (by rw [HN2.out, HG2.out]; rfl)
        have hge2 : (F6.order (u % kSign) (x % kSign) == some Ordering.gt || F6.order (u % kSign) (x % kSign) == some Ordering.eq) = true := hge
        clear hge HGE HN1 HN2 HNK
        go_wp2
        go_roundw
        case rel =>
          refine ⟨k + 1, _, _, by omega, by go_num, rfl, rfl, Lib.hid ?_, Lib.hid ?_⟩
          · rw [HS1.out]
            refine ⟨HT.out, ?_⟩
            show Rep c1 _
            rw [HC2.out]
            exact HR.out.2.op ((HR.out.1.op HT.out _).op (Rep.of HXK.out) _) _
          · exact HB2.out.trans (((fN_below _ _ _ _).trans ((fN_below _ _ _ _).mono (fN_below _ _ _ _).size)).trans ((fN_below _ _ _ _).mono (Nat.le_trans (fN_below _ _ _ _).size (fN_below _ _ _ _).size)) |>.mono HB2.out.size)
        case measure => simp [intOf]; omega
    · obtain rfl : k = l.length := by omega
      rw [List.take_length] at HR
      have HRC := Lib.hid fun w => (HR.out.1.op (op := .add) HR.out.2 w)
      have HCN := Lib.hid fun w => (HRC.out w).canon
      go_wp2_with fail
      refine (rCanon_any _ _).mono ?_
      rintro e1 w1 ⟨rfl, hb⟩
      rw [HCN.out]
      have HB2 := Lib.hid (HB.out.trans (((fN_below .add u v wr).trans (hb.mono (fN_below .add u v wr).size)).mono HB.out.size))
      clear hb
      go_wp2
      go_ret
      exact ⟨rfl, HB2.out⟩

set_option maxRecDepth 100000 in
set_option maxHeartbeats 1600000 in
theorem kahan_any (v : Value) (l : List Nat) (w : World) (hl : FSl w v l) :
    Calls Tryz.prog 65 #[v] w (Gives (.float .f64 (cO (kahF l).1)) w) := by
  obtain ⟨ao, cap, rfl, hcap, hn, hx, hc⟩ := hl
  have HC := Lib.hid hc
  have HX := Lib.hid hx
  have hadd : ∀ t u v w, (binOp .add t (.float .f64 u) (.float .f64 v)).run Tryz.prog w = .ok (.float .f64 (fV .add u v w)) (fN .add u v w) := fun t u v w => run_float_any .add (.inl rfl) t u v w
  have hsub : ∀ t u v w, (binOp .sub t (.float .f64 u) (.float .f64 v)).run Tryz.prog w = .ok (.float .f64 (fV .sub u v w)) (fN .sub u v w) := fun t u v w => run_float_any .sub (.inr (.inl rfl)) t u v w
  clear hc hx
  go_enter Tryz.func65, Tryz.ntmps65
  go_wp2
  go_loopw [3, 4, 11] (fun s c i wr => ∃ (k u v : Nat), k ≤ l.length ∧ i = .int .i64 k ∧ s = .float .f64 u ∧ c = .float .f64 v ∧ Hid (Rep (kahF (l.take k)).1 u ∧ Rep (kahF (l.take k)).2 v) ∧ Hid (Below w.heap.size w wr)) (fun _ _ i _ => l.length - (intOf i).toNat)
  case atStart => exact ⟨0, 0, 0, Nat.zero_le _, rfl, rfl, rfl, Lib.hid ⟨⟨by decide, rfl⟩, ⟨by decide, rfl⟩⟩, Lib.hid (Below.refl _ _)⟩
  case round =>
    obtain ⟨k, u, v, hk, rfl, rfl, rfl, HR, HB⟩ := hrel
    by_cases hlt : k < l.length
    · obtain ⟨b, off, rfl, hb, hcc⟩ := HC.out (by omega)
      have hck := (HB.out.cell (p := ⟨b, off + k, none⟩) hb).trans (hcc k hlt)
      have HXK := Lib.hid (HX.out _ (List.getElem_mem hlt))
      have HNK := Lib.hid (kahF_take hlt)
      clear hcc
      generalize l[k] = x at *
      generalize hS1 : kahF (l.take (k + 1)) = S1 at *
      have HS1 := Lib.hid hS1
      clear hS1
      generalize kahF (l.take k) = S0 at *
      obtain ⟨t1, c1⟩ := S1
      obtain ⟨s0, c0⟩ := S0
      have HN1 : Hid (t1 = oA .add s0 (oA .sub (some x) c0) ∧ c1 = oA .sub (oA .sub (oA .add s0 (oA .sub (some x) c0)) s0) (oA .sub (some x) c0)) := Lib.hid (by have := HNK.out; unfold kahS at this; simp only [Prod.mk.injEq] at this; exact this)
      clear HNK
      go_wp2
      go_roundw
      case rel =>
        refine ⟨k + 1, _, _, by omega, by go_num, rfl, rfl, Lib.hid ?_, Lib.hid ?_⟩
        · rw [HS1.out]
          have hy := (Rep.of HXK.out).op (op := .sub) HR.out.2 wr
          have ht := HR.out.1.op (op := .add) hy (fN .sub x v wr)
          refine ⟨?_, ?_⟩
          · show Rep t1 _
            rw [HN1.out.1]; exact ht
          · show Rep c1 _
            rw [HN1.out.2]; exact (ht.op HR.out.1 _).op hy _
        · refine HB.out.trans (Below.mono ?_ HB.out.size)
          have b1 := fN_below .sub x v wr
          exact b1.trans (Below.mono ((fN_below _ _ _ _).trans (((fN_below _ _ _ _).trans ((fN_below _ _ _ _).mono (fN_below _ _ _ _).size)).mono (fN_below _ _ _ _).size)) b1.size)
      case measure => simp [intOf]; omega
    · obtain rfl : k = l.length := by omega
      rw [List.take_length] at HR
      have HCN := Lib.hid HR.out.1.canon
      go_wp2_with fail
      refine (aCanon_any _ _ HR.out.1.1).mono ?_
      rintro e1 w1 ⟨rfl, hb⟩
      rw [HCN.out]
      have HB2 := Lib.hid (HB.out.trans (hb.mono HB.out.size))
      clear hb
      go_wp2
      go_ret
      exact ⟨rfl, HB2.out⟩

set_option maxRecDepth 100000 in
set_option maxHeartbeats 1600000 in
theorem rKahan_any (v : Value) (l : List Nat) (w : World) (hl : FSl w v l) :
    Calls Tryz.prog 66 #[v] w (Gives (.float .f64 (cO (kahF l).1)) w) := by
  obtain ⟨ao, cap, rfl, hcap, hn, hx, hc⟩ := hl
  have HC := Lib.hid hc
  have HX := Lib.hid hx
  have hadd : ∀ t u v w, (binOp .add t (.float .f64 u) (.float .f64 v)).run Tryz.prog w = .ok (.float .f64 (fV .add u v w)) (fN .add u v w) := fun t u v w => run_float_any .add (.inl rfl) t u v w
  have hsub : ∀ t u v w, (binOp .sub t (.float .f64 u) (.float .f64 v)).run Tryz.prog w = .ok (.float .f64 (fV .sub u v w)) (fN .sub u v w) := fun t u v w => run_float_any .sub (.inr (.inl rfl)) t u v w
  clear hc hx
  go_enter Tryz.func66, Tryz.ntmps66
  go_wp2
  go_loopw [3, 4, 11] (fun s c i wr => ∃ (k u v : Nat), k ≤ l.length ∧ i = .int .i64 k ∧ s = .float .f64 u ∧ c = .float .f64 v ∧ Hid (Rep (kahF (l.take k)).1 u ∧ Rep (kahF (l.take k)).2 v) ∧ Hid (Below w.heap.size w wr)) (fun _ _ i _ => l.length - (intOf i).toNat)
  case atStart => exact ⟨0, 0, 0, Nat.zero_le _, rfl, rfl, rfl, Lib.hid ⟨⟨by decide, rfl⟩, ⟨by decide, rfl⟩⟩, Lib.hid (Below.refl _ _)⟩
  case round =>
    obtain ⟨k, u, v, hk, rfl, rfl, rfl, HR, HB⟩ := hrel
    by_cases hlt : k < l.length
    · obtain ⟨b, off, rfl, hb, hcc⟩ := HC.out (by omega)
      have hck := (HB.out.cell (p := ⟨b, off + k, none⟩) hb).trans (hcc k hlt)
      have HXK := Lib.hid (HX.out _ (List.getElem_mem hlt))
      have HNK := Lib.hid (kahF_take hlt)
      clear hcc
      generalize l[k] = x at *
      generalize hS1 : kahF (l.take (k + 1)) = S1 at *
      have HS1 := Lib.hid hS1
      clear hS1
      generalize kahF (l.take k) = S0 at *
      obtain ⟨t1, c1⟩ := S1
      obtain ⟨s0, c0⟩ := S0
      have HN1 : Hid (t1 = oA .add s0 (oA .sub (some x) c0) ∧ c1 = oA .sub (oA .sub (oA .add s0 (oA .sub (some x) c0)) s0) (oA .sub (some x) c0)) := Lib.hid (by have := HNK.out; unfold kahS at this; simp only [Prod.mk.injEq] at this; exact this)
      clear HNK
      go_wp2
      go_roundw
      case rel =>
        refine ⟨k + 1, _, _, by omega, by go_num, rfl, rfl, Lib.hid ?_, Lib.hid ?_⟩
        · rw [HS1.out]
          have hy := (Rep.of HXK.out).op (op := .sub) HR.out.2 wr
          have ht := HR.out.1.op (op := .add) hy (fN .sub x v wr)
          refine ⟨?_, ?_⟩
          · show Rep t1 _
            rw [HN1.out.1]; exact ht
          · show Rep c1 _
            rw [HN1.out.2]; exact (ht.op HR.out.1 _).op hy _
        · refine HB.out.trans (Below.mono ?_ HB.out.size)
          have b1 := fN_below .sub x v wr
          exact b1.trans (Below.mono ((fN_below _ _ _ _).trans (((fN_below _ _ _ _).trans ((fN_below _ _ _ _).mono (fN_below _ _ _ _).size)).mono (fN_below _ _ _ _).size)) b1.size)
      case measure => simp [intOf]; omega
    · obtain rfl : k = l.length := by omega
      rw [List.take_length] at HR
      have HCN := Lib.hid HR.out.1.canon
      go_wp2_with fail
      refine (rCanon_any _ _).mono ?_
      rintro e1 w1 ⟨rfl, hb⟩
      rw [HCN.out]
      have HB2 := Lib.hid (HB.out.trans (hb.mono HB.out.size))
      clear hb
      go_wp2
      go_ret
      exact ⟨rfl, HB2.out⟩

end Go.Proofs.YtjoajbbapfgaoaaGreatDoor
