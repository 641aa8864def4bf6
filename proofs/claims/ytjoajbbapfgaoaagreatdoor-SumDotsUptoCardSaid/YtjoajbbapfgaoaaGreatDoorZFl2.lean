/- Walks: Canon, Signbit, IsInf of any float; the references' Left. -/
import Derived.Test.YtjoajbbapfgaoaaGreatDoorZFl1
import Derived.Test.YtjoajbbapfgaoaaGreatDoorGR
namespace Go.Proofs.YtjoajbbapfgaoaaGreatDoor
open Go.RowKit

set_option maxRecDepth 100000 in
set_option maxHeartbeats 400000 in
theorem rCanon_any (b : Nat) (w : World) :
    Calls Tryz.prog 136 #[.float .f64 b] w (Gives (.float .f64 (canonB b)) w) := by
  have HB := Lib.hid fun w => rBits_any b w
  have h1 := ffrom_eq (canonB b)
  generalize canonB b = R at *
  go_enter Tryz.func136, Tryz.ntmps136
  go_wp2_with fail
  refine (HB.out _).mono ?_
  rintro e1 w1 ⟨rfl, hb⟩
  have HBE := Lib.hid hb
  clear hb
  go_wp2
  go_ret
  exact ⟨rfl, HBE.out⟩

set_option maxRecDepth 100000 in
set_option maxHeartbeats 400000 in
theorem aCanon_any (b : Nat) (w : World) (h : b < 18446744073709551616) :
    Calls Tryz.prog 137 #[.float .f64 b] w (Gives (.float .f64 (canonB b)) w) := by
  have HC := Lib.hid fun w => canon_any b w h
  have HO := Lib.hid fun w => of_any w
  have h0 := fbits_eq b
  have h1 := ffrom_eq (canonB b)
  generalize canonB b = R at *
  clear h
  unfold F64 at *
  go_enter Tryz.func137, Tryz.ntmps137
  go_wp2_with fail
  refine (HO.out _).mono ?_
  rintro e1 w1 ⟨rfl, hb1⟩
  have HB1 := Lib.hid hb1
  clear hb1
  go_wp2_with fail
  refine (HC.out _).mono ?_
  rintro e2 w2 ⟨rfl, hb2⟩
  have HB2 := Lib.hid (HB1.out.trans (hb2.mono HB1.out.size))
  clear hb2
  go_wp2
  go_ret
  exact ⟨rfl, HB2.out⟩

theorem order_nan {x y : Nat} (h : nanB x = true) : F6.order x y = none := by
  rw [← read_nan] at h
  unfold Ieee.Format.order
  revert h
  cases F6.read x <;> cases F6.read y <;> first | (intro _; rfl) | (intro h; simp [Ieee.Datum.isNaN] at h)

theorem nan_abs (x : Nat) : nanB (x % kSign) = nanB x := by unfold nanB; rw [Nat.mod_mod]

theorem inf_test_all (x : Nat) : (F6.order (x % kSign) 9218868437227405311 == some Ordering.gt) = decide (x % kSign = kInf) := by
  by_cases h : x % kSign ≤ kInf
  · exact inf_test h
  · rw [order_nan (by rw [nan_abs]; unfold nanB; rw [decide_eq_true_iff]; omega), decide_eq_false (by omega)]; rfl

set_option maxRecDepth 100000 in
set_option maxHeartbeats 400000 in
/-- Whether it is an infinity. -/
theorem isInf_all (x : Nat) (w : World) (hx : x < 18446744073709551616) :
    Calls Tryz.prog 177 #[.float .f64 x, .int .i64 0] w (Gives (.bool (decide (x % kSign = kInf))) w) := by
  have HA := Lib.hid fun w => abs_any x w hx
  have hT := inf_test_all x
  generalize decide (x % kSign = kInf) = R at *
  generalize x % kSign = m at *
  clear hx
  go_enter Tryz.func177, Tryz.ntmps177
  go_wp2_with fail
  refine (HA.out _).mono ?_
  rintro e1 w1 ⟨rfl, hb⟩
  have HB := Lib.hid hb
  clear hb
  go_wp2
  go_ret
  exact ⟨rfl, HB.out⟩

set_option maxRecDepth 100000 in
set_option maxHeartbeats 400000 in
theorem signbit_any (x : Nat) (w : World) (hx : x < 18446744073709551616) :
    Calls Tryz.prog 190 #[.float .f64 x] w (Gives (.bool (sgnB x)) w) := by
  have h0 := fbits_eq x
  have h1 : decide (wrap64 (x : Int) < 0) = sgnB x := by
    unfold sgnB wrap64
    rw [decide_eq_decide, show kSign = 9223372036854775808 from rfl]; omega
  generalize sgnB x = R at *
  clear hx
  go_enter Tryz.func190, Tryz.ntmps190
  go_wp2
  go_ret
  exact ⟨rfl, Below.refl _ _⟩

/-- The sum in order. -/
def leftO (l : List Nat) : Option Nat := l.foldl (fun s x => oA .add s (some x)) (some 0)

theorem leftO_take {l : List Nat} {k : Nat} (h : k < l.length) : leftO (l.take (k + 1)) = oA .add (leftO (l.take k)) (some l[k]) := by
  unfold leftO
  rw [List.take_succ_eq_append_getElem h, List.foldl_append]; rfl

set_option maxRecDepth 100000 in
set_option maxHeartbeats 800000 in
theorem rLeft_any (v : Value) (l : List Nat) (w : World) (hl : FSl w v l) :
    Calls Tryz.prog 62 #[v] w (Gives (.float .f64 (cO (leftO l))) w) := by
  obtain ⟨ao, cap, rfl, hcap, hn, hx, hc⟩ := hl
  have HC := Lib.hid hc
  have HX := Lib.hid hx
  have hadd : ∀ t u v w, (binOp .add t (.float .f64 u) (.float .f64 v)).run Tryz.prog w = .ok (.float .f64 (fV .add u v w)) (fN .add u v w) := fun t u v w => run_float_any .add (.inl rfl) t u v w
  clear hc hx
  go_enter Tryz.func62, Tryz.ntmps62
  go_wp2
  go_loopw [3, 8] (fun s i wr => ∃ (k u : Nat), k ≤ l.length ∧ i = .int .i64 k ∧ s = .float .f64 u ∧ Hid (Rep (leftO (l.take k)) u) ∧ Hid (Below w.heap.size w wr)) (fun _ i _ => l.length - (intOf i).toNat)
  case atStart => exact ⟨0, 0, Nat.zero_le _, rfl, rfl, Lib.hid ⟨by decide, rfl⟩, Lib.hid (Below.refl _ _)⟩
  case round =>
    obtain ⟨k, u, hk, rfl, rfl, HR, HB⟩ := hrel
    by_cases hlt : k < l.length
    · obtain ⟨b, off, rfl, hb, hcc⟩ := HC.out (by omega)
      have hck := (HB.out.cell (p := ⟨b, off + k, none⟩) hb).trans (hcc k hlt)
      have HR2 := Lib.hid fun w => by have := HR.out.op (op := .add) (Rep.of (HX.out _ (List.getElem_mem hlt))) w; rw [← leftO_take hlt] at this; exact this
      clear hcc
      generalize l[k] = x at *
      go_wp2
      go_roundw
      case rel => exact ⟨k + 1, _, by omega, by go_num, rfl, Lib.hid (HR2.out _), Lib.hid (HB.out.trans ((fN_below _ _ _ _).mono HB.out.size))⟩
      case measure => simp [intOf]; omega
    · obtain rfl : k = l.length := by omega
      have HR3 : Hid (canonB u = cO (leftO l)) := Lib.hid (by have := HR.out.canon; rwa [List.take_length] at this)
      go_wp2_with fail
      refine (rCanon_any u _).mono ?_
      rintro e1 w1 ⟨rfl, hb⟩
      rw [HR3.out]
      have HB2 := Lib.hid (HB.out.trans (hb.mono HB.out.size))
      clear hb
      go_wp2
      go_ret
      exact ⟨rfl, HB2.out⟩

end Go.Proofs.YtjoajbbapfgaoaaGreatDoor
