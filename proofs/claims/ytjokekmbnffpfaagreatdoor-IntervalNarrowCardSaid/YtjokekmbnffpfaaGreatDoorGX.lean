/- Walks: math.Ldexp(1, 100); that the package of sums is awake. -/
import Derived.Test.YtjokekmbnffpfaaGreatDoorGW
import Derived.RangeFuncFrom
import Derived.RangeFuncBox
import Derived.RangeFuncNested
import Derived.RangeFuncBound
import Derived.RangeFuncCalls
import Derived.RangeFuncLeaves
import Derived.Shelf.Abstract
import Derived.Shelf.RegionOpen
import Derived.WalkKit
import Derived.OwnWalkIn
import Derived.TacticsInMore
import Derived.LoopNIn
import Derived.LoopIn
import Derived.Test.YtjokekmbnffpfaaGreatDoorGV
import Derived.Test.YtjokekmbnffpfaaGreatDoorGI
import Derived.Test.YtjokekmbnffpfaaGreatDoorGR
section
namespace Go.Proofs.YtjokekmbnffpfaaGreatDoor
open Go.RowKit

set_option maxRecDepth 100000 in
set_option maxHeartbeats 400000 in
theorem isNaN_any (x : Nat) (w : World) : Calls Tryz.prog 60 #[.float .f64 x] w (Gives (.bool (nanB x)) w) := by
  have hnt := nan_test x
  generalize nanB x = R at *
  go_enter Tryz.func60, Tryz.ntmps60
  go_wp2
  go_ret
  exact ⟨rfl, Below.refl _ _⟩

/-- A row of floats just made. -/
theorem FSl.made {W : World} {b : Nat} {l : List Nat} (h : BlkT W b 29 (l.map (fun x => Value.float .f64 x)).toArray) (hl : l.length ≤ 1099511627776) (hx : ∀ x ∈ l, x < 18446744073709551616) : FSl W (.slice (some ⟨b, 0, none⟩) l.length l.length) l := by
  refine ⟨_, _, rfl, Nat.le_refl _, hl, hx, fun _ => ⟨b, 0, rfl, h.lt, fun i hi => ?_⟩⟩
  rw [Nat.zero_add, h.cell i]
  simp [hi]

end Go.Proofs.YtjokekmbnffpfaaGreatDoor
end

/- Walks: the references' exact sum, rounded once. Printed by wip/gen/rexact.py. -/
section
namespace Go.Proofs.YtjokekmbnffpfaaGreatDoor
open Go.RowKit

theorem neg_back {y : Nat} (h : y < kSign) : Op.negFloat .f64 (kSign + y) = y := by
  rw [← neg_bits h]
  unfold Op.negFloat
  rw [Nat.xor_assoc, Nat.xor_self, Nat.xor_zero]

theorem inf_pos {x : Nat} (h : x < 18446744073709551616) : (F6.order x 9218868437227405311 == some Ordering.gt) = decide (x = kInf) := by
  have hk := kSign_big
  have hi : kInf = 9218868437227405312 := rfl
  by_cases hn : nanB x = true
  · rw [order_nan hn]
    have : x ≠ kInf := fun e => by rw [e] at hn; exact absurd hn (by decide)
    rw [decide_eq_false this]; rfl
  · have hle : x % kSign ≤ kInf := by unfold nanB at hn; simpa using hn
    rw [order_ky h (by decide) hle (by decide)]
    have h0 : ky 9218868437227405311 = 9218868437227405311 := by unfold ky; rw [if_pos (by decide)]; rfl
    rw [h0]
    unfold ky
    have hks : kSign = 9223372036854775808 := rfl
    by_cases hs : x < kSign
    · rw [if_pos hs]
      rw [Nat.mod_eq_of_lt hs] at hle
      by_cases he : x = kInf
      · rw [decide_eq_true he, he]; decide
      · rw [decide_eq_false he]
        rcases Nat.lt_or_ge x 9218868437227405311 with h1 | h1
        · rw [Int.compare_eq_lt.2 (by omega)]; rfl
        · rw [Int.compare_eq_eq.2 (by omega)]; rfl
    · rw [if_neg hs, decide_eq_false (by omega), Int.compare_eq_lt.2 (by omega)]; rfl

set_option maxRecDepth 100000 in
set_option maxHeartbeats 400000 in
theorem isInf_up (x : Nat) (w : World) (hx : x < 18446744073709551616) :
    Calls Tryz.prog 40 #[.float .f64 x, .int .i64 1] w (Gives (.bool (decide (x = kInf))) w) := by
  have hT := inf_pos hx
  generalize decide (x = kInf) = R at *
  clear hx
  go_enter Tryz.func40, Tryz.ntmps40
  go_wp2
  go_ret
  exact ⟨rfl, Below.refl _ _⟩

end Go.Proofs.YtjokekmbnffpfaaGreatDoor
end
