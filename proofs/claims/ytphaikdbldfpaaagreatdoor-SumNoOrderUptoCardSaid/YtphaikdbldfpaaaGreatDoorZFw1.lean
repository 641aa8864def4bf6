/- Walks: what a way answers (the program's map of ways, the references' switch); the law's words 'same' and 'told'. -/
import Derived.Test.YtphaikdbldfpaaaGreatDoorGX
import Derived.Test.YtphaikdbldfpaaaGreatDoorGV
import Derived.Test.YtphaikdbldfpaaaGreatDoorGC
import Derived.Test.YtphaikdbldfpaaaGreatDoorGW
import Derived.Test.YtphaikdbldfpaaaGreatDoorGR
import Derived.Test.YtphaikdbldfpaaaGreatDoorZFlc
namespace Go.Proofs.YtphaikdbldfpaaaGreatDoor
open Go.RowKit

/-! The law's words. -/
set_option maxRecDepth 100000 in
set_option maxHeartbeats 400000 in
theorem same5_any (x y : Nat) (w : World) :
    Calls Tryz.prog 10 #[.float .f64 x, .float .f64 y] w (Gives (.bool (decide (x = canonB y))) w) := by
  have HB := Lib.hid fun w => rBits_any y w
  have h0 := fbits_eq x
  have hd : ((x : Int) == (canonB y : Int)) = decide (x = canonB y) := by rw [Bool.eq_iff_iff, beq_iff_eq, decide_eq_true_iff]; omega
  generalize canonB y = z at *
  generalize decide (x = z) = R at *
  go_enter Tryz.func10, Tryz.ntmps10
  go_wp2_with fail
  refine (HB.out _).mono ?_
  rintro e1 w1 ⟨rfl, hb⟩
  have HBE := Lib.hid hb
  clear hb
  go_wp2
  go_ret
  exact ⟨rfl, HBE.out⟩

theorem canon_idem (x : Nat) : canonB (canonB x) = canonB x := by
  unfold canonB
  split
  · rw [if_pos (by decide)]
  · rfl

theorem canon_cO (o : Option Nat) : canonB (cO o) = cO o := by
  cases o with
  | none => decide
  | some x => exact canon_idem x

theorem canon_exB (l : List Nat) : canonB (exB l) = exB l := by
  unfold exB
  split
  · exact canon_cO _
  · split
    · decide
    · unfold rndX
      split
      · decide
      · rename_i h
        unfold canonB
        rw [rnd_nan h]; rfl

end Go.Proofs.YtphaikdbldfpaaaGreatDoor
