/- Walks: what a way answers (the program's map of ways, the references' switch); the law's words 'same' and 'told'. -/
import Derived.Test.YthkhignbmefmjaaGreatDoorGX
import Derived.Test.YthkhignbmefmjaaGreatDoorGV
import Derived.Test.YthkhignbmefmjaaGreatDoorGC
import Derived.Maps.OwnSet
import Derived.Test.YthkhignbmefmjaaGreatDoorGW
namespace Go.Proofs.YthkhignbmefmjaaGreatDoor
open Go.RowKit
set_option maxRecDepth 100000 in
set_option maxHeartbeats 400000 in
theorem same5_any (x y : Nat) (w : World) :
  Calls Tryz.prog 32 #[.float .f64 x, .float .f64 y] w (Gives (.bool (decide (x = canonB y))) w) := by
 have HB := Lib.hid fun w => rBits_any y w
 have h0 := fbits_eq x
 have hd : ((x : Int) == (canonB y : Int)) = decide (x = canonB y) := by rw [Bool.eq_iff_iff, beq_iff_eq, decide_eq_true_iff]; omega
 generalize canonB y = z at *
 generalize decide (x = z) = R at *
 go_enter Tryz.func32, Tryz.ntmps32
 go_wp2_with fail
 refine (HB.out _).mono ?_
 rintro e1 w1 ⟨rfl, hb⟩
 have HBE := Lib.hid hb
 clear hb
 go_wp2
 go_ret
 exact ⟨rfl, HBE.out⟩
set_option maxRecDepth 100000 in
set_option maxHeartbeats 400000 in
theorem told5_yes (x y : Nat) (e : Int) (w : World) (h : x = canonB y) :
  Calls Tryz.prog 9 #[.float .f64 x, .int .i64 e, .float .f64 y, .int .i64 e] w (Gives (.bool true) w) := by
 have HS := Lib.hid fun w => same5_any x y w
 rw [decide_eq_true h] at HS
 have he : (e == e) = true := by simp
 clear h
 go_enter Tryz.func9, Tryz.ntmps9
 go_wp2_with fail
 refine (HS.out _).mono ?_
 rintro e1 w1 ⟨rfl, hb⟩
 have HBE := Lib.hid hb
 clear hb
 go_wp2
 go_ret
 exact ⟨rfl, HBE.out⟩
end Go.Proofs.YthkhignbmefmjaaGreatDoor
