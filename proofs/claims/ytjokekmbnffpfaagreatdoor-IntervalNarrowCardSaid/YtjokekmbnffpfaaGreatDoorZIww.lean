/- What the law asks of sums, products, quotients: as calls that answer true. Blocks in a list: three filled at once. -/
import Derived.Test.YtjokekmbnffpfaaGreatDoorIJ
import Derived.Test.YtjokekmbnffpfaaGreatDoorGX
import Derived.Test.YtjokekmbnffpfaaGreatDoorZBw1
namespace Go.Proofs.YtjokekmbnffpfaaGreatDoor
open Go.RowKit

theorem divK_neg (a : Option (Int × Int)) {b : Option (Int × Int)} (hb : Iok b) : divK (negK a) (negK b) = divK a b := by
  rcases a with _ | ⟨l, h⟩
  · rcases b with _ | ⟨m, k⟩ <;> rfl
  rcases b with _ | ⟨m, k⟩
  · rfl
  obtain ⟨b1, b2, b3, b4, b5⟩ := hb m k rfl
  show (if -k = 0 ∧ -m = 0 then none else if 0 ≤ -k then some (ovK (-h) (-l) (-k) (-m)) else if -m ≤ 0 then some (ovK (-(-l)) (-(-h)) (-(-m)) (-(-k))) else if -h = 0 ∧ -l = 0 then some (0, 0) else some (-(kInf : Int), (kInf : Int))) =
    (if m = 0 ∧ k = 0 then none else if 0 ≤ m then some (ovK l h m k) else if k ≤ 0 then some (ovK (-h) (-l) (-k) (-m)) else if l = 0 ∧ h = 0 then some (0, 0) else some (-(kInf : Int), (kInf : Int)))
  simp only [Int.neg_neg]
  by_cases c1 : m = 0 ∧ k = 0
  · rw [if_pos c1, if_pos (by omega)]
  rw [if_neg c1, if_neg (by omega)]
  by_cases c2 : 0 ≤ m
  · rw [if_pos c2]
    by_cases c3 : 0 ≤ -k
    · exfalso; omega
    · rw [if_neg c3, if_pos (by omega)]
  · rw [if_neg c2]
    by_cases c3 : k ≤ 0
    · rw [if_pos c3, if_pos (by omega)]
    · rw [if_neg c3, if_neg (by omega), if_neg (by omega)]
      by_cases c4 : l = 0 ∧ h = 0
      · rw [if_pos c4, if_pos (by omega)]
      · rw [if_neg c4, if_neg (by omega)]

end Go.Proofs.YtjokekmbnffpfaaGreatDoor
