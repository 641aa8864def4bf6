/- Walks: the references' Set and Round. Printed by wip/gen/cv4.py. -/
import Derived.Test.YthkhignbmefmjaaGreatDoorKD
import Derived.Test.YthkhignbmefmjaaGreatDoorGW
import Derived.Deep.CutRange
namespace Go.Proofs.YthkhignbmefmjaaGreatDoor
open Go.RowKit
def sgI (neg : Bool) (N : Nat) : Int := if neg then -(N : Int) else N
theorem sgI_abs (neg : Bool) (N : Nat) : (sgI neg N).natAbs = N := by cases neg <;> simp [sgI]
theorem sgI_zero {neg : Bool} {N : Nat} (h : N ≠ 0) : sgI neg N ≠ 0 := by cases neg <;> simp [sgI] <;> omega
theorem sgI_neg {neg : Bool} {N : Nat} (h : N ≠ 0) : decide (sgI neg N < 0) = neg := by cases neg <;> simp [sgI] <;> omega
def roundR (neg : Bool) (N : Nat) (e : Int) (more : Bool) (mode : Int) : Nat := if more then rndX (sgI neg (2 * N + 1)) (e - 1) mode else rndX (sgI neg N) e mode
def lastR (N : Nat) (e : Int) : Int := max (e + bl N - 53) (-1074)
def cutQ (N : Nat) (e : Int) : Nat := if lastR N e ≤ e then N * 2 ^ (e - lastR N e).toNat else N / 2 ^ (lastR N e - e).toNat
def cutR (N : Nat) (e : Int) (more : Bool) : Int := if lastR N e ≤ e then -2 else cutC N (lastR N e - e).toNat more
def rndQ (neg : Bool) (N : Nat) (e : Int) (more : Bool) (mode : Int) : Nat := cutQ N e + (if gU neg (cutQ N e) (cutR N e more) mode then 1 else 0)
theorem gU_none (neg : Bool) (Q : Nat) {mode : Int} (hm : mode = 0 ∨ mode = 3 ∨ mode = 4) : gU neg Q (-2) mode = false := by
 rcases hm with rfl | rfl | rfl
 ·rfl
 ·cases neg <;> rfl
 ·cases neg <;> rfl
theorem bl_odd (N : Nat) : bl (2 * N + 1) = bl N + 1 := by
 have h := bl_half (x := 2 * N + 1) (by omega)
 rw [show (2 * N + 1) / 2 = N by omega] at h
 omega
theorem round_pack {neg : Bool} {N : Nat} {e : Int} {more : Bool} {mode : Int} (h0 : N ≠ 0) (hmore : more = true → e < lastR N e) (hm : mode = 0 ∨ mode = 3 ∨ mode = 4) :
  packB neg (rndQ neg N e more mode) (lastR N e) mode = roundR neg N e more mode := by
 cases more
 ·show _ = rndX (sgI neg N) e mode
  have hz : sgI neg N ≠ 0 := sgI_zero h0
  have hp := pack_rnd (e := e) (mode := mode) hz
  rw [sgI_neg h0] at hp
  unfold rndX
  rw [if_neg hz, ← hp]
  unfold roundZ lastE
  rw [sgI_abs, sgI_neg h0]
  show packB neg _ (lastR N e) mode = packB neg (cutZ N (lastR N e - e) neg mode) (lastR N e) mode
  congr 1
  unfold rndQ cutQ cutR cutZ
  by_cases h : lastR N e ≤ e
  ·rw [if_pos h, if_pos h, if_pos (show lastR N e - e ≤ 0 by omega), gU_none _ _ hm, show -(lastR N e - e) = e - lastR N e by omega]
   rfl
  ·rw [if_neg h, if_neg h, if_neg (show ¬ lastR N e - e ≤ 0 by omega), gU_up hm]
 ·show _ = rndX (sgI neg (2 * N + 1)) (e - 1) mode
  have hlt := hmore rfl
  have h1 : 2 * N + 1 ≠ 0 := by omega
  have hz : sgI neg (2 * N + 1) ≠ 0 := sgI_zero h1
  have hp := pack_rnd (e := e - 1) (mode := mode) hz
  rw [sgI_neg h1] at hp
  unfold rndX
  rw [if_neg hz, ← hp]
  unfold roundZ lastE
  rw [sgI_abs, sgI_neg h1, bl_odd]
  rw [show e - 1 + ((bl N + 1 : Nat) : Int) - 53 = e + (bl N : Int) - 53 by omega]
  show packB neg _ (lastR N e) mode = packB neg (cutZ (2 * N + 1) (lastR N e - (e - 1)) neg mode) (lastR N e) mode
  congr 1
  unfold rndQ cutQ cutR cutZ
  obtain ⟨s, hs⟩ : ∃ s : Nat, lastR N e - e = s := ⟨(lastR N e - e).toNat, by omega⟩
  have hs1 : 1 ≤ s := by omega
  obtain ⟨g1, g2⟩ := gU_more (N := N) hs1 (neg := neg) hm
  have hn : ¬ lastR N e ≤ e := by omega
  rw [if_neg hn, if_neg hn, if_neg (show ¬ lastR N e - (e - 1) ≤ 0 by omega), show lastR N e - (e - 1) = ((s + 1 : Nat) : Int) by omega, hs, Int.toNat_natCast, Int.toNat_natCast, g1, g2]
end Go.Proofs.YthkhignbmefmjaaGreatDoor
