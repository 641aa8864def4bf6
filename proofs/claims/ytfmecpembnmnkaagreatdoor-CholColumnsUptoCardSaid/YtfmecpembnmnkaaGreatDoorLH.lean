/- A root triangle times itself, turned: plain; walk of the program's. Printed by wip/gen/ch18.py. -/
import Derived.Test.YtfmecpembnmnkaaGreatDoorLD
namespace Go.Proofs.YtfmecpembnmnkaaGreatDoor
section
open Go.RowKit
attribute [local go_sem] run_store_f
def mirM (M : Nat → Nat → Fo) (a b : Nat) : Fo := if b ≤ a then M a b else M b a
section
variable {t : Nat} {w0 W V : World} {sb g n N : Nat} {lv : Value} {f f' : Bool} {vs : Nat → Nat}
end
theorem LowR.zero (n : Nat) : LowR n (fun _ _ => some 0) (fun _ => 0) := fun _ _ _ _ => rep0
end
section
open Go.RowKit
attribute [local go_sem] run_store_f
theorem FSn.cellU {w : World} {ao : Option Addr} {m ca sb k : Nat} {l : List Nat} (h : FSn w (.slice ao m ca) l sb) (hl : l.length = m) (hk : k < m) : ∃ b off x, ao = some ⟨b, off, none⟩ ∧ (∃ hh : k < l.length, x = l[k]) ∧ ∀ W, Upd sb w W → W.cell? ⟨b, off + k, none⟩ = some (.float .f64 x) := by
 obtain ⟨⟨ao2, cap, h1, h2, h3, h4, h5⟩, h6⟩ := h
 obtain ⟨b, off, e, hlt, hc⟩ := h5 (by omega)
 injection h1 with h1
 subst h1
 have hne : b ≠ sb := h6 (by omega) ⟨b, off, none⟩ _ _ (by rw [e])
 exact ⟨b, off, l[k], e, ⟨by omega, rfl⟩, fun W hu => (World.cell?_of_block (a := ⟨b, off + k, none⟩) (hu.block b hlt hne)).trans (hc k (by omega))⟩
def mrT (M : Nat → Nat → Fo) (i j : Nat) (a b : Nat) : Fo := if (a < i ∧ b < i) ∨ (a = i ∧ b < j) ∨ (b = i ∧ a < j) then mirM M a b else some 0
theorem mrT_step {M : Nat → Nat → Fo} {i j : Nat} (h : j ≤ i) : mrT M i (j + 1) = upd2 (upd2 (mrT M i j) i j (M i j)) j i (M i j) := by
 funext a b
 unfold mrT upd2 mirM
 by_cases h1 : a = j ∧ b = i
 ·obtain ⟨rfl, rfl⟩ := h1
  rw [if_pos (show (a < b ∧ b < b) ∨ (a = b ∧ b < a + 1) ∨ (b = b ∧ a < a + 1) from .inr (.inr ⟨rfl, Nat.lt_succ_self _⟩)), if_pos (show a = a ∧ b = b from ⟨rfl, rfl⟩)]
  split
  ·rw [show a = b by omega]
  ·rfl
 ·by_cases h2 : a = i ∧ b = j
  ·obtain ⟨rfl, rfl⟩ := h2
   rw [if_pos (show (a < a ∧ b < a) ∨ (a = a ∧ b < b + 1) ∨ (b = a ∧ a < b + 1) from .inr (.inl ⟨rfl, Nat.lt_succ_self _⟩)), if_neg h1, if_pos (show a = a ∧ b = b from ⟨rfl, rfl⟩), if_pos h]
  ·rw [if_neg h1, if_neg h2]
   dsimp only
   by_cases h3 : (a < i ∧ b < i) ∨ (a = i ∧ b < j) ∨ (b = i ∧ a < j)
   ·rw [if_pos h3, if_pos (by omega)]
   ·rw [if_neg h3, if_neg (by omega)]
theorem mrT_row {M : Nat → Nat → Fo} {i : Nat} : mrT M i (i + 1) = mrT M (i + 1) 0 := by
 funext a b
 unfold mrT
 by_cases h3 : (a < i ∧ b < i) ∨ (a = i ∧ b < i + 1) ∨ (b = i ∧ a < i + 1)
 ·rw [if_pos h3, if_pos (by omega)]
 ·rw [if_neg h3, if_neg (by omega)]
theorem mrT_zero {M : Nat → Nat → Fo} : mrT M 0 0 = fun _ _ => some 0 := by
 funext a b
 unfold mrT
 rw [if_neg (by omega)]
theorem mrT_all {M : Nat → Nat → Fo} {n a b : Nat} (ha : a < n) (hb : b < n) : mrT M n 0 a b = mirM M a b := by
 unfold mrT
 rw [if_pos (.inl ⟨ha, hb⟩)]
section
variable {w0 W V : World} {g ob n N : Nat} {lv : Value} {vs vs' : Nat → Nat}
end
section
variable {w0 W V : World} {sb g ob n N : Nat} {lv : Value} {f f' : Bool} {vs vs' : Nat → Nat}
end
end
end Go.Proofs.YtfmecpembnmnkaaGreatDoor
