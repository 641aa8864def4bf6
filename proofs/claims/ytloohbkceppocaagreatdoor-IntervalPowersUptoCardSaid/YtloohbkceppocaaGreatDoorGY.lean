/- Walks: whether any dyad may be (dyad.May, the references' May). Printed by wip/gen/may.py. -/
import Derived.Test.YtloohbkceppocaaGreatDoorGQ
import Derived.Test.YtloohbkceppocaaGreatDoorGM
import Derived.Test.YtloohbkceppocaaGreatDoorGL
import Derived.Test.YtloohbkceppocaaGreatDoorGS
import Derived.Lib.SmallJoins
namespace Go.Proofs.YtloohbkceppocaaGreatDoor
section
open Go.RowKit
def mayB (neg : Bool) (n N : Nat) (e : Int) : Bool :=
 if n = 0 then !neg && decide (e = 0) else decide (n ≤ 2048) && (decide (dg 32 N (n - 1) ≠ 0) && (decide (dg 32 N 0 % 2 = 1) && (decide (-100000 ≤ e) && decide (e ≤ 100000))))
def DyRaw (w : World) (v : Value) (neg : Bool) (n N : Nat) (e : Int) : Prop := ∃ sl, v = DyV neg sl e ∧ Raw .u32 32 w sl n N ∧ n ≤ 1073741824
theorem DyRaw.below {w w' : World} {v : Value} {neg : Bool} {n N : Nat} {e : Int} (h : DyRaw w v neg n N e) (hb : Below w.heap.size w w') : DyRaw w' v neg n N e := by
 obtain ⟨sl, h1, h2, h3⟩ := h; exact ⟨sl, h1, h2.below hb, h3⟩
def sgZ (neg : Bool) (N : Nat) : Int := if neg then -(N : Int) else N
theorem sgZ_abs (neg : Bool) (N : Nat) : (sgZ neg N).natAbs = N := by unfold sgZ; split <;> omega
theorem mayB_good {neg : Bool} {n N : Nat} {e : Int} (hN : N < 2 ^ (32 * n)) (h : mayB neg n N e = true) : GoodD (sgZ neg N) e ∧ n = ln 32 N ∧ decide (sgZ neg N < 0) = neg := by
 unfold mayB at h
 split at h
 ·next h0 =>
  subst h0
  simp only [Bool.and_eq_true, Bool.not_eq_true', decide_eq_true_eq] at h
  obtain ⟨rfl, rfl⟩ := h
  have h1 : N = 0 := by simpa using hN
  subst h1
  exact ⟨by show GoodD 0 0; exact good_zero, (ln_zero 32).symm, rfl⟩
 ·next h0 =>
  simp only [Bool.and_eq_true, decide_eq_true_eq] at h
  obtain ⟨h1, h2, h3, h4, h5⟩ := h
  rw [dg_zero_mod] at h3
  have hln : n = ln 32 N := by
   refine Nat.le_antisymm ?_ ?_
   ·rcases Nat.lt_or_ge (ln 32 N) n with h6 | h6
    ·refine absurd ?_ h2
     have h7 : N < 2 ^ (32 * (n - 1)) := (ln_le_iff (by decide)).1 (by omega)
     unfold dg
     rw [Nat.div_eq_of_lt h7]
    ·exact h6
   ·exact (ln_le_iff (by decide)).2 hN
  refine ⟨⟨.inr ?_, ?_, h4, h5⟩, hln, ?_⟩
  ·unfold sgZ; split <;> omega
  ·rw [sgZ_abs]
   unfold ln at hln
   omega
  ·unfold sgZ
   cases neg <;> simp <;> omega
theorem DyRaw.good {w : World} {v : Value} {neg : Bool} {n N : Nat} {e : Int} (h : DyRaw w v neg n N e) (hm : mayB neg n N e = true) : DyAt w v (sgZ neg N) e ∧ GoodD (sgZ neg N) e := by
 obtain ⟨sl, rfl, hr, -⟩ := h
 have hr2 := hr
 obtain ⟨-, -, -, -, hN, -⟩ := hr2
 obtain ⟨h1, h2, h3⟩ := mayB_good hN hm
 refine ⟨⟨sl, by rw [h3], ?_⟩, h1⟩
 rw [sgZ_abs, ← h2]; exact hr
set_option maxRecDepth 100000 in
set_option maxHeartbeats 4000000 in
theorem dMay_any (v : Value) (neg : Bool) (n N : Nat) (e : Int) (w : World) (hv : DyRaw w v neg n N e) :
  Calls Tryz.prog 128 #[v] w (Gives (.bool (mayB neg n N e)) w) := by
 obtain ⟨sl, rfl, ⟨ao, cap, rfl, -, -, -, hc⟩, hn⟩ := hv
 unfold DyV mayB
 by_cases h0 : n = 0
 ·subst h0
  rw [if_pos rfl]
  clear hc hn
  cases neg
  ·by_cases h1 : e = 0
   ·subst h1
    rw [show (!false && decide ((0 : Int) = 0)) = true by decide]
    try clear h1
    go_enter Tryz.func128, Tryz.ntmps128
    go_wp2
    go_ret
    exact ⟨by first | rfl | simp [*], Below.alloc_self _ _⟩
   ·have h2 : (e == 0) = false := by simpa using h1
    rw [show (!false && decide (e = 0)) = false by simp [h1]]
    try clear h1
    go_enter Tryz.func128, Tryz.ntmps128
    go_wp2
    go_ret
    exact ⟨by first | rfl | simp [*], Below.alloc_self _ _⟩
  ·rw [show (!true && decide (e = 0)) = false by simp]
   go_enter Tryz.func128, Tryz.ntmps128
   go_wp2
   go_ret
   exact ⟨by first | rfl | simp [*], Below.alloc_self _ _⟩
 ·rw [if_neg h0]
  have hl0 : 0 < n := by omega
  obtain ⟨b, off, rfl, hb, -, hcc⟩ := hc hl0
  have c1 := hcc (n - 1) (by omega)
  have c0 := hcc 0 hl0
  rw [Nat.add_zero] at c0
  clear hcc hc
  have hd0 : dg 32 N (n - 1) < 4294967296 := dg_lt 32 N (n - 1)
  have hd1 : dg 32 N 0 < 4294967296 := dg_lt 32 N 0
  generalize dg 32 N (n - 1) = dt at *
  generalize dg 32 N 0 = d0 at *
  have hn0 : ((n : Int) == 0) = false := by simp; omega
  by_cases hA : n ≤ 2048
  ·have fA : n ≤ 2048 := hA
   by_cases hB : dt ≠ 0
   ·have fB : ((dt : Int) != 0) = true := by simp; omega
    by_cases hC : d0 % 2 = 1
    ·have fC : ((d0 : Int) % 2 == 1) = true := by simp; omega
     by_cases hD : -100000 ≤ e
     ·have fD : -100000 ≤ e := hD
      by_cases hE : e ≤ 100000
      ·have fE : e ≤ 100000 := hE
       rw [show (decide (n ≤ 2048) && (decide (dt ≠ 0) && (decide (d0 % 2 = 1) && (decide (-100000 ≤ e) && decide (e ≤ 100000))))) = true by simp [hA, hB, hC, hD, hE]]
       clear hA hB hC hD hE
       go_enter Tryz.func128, Tryz.ntmps128
       go_wp2
       go_ret
       exact ⟨by first | rfl | simp [*], Below.alloc_self _ _⟩
      ·have fE : decide (e ≤ 100000) = false := by simp; omega
       rw [show (decide (n ≤ 2048) && (decide (dt ≠ 0) && (decide (d0 % 2 = 1) && (decide (-100000 ≤ e) && decide (e ≤ 100000))))) = false by simp [hE]]
       clear hA hB hC hD hE
       go_enter Tryz.func128, Tryz.ntmps128
       go_wp2
       go_ret
       exact ⟨by first | rfl | simp [*], Below.alloc_self _ _⟩
     ·have fD : e < -100000 := by omega
      rw [show (decide (n ≤ 2048) && (decide (dt ≠ 0) && (decide (d0 % 2 = 1) && (decide (-100000 ≤ e) && decide (e ≤ 100000))))) = false by simp [hD]]
      clear hA hB hC hD
      go_enter Tryz.func128, Tryz.ntmps128
      go_wp2
      go_ret
      exact ⟨by first | rfl | simp [*], Below.alloc_self _ _⟩
    ·have fC : ((d0 : Int) % 2 == 1) = false := by simp; omega
     rw [show (decide (n ≤ 2048) && (decide (dt ≠ 0) && (decide (d0 % 2 = 1) && (decide (-100000 ≤ e) && decide (e ≤ 100000))))) = false by simp [hC]]
     clear hA hB hC
     go_enter Tryz.func128, Tryz.ntmps128
     go_wp2
     go_ret
     exact ⟨by first | rfl | simp [*], Below.alloc_self _ _⟩
   ·have fB : ((dt : Int) != 0) = false := by simp; omega
    rw [show (decide (n ≤ 2048) && (decide (dt ≠ 0) && (decide (d0 % 2 = 1) && (decide (-100000 ≤ e) && decide (e ≤ 100000))))) = false by simp [hB]]
    clear hA hB
    go_enter Tryz.func128, Tryz.ntmps128
    go_wp2
    go_ret
    exact ⟨by first | rfl | simp [*], Below.alloc_self _ _⟩
  ·have fA : 2048 < n := by omega
   rw [show (decide (n ≤ 2048) && (decide (dt ≠ 0) && (decide (d0 % 2 = 1) && (decide (-100000 ≤ e) && decide (e ≤ 100000))))) = false by simp [hA]]
   clear hA
   go_enter Tryz.func128, Tryz.ntmps128
   go_wp2
   go_ret
   exact ⟨by first | rfl | simp [*], Below.alloc_self _ _⟩
end
section
open Go.ChangeShapes Go.WideShapes Go.ChangeAt Go.RowKit
theorem Tryz.laidOut : laidOutB Tryz.prog = true := by kernel_rfl
theorem int_of {H : Type} {enc : TypeId × Value → H} {W : World} {t : TypeId} {k : IntKind} {n : Int} {d : DataW H} {p : List MemPlace} (ht : Tryz.prog.underlying t = some (.int k))
  (h : DataW.Trod enc Tryz.prog W 0 (fun _ => true) true t (.int k n) d p) : (Lit.int k n).wf = true := by
 obtain ⟨fuel, hf⟩ := h
 obtain ⟨k', hc, -, hw⟩ := DataW.trod_int ht hf
 simp [Value.cells] at hc
 subst hc
 exact hw
theorem i64_of {n : Int} (h : (Lit.int .i64 n).wf = true) : -9223372036854775808 ≤ n ∧ n ≤ 9223372036854775807 := by
 simpa [Lit.wf, IntKind.min, IntKind.max, IntKind.signed, IntKind.bits] using h
theorem u64_of {n : Int} (h : (Lit.int .u64 n).wf = true) : ∃ x : Nat, n = x ∧ x < 18446744073709551616 := by
 have h1 : 0 ≤ n ∧ n ≤ 18446744073709551615 := by simpa [Lit.wf, IntKind.min, IntKind.max, IntKind.signed, IntKind.bits] using h
 exact ⟨n.toNat, by omega, by omega⟩
end
end Go.Proofs.YtloohbkceppocaaGreatDoor
