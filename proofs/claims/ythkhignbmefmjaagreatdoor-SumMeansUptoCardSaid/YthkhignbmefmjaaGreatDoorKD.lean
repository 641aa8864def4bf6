/- Walks: the references' format of binary64 (binnacleref02): its words. -/
import Derived.Test.YthkhignbmefmjaaGreatDoorKC
import Derived.Test.YthkhignbmefmjaaGreatDoorGK
import Derived.Test.YthkhignbmefmjaaGreatDoorGT
import Derived.Test.YthkhignbmefmjaaGreatDoorGM
namespace Go.Proofs.YthkhignbmefmjaaGreatDoor
section
open Go.RowKit
def ovB (neg : Bool) (mode : Int) : Nat := if mode = 2 ∨ mode = 3 ∧ neg = true ∨ mode = 4 ∧ neg = false then joinB neg 2046 4503599627370495 else joinB neg 2047 0
end
section
open Go.RowKit
def Its (w0 W : World) (l : List (Nat × Int)) : Prop := (∀ t ∈ l, RInt W t.1 t.2) ∧ Below w0.heap.size w0 W
theorem Its.later {w0 W V : World} {l : List (Nat × Int)} (h : Its w0 W l) (hb : Below W.heap.size W V) : Its w0 V l := ⟨fun t m => (h.1 t m).below hb, h.2.trans (hb.mono h.2.size)⟩
theorem Its.get {w0 W : World} {l : List (Nat × Int)} (h : Its w0 W l) {b : Nat} {z : Int} (m : (b, z) ∈ l) : RInt W b z := h.1 _ m
theorem Its.lt {w0 W : World} {l : List (Nat × Int)} (h : Its w0 W l) : ∀ t ∈ l, t.1 < W.heap.size := fun t m => (h.1 t m).1.1
theorem Its.cons {w0 W : World} {l : List (Nat × Int)} (h : Its w0 W l) {b : Nat} {z : Int} (hb : RInt W b z) : Its w0 W ((b, z) :: l) :=
 ⟨fun t m => by rcases List.mem_cons.1 m with rfl | m; exact hb; exact h.1 t m, h.2⟩
theorem Its.alloc {w0 W : World} {l : List (Nat × Int)} (h : Its w0 W l) : Its w0 (W.alloc (.cells #[.bool false, .slice none 0 0] 92)) ((W.heap.size, 0) :: l) :=
 (h.later (Below.alloc_self W _)).cons (IntK.zero (k := .u32) (s := 32) W _ objT_rint)
theorem Its.puts {w0 W V : World} {l : List (Nat × Int)} {b : Nat} {z y : Int} (h : Its w0 W ((b, z) :: l)) (hb : w0.heap.size ≤ b) (hn : ∀ t ∈ l, t.1 ≠ b) (hm : Mod b 0 W V) (hi : RInt V b y) : Its w0 V ((b, y) :: l) := by
 have h0 := (h.get (.head _)).1
 refine ⟨fun t m => ?_, Mod.below h.2 hm hb h.2.size⟩
 rcases List.mem_cons.1 m with rfl | m
 ·exact hi
 ·exact (h.1 t (.tail _ m)).mod hm (.inl (hn t m)) h0.2.1
def cutC (N s : Nat) (more : Bool) : Int :=
 if N % 2 ^ s = 0 ∧ more = false then -2 else if cmpZ (N % 2 ^ s : Nat) (2 ^ (s - 1) : Nat) = 0 ∧ more = true then 1 else cmpZ (N % 2 ^ s : Nat) (2 ^ (s - 1) : Nat)
end
section
open Go.RowKit
def gU (neg : Bool) (Q : Nat) (c mode : Int) : Bool :=
 if mode = 0 then decide (0 < c) || (decide (c = 0) && decide (Q % 2 = 1)) else if mode = 3 then !neg && decide (-2 < c) else neg && decide (-2 < c)
theorem cmp_iff (a b : Nat) : (0 < cmpZ a b ↔ b < a) ∧ (cmpZ a b = 0 ↔ a = b) ∧ -2 < cmpZ a b := by
 unfold cmpZ
 split
 ·omega
 ·split <;> omega
theorem gU_up {N s : Nat} {neg : Bool} {mode : Int} (hm : mode = 0 ∨ mode = 3 ∨ mode = 4) : gU neg (N / 2 ^ s) (cutC N s false) mode = upB N s neg mode := by
 by_cases h0 : N % 2 ^ s = 0
 ·rw [up_z h0, show cutC N s false = -2 from if_pos ⟨h0, rfl⟩]
  rcases hm with rfl | rfl | rfl
  ·rfl
  ·cases neg <;> rfl
  ·cases neg <;> rfl
 ·have hc : cutC N s false = cmpZ (N % 2 ^ s : Nat) (2 ^ (s - 1) : Nat) := by
   unfold cutC
   rw [if_neg (fun t => h0 t.1), if_neg (fun t => by cases t.2)]
  rw [hc]
  obtain ⟨c1, c2, c3⟩ := cmp_iff (N % 2 ^ s) (2 ^ (s - 1))
  generalize cmpZ (N % 2 ^ s : Nat) (2 ^ (s - 1) : Nat) = z at *
  rcases hm with rfl | rfl | rfl
  ·rw [up_0 h0]
   show (decide (0 < z) || (decide (z = 0) && _)) = _
   rw [decide_eq_decide.2 c1, decide_eq_decide.2 c2]
  ·rw [up_3 h0]
   show (!neg && decide (-2 < z)) = _
   rw [decide_eq_true c3, Bool.and_true]
  ·rw [up_4 h0]
   show (neg && decide (-2 < z)) = _
   rw [decide_eq_true c3, Bool.and_true]
theorem gU_more {N s : Nat} (hs : 1 ≤ s) {neg : Bool} {mode : Int} (hm : mode = 0 ∨ mode = 3 ∨ mode = 4) :
  (2 * N + 1) / 2 ^ (s + 1) = N / 2 ^ s ∧ gU neg (N / 2 ^ s) (cutC N s true) mode = upB (2 * N + 1) (s + 1) neg mode := by
 have e1 : 2 ^ (s + 1) = 2 * 2 ^ s := by rw [Nat.pow_succ, Nat.mul_comm]
 have e2 : 2 ^ s = 2 * 2 ^ (s - 1) := by rw [← Nat.pow_succ', Nat.succ_eq_add_one, Nat.sub_add_cancel hs]
 have hd : (2 * N + 1) / 2 ^ (s + 1) = N / 2 ^ s := by
  rw [e1, ← Nat.div_div_eq_div_mul, show (2 * N + 1) / 2 = N by omega]
 have hr : (2 * N + 1) % 2 ^ (s + 1) = 2 * (N % 2 ^ s) + 1 := by
  have h1 := Nat.div_add_mod (2 * N + 1) (2 ^ (s + 1))
  have h2 := Nat.div_add_mod N (2 ^ s)
  rw [hd, e1, Nat.mul_assoc] at h1
  rw [e1]
  omega
 have h0 : ¬ (2 * N + 1) % 2 ^ (s + 1) = 0 := by omega
 refine ⟨hd, ?_⟩
 have hc : cutC N s true = if cmpZ (N % 2 ^ s : Nat) (2 ^ (s - 1) : Nat) = 0 then 1 else cmpZ (N % 2 ^ s : Nat) (2 ^ (s - 1) : Nat) := by
  unfold cutC
  rw [if_neg (fun t => by cases t.2)]
  simp
 rw [hc]
 obtain ⟨c1, c2, c3⟩ := cmp_iff (N % 2 ^ s) (2 ^ (s - 1))
 generalize cmpZ (N % 2 ^ s : Nat) (2 ^ (s - 1) : Nat) = z at *
 have d1 : (0 < if z = 0 then 1 else z) ↔ 2 ^ (s + 1 - 1) < (2 * N + 1) % 2 ^ (s + 1) := by
  rw [hr, Nat.add_sub_cancel]
  split <;> omega
 have d2 : ((if z = 0 then 1 else z) = 0) ↔ (2 * N + 1) % 2 ^ (s + 1) = 2 ^ (s + 1 - 1) := by
  rw [hr, Nat.add_sub_cancel]
  split <;> omega
 have d3 : (-2 : Int) < if z = 0 then 1 else z := by split <;> omega
 generalize (if z = 0 then 1 else z) = y at *
 rcases hm with rfl | rfl | rfl
 ·rw [up_0 h0, hd]
  show (decide (0 < y) || (decide (y = 0) && _)) = _
  rw [decide_eq_decide.2 d1, decide_eq_decide.2 d2]
 ·rw [up_3 h0]
  show (!neg && decide (-2 < y)) = _
  rw [decide_eq_true d3, Bool.and_true]
 ·rw [up_4 h0]
  show (neg && decide (-2 < y)) = _
  rw [decide_eq_true d3, Bool.and_true]
def packB (neg : Bool) (q : Nat) (L mode : Int) : Nat :=
 if 53 < bl q then (if 1023 < L + 1 + bl (q / 2) - 1 then ovB neg mode else if bl (q / 2) < 53 then joinB neg 0 (q / 2) else joinB neg (L + 1 + 1075).toNat (q / 2 % kHid))
 else (if 1023 < L + bl q - 1 then ovB neg mode else if bl q < 53 then joinB neg 0 q else joinB neg (L + 1075).toNat (q % kHid))
theorem ov_bey (neg : Bool) (mode : Int) : ovB neg mode = (if neg then kSign else 0) + (if beyB neg mode then kInf - 1 else kInf) := by
 have e : (mode = 2 ∨ mode = 3 ∧ neg = true ∨ mode = 4 ∧ neg = false) ↔ beyB neg mode = true := by
  unfold beyB
  cases neg <;> simp
 unfold ovB
 by_cases h : beyB neg mode = true
 ·rw [if_pos (e.2 h), if_pos h]; cases neg <;> decide
 ·rw [if_neg (fun t => h (e.1 t)), if_neg h]; cases neg <;> decide
theorem pack_rnd {z e mode : Int} (hz : z ≠ 0) : packB (decide (z < 0)) (roundZ z e 53 (-1074) mode) (lastE z e 53 (-1074)) mode = rndB z e mode := by
 have h1 := roundZ_le z e 53 (-1074) mode 53 rfl
 have h2 : -1074 ≤ lastE z e 53 (-1074) := by unfold lastE; omega
 have h3 := roundZ_low (e := e) (mode := mode) hz
 unfold rndB
 generalize roundZ z e 53 (-1074) mode = m at *
 generalize lastE z e 53 (-1074) = L at *
 generalize decide (z < 0) = neg
 rw [mkB_word h1 h2 h3]
 unfold packB joinB
 rw [ov_bey]
 have k1 : kHid = 2 ^ 52 := by decide
 rcases Nat.lt_or_ge m (2 ^ 53) with h | h
 ·have hb : bl m ≤ 53 := bl_le_of_lt h
  rw [if_neg (by omega)]
  by_cases ho : L + (bl m : Int) ≤ 1024
  ·rw [if_neg (by omega), if_pos ho]
   by_cases hb2 : bl m < 53
   ·rw [if_pos hb2]
    have hm : m < 2 ^ 52 := bl_le_iff.1 (by omega)
    have hL : L = -1074 := by rcases h3 with h3 | h3; exact h3; omega
    subst hL
    rw [show ((-1074 : Int) + 1074).toNat = 0 by decide]
    omega
   ·rw [if_neg hb2]
    have hm : 2 ^ 52 ≤ m := by
     rcases Nat.lt_or_ge m (2 ^ 52) with h5 | h5
     ·have := bl_le_of_lt h5; omega
     ·exact h5
    have hmod : m % kHid = m - kHid := by rw [k1, Nat.mod_eq_sub_mod hm, Nat.mod_eq_of_lt (by omega)]
    have hsplit : (L + 1075).toNat = (L + 1074).toNat + 1 := by omega
    rw [hmod, hsplit, Nat.add_mul, Nat.one_mul]
    omega
  ·rw [if_pos (by omega), if_neg ho]
 ·have hm : m = 2 ^ 53 := by omega
  subst hm
  have hb : bl (2 ^ 53) = 54 := by decide
  have hb2 : bl (2 ^ 53 / 2) = 53 := by decide
  rw [hb, hb2, if_pos (by decide)]
  by_cases ho : L + ((54 : Nat) : Int) ≤ 1024
  ·rw [if_neg (by omega), if_pos ho, if_neg (by decide)]
   have hsplit : (L + 1 + 1075).toNat = (L + 1074).toNat + 2 := by omega
   rw [hsplit, Nat.add_mul, show 2 ^ 53 / 2 % kHid = 0 by decide, show 2 * kHid = 2 ^ 53 by decide]
   omega
  ·rw [if_pos (by omega), if_neg ho]
end
end Go.Proofs.YthkhignbmefmjaaGreatDoor
