/- Plain: the mean as the references have it, and the highest place of a number's digits. No program. -/
import Derived.Test.YthkhignbmefmjaaGreatDoorZNm3
import Derived.Test.YthkhignbmefmjaaGreatDoorGZ
namespace Go.Proofs.YthkhignbmefmjaaGreatDoor
open Go.RowKit
def quoB (z e : Int) (c : Nat) : Nat := rndX (sgI (decide (z < 0)) (stQ z.natAbs 200 c)) (e - 201) 0
theorem stQ_zero (k c : Nat) : stQ 0 k c = 0 := by unfold stQ; rw [Nat.zero_mul, Nat.zero_div, Nat.zero_mod, if_pos rfl]
theorem quoB_zero (e : Int) (c : Nat) : quoB 0 e c = 0 := by
 unfold quoB
 rw [show (0 : Int).natAbs = 0 from rfl, stQ_zero]; rfl
theorem mnN_eq (N c : Nat) : mnN N c = stQ N 1200 c := rfl
theorem stQ_shift (N t k c : Nat) : stQ (N * 2 ^ t) k c = stQ N (k + t) c := by
 unfold stQ
 rw [Nat.mul_assoc, ← Nat.pow_add, Nat.add_comm t k]
theorem mnB_of {z e : Int} (h : lngB z e = false) : mnB z e = rndX z e 0 := by unfold mnB; rw [if_pos (.inr h), rndX_hv]
theorem mean_quo {z e : Int} {c : Nat} (hc : 0 < c) (hc2 : c ≤ 4096) (hb : bl z.natAbs ≤ 2139) (e1 : -1074 ≤ e) (e2 : e ≤ 1023) : mnQ (hvZ z) (nrE z e) c = quoB z e c := by
 by_cases hz : z = 0
 ·subst hz
  rw [quoB_zero, hvZ_zero]
  unfold mnQ
  rw [show (0 : Int).natAbs = 0 from rfl, mnN_eq, stQ_zero, show sgZ (decide ((0 : Int) < 0)) 0 = 0 by decide]
  unfold mnB
  rw [if_pos (.inl rfl), rndX_hv]; rfl
 ·have hne := hvZ_ne hz
  have hzn : (hvZ z).natAbs ≠ 0 := by omega
  have heq : z.natAbs = (hvZ z).natAbs * 2 ^ tzb z.natAbs := by
   have := congrArg Int.natAbs (hv_eq (z := z))
   rwa [Int.natAbs_mul, natAbs_two_pow] at this
  have hsg : decide (hvZ z < 0) = decide (z < 0) := decide_eq_decide.2 hvZ_neg_iff
  have hE : nrE z e = e + (tzb z.natAbs : Nat) := by unfold nrE hvE; rw [if_neg hz]
  have hN := Nat.le_trans (bl_mono hvZ_natAbs_le) hb
  have ht : tzb z.natAbs ≤ 2139 := Nat.le_trans tzb_le hb
  unfold mnQ quoB
  rw [hsg, hE]
  generalize decide (z < 0) = neg at *
  generalize tzb z.natAbs = t at *
  generalize (hvZ z).natAbs = N at *
  have hq := mnN_bl (N := N) (c := c)
  rw [heq, stQ_shift]
  rw [mnN_eq] at hq ⊢
  have hl : lngB (sgZ neg (stQ N 1200 c)) (e + (t : Int) - 1201) = false := by
   have h1 : bl (hvZ (sgZ neg (stQ N 1200 c))).natAbs ≤ 3341 := Nat.le_trans (bl_mono hvZ_natAbs_le) (by rw [sgZ_abs]; omega)
   have h2 : tzb (sgZ neg (stQ N 1200 c)).natAbs ≤ 3341 := Nat.le_trans tzb_le (by rw [sgZ_abs]; omega)
   unfold lngB hvE
   rw [decide_eq_false (by omega), decide_eq_false (by omega), decide_eq_false (by omega)]; rfl
  rw [mnB_of hl]
  have h3 := stQ_same (N := N) (c := c) (k1 := 1200) (k2 := 200 + t) (E := e + (t : Int)) neg hzn hc hc2 (by decide) (by omega)
  rw [show e + (t : Int) - ((200 + t : Nat) : Int) - 1 = e - 201 by omega, show e + (t : Int) - ((1200 : Nat) : Int) - 1 = e + (t : Int) - 1201 by omega] at h3
  exact h3
theorem mean_refs {l : List Nat} (h0 : l.length ≠ 0) (h1 : l.length ≤ 4096) (hf : l.all finB = true) :
  mnQ (hvZ (foldS (prs l)).1) (nrE (foldS (prs l)).1 (foldS (prs l)).2) l.length = quoB (foldS (prs l)).1 (foldS (prs l)).2 l.length := by
 have hs := prs_small (l := l) (by omega) hf l.length (Nat.le_refl _)
 rw [show (prs l).take l.length = prs l from List.take_of_length_le (by unfold prs; simp)] at hs
 exact mean_quo (by omega) h1 hs.2.2 hs.1 hs.2.1
theorem top_parts {m : Nat} (h0 : m ≠ 0) (h : m < kInf) : pE m + (bl (valZ m).natAbs : Int) - 1 = topE m := by
 have hk : kHid = 4503599627370496 := rfl
 have hi : kInf = 9218868437227405312 := rfl
 have hs : sgnB m = false := by unfold sgnB; exact decide_eq_false (by unfold kSign; omega)
 have hE : expF m = m / kHid := by unfold expF; exact Nat.mod_eq_of_lt (by rw [hk]; omega)
 have hm0 : mantB m ≠ 0 := by
  unfold mantB fracF
  rw [hE, hk]
  split <;> omega
 have hv : (valZ m).natAbs = mantB m / 2 ^ Lib.ctz 64 (mantB m) := by unfold valZ; rw [hs, if_neg (by decide), Int.natAbs_natCast]; rfl
 have hmb : mantB m < 2 ^ 53 := by
  unfold mantB fracF
  rw [hk]
  split <;> omega
 have hct : 2 ^ Lib.ctz 64 (mantB m) ≤ mantB m := by
  rcases pM_spec m with h1 | ⟨-, h1, h2, -⟩
  ·exact absurd h1.1 hm0
  ·have h3 : 1 * 2 ^ Lib.ctz 64 (mantB m) ≤ pM m * 2 ^ Lib.ctz 64 (mantB m) := Nat.mul_le_mul_right _ (by omega)
   omega
 have hb := bl_trunc hct
 have hp : pE m = expB m + (Lib.ctz 64 (mantB m) : Int) := by unfold pE; rw [if_neg hm0]
 rw [hv, hp]
 have key : expB m + (bl (mantB m) : Int) - 1 = topE m := by
  unfold expB topE mantB fracF
  rw [hE]
  by_cases c : m < kHid
  ·rw [if_pos c, Nat.div_eq_of_lt c, if_pos rfl, if_pos rfl, Nat.mod_eq_of_lt c]; omega
  ·have hd : m / kHid ≠ 0 := by rw [hk] at c ⊢; omega
   rw [if_neg c, if_neg hd, if_neg hd]
   have hbb : bl (m % kHid + kHid) = 53 := by
    refine Nat.le_antisymm (bl_le_of_lt (by rw [hk]; omega)) ?_
    rcases Nat.lt_or_ge (bl (m % kHid + kHid)) 53 with h3 | h3
    ·have := bl_le_iff.1 (show bl (m % kHid + kHid) ≤ 52 by omega)
     rw [hk] at this; omega
    ·exact h3
   first | (rw [hbb]; omega) | (rw [Nat.add_comm, hbb]; omega)
 omega
def nrX (l : List Nat) (k : Nat) : Nat := (l.take k).foldl (fun m x => max m (x % kSign)) 0
theorem nrX_succ {l : List Nat} {k : Nat} (h : k < l.length) : nrX l (k + 1) = max (nrX l k) (l[k] % kSign) := by
 unfold nrX
 rw [List.take_succ_eq_append_getElem h, List.foldl_append]; rfl
theorem fin_amount {x : Nat} (hf : finB x = true) : x % kSign < kInf := by
 have h1 : kInf = 9218868437227405312 := rfl
 have h2 : kSign = 9223372036854775808 := rfl
 have h3 : kHid = 4503599627370496 := rfl
 unfold finB expF at hf
 have h4 := of_decide_eq_true hf
 rw [h3] at h4
 rw [h1, h2]
 omega
theorem nrX_lt {l : List Nat} (hf : l.all finB = true) : ∀ k, k ≤ l.length → nrX l k < kInf
 | 0, _ => show 0 < kInf by decide
 | k + 1, h => by
  rw [nrX_succ (by omega)]
  have h1 := nrX_lt hf k (by omega)
  have h2 := fin_amount (List.all_eq_true.1 hf _ (List.getElem_mem (by omega : k < l.length)))
  omega
def nrmS (l : List Nat) : Nat := rndX 1 (topE (nrX l l.length)) 0
def nrmR (l : List Nat) : Nat := nrR (nrmS l) (nrT (nrmS l) l l.length)
def nrmB (l : List Nat) : Nat × Int :=
 if 4096 < l.length then (0, 2) else if l.all finB = false then (0, 4) else if nrX l l.length = 0 then (0, 0) else if finB (nrmR l) then (nrmR l, 0) else (0, 5)
end Go.Proofs.YthkhignbmefmjaaGreatDoor
