/- Plain: the length of a list, step by step: no step is a NaN. No program. -/
import Derived.Test.YthkhignbmefmjaaGreatDoorZNm2
import Derived.Test.YthkhignbmefmjaaGreatDoorID
import Derived.Test.YthkhignbmefmjaaGreatDoorZIww
import Derived.Test.YthkhignbmefmjaaGreatDoorZIwp
namespace Go.Proofs.YthkhignbmefmjaaGreatDoor
open Go.RowKit
theorem nought_t {u : Nat} (h : ky u = 0) : u = 0 ∨ u = kSign := by
 by_cases e : u = kSign
 ·exact .inr e
 ·have := kb_own e
  rw [h] at this
  exact .inl (this.symm.trans (by decide))
theorem mul_self_pos (a : Int) : 0 ≤ a * a := by
 rcases Int.le_total 0 a with h | h
 ·exact Int.mul_nonneg h h
 ·exact Int.mul_nonneg_of_nonpos_of_nonpos h h
theorem inf_of {x : Nat} (hx : W64 x) (nx : nanB x = false) (fx : finB x = false) : x = kInf ∨ x = kSign + kInf := by
 have h1 := num_of nx
 have h2 : x < 18446744073709551616 := hx
 unfold finB expF at fx
 have h3 := of_decide_eq_false fx
 have e1 : kInf = 9218868437227405312 := rfl
 have e2 : kSign = 9223372036854775808 := rfl
 have e3 : kHid = 4503599627370496 := rfl
 rw [e3] at h3
 rw [e2, e1] at h1
 rw [e2, e1]
 omega
theorem pos_inf {x : Nat} (hx : W64 x) (nx : nanB x = false) (fx : finB x = false) (h : 0 ≤ ky x) : x = kInf := by
 have h1 := inf_of hx nx fx
 rcases h1 with h1 | h1
 ·exact h1
 ·exfalso
  rw [h1] at h
  exact absurd h (by decide)
theorem fadd_pos {t p : Nat} (ht : W64 t) (hp : W64 p) (nt : nanB t = false) (np : nanB p = false) (t0 : 0 ≤ ky t) (p0 : 0 ≤ ky p) : ∃ r, F6.add t p = some r ∧ W64 r ∧ nanB r = false ∧ 0 ≤ ky r := by
 have hki : (0 : Int) ≤ ky kInf := by decide
 cases ft : finB t
 ·obtain rfl := pos_inf ht nt ft t0
  refine ⟨kInf, ?_, by decide, by decide, hki⟩
  cases fp : finB p
  ·obtain rfl := pos_inf hp np fp p0
   decide
  ·unfold Ieee.Format.add
   rw [show F6.read kInf = .infinity false by decide, read_fin hp fp]; rfl
 ·cases fp : finB p
  ·obtain rfl := pos_inf hp np fp p0
   refine ⟨kInf, ?_, by decide, by decide, hki⟩
   unfold Ieee.Format.add
   rw [show F6.read kInf = .infinity false by decide, read_fin ht ft]; rfl
  ·obtain ⟨r, h1, h2, h3, h4⟩ := fadd_ky ht hp ft fp
   obtain ⟨u1, u2⟩ := up_sum ft fp
   have v1 := (ky_le_vI (M := 1074) (by decide) ht (by decide) ft (Int.le_refl _)).1 (show ky 0 ≤ ky t from t0)
   have v2 := (ky_le_vI (M := 1074) (by decide) hp (by decide) fp (Int.le_refl _)).1 (show ky 0 ≤ ky p from p0)
   rw [vI_zero] at v1 v2
   rw [← fI_vI] at v1 v2
   have h5 := le_rnd (c := 0) (M := 1074) 0 (Int.le_refl _) u1 (by decide) (by decide) (by rw [vI_zero, u2]; omega)
   exact ⟨r, h1, h2, num_iff.2 h3, by rw [h4]; exact h5⟩
theorem fmul_own {y : Nat} (hy : W64 y) (ny : nanB y = false) : ∃ r, F6.mul y y = some r ∧ W64 r ∧ nanB r = false ∧ 0 ≤ ky r := by
 cases fy : finB y
 ·have y0 : ky y ≠ 0 := by
   rcases inf_of hy ny fy with h | h <;> rw [h] <;> decide
  obtain ⟨r, h1, h2, h3, h4⟩ := mul_inf hy hy ny ny y0 y0 (.inl fy)
  refine ⟨r, h1, h2, h3, ?_⟩
  rw [h4]
  unfold sgK
  rw [if_pos (by simp)]; decide
 ·obtain ⟨r, h1, h2, h3, h4⟩ := fmul_ky hy hy fy fy
  have hp := pE_bd fy
  have h5 := le_rnd (c := 0) (M := 2148) (z := valZ y * valZ y) (e := pE y + pE y) 0 (by decide) (by omega) (by decide) (by decide) (by
   rw [vI_zero, show (2148 : Int) = 1074 + 1074 from rfl, sc_mul (by omega) (by omega)]
   exact mul_self_pos _)
  exact ⟨r, h1, h2, num_iff.2 h3, by rw [h4]; exact h5⟩
theorem fdiv_by {x s : Nat} (hx : W64 x) (hs : W64 s) (fx : finB x = true) (fs : finB s = true) (s0 : valZ s ≠ 0) : ∃ r, F6.div x s = some r ∧ W64 r ∧ nanB r = false := by
 by_cases x0 : valZ x = 0
 ·obtain ⟨r, h1, h2, h3, -⟩ := fdiv_zero hx hs fx fs x0 s0
  exact ⟨r, h1, h2, nan_fin h3⟩
 ·have h1 := (fdiv_fin hx hs fx fs x0 s0).1
  exact ⟨_, h1, (rndX_lt _ _ 0).1, num_iff.2 (rndX_lt _ _ 0).2⟩
def stT (s t x : Nat) : Nat := ((F6.div x s).bind fun y => (F6.mul y y).bind fun p => F6.add t p).getD 0
theorem st_ok {s t x : Nat} (hx : W64 x) (hs : W64 s) (fx : finB x = true) (fs : finB s = true) (s0 : valZ s ≠ 0) (ht : W64 t) (nt : nanB t = false) (t0 : 0 ≤ ky t) :
  ∃ y p, F6.div x s = some y ∧ F6.mul y y = some p ∧ F6.add t p = some (stT s t x) ∧ W64 (stT s t x) ∧ nanB (stT s t x) = false ∧ 0 ≤ ky (stT s t x) := by
 obtain ⟨y, h1, hy, ny⟩ := fdiv_by hx hs fx fs s0
 obtain ⟨p, h2, hp, np, p0⟩ := fmul_own hy ny
 obtain ⟨r, h3, hr, nr, r0⟩ := fadd_pos ht hp nt np t0 p0
 have hst : stT s t x = r := by unfold stT; rw [h1, Option.bind_some, h2, Option.bind_some, h3]; rfl
 rw [hst]
 exact ⟨y, p, h1, h2, h3, hr, nr, r0⟩
def nrT (s : Nat) (l : List Nat) (k : Nat) : Nat := (l.take k).foldl (stT s) 0
theorem nrT_succ {s : Nat} {l : List Nat} {k : Nat} (h : k < l.length) : nrT s l (k + 1) = stT s (nrT s l k) l[k] := by
 unfold nrT
 rw [List.take_succ_eq_append_getElem h, List.foldl_append]; rfl
theorem nrT_ok {s : Nat} {l : List Nat} (hs : W64 s) (fs : finB s = true) (s0 : valZ s ≠ 0) (hl : ∀ x ∈ l, W64 x) (hf : l.all finB = true) : ∀ k, k ≤ l.length → W64 (nrT s l k) ∧ nanB (nrT s l k) = false ∧ 0 ≤ ky (nrT s l k)
 | 0, _ => show W64 0 ∧ nanB 0 = false ∧ (0 : Int) ≤ ky 0 by decide
 | k + 1, h => by
  obtain ⟨a, b, c⟩ := nrT_ok hs fs s0 hl hf k (by omega)
  have hm : l[k] ∈ l := List.getElem_mem _
  obtain ⟨y, p, -, -, -, h4, h5, h6⟩ := st_ok (hl _ hm) hs (List.all_eq_true.1 hf _ hm) fs s0 a b c
  rw [nrT_succ (by omega)]
  exact ⟨h4, h5, h6⟩
def nrR (s t : Nat) : Nat := ((F6.sqrt t).bind fun q => F6.mul q s).getD 0
theorem nrR_ok {s t : Nat} (hs : W64 s) (fs : finB s = true) (sp : 0 < ky s) (ht : W64 t) (nt : nanB t = false) (t0 : 0 ≤ ky t) :
  ∃ q, F6.sqrt t = some q ∧ F6.mul q s = some (nrR s t) ∧ W64 (nrR s t) ∧ nanB (nrR s t) = false ∧ (finB t && finB (nrR s t)) = finB (nrR s t) := by
 have s0 : ky s ≠ 0 := by omega
 have sv := (mant_ne hs fs s0).1
 have fin : ∀ q, F6.sqrt t = some q → W64 q → nanB q = false → (finB t = false → q = kInf) → ∃ q, F6.sqrt t = some q ∧ F6.mul q s = some (nrR s t) ∧ W64 (nrR s t) ∧ nanB (nrR s t) = false ∧ (finB t && finB (nrR s t)) = finB (nrR s t) := by
  intro q h1 hq nq hi
  have hm : ∃ r, F6.mul q s = some r ∧ W64 r ∧ nanB r = false ∧ (q = kInf → finB r = false) := by
   cases fq : finB q
   ·have q0 : ky q ≠ 0 := by
     rcases inf_of hq nq fq with h | h <;> rw [h] <;> decide
    obtain ⟨r, a, b, c, d⟩ := mul_inf hq hs nq (nan_fin fs) q0 s0 (.inl fq)
    refine ⟨r, a, b, c, fun e => ?_⟩
    rw [e] at d
    have hk : sgK kInf s = kInf := by unfold sgK; rw [if_pos (by rw [decide_eq_true sp]; decide)]
    rw [hk] at d
    cases fr : finB r
    ·rfl
    ·have := ((fin_ky b (num_of c)).1 fr).2; omega
   ·obtain ⟨r, a, b, c, -⟩ := fmul_ky hq hs fq fs
    exact ⟨r, a, b, num_iff.2 c, fun e => by rw [e] at fq; exact absurd fq (by decide)⟩
  obtain ⟨r, a, b, c, d⟩ := hm
  have hr : nrR s t = r := by unfold nrR; rw [h1, Option.bind_some, a]; rfl
  rw [hr]
  refine ⟨q, h1, a, b, c, ?_⟩
  cases ft : finB t
  ·rw [d (hi ft)]; rfl
  ·rfl
 cases ft : finB t
 ·obtain rfl := pos_inf ht nt ft t0
  have := fin kInf (by decide) (by decide) (by decide) (fun _ => rfl)
  rwa [ft] at this
 ·rw [ft] at fin
  by_cases h0 : ky t = 0
  ·rcases nought_t h0 with rfl | rfl
   ·exact fin 0 (by decide) (by decide) (by decide) (fun h => by cases h)
   ·exact fin kSign (by decide) (by decide) (by decide) (fun h => by cases h)
  ·have hsg : sgnB t = false := by rw [sgn_ky ht h0]; exact decide_eq_false (by omega)
   exact fin _ (fsqrt_fin ht ft (mant_ne ht ft h0).1 hsg).1 (rndX_lt _ _ 0).1 (num_iff.2 (rndX_lt _ _ 0).2) (fun h => by cases h)
theorem pow_fl {k : Int} (h1 : -1074 ≤ k) (h2 : k ≤ 1023) : W64 (rndX 1 k 0) ∧ finB (rndX 1 k 0) = true ∧ 0 < ky (rndX 1 k 0) := by
 have hz : (1 : Int) ≠ 0 := by decide
 have hp := pack_rnd (e := k) (mode := 0) hz
 have hkk : kHid = 4503599627370496 := rfl
 have hr : rndX 1 k 0 = packB false (roundZ 1 k 53 (-1074) 0) (lastE 1 k 53 (-1074)) 0 := by
  unfold rndX; rw [if_neg hz, ← hp]; rfl
 have key : ∃ e g : Nat, rndX 1 k 0 = e * kHid + g ∧ e ≤ 2046 ∧ g < kHid ∧ 0 < e * kHid + g := by
  by_cases hn : -1022 ≤ k
  ·have hL : lastE 1 k 53 (-1074) = k - 52 := by unfold lastE; rw [show bl (1 : Int).natAbs = 1 by decide]; omega
   have hq : roundZ 1 k 53 (-1074) 0 = 2 ^ 52 := by
    unfold roundZ cutZ
    rw [hL, if_pos (by omega), show (-(k - 52 - k)).toNat = 52 by omega]; rfl
   rw [hr, hL, hq]
   unfold packB
   rw [show bl (2 ^ 52) = 53 by decide, if_neg (by omega), if_neg (by omega), if_neg (by omega)]
   refine ⟨(k + 1023).toNat, 0, ?_, by omega, by decide, by rw [hkk]; omega⟩
   unfold joinB
   rw [if_neg (by decide), show (k - 52 + 1075).toNat = (k + 1023).toNat by omega, hkk, Nat.zero_add]
  ·have hL : lastE 1 k 53 (-1074) = -1074 := by unfold lastE; rw [show bl (1 : Int).natAbs = 1 by decide]; omega
   have hq : roundZ 1 k 53 (-1074) 0 = 2 ^ (k + 1074).toNat := by
    unfold roundZ cutZ
    rw [hL, if_pos (by omega), show (-(-1074 - k)).toNat = (k + 1074).toNat by omega, show (1 : Int).natAbs = 1 from rfl, Nat.one_mul]
   have hb : bl (2 ^ (k + 1074).toNat) = (k + 1074).toNat + 1 := bl_two_pow _
   have hlt : 2 ^ (k + 1074).toNat < kHid := Nat.pow_lt_pow_right (by decide) (show (k + 1074).toNat < 52 by omega)
   rw [hr, hL, hq]
   unfold packB
   rw [hb, if_neg (by omega), if_neg (by omega), if_pos (by omega)]
   refine ⟨0, 2 ^ (k + 1074).toNat, ?_, by omega, hlt, by have := Nat.two_pow_pos (k + 1074).toNat; omega⟩
   unfold joinB
   rw [if_neg (by decide), Nat.zero_add]
 obtain ⟨e, g, h3, h4, h5, h6⟩ := key
 have he := Nat.mul_le_mul_right kHid h4
 have hex := join_exp (e := e) (by omega) h5
 unfold joinB at hex
 rw [if_neg (by decide), Nat.zero_add] at hex
 rw [h3]
 rw [hkk] at *
 have hlt : e * 4503599627370496 + g < kSign := by unfold kSign; omega
 have hlt2 : e * 4503599627370496 + g < 9223372036854775808 := hlt
 refine ⟨Nat.lt_trans hlt (by decide), ?_, ?_⟩
 ·unfold finB
  rw [hex]
  exact decide_eq_true (by omega)
 ·unfold ky
  rw [if_pos hlt]; omega
theorem topE_bd {m : Nat} (h0 : m ≠ 0) (h : m < kInf) : -1074 ≤ topE m ∧ topE m ≤ 1023 := by
 have hi : kInf = 9218868437227405312 := rfl
 have hkk : kHid = 4503599627370496 := rfl
 unfold topE
 split
 ·rename_i hm
  have h1 := bl_pos h0
  have h2 : bl m ≤ 52 := bl_le_of_lt hm
  omega
 ·unfold expF
  rw [hi] at h
  rw [hkk] at *
  omega
end Go.Proofs.YthkhignbmefmjaaGreatDoor
