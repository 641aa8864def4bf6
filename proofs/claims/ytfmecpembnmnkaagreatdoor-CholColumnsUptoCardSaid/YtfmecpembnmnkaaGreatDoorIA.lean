/- Plain: the sum of two numbers and what is lost of it, whichever is the greater (Knuth's six steps). No program. -/
import Derived.Test.YtfmecpembnmnkaaGreatDoorBD
import Derived.Test.YtfmecpembnmnkaaGreatDoorGX
namespace Go.Proofs.YtfmecpembnmnkaaGreatDoor
section
open Go.RowKit
theorem Rep53.near {x y : Int} (hx : Rep53 x) (hy : Rep53 y) (h1 : (x - y).natAbs ≤ x.natAbs) (h2 : (x - y).natAbs ≤ y.natAbs) : Rep53 (x - y) := by
 obtain ⟨m, i, rfl, hm⟩ := hx
 obtain ⟨n, j, rfl, hn⟩ := hy
 have e1 : (m * 2 ^ i).natAbs = m.natAbs * 2 ^ i := by rw [Int.natAbs_mul, Int.natAbs_pow]; rfl
 have e2 : (n * 2 ^ j).natAbs = n.natAbs * 2 ^ j := by rw [Int.natAbs_mul, Int.natAbs_pow]; rfl
 by_cases hij : i ≤ j
 ·refine dvd_natAbs_le (j := i) (Int.dvd_sub (Int.dvd_mul_left _ _) (Int.dvd_trans ?_ (Int.dvd_mul_left _ _))) (Nat.le_trans h1 (by rw [e1]; exact Nat.mul_le_mul_right _ hm))
  exact ⟨2 ^ (j - i), by rw [← Int.pow_add]; congr 1; omega⟩
 ·refine dvd_natAbs_le (j := j) (Int.dvd_sub (Int.dvd_trans ?_ (Int.dvd_mul_left _ _)) (Int.dvd_mul_left _ _)) (Nat.le_trans h2 (by rw [e2]; exact Nat.mul_le_mul_right _ hn))
  exact ⟨2 ^ (i - j), by rw [← Int.pow_add]; congr 1; omega⟩
theorem two_sum {a b s t p d f r : Int} (ha : Rep53 a) (hb : Rep53 b) (hs : NearR (a + b) s) (ht : NearR (s - a) t) (hp : NearR (s - t) p) (hd : NearR (a - p) d) (hf : NearR (b - t) f) (hr : NearR (d + f) r) : r = a + b - s := by
 have hu := hs.ulp
 by_cases hab : b.natAbs ≤ a.natAbs
 ·obtain ⟨h1, h2⟩ := fast_two ha hb hab hs
  have e1 := ht.self h1
  have e2 := hp.self (by rw [e1, show s - (s - a) = a by omega]; exact ha)
  have e4 := hd.self (by rw [e2, e1, show a - (s - (s - a)) = 0 by omega]; exact Rep53.zero)
  have e5 := hf.self (by rw [e1, show b - (s - a) = a + b - s by omega]; exact h2)
  have e6 := hr.self (by rw [e4, e5, show a - p + (b - t) = a + b - s by omega]; exact h2)
  omega
 ·have hs' : NearR (b + a) s := by rw [Int.add_comm]; exact hs
  obtain ⟨h1, h2⟩ := fast_two hb ha (by omega) hs'
  by_cases has : a.natAbs ≤ s.natAbs
  ·have ht' : NearR (s + -a) t := by rw [← Int.sub_eq_add_neg]; exact ht
   obtain ⟨h3, h4⟩ := fast_two hs.1 ha.neg (by rw [Int.natAbs_neg]; exact has) ht'
   have e2 := hp.self (by rw [show s - t = -(t - s) by omega]; exact h3.neg)
   have e4 := hd.self (by rw [e2, show a - (s - t) = -(s + -a - t) by omega]; exact h4.neg)
   have h5 := ht.2 b hb
   have e5 := hf.self (hb.near ht.1 (by omega) (by omega))
   have e6 := hr.self (by rw [e4, e5, e2, show a - (s - t) + (b - t) = b + a - s by omega]; exact h2)
   omega
  ·have h3 := hs.2 a ha
   have h4 := hs.2 (-a) ha.neg
   have h5 : Rep53 (a + b) := by
    have := hb.near ha.neg (by omega) (by omega)
    rw [show a + b = b - -a by omega]; exact this
   have e0 := hs.self h5
   have e1 := ht.self (by rw [e0, show a + b - a = b by omega]; exact hb)
   have e2 := hp.self (by rw [e1, e0, show a + b - (a + b - a) = a by omega]; exact ha)
   have e4 := hd.self (by rw [e2, e1, show a - (s - (s - a)) = 0 by omega]; exact Rep53.zero)
   have e5 := hf.self (by rw [e1, e0, show b - (a + b - a) = 0 by omega]; exact Rep53.zero)
   have e6 := hr.self (by rw [e4, e5, e2, e1, e0, show a - (a + b - (a + b - a)) + (b - (a + b - a)) = 0 by omega]; exact Rep53.zero)
   omega
theorem NearR.dbl {x r : Int} (h : NearR x r) : r.natAbs ≤ 2 * x.natAbs := by
 have := h.ulp
 omega
theorem add_bd {x y : Nat} (k j : Nat) (hx : x < 18446744073709551616) (hy : y < 18446744073709551616) (fx : finB x = true) (fy : finB y = true) (bx : (fI x).natAbs < k * unU) (bY : (fI y).natAbs < j * unU) (hk : k + j ≤ 18014398509481983) :
  ∃ r, F6.add x y = some r ∧ r < 18446744073709551616 ∧ finB r = true ∧ NearR (fI x + fI y) (fI r) ∧ (fI r).natAbs < 2 * (k + j) * unU := by
 have h1 : (fI x + fI y).natAbs < (k + j) * unU := by rw [Nat.add_mul]; omega
 obtain ⟨r, h2, h3, h4, h5⟩ := add_near hx hy fx fy (Nat.lt_of_lt_of_le h1 (Nat.mul_le_mul_right _ hk))
 refine ⟨r, h2, h3, h4, h5, ?_⟩
 have := h5.dbl
 rw [Nat.mul_assoc]; omega
theorem sub_bd {x y : Nat} (k j : Nat) (hx : x < 18446744073709551616) (hy : y < 18446744073709551616) (fx : finB x = true) (fy : finB y = true) (bx : (fI x).natAbs < k * unU) (bY : (fI y).natAbs < j * unU) (hk : k + j ≤ 18014398509481983) :
  ∃ r, F6.sub x y = some r ∧ r < 18446744073709551616 ∧ finB r = true ∧ NearR (fI x - fI y) (fI r) ∧ (fI r).natAbs < 2 * (k + j) * unU := by
 have h1 : (fI x - fI y).natAbs < (k + j) * unU := by rw [Nat.add_mul]; omega
 obtain ⟨r, h2, h3, h4, h5⟩ := sub_near hx hy fx fy (Nat.lt_of_lt_of_le h1 (Nat.mul_le_mul_right _ hk))
 refine ⟨r, h2, h3, h4, h5, ?_⟩
 have := h5.dbl
 rw [Nat.mul_assoc]; omega
theorem add_chain {x y s : Nat} (hx : x < 18446744073709551616) (hy : y < 18446744073709551616) (fx : finB x = true) (fy : finB y = true)
  (bx : (fI x).natAbs < 1073741824 * unU) (bY : (fI y).natAbs < 1073741824 * unU) (hs : F6.add x y = some s) :
  ∃ t p d f r, F6.sub s x = some t ∧ F6.sub s t = some p ∧ F6.sub x p = some d ∧ F6.sub y t = some f ∧ F6.add d f = some r ∧
   (s < 18446744073709551616 ∧ finB s = true ∧ NearR (fI x + fI y) (fI s)) ∧ r < 18446744073709551616 ∧ finB r = true ∧ fI r = fI x + fI y - fI s := by
 obtain ⟨s', hs', hsl, fs, ns, bs⟩ := add_bd _ _ hx hy fx fy bx bY (by decide)
 obtain rfl : s = s' := by rw [hs] at hs'; exact Option.some.inj hs'
 obtain ⟨t, ht, htl, ft, nt, bt⟩ := sub_bd _ _ hsl hx fs fx bs bx (by decide)
 obtain ⟨p, hp, hpl, fp, np, bp⟩ := sub_bd _ _ hsl htl fs ft bs bt (by decide)
 obtain ⟨d, hd, hdl, fd, nd, bd⟩ := sub_bd _ _ hx hpl fx fp bx bp (by decide)
 obtain ⟨f, hf, hfl, ff, nf, bf⟩ := sub_bd _ _ hy htl fy ft bY bt (by decide)
 obtain ⟨r, hr, hrl, fr, nr, -⟩ := add_bd _ _ hdl hfl fd ff bd bf (by decide)
 exact ⟨t, p, d, f, r, ht, hp, hd, hf, hr, ⟨hsl, fs, ns⟩, hrl, fr, two_sum (fI_rep fx) (fI_rep fy) ns nt np nd nf nr⟩
end
section
open Go.RowKit
def vI (M : Int) (b : Nat) : Int := sc M (valZ b) (pE b)
theorem fin_num {b : Nat} (hf : finB b = true) : b % kSign ≤ kInf := by
 have := nan_fin hf
 unfold nanB at this
 have := of_decide_eq_false this
 omega
theorem ky_bd {b : Nat} (h : b < 18446744073709551616) (hn : b % kSign ≤ kInf) : -(kInf : Int) ≤ ky b ∧ ky b ≤ kInf := by
 rw [ky_cases h]; split <;> omega
theorem fin_ky {b : Nat} (h : b < 18446744073709551616) (hn : b % kSign ≤ kInf) : finB b = true ↔ -(kInf : Int) < ky b ∧ ky b < kInf := by
 rw [ky_cases h]
 have hk : kInf ≠ 0 := by decide
 rcases fin_word hn with ⟨h1, h2⟩ | ⟨h1, h2⟩ <;> rw [h1] <;> split <;> simp <;> omega
theorem ky_lt_vI {a b : Nat} {M : Int} (ha : a < 18446744073709551616) (hb : b < 18446744073709551616) (fa : finB a = true) (fb : finB b = true) (hM : 1074 ≤ M) : ky a < ky b ↔ vI M a < vI M b := by
 unfold vI
 rw [sc_word ha fa hM, sc_word hb fb hM, ky_cases ha, ky_cases hb]
 have hp : (0 : Int) < 2 ^ (M - 1074).toNat := Int.pow_pos (by decide)
 rw [Int.mul_lt_mul_right hp]
 have h1 := wv_lt_iff (a := a % kSign) (b := b % kSign)
 have h2 := wv_lt_iff (a := b % kSign) (b := a % kSign)
 have h3 := wv_pos (a := a % kSign)
 have h4 := wv_pos (a := b % kSign)
 split <;> split <;> omega
theorem ky_le_vI {a b : Nat} {M : Int} (ha : a < 18446744073709551616) (hb : b < 18446744073709551616) (fa : finB a = true) (fb : finB b = true) (hM : 1074 ≤ M) : ky a ≤ ky b ↔ vI M a ≤ vI M b := by
 have := ky_lt_vI hb ha fb fa hM
 omega
theorem vI_zero (M : Int) : vI M 0 = 0 := by unfold vI; rw [show valZ 0 = 0 by decide, sc_zero]
theorem vI_flip {M : Int} {b : Nat} (h : b < 18446744073709551616) (hf : finB b = true) (hM : 1074 ≤ M) : vI M (flipB b) = -vI M b := by
 obtain ⟨h1, h2, h3⟩ := flip_parts h
 unfold vI
 rw [← sc_own hf hM, ← sc_own (by rw [flip_fin]; exact hf) hM, ← sc_neg]
 unfold ownZ
 rw [h1, h2, h3]
 cases sgnB b
 ·rw [if_pos (by rfl), if_neg (by decide)]
 ·rw [if_neg (by decide), if_pos rfl, Int.neg_neg]
theorem ky_own {c : Nat} (hc : c < 18446744073709551616) (fc : finB c = true) (mode : Int) : ky (rndX (valZ c) (pE c) mode) = ky c := by
 unfold rndX
 split
 ·rename_i h0
  have h1 : vI 1074 c = vI 1074 0 := by rw [vI_zero]; unfold vI; rw [h0, sc_zero]
  have h2 := ky_le_vI (M := 1074) hc (by decide : 0 < 18446744073709551616) fc (by decide) (by decide)
  have h3 := ky_le_vI (M := 1074) (by decide : 0 < 18446744073709551616) hc (by decide) fc (by decide)
  omega
 ·rename_i h0
  rw [rnd_own hc fc h0]
theorem rndX_lt (z e mode : Int) : rndX z e mode < 18446744073709551616 ∧ rndX z e mode % kSign ≤ kInf := by
 unfold rndX
 split
 ·decide
 ·rename_i h; exact rnd_lt mode (.inl h)
theorem nr_or (z e : Int) : hvZ z ≠ 0 ∨ nrE z e = 0 := by
 by_cases h : z = 0
 ·exact .inr (if_pos h)
 ·exact .inl (hvZ_ne h)
theorem rndX_rises {M z e y f : Int} (mode : Int) (hM : 0 ≤ M) (h1 : 0 ≤ e + M) (h2 : 0 ≤ f + M) (h : sc M z e ≤ sc M y f) : ky (rndX z e mode) ≤ ky (rndX y f mode) := by
 rw [← rndX_hv, ← rndX_hv]
 exact rnd_rises mode (nrE_ge hM h1) (nrE_ge hM h2) (nr_or z e) (nr_or y f) (by rw [sc_nr h1, sc_nr h2]; exact h)
theorem rndX_adj (z e : Int) : ky (rndX z e 4) ≤ ky (rndX z e 3) ∧ ky (rndX z e 3) ≤ ky (rndX z e 4) + 1 ∧ ky (rndX z e 4) < kInf ∧ -(kInf : Int) ≤ ky (rndX z e 4) := by
 rw [← rndX_hv, ← rndX_hv]
 exact rnd_adj (nr_or z e)
theorem rndX_up_low (z e : Int) : -(kInf : Int) < ky (rndX z e 3) := by
 unfold rndX
 split
 ·decide
 ·rename_i h
  rw [ky_rnd h]
  split
  ·rename_i hs
   rw [decide_eq_true hs, show beyB true 3 = true from rfl]
   have : capW true (wdN z e 3) < kInf := by
    have hk : kInf ≠ 0 := by decide
    unfold capW; rw [if_pos rfl]; split <;> omega
   omega
  ·have hk : 0 < kInf := by decide
   omega
theorem rndX_down_le {M z e : Int} (hM : 1074 ≤ M) (h1 : 0 ≤ e + M) (hf : finB (rndX z e 4) = true) : vI M (rndX z e 4) ≤ sc M z e := by
 unfold vI
 rw [← rndX_hv] at *
 have := down_le hM (nrE_ge (by omega) h1) (nr_or z e) hf
 rwa [sc_nr h1] at this
theorem rndX_up_ge {M z e : Int} (hM : 1074 ≤ M) (h1 : 0 ≤ e + M) (hf : finB (rndX z e 3) = true) : sc M z e ≤ vI M (rndX z e 3) := by
 unfold vI
 rw [← rndX_hv] at *
 have := up_ge hM (nrE_ge (by omega) h1) (nr_or z e) hf
 rwa [sc_nr h1] at this
theorem le_rnd {M z e : Int} {c : Nat} (mode : Int) (hM : 1074 ≤ M) (h1 : 0 ≤ e + M) (hc : c < 18446744073709551616) (fc : finB c = true) (h : vI M c ≤ sc M z e) : ky c ≤ ky (rndX z e mode) := by
 have hp := pE_bd fc
 rw [← ky_own hc fc mode]
 exact rndX_rises (M := M) mode (by omega) (by omega) h1 h
theorem rnd_le {M z e : Int} {c : Nat} (mode : Int) (hM : 1074 ≤ M) (h1 : 0 ≤ e + M) (hc : c < 18446744073709551616) (fc : finB c = true) (h : sc M z e ≤ vI M c) : ky (rndX z e mode) ≤ ky c := by
 have hp := pE_bd fc
 rw [← ky_own hc fc mode]
 exact rndX_rises (M := M) mode (by omega) h1 (by omega) h
theorem rd_le_rn {M z e : Int} (hM : 1074 ≤ M) (h1 : 0 ≤ e + M) : ky (rndX z e 4) ≤ ky (rndX z e 0) := by
 obtain ⟨l4, n4⟩ := rndX_lt z e 4
 obtain ⟨l0, n0⟩ := rndX_lt z e 0
 cases hf : finB (rndX z e 4)
 ·have h3 := fin_ky l4 n4
  have h4 := rndX_adj z e
  have h5 := ky_bd l0 n0
  rw [hf] at h3
  have h6 : ¬ (-(kInf : Int) < ky (rndX z e 4) ∧ ky (rndX z e 4) < kInf) := fun h => by have := h3.2 h; cases this
  omega
 ·exact le_rnd 0 hM h1 l4 hf (rndX_down_le hM h1 hf)
theorem rn_le_ru {M z e : Int} (hM : 1074 ≤ M) (h1 : 0 ≤ e + M) : ky (rndX z e 0) ≤ ky (rndX z e 3) := by
 obtain ⟨l3, n3⟩ := rndX_lt z e 3
 obtain ⟨l0, n0⟩ := rndX_lt z e 0
 cases hf : finB (rndX z e 3)
 ·have h3 := fin_ky l3 n3
  have h4 := rndX_up_low z e
  have h5 := ky_bd l0 n0
  have h7 := ky_bd l3 n3
  rw [hf] at h3
  have h6 : ¬ (-(kInf : Int) < ky (rndX z e 3) ∧ ky (rndX z e 3) < kInf) := fun h => by have := h3.2 h; cases this
  omega
 ·exact rnd_le 0 hM h1 l3 hf (rndX_up_ge hM h1 hf)
theorem near_up {M z e : Int} (hM : 1074 ≤ M) (h1 : 0 ≤ e + M) (hf : finB (rndX z e 0) = true) :
  (sc M z e ≤ vI M (rndX z e 0) → ky (rndX z e 3) = ky (rndX z e 0)) ∧ (vI M (rndX z e 0) < sc M z e → ky (rndX z e 3) = ky (rndX z e 0) + 1) := by
 obtain ⟨l0, n0⟩ := rndX_lt z e 0
 obtain ⟨l3, n3⟩ := rndX_lt z e 3
 have h2 := rn_le_ru (z := z) (e := e) hM h1
 have h3 := rd_le_rn (z := z) (e := e) hM h1
 have h4 := rndX_adj z e
 refine ⟨fun h => ?_, fun h => ?_⟩
 ·have := rnd_le 3 hM h1 l0 hf h; omega
 ·cases h5 : finB (rndX z e 3)
  ·have h6 := fin_ky l3 n3
   have h7 := (fin_ky l0 n0).1 hf
   have h8 := rndX_up_low z e
   rw [h5] at h6
   have h9 : ¬ (-(kInf : Int) < ky (rndX z e 3) ∧ ky (rndX z e 3) < kInf) := fun h => by have := h6.2 h; cases this
   omega
  ·have h6 := rndX_up_ge hM h1 h5
   have h7 := (ky_lt_vI l0 l3 hf h5 hM).2 (by omega)
   omega
theorem near_down {M z e : Int} (hM : 1074 ≤ M) (h1 : 0 ≤ e + M) (hf : finB (rndX z e 0) = true) :
  (vI M (rndX z e 0) ≤ sc M z e → ky (rndX z e 4) = ky (rndX z e 0)) ∧ (sc M z e < vI M (rndX z e 0) → ky (rndX z e 4) = ky (rndX z e 0) - 1) := by
 obtain ⟨l0, n0⟩ := rndX_lt z e 0
 obtain ⟨l4, n4⟩ := rndX_lt z e 4
 have h2 := rn_le_ru (z := z) (e := e) hM h1
 have h3 := rd_le_rn (z := z) (e := e) hM h1
 have h4 := rndX_adj z e
 refine ⟨fun h => ?_, fun h => ?_⟩
 ·have := le_rnd 4 hM h1 l0 hf h; omega
 ·cases h5 : finB (rndX z e 4)
  ·have h6 := fin_ky l4 n4
   have h7 := (fin_ky l0 n0).1 hf
   rw [h5] at h6
   have h9 : ¬ (-(kInf : Int) < ky (rndX z e 4) ∧ ky (rndX z e 4) < kInf) := fun h => by have := h6.2 h; cases this
   omega
  ·have h6 := rndX_down_le hM h1 h5
   have h7 := (ky_lt_vI l4 l0 h5 hf hM).2 (by omega)
   omega
def kb (k : Int) : Nat := if k < 0 then kSign + k.natAbs else k.natAbs
theorem kb_lt {k : Int} (h1 : -(kInf : Int) ≤ k) (h2 : k ≤ kInf) : kb k < 18446744073709551616 ∧ kb k % kSign ≤ kInf ∧ ky (kb k) = k := by
 have hk := kSign_big
 have hs : kSign = 9223372036854775808 := rfl
 have hi : kInf = 9218868437227405312 := rfl
 unfold kb
 split
 ·refine ⟨by omega, by rw [Nat.add_mod_left, Nat.mod_eq_of_lt (by omega)]; omega, ?_⟩
  unfold ky; rw [if_neg (by omega)]; omega
 ·refine ⟨by omega, by rw [Nat.mod_eq_of_lt (by omega)]; omega, ?_⟩
  unfold ky; rw [if_pos (by omega)]; omega
theorem kb_own {b : Nat} (h0 : b ≠ kSign) : kb (ky b) = b := by
 unfold kb ky
 split
 ·rw [if_neg (by omega)]; omega
 ·rw [if_pos (by omega)]; omega
theorem kb_zero : kb 0 = 0 := by decide
theorem add_zero_any {b : Nat} (h : b < 18446744073709551616) (hn : b % kSign ≤ kInf) : F6.add b 0 = some (kb (ky b)) := by
 have hs : kSign = 9223372036854775808 := rfl
 rcases fin_word hn with ⟨hf, -⟩ | ⟨-, hi⟩
 ·by_cases h0 : valZ b = 0
  ·have hm := valZ_zero.1 h0
   have hk : ky b = 0 := by
    have h1 : vI 1074 b = vI 1074 0 := by rw [vI_zero]; unfold vI; rw [h0, sc_zero]
    have h2 := ky_le_vI (M := 1074) h (by decide : 0 < 18446744073709551616) hf (by decide) (by decide)
    have h3 := ky_le_vI (M := 1074) (by decide : 0 < 18446744073709551616) h (by decide) hf (by decide)
    rw [ky_zero] at h2 h3
    omega
   rw [hk, kb_zero]
   have hb : b = 0 ∨ b = kSign := by
    unfold ky at hk
    split at hk <;> omega
   rcases hb with rfl | rfl
   ·decide
   ·decide
  ·obtain ⟨r, hr, h1, -⟩ := fadd_fin h (by decide : 0 < 18446744073709551616) hf (by decide)
   have e1 : plZ (valZ b) (pE b) (valZ 0) (pE 0) = valZ b := by
    unfold plZ; rw [if_neg h0, show valZ 0 = 0 by decide, if_pos rfl]
   have e2 : plE (valZ b) (pE b) (valZ 0) (pE 0) = pE b := by
    unfold plE; rw [if_neg h0, show valZ 0 = 0 by decide, if_pos rfl]
   rw [e1, e2] at h1
   have h2 := h1 h0
   rw [rndX_hv, rndX, if_neg h0, rnd_own h hf h0] at h2
   rw [hr, h2, kb_own]
   rintro rfl
   exact h0 (by decide)
 ·have hb : b = 9218868437227405312 ∨ b = 18442240474082181120 := by
   have hi3 : b % 9223372036854775808 = 9218868437227405312 := hi
   omega
  rcases hb with rfl | rfl
  ·decide
  ·decide
theorem fadd_ky {x y : Nat} (hx : x < 18446744073709551616) (hy : y < 18446744073709551616) (fx : finB x = true) (fy : finB y = true) :
  ∃ r, F6.add x y = some r ∧ r < 18446744073709551616 ∧ r % kSign ≤ kInf ∧ ky r = ky (rndX (plZ (valZ x) (pE x) (valZ y) (pE y)) (plE (valZ x) (pE x) (valZ y) (pE y)) 0) := by
 obtain ⟨r, hr, h1, h2⟩ := fadd_fin hx hy fx fy
 refine ⟨r, hr, ?_⟩
 generalize plZ (valZ x) (pE x) (valZ y) (pE y) = P at *
 generalize plE (valZ x) (pE x) (valZ y) (pE y) = PE at *
 by_cases hP : P = 0
 ·have : rndX P PE 0 = 0 := if_pos hP
  rw [this]
  rcases h2 hP with rfl | rfl <;> decide
 ·have h3 := h1 hP
  rw [rndX_hv] at h3
  subst h3
  exact ⟨(rndX_lt _ _ _).1, (rndX_lt _ _ _).2, rfl⟩
theorem fmul_ky {x y : Nat} (hx : x < 18446744073709551616) (hy : y < 18446744073709551616) (fx : finB x = true) (fy : finB y = true) :
  ∃ r, F6.mul x y = some r ∧ r < 18446744073709551616 ∧ r % kSign ≤ kInf ∧ ky r = ky (rndX (valZ x * valZ y) (pE x + pE y) 0) := by
 obtain ⟨r, hr, h1, h2⟩ := fmul_fin hx hy fx fy
 refine ⟨r, hr, ?_⟩
 generalize valZ x * valZ y = P at *
 generalize pE x + pE y = PE at *
 by_cases hP : P = 0
 ·have : rndX P PE 0 = 0 := if_pos hP
  rw [this]
  rcases h2 hP with rfl | rfl <;> decide
 ·have h3 := h1 hP
  rw [rndX_hv] at h3
  subst h3
  exact ⟨(rndX_lt _ _ _).1, (rndX_lt _ _ _).2, rfl⟩
theorem neg_flip {b : Nat} (h : b < 18446744073709551616) : Op.negFloat .f64 b = flipB b := by
 have hs : kSign = 9223372036854775808 := rfl
 unfold flipB
 rcases Nat.lt_or_ge b kSign with h1 | h1
 ·rw [if_pos h1, neg_bits h1, Nat.add_comm]
 ·obtain ⟨y, rfl⟩ := Nat.exists_eq_add_of_le h1
  rw [if_neg (by omega), neg_back (by omega)]; omega
theorem flip_ky {b : Nat} (h : b < 18446744073709551616) : ky (flipB b) = -ky b := by
 have hs : kSign = 9223372036854775808 := rfl
 unfold ky flipB
 split
 ·rw [if_neg (by omega)]; omega
 ·split <;> omega
theorem flip_num {b : Nat} (h : b < 18446744073709551616) : flipB b % kSign = b % kSign := by
 unfold flipB kSign; split <;> omega
end
section
open Go.RowKit
theorem order_nan_r {x y : Nat} (h : nanB y = true) : F6.order x y = none := by
 rw [← read_nan] at h
 unfold Ieee.Format.order
 revert h
 cases F6.read x <;> cases F6.read y <;> first | (intro _; rfl) | (intro h; simp [Ieee.Datum.isNaN] at h)
def ordB (o : Ordering) (x y : Nat) : Bool := F6.order x y == some o
theorem num_of {x : Nat} (h : nanB x = false) : x % kSign ≤ kInf := by
 unfold nanB at h
 have := of_decide_eq_false h
 omega
theorem num_iff {x : Nat} : nanB x = false ↔ x % kSign ≤ kInf := by
 refine ⟨num_of, fun h => ?_⟩
 unfold nanB
 exact decide_eq_false (by omega)
theorem ordB_lt {x y : Nat} (hx : x < 18446744073709551616) (hy : y < 18446744073709551616) : ordB .lt x y = (!nanB x && !nanB y && decide (ky x < ky y)) := by
 unfold ordB
 cases nx : nanB x
 ·cases ny : nanB y
  ·rw [order_ky hx hy (num_of nx) (num_of ny)]
   rcases Int.lt_trichotomy (ky x) (ky y) with h | h | h
   ·rw [Int.compare_eq_lt.2 h, decide_eq_true h]; rfl
   ·rw [Int.compare_eq_eq.2 h, decide_eq_false (by omega)]; rfl
   ·rw [Int.compare_eq_gt.2 h, decide_eq_false (by omega)]; rfl
  ·rw [order_nan_r ny]; rfl
 ·rw [order_nan nx]; rfl
theorem ordB_gt {x y : Nat} (hx : x < 18446744073709551616) (hy : y < 18446744073709551616) : ordB .gt x y = (!nanB x && !nanB y && decide (ky y < ky x)) := by
 unfold ordB
 cases nx : nanB x
 ·cases ny : nanB y
  ·rw [order_ky hx hy (num_of nx) (num_of ny)]
   rcases Int.lt_trichotomy (ky x) (ky y) with h | h | h
   ·rw [Int.compare_eq_lt.2 h, decide_eq_false (by omega)]; rfl
   ·rw [Int.compare_eq_eq.2 h, decide_eq_false (by omega)]; rfl
   ·rw [Int.compare_eq_gt.2 h, decide_eq_true h]; rfl
  ·rw [order_nan_r ny]; rfl
 ·rw [order_nan nx]; rfl
theorem ordB_eq {x y : Nat} (hx : x < 18446744073709551616) (hy : y < 18446744073709551616) : ordB .eq x y = (!nanB x && !nanB y && decide (ky x = ky y)) := by
 unfold ordB
 cases nx : nanB x
 ·cases ny : nanB y
  ·rw [order_ky hx hy (num_of nx) (num_of ny)]
   rcases Int.lt_trichotomy (ky x) (ky y) with h | h | h
   ·rw [Int.compare_eq_lt.2 h, decide_eq_false (by omega)]; rfl
   ·rw [Int.compare_eq_eq.2 h, decide_eq_true h]; rfl
   ·rw [Int.compare_eq_gt.2 h, decide_eq_false (by omega)]; rfl
  ·rw [order_nan_r ny]; rfl
 ·rw [order_nan nx]; rfl
def leB (x y : Nat) : Bool := ordB .lt x y || ordB .eq x y
theorem leB_ky {x y : Nat} (hx : x < 18446744073709551616) (hy : y < 18446744073709551616) : leB x y = (!nanB x && !nanB y && decide (ky x ≤ ky y)) := by
 unfold leB
 rw [ordB_lt hx hy, ordB_eq hx hy]
 cases nanB x <;> cases nanB y <;> simp
 rw [Bool.eq_iff_iff]; simp; omega
def ivK (l h : Nat) : Option (Int × Int) := if nanB l = false ∧ nanB h = false ∧ ky l ≤ ky h ∧ ky l < kInf ∧ -(kInf : Int) < ky h then some (ky l, ky h) else none
def ivL (o : Option (Int × Int)) : Nat := match o with | some (l, _) => kb l | none => 9218868437227405312
def ivH (o : Option (Int × Int)) : Nat := match o with | some (_, h) => kb h | none => 18442240474082181120
def Iok (o : Option (Int × Int)) : Prop := ∀ l h, o = some (l, h) → -(kInf : Int) ≤ l ∧ l ≤ h ∧ h ≤ kInf ∧ l < kInf ∧ -(kInf : Int) < h
theorem ivK_ok {l h : Nat} (hl : l < 18446744073709551616) (hh : h < 18446744073709551616) : Iok (ivK l h) := by
 intro a b e
 unfold ivK at e
 split at e
 ·rename_i hc
  simp only [Option.some.injEq, Prod.mk.injEq] at e
  obtain ⟨rfl, rfl⟩ := e
  have h1 := ky_bd hl (num_of hc.1)
  have h2 := ky_bd hh (num_of hc.2.1)
  omega
 ·cases e
theorem Iok.none : Iok none := fun _ _ e => by cases e
theorem Iok.some {l h : Int} (h1 : -(kInf : Int) ≤ l) (h2 : l ≤ h) (h3 : h ≤ kInf) (h4 : l < kInf) (h5 : -(kInf : Int) < h) : Iok (.some (l, h)) := fun a b e => by
 simp only [Option.some.injEq, Prod.mk.injEq] at e
 obtain ⟨rfl, rfl⟩ := e
 exact ⟨h1, h2, h3, h4, h5⟩
theorem ivL_lt {o : Option (Int × Int)} (h : Iok o) : ivL o < 18446744073709551616 := by
 rcases o with _ | ⟨l, k⟩
 ·decide
 ·have h1 := h l k rfl
  exact (kb_lt (k := l) (by omega) (by omega)).1
theorem ivH_lt {o : Option (Int × Int)} (h : Iok o) : ivH o < 18446744073709551616 := by
 rcases o with _ | ⟨l, k⟩
 ·decide
 ·have h1 := h l k rfl
  exact (kb_lt (k := k) (by omega) (by omega)).1
theorem ivK_back {o : Option (Int × Int)} (h : Iok o) : ivK (ivL o) (ivH o) = o := by
 rcases o with _ | ⟨l, k⟩
 ·decide
 ·obtain ⟨h1, h2, h3, h4, h5⟩ := h l k rfl
  obtain ⟨a1, a2, a3⟩ := kb_lt (k := l) (by omega) (by omega)
  obtain ⟨b1, b2, b3⟩ := kb_lt (k := k) (by omega) (by omega)
  show ivK (kb l) (kb k) = _
  unfold ivK
  rw [a3, b3, if_pos ⟨num_iff.2 a2, num_iff.2 b2, h2, h4, h5⟩]
theorem full_ivK {l h : Nat} (hl : l < 18446744073709551616) (hh : h < 18446744073709551616) :
  (leB l h && (ordB .lt l 9218868437227405312 && ordB .gt h 18442240474082181120)) = (ivK l h).isSome := by
 rw [leB_ky hl hh, ordB_lt hl (by decide), ordB_gt hh (by decide), show nanB 9218868437227405312 = false by decide, show nanB 18442240474082181120 = false by decide,
  show ky 9218868437227405312 = kInf by decide, show ky 18442240474082181120 = -(kInf : Int) by decide]
 unfold ivK
 cases nanB l <;> cases nanB h <;> simp
 split
 ·rename_i hc; simp [hc]
 ·rename_i hc
  by_cases h1 : ky l ≤ ky h <;> by_cases h2 : ky l < kInf <;> by_cases h3 : -(kInf : Int) < ky h <;> simp_all
def hasK (a : Option (Int × Int)) (x : Nat) : Bool := match a with
 | some (l, h) => finB x && (decide (l ≤ ky x) && decide (ky x ≤ h))
 | none => false
def negK (a : Option (Int × Int)) : Option (Int × Int) := match a with
 | some (l, h) => some (-h, -l)
 | none => none
theorem negK_ok {a : Option (Int × Int)} (ha : Iok a) : Iok (negK a) := by
 rcases a with _ | ⟨l, h⟩
 ·exact Iok.none
 ·have h1 := ha l h rfl
  exact Iok.some (by omega) (by omega) (by omega) (by omega) (by omega)
end
section
open Go.RowKit
def qMore (m n : Nat) : Nat := 54 + n.log2 - m.log2
def stN (D n : Nat) : Nat := 2 * (D / n) + (D % n != 0).toNat
def qN (x y : Nat) : Nat := stN (mantB x <<< qMore (mantB x) (mantB y)) (mantB y)
def qE (x y : Nat) : Int := expB x - expB y - qMore (mantB x) (mantB y) - 1
def qZ (x y : Nat) : Int := if sgnB x ^^ sgnB y then -(qN x y : Int) else qN x y
theorem two_pow53 : (2 : Nat) ^ 53 = 9007199254740992 := by decide
theorem q_large {m n : Nat} (hm : m ≠ 0) (hn : n ≠ 0) : 2 ^ 53 ≤ (m <<< qMore m n) / n := by
 rw [Nat.le_div_iff_mul_le (by omega), Nat.shiftLeft_eq]
 have h1 := Nat.log2_self_le hm
 have h2 := Nat.lt_log2_self (n := n)
 have h3 : 54 + n.log2 ≤ m.log2 + qMore m n := by unfold qMore; omega
 have h4 : 2 ^ (54 + n.log2) ≤ 2 ^ (m.log2 + qMore m n) := Nat.pow_le_pow_right (by decide) h3
 have h5 : 2 ^ (m.log2 + qMore m n) ≤ m * 2 ^ qMore m n := by rw [Nat.pow_add]; exact Nat.mul_le_mul_right _ h1
 have h6 : 2 ^ 53 * n ≤ 2 ^ 53 * 2 ^ (n.log2 + 1) := Nat.mul_le_mul_left _ (Nat.le_of_lt h2)
 rw [← Nat.pow_add, show 53 + (n.log2 + 1) = 54 + n.log2 by omega] at h6
 omega
theorem bne_zero (r : Nat) : (r != 0).toNat = if r = 0 then 0 else 1 := by
 by_cases h : r = 0
 ·subst h; rfl
 ·rw [if_neg h]; simp [h]
theorem sticky {k s u D n : Nat} (hk : k ≤ 2 ^ 53) (hn : 0 < n) (hQ : 2 ^ 53 ≤ D / n) :
  (k * 2 ^ s * n ≤ D * 2 ^ u ↔ 2 * (k * 2 ^ s) ≤ stN D n * 2 ^ u) ∧ (D * 2 ^ u ≤ k * 2 ^ s * n ↔ stN D n * 2 ^ u ≤ 2 * (k * 2 ^ s)) := by
 have hU := Nat.two_pow_pos u
 have hdm := Nat.div_add_mod D n
 have hr := Nat.mod_lt D hn
 unfold stN
 rw [bne_zero]
 by_cases hs : u ≤ s
 ·obtain ⟨j, rfl⟩ := Nat.exists_eq_add_of_le hs
  have e1 : k * 2 ^ (u + j) = k * 2 ^ j * 2 ^ u := by rw [Nat.add_comm, Nat.pow_add, Nat.mul_assoc]
  rw [e1]
  generalize k * 2 ^ j = p at *
  have e2 : p * 2 ^ u * n = p * n * 2 ^ u := by rw [Nat.mul_assoc, Nat.mul_comm (2 ^ u), ← Nat.mul_assoc]
  have e3 : 2 * (p * 2 ^ u) = 2 * p * 2 ^ u := by rw [Nat.mul_assoc]
  rw [e2, e3, Nat.mul_le_mul_right_iff hU, Nat.mul_le_mul_right_iff hU, Nat.mul_le_mul_right_iff hU, Nat.mul_le_mul_right_iff hU]
  generalize D / n = Q at *
  generalize D % n = R at *
  subst hdm
  constructor
  ·constructor
   ·intro h
    have : p ≤ Q := by
     rcases Nat.lt_or_ge Q p with h1 | h1
     ·have := Nat.mul_le_mul_right n (show Q + 1 ≤ p from h1)
      rw [Nat.add_mul, Nat.mul_comm Q n] at this; omega
     ·exact h1
    omega
   ·intro h
    have : p ≤ Q := by split at h <;> omega
    have := Nat.mul_le_mul_right n this
    rw [Nat.mul_comm Q n] at this; omega
  ·constructor
   ·intro h
    split
    ·have : Q ≤ p := by
      rcases Nat.lt_or_ge p Q with h1 | h1
      ·have := Nat.mul_le_mul_right n (show p + 1 ≤ Q from h1)
       rw [Nat.add_mul, Nat.mul_comm Q n] at this; omega
      ·exact h1
     omega
    ·have : Q + 1 ≤ p := by
      rcases Nat.lt_or_ge Q p with h1 | h1
      ·exact h1
      ·have := Nat.mul_le_mul_right n h1
       rw [Nat.mul_comm Q n] at this; omega
     omega
   ·intro h
    split at h
    ·have := Nat.mul_le_mul_right n (show Q ≤ p by omega)
     rw [Nat.mul_comm Q n] at this; omega
    ·have := Nat.mul_le_mul_right n (show Q + 1 ≤ p by omega)
     rw [Nat.add_mul, Nat.mul_comm Q n] at this; omega
 ·have h1 : 2 * (k * 2 ^ s) ≤ 2 ^ 53 * 2 ^ u := by
   have h2 : 2 ^ s * 2 ≤ 2 ^ u := by rw [← Nat.pow_succ]; exact Nat.pow_le_pow_right (by decide) (by omega)
   have h3 := Nat.mul_le_mul hk h2
   rw [← Nat.mul_assoc] at h3; omega
  have h4 : D / n * 2 ^ u * n ≤ D * 2 ^ u := by
   rw [Nat.mul_assoc, Nat.mul_comm (2 ^ u), ← Nat.mul_assoc]
   exact Nat.mul_le_mul_right _ (Nat.div_mul_le_self D n)
  have h5 : 2 ^ 53 * 2 ^ u ≤ D / n * 2 ^ u := Nat.mul_le_mul_right _ hQ
  have h6 : 2 * (D / n) * 2 ^ u = 2 * (D / n * 2 ^ u) := Nat.mul_assoc _ _ _
  have h7 : 2 * (D / n) * 2 ^ u ≤ (2 * (D / n) + if D % n = 0 then 0 else 1) * 2 ^ u := Nat.mul_le_mul_right _ (Nat.le_add_right _ _)
  have h8 : 0 < 2 ^ 53 * 2 ^ u := Nat.mul_pos (by decide) hU
  have h9 := Nat.mul_le_mul_right n (show k * 2 ^ s + 1 ≤ D / n * 2 ^ u by omega)
  rw [Nat.add_mul] at h9
  constructor
  ·exact ⟨fun _ => by omega, fun _ => by omega⟩
  ·exact ⟨fun _ => by omega, fun _ => by omega⟩
theorem fdiv_fin {x y : Nat} (hx : x < 18446744073709551616) (hy : y < 18446744073709551616) (fx : finB x = true) (fy : finB y = true) (x0 : valZ x ≠ 0) (y0 : valZ y ≠ 0) :
  F6.div x y = some (rndX (qZ x y) (qE x y) 0) ∧ qZ x y ≠ 0 := by
 have mx : mantB x ≠ 0 := fun h => x0 (valZ_zero.2 h)
 have my : mantB y ≠ 0 := fun h => y0 (valZ_zero.2 h)
 have hl := q_large mx my
 have hN : qN x y ≠ 0 := by
  unfold qN stN
  have : 0 < 2 ^ 53 := by decide
  omega
 have hz : qZ x y ≠ 0 := by unfold qZ; split <;> omega
 refine ⟨?_, hz⟩
 have hzn : (qZ x y).natAbs = qN x y := by unfold qZ; split <;> omega
 have hs : decide (qZ x y < 0) = (sgnB x ^^ sgnB y) := by
  unfold qZ
  cases sgnB x ^^ sgnB y
  ·rw [if_neg (by decide)]; exact decide_eq_false (by omega)
  ·rw [if_pos rfl]; exact decide_eq_true (by omega)
 unfold rndX
 rw [if_neg hz, rnd_near hz, hs, hzn]
 unfold Ieee.Format.div
 rw [read_fin hx fx, read_fin hy fy, F6_frac]
 unfold Ieee.Datum.quotient
 simp only [if_neg my]
 rfl
theorem own_amount {b : Nat} (h : b < 18446744073709551616) (hf : finB b = true) : fI b = if sgnB b then -((mantB b * 2 ^ (expB b + 1074).toNat : Nat) : Int) else ((mantB b * 2 ^ (expB b + 1074).toNat : Nat) : Int) := by
 unfold fI
 rw [sc_word h hf (by omega), wv_mant h hf]
 simp
theorem q_amount {x y c : Nat} {M : Int} (hx : x < 18446744073709551616) (hy : y < 18446744073709551616) (hc : c < 18446744073709551616) (fx : finB x = true) (fy : finB y = true) (fc : finB c = true)
  (x0 : valZ x ≠ 0) (y0 : valZ y ≠ 0) (hM : 1074 ≤ M) (h1 : 0 ≤ qE x y + M) :
  ((fI c).natAbs * (fI y).natAbs ≤ (fI x).natAbs * 2 ^ 1074 ↔ (vI M c).natAbs ≤ (sc M (qZ x y) (qE x y)).natAbs) ∧
  ((fI x).natAbs * 2 ^ 1074 ≤ (fI c).natAbs * (fI y).natAbs ↔ (sc M (qZ x y) (qE x y)).natAbs ≤ (vI M c).natAbs) := by
 have mx : mantB x ≠ 0 := fun h => x0 (valZ_zero.2 h)
 have my : mantB y ≠ 0 := fun h => y0 (valZ_zero.2 h)
 have hl := q_large mx my
 have ha := expB_bd fx
 have hb := expB_bd fy
 have hcc := expB_bd fc
 have hzn : (qZ x y).natAbs = qN x y := by unfold qZ; split <;> omega
 have ex : (fI x).natAbs = mantB x * 2 ^ (expB x + 1074).toNat := by rw [own_amount hx fx]; split <;> omega
 have ey : (fI y).natAbs = mantB y * 2 ^ (expB y + 1074).toNat := by rw [own_amount hy fy]; split <;> omega
 have ec : (fI c).natAbs = mantB c * 2 ^ (expB c + 1074).toNat := by rw [own_amount hc fc]; split <;> omega
 have ecM : (vI M c).natAbs = (fI c).natAbs * 2 ^ (M - 1074).toNat := by
  unfold vI fI
  rw [sc_word hc fc hM, sc_word hc fc (by omega : (1074 : Int) ≤ 1074), Int.natAbs_mul, natAbs_two_pow, Int.natAbs_mul, natAbs_two_pow]
  simp
 have eV : (sc M (qZ x y) (qE x y)).natAbs = qN x y * 2 ^ (qE x y + M).toNat := by unfold sc; rw [Int.natAbs_mul, natAbs_two_pow, hzn]
 have hst := sticky (k := mantB c) (s := (expB c + 1074).toNat + (expB y + 1074).toNat + qMore (mantB x) (mantB y)) (u := (expB x + 1074).toNat + 1074) (D := mantB x <<< qMore (mantB x) (mantB y)) (n := mantB y) (by rw [two_pow53]; exact Nat.le_of_lt (mantB_lt c)) (by omega) hl
 have eN : stN (mantB x <<< qMore (mantB x) (mantB y)) (mantB y) = qN x y := rfl
 rw [eN, Nat.shiftLeft_eq] at hst
 rw [ecM, eV, ec, ex, ey]
 unfold qE at *
 generalize qMore (mantB x) (mantB y) = t at *
 generalize qN x y = N at *
 generalize mantB x = m at *
 generalize mantB y = n at *
 generalize mantB c = k at *
 obtain ⟨a, ea⟩ : ∃ a : Nat, (expB x + 1074).toNat = a := ⟨_, rfl⟩
 obtain ⟨b, eb⟩ : ∃ b : Nat, (expB y + 1074).toNat = b := ⟨_, rfl⟩
 obtain ⟨l, el⟩ : ∃ l : Nat, (expB c + 1074).toNat = l := ⟨_, rfl⟩
 obtain ⟨g, eg⟩ : ∃ g : Nat, (M - 1074).toNat = g := ⟨_, rfl⟩
 obtain ⟨v, ev⟩ : ∃ v : Nat, (expB x - expB y - (t : Int) - 1 + M).toNat = v := ⟨_, rfl⟩
 have hv : v + b + t + 1 = a + 1074 + g := by omega
 rw [ea, eb, el] at hst
 rw [ea, eb, el, eg, ev]
 have p1 : k * 2 ^ l * (n * 2 ^ b) * 2 ^ t = k * 2 ^ (l + b + t) * n := by
  rw [Nat.pow_add, Nat.pow_add]; simp only [Nat.mul_assoc, Nat.mul_comm, Nat.mul_left_comm]
 have p2 : m * 2 ^ a * 2 ^ 1074 * 2 ^ t = m * 2 ^ t * 2 ^ (a + 1074) := by
  rw [Nat.pow_add]; generalize 2 ^ 1074 = G; simp only [Nat.mul_assoc, Nat.mul_comm, Nat.mul_left_comm]
 have p3 : k * 2 ^ l * 2 ^ g * 2 ^ (b + t + 1) = 2 * (k * 2 ^ (l + b + t)) * 2 ^ g := by
  rw [Nat.pow_add, Nat.pow_add, Nat.pow_add, Nat.pow_add, Nat.pow_one]; simp only [Nat.mul_assoc, Nat.mul_comm, Nat.mul_left_comm]
 have p4 : N * 2 ^ v * 2 ^ (b + t + 1) = N * 2 ^ (a + 1074) * 2 ^ g := by
  rw [Nat.mul_assoc, ← Nat.pow_add, Nat.mul_assoc, ← Nat.pow_add]; congr 2; omega
 generalize (2 : Nat) ^ 1074 = G at *
 obtain ⟨g1, g2⟩ := hst
 constructor
 ·rw [← Nat.mul_le_mul_right_iff (n := k * 2 ^ l * (n * 2 ^ b)) (Nat.two_pow_pos t), p1, p2, g1, ← Nat.mul_le_mul_right_iff (n := k * 2 ^ l * 2 ^ g) (Nat.two_pow_pos (b + t + 1)), p3, p4, Nat.mul_le_mul_right_iff (Nat.two_pow_pos g)]
 ·rw [← Nat.mul_le_mul_right_iff (n := m * 2 ^ a * G) (Nat.two_pow_pos t), p1, p2, g2, ← Nat.mul_le_mul_right_iff (n := N * 2 ^ v) (Nat.two_pow_pos (b + t + 1)), p3, p4, Nat.mul_le_mul_right_iff (Nat.two_pow_pos g)]
end
end Go.Proofs.YtfmecpembnmnkaaGreatDoor
