/- The middle, the radius and the width of an interval. Plain. -/
import Derived.Test.YtloohbkceppocaaGreatDoorIH
namespace Go.Proofs.YtloohbkceppocaaGreatDoor
open Go.RowKit

theorem sc_twice {M z e : Int} (h : 0 ≤ e + M) : sc (M + 1) z e = 2 * sc M z e := by
  unfold sc
  rw [show (e + (M + 1)).toNat = (e + M).toNat + 1 by omega, Int.pow_succ, ← Int.mul_assoc, Int.mul_comm]
theorem sc_half (M z e : Int) : sc (M + 1) z (e - 1) = sc M z e := by
  unfold sc
  rw [show e - 1 + (M + 1) = e + M by omega]
theorem vI_twice {x : Nat} (fx : finB x = true) : vI 1075 x = 2 * fI x := sc_twice (M := 1074) (by have := pE_bd fx; omega)
theorem vI_kb {M : Int} {x : Nat} (hx : W64 x) (fx : finB x = true) (hM : 1074 ≤ M) : vI M (kb (ky x)) = vI M x := by
  have n := num_of (nan_fin fx)
  have hb := ky_bd hx n
  obtain ⟨a, b, c⟩ := kb_lt hb.1 hb.2
  have hk := (fin_ky hx n).1 fx
  have f : finB (kb (ky x)) = true := (fin_ky a b).2 (by rw [c]; exact hk)
  have h1 := ky_le_vI a hx f fx hM
  have h2 := ky_le_vI hx a fx f hM
  rw [c] at h1 h2
  omega

/-- The middle of two numbers: half their sum, rounded to the nearest. -/
def mdZ (x y : Nat) : Int := plZ (valZ x) (pE x) (valZ y) (pE y)
def mdE (x y : Nat) : Int := plE (valZ x) (pE x) (valZ y) (pE y) - 1
def mdK (x y : Nat) : Int := ky (rndX (mdZ x y) (mdE x y) 0)

theorem md_sum {x y : Nat} (fx : finB x = true) (fy : finB y = true) : 0 ≤ mdE x y + 1075 ∧ sc 1075 (mdZ x y) (mdE x y) = fI x + fI y := by
  have e1 := pE_bd fx
  have e2 := pE_bd fy
  have := plE_ge (M := 1074) (z := valZ x) (e := pE x) (y := valZ y) (f := pE y) (by omega) (by omega)
  refine ⟨by unfold mdE; omega, ?_⟩
  unfold mdZ mdE
  rw [show (1075 : Int) = 1074 + 1 from rfl, sc_half, sc_pl (by omega) (by omega)]
  rfl

theorem md_btw {x y : Nat} (hx : W64 x) (hy : W64 y) (fx : finB x = true) (fy : finB y = true) (h : ky x ≤ ky y) : ky x ≤ mdK x y ∧ mdK x y ≤ ky y := by
  obtain ⟨h1, h2⟩ := md_sum fx fy
  have hv := (ky_le_vI hx hy fx fy (Int.le_refl 1074)).1 h
  rw [← fI_vI, ← fI_vI] at hv
  refine ⟨le_rnd 0 (M := 1075) (by omega) h1 hx fx ?_, rnd_le 0 (M := 1075) (by omega) h1 hy fy ?_⟩
  · rw [h2, vI_twice fx]; omega
  · rw [h2, vI_twice fy]; omega

/-- The middle of an interval: its bits. -/
def midB (x y : Nat) : Nat := if finB x = false then (if finB y = false then 0 else 18442240474082181119) else if finB y = false then 9218868437227405311 else kb (mdK x y)

theorem inf_ends {x y : Nat} (hx : W64 x) (hy : W64 y) {p : Int × Int} (e : ivK x y = some p) : (finB x = true ∨ ky x = -(kInf : Int)) ∧ (finB y = true ∨ ky y = kInf) := by
  obtain ⟨nx, ny, rfl⟩ := ivK_some e
  have hok := ivK_ok hx hy
  rw [e] at hok
  obtain ⟨a1, a2, a3, a4, a5⟩ := hok _ _ rfl
  have b1 := fin_ky hx (num_of nx)
  have b2 := fin_ky hy (num_of ny)
  constructor
  · by_cases h : finB x = true
    · exact .inl h
    · exact .inr (by have : ¬ (-(kInf : Int) < ky x ∧ ky x < kInf) := fun t => h (b1.2 t); omega)
  · by_cases h : finB y = true
    · exact .inl h
    · exact .inr (by have : ¬ (-(kInf : Int) < ky y ∧ ky y < kInf) := fun t => h (b2.2 t); omega)

theorem mid_ok {x y : Nat} (hx : W64 x) (hy : W64 y) {p : Int × Int} (e : ivK x y = some p) : W64 (midB x y) ∧ finB (midB x y) = true ∧ hasK (ivK x y) (midB x y) = true := by
  have hi := inf_ends hx hy e
  rw [e]
  obtain ⟨nx, ny, rfl⟩ := ivK_some e
  have hok := ivK_ok hx hy
  rw [e] at hok
  obtain ⟨a1, a2, a3, a4, a5⟩ := hok _ _ rfl
  have k1 : ky 18442240474082181119 = -9218868437227405311 := by decide
  have k2 : ky 9218868437227405311 = 9218868437227405311 := by decide
  have k3 : ky 0 = 0 := by decide
  have hK : (kInf : Int) = 9218868437227405312 := by decide
  suffices hs : W64 (midB x y) ∧ finB (midB x y) = true ∧ ky x ≤ ky (midB x y) ∧ ky (midB x y) ≤ ky y by
    obtain ⟨s1, s2, s3, s4⟩ := hs
    refine ⟨s1, s2, ?_⟩
    show (finB (midB x y) && (decide (ky x ≤ ky (midB x y)) && decide (ky (midB x y) ≤ ky y))) = true
    rw [s2, decide_eq_true s3, decide_eq_true s4]; rfl
  unfold midB
  cases fx : finB x
  · have ex : ky x = -(kInf : Int) := hi.1.resolve_left (by rw [fx]; decide)
    cases fy : finB y
    · have ey : ky y = kInf := hi.2.resolve_left (by rw [fy]; decide)
      rw [if_pos rfl, if_pos rfl]
      exact ⟨by decide, by decide, by omega, by omega⟩
    · rw [if_pos rfl, if_neg (by decide)]
      exact ⟨by decide, by decide, by omega, by omega⟩
  · cases fy : finB y
    · have ey : ky y = kInf := hi.2.resolve_left (by rw [fy]; decide)
      rw [if_neg (by decide), if_pos rfl]
      exact ⟨by decide, by decide, by omega, by omega⟩
    · rw [if_neg (by decide), if_neg (by decide)]
      obtain ⟨m1, m2⟩ := md_btw hx hy fx fy a2
      have l1 := (fin_ky hx (num_of nx)).1 fx
      have l2 := (fin_ky hy (num_of ny)).1 fy
      obtain ⟨a, b, c, d⟩ := kb_fin (k := mdK x y) (by omega) (by omega)
      exact ⟨a, b, by omega, by omega⟩

theorem flip_ok {x : Nat} (hx : W64 x) (fx : finB x = true) : W64 (flipB x) ∧ finB (flipB x) = true ∧ fI (flipB x) = -fI x :=
  ⟨flip_lt hx, by rw [flip_fin]; exact fx, vI_flip hx fx (Int.le_refl _)⟩

/-- Sums rounded up, of any numbers' bits. -/
theorem up_sum {x y : Nat} (fx : finB x = true) (fy : finB y = true) : 0 ≤ plE (valZ x) (pE x) (valZ y) (pE y) + 1074 ∧ sc 1074 (plZ (valZ x) (pE x) (valZ y) (pE y)) (plE (valZ x) (pE x) (valZ y) (pE y)) = fI x + fI y := by
  have e1 := pE_bd fx
  have e2 := pE_bd fy
  exact ⟨plE_ge (by omega) (by omega), sc_pl (by omega) (by omega)⟩
theorem up_nonneg {x y : Nat} (fx : finB x = true) (fy : finB y = true) (h : 0 ≤ fI x + fI y) (mode : Int) : 0 ≤ adK x y mode := by
  obtain ⟨h1, h2⟩ := up_sum fx fy
  have hz : ky 0 = 0 := by decide
  rw [← hz]
  exact le_rnd mode (Int.le_refl 1074) h1 (by decide) (by decide) (by rw [h2, vI_zero]; exact h)
theorem up_rises {x y x' y' : Nat} (fx : finB x = true) (fy : finB y = true) (fx' : finB x' = true) (fy' : finB y' = true) (h : fI x + fI y ≤ fI x' + fI y') (mode : Int) : adK x y mode ≤ adK x' y' mode := by
  obtain ⟨h1, h2⟩ := up_sum fx fy
  obtain ⟨h3, h4⟩ := up_sum fx' fy'
  exact rndX_rises (M := 1074) mode (by omega) h1 h3 (by rw [h2, h4]; exact h)
theorem up_least {x y : Nat} (fx : finB x = true) (fy : finB y = true) (h : adK x y 3 < kInf) : fI x + fI y ≤ vv (adK x y 3) := by
  obtain ⟨h1, h2⟩ := up_sum fx fy
  obtain ⟨l, n⟩ := rndX_lt (plZ (valZ x) (pE x) (valZ y) (pE y)) (plE (valZ x) (pE x) (valZ y) (pE y)) 3
  have hl := rndX_up_low (plZ (valZ x) (pE x) (valZ y) (pE y)) (plE (valZ x) (pE x) (valZ y) (pE y))
  have hf := (fin_ky l n).2 ⟨hl, h⟩
  have := rndX_up_ge (Int.le_refl 1074) h1 hf
  rw [h2] at this
  unfold vv adK
  rw [vI_kb l hf (Int.le_refl _)]
  exact this

/-- The places of the radius and of the width of a finite interval. -/
def rdK (x y : Nat) : Int := max (adK (midB x y) (flipB x) 3) (adK y (flipB (midB x y)) 3)
def wdK (x y : Nat) : Int := adK y (flipB x) 3
def radB (x y : Nat) : Nat := if finB x = true ∧ finB y = true then kb (rdK x y) else kInf
def widB (x y : Nat) : Nat := if finB x = true ∧ finB y = true then kb (wdK x y) else kInf

theorem cen_law {x y : Nat} (hx : W64 x) (hy : W64 y) (fx : finB x = true) (fy : finB y = true) {p : Int × Int} (e : ivK x y = some p) :
    0 ≤ rdK x y ∧ rdK x y ≤ wdK x y ∧ wdK x y ≤ kInf ∧ (rdK x y < kInf → fI (midB x y) - vv (rdK x y) ≤ fI x ∧ fI y ≤ fI (midB x y) + vv (rdK x y)) ∧ (wdK x y < kInf → fI y - fI x ≤ vv (wdK x y)) := by
  obtain ⟨wm, fm, hm⟩ := mid_ok hx hy e
  rw [e] at hm
  obtain ⟨nx, ny, rfl⟩ := ivK_some e
  have hm2 : (finB (midB x y) && (decide (ky x ≤ ky (midB x y)) && decide (ky (midB x y) ≤ ky y))) = true := hm
  rw [Bool.and_eq_true, Bool.and_eq_true, decide_eq_true_iff, decide_eq_true_iff] at hm2
  obtain ⟨-, b1, b2⟩ := hm2
  have v1 := (ky_le_vI hx wm fx fm (Int.le_refl 1074)).1 b1
  have v2 := (ky_le_vI wm hy fm fy (Int.le_refl 1074)).1 b2
  rw [← fI_vI, ← fI_vI] at v1 v2
  obtain ⟨wfx, ffx, efx⟩ := flip_ok hx fx
  obtain ⟨wfm, ffm, efm⟩ := flip_ok wm fm
  have r1 := up_nonneg fm ffx (by omega) 3
  have r2 := up_rises fm ffx fy ffx (by omega) 3
  have r3 := up_rises fy ffm fy ffx (by omega) 3
  have r4 := up_least fm ffx
  have r5 := up_least fy ffm
  have r6 := up_least fy ffx
  have r7 := ad_bd y (flipB x)
  have r8 := ad_bd (midB x y) (flipB x)
  have r9 := ad_bd y (flipB (midB x y))
  rw [efx] at r4 r6
  rw [efm] at r5
  unfold rdK wdK
  have hk := kInf_pos
  have vm : ∀ a b : Int, 0 ≤ a → a ≤ b → b < kInf → vv a ≤ vv b := fun a b h1 h2 h3 => (vv_le (by omega) (by omega) (by omega) h3).1 h2
  refine ⟨by omega, by omega, r7.2.2.2.2, fun hr => ?_, fun hw => by have := r6 hw; omega⟩
  have c1 := r4 (by omega)
  have c2 := r5 (by omega)
  have r10 := up_nonneg fy ffm (by omega) 3
  have d1 := vm (adK (midB x y) (flipB x) 3) (max (adK (midB x y) (flipB x) 3) (adK y (flipB (midB x y)) 3)) r1 (by omega) hr
  have d2 := vm (adK y (flipB (midB x y)) 3) (max (adK (midB x y) (flipB x) 3) (adK y (flipB (midB x y)) 3)) r10 (by omega) hr
  omega

end Go.Proofs.YtloohbkceppocaaGreatDoor
